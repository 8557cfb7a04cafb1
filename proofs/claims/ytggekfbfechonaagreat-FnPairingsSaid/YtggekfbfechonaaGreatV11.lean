/-
  Joined texts: contracts and plain lemmas.
-/
import Derived.Test.YtggekfbfechonaaGreatV1
import Derived.Test.YtggekfbfechonaaGreatV10
set_option linter.unusedSimpArgs false
set_option linter.unusedVariables false
set_option maxRecDepth 100000
set_option maxHeartbeats 8000000
namespace Go.Proofs.YtggekfbfechonaaGreat
section
open Go.RowKit
namespace M
def cv (a b x e:Int):Int:=x*x*x+a*x*e*e*e*e+b*e*e*e*e*e*e
def bB (a b X Y E:Int):Bool:=if E=0 then decide (X=0) && decide (Y=0) else M.ins X (-10000) 10000 && M.ins E 1 20 && (M.gcd X E == 1) && decide (Y*Y=cv a b X E)
theorem rO (a b x e:Int):x*x*x+a*x*(e*e)*(e*e)+b*(e*e)*(e*e)*(e*e)=cv a b x e:=by unfold cv;grind
end M
theorem gc (a b x e:Int) (w:World) (ha1:-1000≤a) (ha2:a≤1000) (hb1:-10000≤b) (hb2:b≤10000) (hx1:-10000≤x) (hx2:x≤10000) (he1:-20≤e) (he2:e≤20) :
  Calls Tryz.prog 115 #[.agg #[.int .i64 a,.int .i64 b],.int .i64 x,.int .i64 e] w fun e' w'=>e'=.returned (.int .i64 (M.cv a b x e))∧Below w.heap.size w w':=by
 have sb1:=M.aL (x:=x) (y:=x) (m:=10000) (n:=10000) (by omega) (by omega) (by omega) (by omega);have Jz:=M.aL (x:=x*x) (y:=x) (m:=100000000) (n:=10000) (by omega) (by omega) (by omega) (by omega);have J0:=M.aL (x:=a) (y:=x) (m:=1000) (n:=10000) (by omega) (by omega) (by omega) (by omega);have J4:=M.aL (x:=a*x) (y:=e) (m:=10000000) (n:=20) (by omega) (by omega) (by omega) (by omega);have J5:=M.aL (x:=a*x*e) (y:=e) (m:=200000000) (n:=20) (by omega) (by omega) (by omega) (by omega);have J6:=M.aL (x:=a*x*e*e) (y:=e) (m:=4000000000) (n:=20) (by omega) (by omega) (by omega) (by omega);have J7:=M.aL (x:=a*x*e*e*e) (y:=e) (m:=80000000000) (n:=20) (by omega) (by omega) (by omega) (by omega);have J8:=M.aL (x:=b) (y:=e) (m:=10000) (n:=20) (by omega) (by omega) (by omega) (by omega);have J9:=M.aL (x:=b*e) (y:=e) (m:=200000) (n:=20) (by omega) (by omega) (by omega) (by omega);have FG:=M.aL (x:=b*e*e) (y:=e) (m:=4000000) (n:=20) (by omega) (by omega) (by omega) (by omega);have FH:=M.aL (x:=b*e*e*e) (y:=e) (m:=80000000) (n:=20) (by omega) (by omega) (by omega) (by omega);have FI:=M.aL (x:=b*e*e*e*e) (y:=e) (m:=1600000000) (n:=20) (by omega) (by omega) (by omega) (by omega);have FJ:=M.aL (x:=b*e*e*e*e*e) (y:=e) (m:=32000000000) (n:=20) (by omega) (by omega) (by omega) (by omega);have hcv:=xL (M.rO a b x e);go_enter Tryz.func115,Tryz.ntmps115
 go_wp2;go_ret;exact ⟨by rfl,(by repeat (first | exact xO _ _ | refine aS ?_ _ | refine aW ?_ (by assumption) | refine Below.drew ?_ | refine xN ?_ (by first | exact xP _ | exact Nat.le_add_right _ _ | (simp <;> omega)) _ | refine aO ?_ _))⟩
theorem kT (a b x e:Int) (w:World) (ha1:-1000≤a) (ha2:a≤1000) (hb1:-10000≤b) (hb2:b≤10000) (hx1:-10000≤x) (hx2:x≤10000) (he1:-20≤e) (he2:e≤20) :
  Calls Tryz.prog 161 #[.agg #[.int .i64 a,.int .i64 b],.int .i64 x,.int .i64 e] w fun e' w'=>e'=.returned (.int .i64 (M.cv a b x e))∧Below w.heap.size w w':=by
 have FK:=M.aL (x:=x) (y:=x) (m:=10000) (n:=10000) (by omega) (by omega) (by omega) (by omega);have FL:=M.aL (x:=x*x) (y:=x) (m:=100000000) (n:=10000) (by omega) (by omega) (by omega) (by omega);have FM:=M.aL (x:=a) (y:=x) (m:=1000) (n:=10000) (by omega) (by omega) (by omega) (by omega);have HC:=M.aL (x:=e) (y:=e) (m:=20) (n:=20) (by omega) (by omega) (by omega) (by omega);have HD:=M.aL (x:=a*x) (y:=e*e) (m:=10000000) (n:=400) (by omega) (by omega) (by omega) (by omega);have HE:=M.aL (x:=a*x*(e*e)) (y:=e*e) (m:=4000000000) (n:=400) (by omega) (by omega) (by omega) (by omega);have HF:=M.aL (x:=b) (y:=e*e) (m:=10000) (n:=400) (by omega) (by omega) (by omega) (by omega);have HI:=M.aL (x:=b*(e*e)) (y:=e*e) (m:=4000000) (n:=400) (by omega) (by omega) (by omega) (by omega);have HJ:=M.aL (x:=b*(e*e)*(e*e)) (y:=e*e) (m:=1600000000) (n:=400) (by omega) (by omega) (by omega) (by omega);have hcv:=xL (M.rO a b x e);go_enter Tryz.func161,Tryz.ntmps161
 go_wp2;go_ret;exact ⟨by rw [←hcv.out];rfl,(by repeat (first | exact xO _ _ | refine aS ?_ _ | refine aW ?_ (by assumption) | refine Below.drew ?_ | refine xN ?_ (by first | exact xP _ | exact Nat.le_add_right _ _ | (simp <;> omega)) _ | refine aO ?_ _))⟩
theorem M.mL {a b x e:Int} (ha1:-1000≤a) (ha2:a≤1000) (hb1:-10000≤b) (hb2:b≤10000) (hx1:-10000≤x) (hx2:x≤10000) (he1:-20≤e) (he2:e≤20):-4000000000000≤M.cv a b x e∧M.cv a b x e≤4000000000000:=by
 have HK:=M.aL (x:=x) (y:=x) (m:=10000) (n:=10000) (by omega) (by omega) (by omega) (by omega);have HM:=M.aL (x:=x*x) (y:=x) (m:=100000000) (n:=10000) (by omega) (by omega) (by omega) (by omega);have HN:=M.aL (x:=a) (y:=x) (m:=1000) (n:=10000) (by omega) (by omega) (by omega) (by omega);have HP:=M.aL (x:=a*x) (y:=e) (m:=10000000) (n:=20) (by omega) (by omega) (by omega) (by omega);have HQ:=M.aL (x:=a*x*e) (y:=e) (m:=200000000) (n:=20) (by omega) (by omega) (by omega) (by omega);have JB:=M.aL (x:=a*x*e*e) (y:=e) (m:=4000000000) (n:=20) (by omega) (by omega) (by omega) (by omega);have OO:=M.aL (x:=a*x*e*e*e) (y:=e) (m:=80000000000) (n:=20) (by omega) (by omega) (by omega) (by omega);have OP:=M.aL (x:=b) (y:=e) (m:=10000) (n:=20) (by omega) (by omega) (by omega) (by omega);have OQ:=M.aL (x:=b*e) (y:=e) (m:=200000) (n:=20) (by omega) (by omega) (by omega) (by omega);have OR:=M.aL (x:=b*e*e) (y:=e) (m:=4000000) (n:=20) (by omega) (by omega) (by omega) (by omega);have OS:=M.aL (x:=b*e*e*e) (y:=e) (m:=80000000) (n:=20) (by omega) (by omega) (by omega) (by omega);have OT:=M.aL (x:=b*e*e*e*e) (y:=e) (m:=1600000000) (n:=20) (by omega) (by omega) (by omega) (by omega);have OU:=M.aL (x:=b*e*e*e*e*e) (y:=e) (m:=32000000000) (n:=20) (by omega) (by omega) (by omega) (by omega);unfold M.cv;omega
theorem M.uQ {Y v:Int} (h:Y*Y=v) (hv:v≤4000000000000):-3000000≤Y∧Y≤3000000:=by
 constructor
 ·rcases Int.lt_or_le Y (-3000000) with q | q
  ·have:=Int.mul_le_mul (a:=3000000) (b:=3000000) (c:=-Y) (d:=-Y) (by omega) (by omega) (by omega) (by omega)
   rw [Int.neg_mul_neg] at this;omega
  exact q
 rcases Int.lt_or_le 3000000 Y with q | q
 ·have:=Int.mul_le_mul (a:=3000000) (b:=3000000) (c:=Y) (d:=Y) (by omega) (by omega) (by omega) (by omega)
  omega
 exact q
theorem dM (a b X Y E:Int) (w:World) :
  Calls Tryz.prog 55 #[.agg #[.int .i64 a,.int .i64 b],.agg #[.int .i64 X,.int .i64 Y,.int .i64 E]] w fun e w'=>e=.returned (.bool (M.good a b && M.bB a b X Y E))∧Below w.heap.size w w':=by
 have PC:=fun W=>qG a b W
 have PI:=xL fun n lo hi W=>dQ n lo hi W
 have C:=(aH.new w #[.int .i64 a,.int .i64 b] 25).alloc (.cells #[.int .i64 X,.int .i64 Y,.int .i64 E] 27)
 have Q:=(aH.new (w.alloc (.cells #[.int .i64 a,.int .i64 b] 25)) #[.int .i64 X,.int .i64 Y,.int .i64 E] 27)
 rw [xM] at Q;have B:=((xO w.heap.size w).alloc (xP _) (.cells #[.int .i64 a,.int .i64 b] 25)).alloc (by rw [xM];omega) (.cells #[.int .i64 X,.int .i64 Y,.int .i64 E] 27);generalize hw3:(w.alloc (.cells #[.int .i64 a,.int .i64 b] 25)).alloc (.cells #[.int .i64 X,.int .i64 Y,.int .i64 E] 27)=wc at *;have ⟨q0,q1,q2⟩:=Q.aK;have f_:=C.box.c0;have i_:=C.box.c1
 cases hgd:M.good a b with
 | false=>
  rw [hgd] at PC;have PC:=xL PC;go_enter Tryz.func55,Tryz.ntmps55
  go_wp2_with (go_at_call 73;(with_reducible refine (PC.out _).mono ?_);rintro e w4 ⟨rfl,hb4⟩;replace C:=C.keep hb4;replace B:=d_ B hb4;replace Q:=Q.keep hb4;(have ⟨z0,z1,z2⟩:=Q.aK);(replace ⟨f_,i_⟩:=C.b2))
  go_ret;exact ⟨rfl,B⟩
 | true=>
 obtain ⟨ha1,ha2,hb1,hb2⟩:=M.an (M.am hgd);rw [hgd] at PC;have PC:=xL PC;clear hgd;rw [Bool.true_and]
 by_cases hE:E=0
 ·by_cases hX:X=0
  ·by_cases hY:Y=0
   ·subst hE hX hY
    go_enter Tryz.func55,Tryz.ntmps55
    go_wp2_with (go_at_call 73;(with_reducible refine (PC.out _).mono ?_);rintro e w4 ⟨rfl,hb4⟩;replace C:=C.keep hb4;replace B:=d_ B hb4;replace Q:=Q.keep hb4;(have ⟨z0,z1,z2⟩:=Q.aK);(replace ⟨f_,i_⟩:=C.b2))
    go_ret;exact ⟨rfl,B⟩
   have hres:=xL (show M.bB a b X Y E=false by unfold M.bB;rw [if_pos hE];simp [hY]);have hi:=xL (show M.ins E 1 20=false by unfold M.ins;simp;omega);subst hE hX;rw [hres.out]
   have PE:=fun W=>PI.out 0 1 20 W
   rw [hi.out] at PE;have PE:=xL PE;have hi2:=xL (show M.ins 0 (-10000) 10000=true by decide)
   have PX:=fun W=>PI.out 0 (-10000) 10000 W
   rw [hi2.out] at PX;have PX:=xL PX;clear PI;go_enter Tryz.func55,Tryz.ntmps55
   go_wp2_with (first
    | (go_at_call 73;(with_reducible refine (PC.out _).mono ?_);rintro e w4 ⟨rfl,hb4⟩;replace C:=C.keep hb4;replace B:=d_ B hb4;replace Q:=Q.keep hb4;(have ⟨z0,z1,z2⟩:=Q.aK);(replace ⟨f_,i_⟩:=C.b2))
    | (go_at_call 56;first | ((with_reducible refine (PX.out _).mono ?_);rintro e w6 ⟨rfl,rfl⟩) | ((with_reducible refine (PE.out _).mono ?_);rintro e w6 ⟨rfl,rfl⟩)))
   go_ret;exact ⟨rfl,B⟩
  have hX0:(X == 0)=false:=by rw [beq_eq_false_iff_ne];exact hX
  subst hE
  have AC:(M.ins X (-10000) 10000=false∨M.ins 0 1 20=false)→M.bB a b X Y 0=false:=fun _=>by unfold M.bB;rw [if_pos rfl];simp [hX]
  have hE0:M.ins 0 1 20=false:=by decide
  have P1:=fun W=>PI.out X (-10000) 10000 W
  have P2:=fun W=>PI.out 0 1 20 W
  have P4:=fun W=>PI.out Y (-3000000) 3000000 W
  have hgb:=fun h=>M.fJ (n:=X) (lo:=-10000) (hi:=10000) h
  have hge:=fun h=>M.fJ (n:=0) (lo:=1) (hi:=20) h
  have hyb:=fun h=>M.uQ (Y:=Y) (v:=M.cv a b X 0) h
  have Bd:M.ins Y (-3000000) 3000000=true ↔ (-3000000≤Y∧Y≤3000000):=by unfold M.ins;simp
  generalize M.ins Y (-3000000) 3000000=i4,M.ins 0 1 20=i2,M.ins X (-10000) 10000=i1 at *;clear PI
  cases i1 with
  | false=>
   have hr2:=xL (show M.bB a b X Y 0=false from AC (Or.inl rfl));rw [hr2.out];have P1:=xL P1;have P2:=xL P2;have P4:=xL P4;clear hgb hge hyb Bd AC;go_enter Tryz.func55,Tryz.ntmps55
   go_wp2_with (first
    | (go_at_call 73;(with_reducible refine (PC.out _).mono ?_);rintro e w4 ⟨rfl,hb4⟩;replace C:=C.keep hb4;replace B:=d_ B hb4;replace Q:=Q.keep hb4;(have ⟨z0,z1,z2⟩:=Q.aK);(replace ⟨f_,i_⟩:=C.b2))
    | (go_at_call 56;first | ((with_reducible refine (P1.out _).mono ?_);rintro e w6 ⟨rfl,rfl⟩) | ((with_reducible refine (P2.out _).mono ?_);rintro e w6 ⟨rfl,rfl⟩) | ((with_reducible refine (P4.out _).mono ?_);rintro e w6 ⟨rfl,rfl⟩)))
   go_ret;exact ⟨rfl,B⟩
  | true=>
  cases i2 with
  | false=>
   have hr2:=xL (show M.bB a b X Y 0=false from AC (Or.inr rfl));rw [hr2.out];have P1:=xL P1;have P2:=xL P2;have P4:=xL P4;clear hgb hge hyb Bd AC;go_enter Tryz.func55,Tryz.ntmps55
   go_wp2_with (first
    | (go_at_call 73;(with_reducible refine (PC.out _).mono ?_);rintro e w4 ⟨rfl,hb4⟩;replace C:=C.keep hb4;replace B:=d_ B hb4;replace Q:=Q.keep hb4;(have ⟨z0,z1,z2⟩:=Q.aK);(replace ⟨f_,i_⟩:=C.b2))
    | (go_at_call 56;first | ((with_reducible refine (P1.out _).mono ?_);rintro e w6 ⟨rfl,rfl⟩) | ((with_reducible refine (P2.out _).mono ?_);rintro e w6 ⟨rfl,rfl⟩) | ((with_reducible refine (P4.out _).mono ?_);rintro e w6 ⟨rfl,rfl⟩)))
   go_ret;exact ⟨rfl,B⟩
  | true=>exact absurd hE0 (by decide)
 have hE0:(E == 0)=false:=by rw [beq_eq_false_iff_ne];exact hE
 have hpt:M.bB a b X Y E=(M.ins X (-10000) 10000 && M.ins E 1 20 && (M.gcd X E == 1) && decide (Y*Y=M.cv a b X E)):=by unfold M.bB;rw [if_neg hE]
 have AC:(M.ins X (-10000) 10000=false∨M.ins E 1 20=false)→M.bB a b X Y E=false:=fun h=>by rw [hpt];rcases h with h | h <;> rw [h] <;> simp
 have P1:=fun W=>PI.out X (-10000) 10000 W
 have P2:=fun W=>PI.out E 1 20 W
 have P4:=fun W=>PI.out Y (-3000000) 3000000 W
 have hgb:=fun h=>M.fJ (n:=X) (lo:=-10000) (hi:=10000) h
 have hge:=fun h=>M.fJ (n:=E) (lo:=1) (hi:=20) h
 have hyb:=fun h=>M.uQ (Y:=Y) (v:=M.cv a b X E) h
 have Bd:M.ins Y (-3000000) 3000000=true ↔ (-3000000≤Y∧Y≤3000000):=by unfold M.ins;simp
 generalize M.ins Y (-3000000) 3000000=i4,M.ins E 1 20=i2,M.ins X (-10000) 10000=i1 at *;clear PI
 cases i1 with
 | false=>
  have hr2:=xL (show M.bB a b X Y E=false from AC (Or.inl rfl));rw [hr2.out];have P1:=xL P1;have P2:=xL P2;have P4:=xL P4;clear hgb hge hyb Bd AC;go_enter Tryz.func55,Tryz.ntmps55
  go_wp2_with (first
   | (go_at_call 73;(with_reducible refine (PC.out _).mono ?_);rintro e w4 ⟨rfl,hb4⟩;replace C:=C.keep hb4;replace B:=d_ B hb4;replace Q:=Q.keep hb4;(have ⟨z0,z1,z2⟩:=Q.aK);(replace ⟨f_,i_⟩:=C.b2))
   | (go_at_call 56;first | ((with_reducible refine (P1.out _).mono ?_);rintro e w6 ⟨rfl,rfl⟩) | ((with_reducible refine (P2.out _).mono ?_);rintro e w6 ⟨rfl,rfl⟩) | ((with_reducible refine (P4.out _).mono ?_);rintro e w6 ⟨rfl,rfl⟩)))
  go_ret;exact ⟨rfl,B⟩
 | true=>
 cases i2 with
 | false=>
  have hr2:=xL (show M.bB a b X Y E=false from AC (Or.inr rfl));rw [hr2.out];have P1:=xL P1;have P2:=xL P2;have P4:=xL P4;clear hgb hge hyb Bd AC;go_enter Tryz.func55,Tryz.ntmps55
  go_wp2_with (first
   | (go_at_call 73;(with_reducible refine (PC.out _).mono ?_);rintro e w4 ⟨rfl,hb4⟩;replace C:=C.keep hb4;replace B:=d_ B hb4;replace Q:=Q.keep hb4;(have ⟨z0,z1,z2⟩:=Q.aK);(replace ⟨f_,i_⟩:=C.b2))
   | (go_at_call 56;first | ((with_reducible refine (P1.out _).mono ?_);rintro e w6 ⟨rfl,rfl⟩) | ((with_reducible refine (P2.out _).mono ?_);rintro e w6 ⟨rfl,rfl⟩) | ((with_reducible refine (P4.out _).mono ?_);rintro e w6 ⟨rfl,rfl⟩)))
  go_ret;exact ⟨rfl,B⟩
 | true=>
 rw [Bool.true_and,Bool.true_and] at hpt;have hb1:=hgb rfl;have hb2:=hge rfl;obtain ⟨x1,x2⟩:=hb1;obtain ⟨e1,e2⟩:=hb2
 have PG:=xL fun W=>jW X E W (by omega) (by omega) (by omega) (by omega)
 have hcb:=M.mL (a:=a) (b:=b) (x:=X) (e:=E) ha1 ha2 (by omega) (by omega) x1 x2 (by omega) (by omega)
 have PV:=fun W=>gc a b X E W ha1 ha2 (by omega) (by omega) x1 x2 (by omega) (by omega)
 clear hgb hge AC;generalize M.gcd X E=gg at *
 by_cases hg1:gg=1
 ·have hg2:(gg == 1)=true:=by rw [beq_iff_eq];exact hg1
  rw [hg2,Bool.true_and] at hpt
  cases i4 with
  | false=>
   have hr2:=xL (show M.bB a b X Y E=false by rw [hpt];simp only [decide_eq_false_iff_not];intro Ca;have:=Bd.2 (hyb Ca (by omega));cases this);rw [hr2.out];clear hpt Bd hyb hcb PV;have P1:=xL P1;have P2:=xL P2;have P4:=xL P4;go_enter Tryz.func55,Tryz.ntmps55
   go_wp2_with (first
    | (go_at_call 73;(with_reducible refine (PC.out _).mono ?_);rintro e w4 ⟨rfl,hb4⟩;replace C:=C.keep hb4;replace B:=d_ B hb4;replace Q:=Q.keep hb4;(have ⟨z0,z1,z2⟩:=Q.aK);(replace ⟨f_,i_⟩:=C.b2))
    | (go_at_call 56;first | ((with_reducible refine (P1.out _).mono ?_);rintro e w6 ⟨rfl,rfl⟩) | ((with_reducible refine (P2.out _).mono ?_);rintro e w6 ⟨rfl,rfl⟩) | ((with_reducible refine (P4.out _).mono ?_);rintro e w6 ⟨rfl,rfl⟩))
    | (go_at_call 114;(refine (PG.out _).mono ?_);rintro e w7 ⟨rfl,m_,rfl⟩))
   go_ret;exact ⟨rfl,aO B _⟩
  | true=>
  obtain ⟨y1,y2⟩:=Bd.1 rfl;have Ca:=M.aL (x:=Y) (y:=Y) (m:=3000000) (n:=3000000) (by omega) (by omega) (by omega) (by omega);generalize M.cv a b X E=v at *;have hpt:=xL hpt;rw [hpt.out];clear Bd hyb hcb;have PV:=xL PV;have P1:=xL P1;have P2:=xL P2;have P4:=xL P4;go_enter Tryz.func55,Tryz.ntmps55
  go_upto_region 7 with (first
   | (go_at_call 73;(with_reducible refine (PC.out _).mono ?_);rintro e w4 ⟨rfl,hb4⟩;replace C:=C.keep hb4;replace B:=d_ B hb4;replace Q:=Q.keep hb4;(have ⟨z0,z1,z2⟩:=Q.aK);(replace ⟨f_,i_⟩:=C.b2))
   | (go_at_call 56;first | ((with_reducible refine (P1.out _).mono ?_);rintro e w6 ⟨rfl,rfl⟩) | ((with_reducible refine (P2.out _).mono ?_);rintro e w6 ⟨rfl,rfl⟩) | ((with_reducible refine (P4.out _).mono ?_);rintro e w6 ⟨rfl,rfl⟩))
   | (go_at_call 114;(refine (PG.out _).mono ?_);rintro e w7 ⟨rfl,m_,rfl⟩))
  have C2:aH (w4.drewN m_) w.heap.size 25 #[.int .i64 a,.int .i64 b]:=by unfold aH at *;rw [World.heap_drewN];exact C
  have Q2:aH (w4.drewN m_) (w.heap.size+1) 27 #[.int .i64 X,.int .i64 Y,.int .i64 E]:=by unfold aH at *;rw [World.heap_drewN];exact Q
  have B2:=aO B m_;generalize w4.drewN m_=wd at *;clear C Q B;refine Rg.bS 13 [.is (.pointer (some ⟨w.heap.size+1,1,none⟩)),.is (.int .i64 Y),.is (.pointer (some ⟨w.heap.size+1,1,none⟩)),.is (.int .i64 Y),.is (.int .i64 (Y*Y)),.is (.agg #[.int .i64 a,.int .i64 b]),.is (.pointer (some ⟨w.heap.size+1,0,none⟩)),.is (.int .i64 X),.is (.pointer (some ⟨w.heap.size+1,2,none⟩)),.is (.int .i64 E),.is (.int .i64 v),.is (.bool (decide (Y*Y=v))),.is (.bool (decide (Y*Y=v)))] (by kernel_rfl) (by kernel_rfl) (by kernel_rfl) ⟨?_,?_,?_,?_,?_,?_,?_,?_,?_,?_,?_,?_,?_,trivial⟩ ?_
  ·intro _ zZ w_ hB hr
   have e3:zZ.tmps[3]?=some (.pointer (some ⟨w.heap.size+1,0,none⟩)):=hr 3 (by decide);exact Rg.aG rfl (by go_simp)
  ·intro _ zZ w_ hB hr
   have e35:=Rg.c_ (hr 35 (by decide));have k1:=aE hB Q2.aK.2.1;exact Rg.aG rfl (by go_simp)
  ·intro _ zZ w_ hB hr
   have e3:zZ.tmps[3]?=some (.pointer (some ⟨w.heap.size+1,0,none⟩)):=hr 3 (by decide);exact Rg.aG rfl (by go_simp)
  ·intro _ zZ w_ hB hr
   have e37:=Rg.c_ (hr 37 (by decide));have k1:=aE hB Q2.aK.2.1;exact Rg.aG rfl (by go_simp)
  ·intro _ zZ w_ hB hr
   have e36:=Rg.c_ (hr 36 (by decide));have e38:=Rg.c_ (hr 38 (by decide));exact Rg.aG rfl (by go_simp <;> exact Rg.wo (by omega))
  ·intro _ zZ w_ hB hr
   have e2:zZ.tmps[2]?=some (.pointer (some ⟨w.heap.size,0,none⟩)):=hr 2 (by decide);have k0:=aE hB C2.box.c0;have k1:=aE hB C2.box.c1;exact Rg.aG rfl (by go_simp)
  ·intro _ zZ w_ hB hr
   have e3:zZ.tmps[3]?=some (.pointer (some ⟨w.heap.size+1,0,none⟩)):=hr 3 (by decide);exact Rg.aG rfl (by go_simp)
  ·intro _ zZ w_ hB hr
   have e41:=Rg.c_ (hr 41 (by decide));have k0:=aE hB Q2.aK.1;exact Rg.aG rfl (by go_simp)
  ·intro _ zZ w_ hB hr
   have e3:zZ.tmps[3]?=some (.pointer (some ⟨w.heap.size+1,0,none⟩)):=hr 3 (by decide);exact Rg.aG rfl (by go_simp)
  ·intro _ zZ w_ hB hr
   have e43:=Rg.c_ (hr 43 (by decide));have k2:=aE hB Q2.aK.2.2;exact Rg.aG rfl (by go_simp)
  ·intro _ zZ w_ hB hr
   have e40:=Rg.c_ (hr 40 (by decide));have e42:=Rg.c_ (hr 42 (by decide));have e44:=Rg.c_ (hr 44 (by decide));have ef:=Rg.ef zZ;exact Rg.bX rfl (by go_simp) (PV.out _)
  ·intro _ zZ w_ hB hr
   have e39:=Rg.c_ (hr 39 (by decide));have e45:=Rg.c_ (hr 45 (by decide));exact Rg.aG rfl (by go_simp;first | done | rfl | (by_cases xj:Y*Y=v <;> simp [xj];done))
  ·intro _ zZ w_ hB hr
   have e46:=Rg.c_ (hr 46 (by decide));exact Rg.aG rfl (by go_simp)
  intro vals wz hB hv hne;have EJ:vals 12=.bool (decide (Y*Y=v)):=hv 12 (by decide);simp only [Rg.ay,Rg.fill,Act.put,Nat.reduceAdd];clear hv;simp only [EJ];clear EJ;unfold Rg.aX;go_wp2;go_ret;exact ⟨rfl,d_ B2 hB⟩
 have hg2:(gg == 1)=false:=by rw [beq_eq_false_iff_ne];exact hg1
 have hr2:=xL (show M.bB a b X Y E=false by rw [hpt,hg2];rfl);rw [hr2.out];clear hpt Bd hyb hcb PV;have P1:=xL P1;have P2:=xL P2;have P4:=xL P4;go_enter Tryz.func55,Tryz.ntmps55
 go_wp2_with (first
  | (go_at_call 73;(with_reducible refine (PC.out _).mono ?_);rintro e w4 ⟨rfl,hb4⟩;replace C:=C.keep hb4;replace B:=d_ B hb4;replace Q:=Q.keep hb4;(have ⟨z0,z1,z2⟩:=Q.aK);(replace ⟨f_,i_⟩:=C.b2))
  | (go_at_call 56;first | ((with_reducible refine (P1.out _).mono ?_);rintro e w6 ⟨rfl,rfl⟩) | ((with_reducible refine (P2.out _).mono ?_);rintro e w6 ⟨rfl,rfl⟩) | ((with_reducible refine (P4.out _).mono ?_);rintro e w6 ⟨rfl,rfl⟩))
  | (go_at_call 114;(refine (PG.out _).mono ?_);rintro e w7 ⟨rfl,m_,rfl⟩))
 go_ret;exact ⟨rfl,aO B _⟩
theorem M.td (x y:Int):M.gcd (x.natAbs:Int) y=M.gcd x y:=by unfold M.gcd Int.gcd;rw [Int.natAbs_natCast]
theorem vO (a b X Y E:Int) (w:World) (hgd:M.good a b=true) :
  Calls Tryz.prog 112 #[.agg #[.int .i64 a,.int .i64 b],.agg #[.int .i64 X,.int .i64 Y,.int .i64 E]] w fun e w'=>e=.returned (.bool (M.bB a b X Y E))∧Below w.heap.size w w':=by
 have C:=(aH.new w #[.int .i64 a,.int .i64 b] 25).alloc (.cells #[.int .i64 X,.int .i64 Y,.int .i64 E] 27)
 have Q:=(aH.new (w.alloc (.cells #[.int .i64 a,.int .i64 b] 25)) #[.int .i64 X,.int .i64 Y,.int .i64 E] 27)
 rw [xM] at Q;have B:=((xO w.heap.size w).alloc (xP _) (.cells #[.int .i64 a,.int .i64 b] 25)).alloc (by rw [xM];omega) (.cells #[.int .i64 X,.int .i64 Y,.int .i64 E] 27);generalize hw3:(w.alloc (.cells #[.int .i64 a,.int .i64 b] 25)).alloc (.cells #[.int .i64 X,.int .i64 Y,.int .i64 E] 27)=wc at *;have ⟨q0,q1,q2⟩:=Q.aK;have f_:=C.box.c0;have i_:=C.box.c1;obtain ⟨ha1,ha2,hb1,hb2⟩:=M.an (M.am hgd);clear hgd
 by_cases hE:E=0
 ·subst hE
  have hr:=xL (show M.bB a b X Y 0=(decide (X=0) && decide (Y=0)) by unfold M.bB;rw [if_pos rfl]);rw [hr.out]
  by_cases hX:X=0
  ·by_cases hY:Y=0
   ·subst hX hY
    go_enter Tryz.func112,Tryz.ntmps112
    go_wp2;go_ret;exact ⟨rfl,B⟩
   have hY0:(Y == 0)=false:=by rw [beq_eq_false_iff_ne];exact hY
   subst hX;go_enter Tryz.func112,Tryz.ntmps112
   go_wp2;go_ret;exact ⟨by simp [hY],B⟩
  have hX0:(X == 0)=false:=by rw [beq_eq_false_iff_ne];exact hX
  go_enter Tryz.func112,Tryz.ntmps112
  go_wp2;go_ret;exact ⟨by simp [hX],B⟩
 have hE0:(E == 0)=false:=by rw [beq_eq_false_iff_ne];exact hE
 have hpt:M.bB a b X Y E=(M.ins X (-10000) 10000 && M.ins E 1 20 && (M.gcd X E == 1) && decide (Y*Y=M.cv a b X E)):=by unfold M.bB;rw [if_neg hE]
 have P1:=fun W=>dq X (-10000) 10000 W
 have P2:=fun W=>dq E 1 20 W
 have P4:=fun W=>dq Y (-10000000) 10000000 W
 have hgb:=fun h=>M.fJ (n:=X) (lo:=-10000) (hi:=10000) h
 have hge:=fun h=>M.fJ (n:=E) (lo:=1) (hi:=20) h
 have hyb:=fun h=>M.uQ (Y:=Y) (v:=M.cv a b X E) h
 have Bd:M.ins Y (-10000000) 10000000=true ↔ (-10000000≤Y∧Y≤10000000):=by unfold M.ins;simp
 generalize M.ins Y (-10000000) 10000000=i4,M.ins E 1 20=i2,M.ins X (-10000) 10000=i1 at *
 cases i1 with
 | false=>
  have hr2:=xL (show M.bB a b X Y E=false by rw [hpt];rfl);rw [hr2.out];clear hpt hgb hge hyb Bd;have P1:=xL P1;have P2:=xL P2;have P4:=xL P4;go_enter Tryz.func112,Tryz.ntmps112
  go_wp2
  go_upto_region 3 with fail
  refine Rg.bS 25 [.is (.pointer (some ⟨w.heap.size+1,0,none⟩)),.is (.int .i64 X),.is (.bool false),.is (.bool true),.is (.bool true),.is (undef),.is (undef),.is (undef),.is (undef),.is (.bool true),.is (.bool true),.is (undef),.is (undef),.is (undef),.is (undef),.is (.bool true),.is (.bool true),.is (undef),.is (undef),.is (undef),.is (undef),.is (undef),.is (undef),.is (undef),.is (.bool true)] (by kernel_rfl) (by kernel_rfl) (by kernel_rfl) ⟨?_,?_,?_,?_,?_,?_,?_,?_,?_,?_,?_,?_,?_,?_,?_,?_,?_,?_,?_,?_,?_,?_,?_,?_,?_,trivial⟩ ?_
  ·intro _ zZ w_ hB hr
   have e3:zZ.tmps[3]?=some (.pointer (some ⟨w.heap.size+1,0,none⟩)):=hr 3 (by decide);exact Rg.aG rfl (by go_simp)
  ·intro _ zZ w_ hB hr
   have e16:=Rg.c_ (hr 16 (by decide));have k0:=aE hB Q.aK.1;exact Rg.aG rfl (by go_simp)
  ·intro _ zZ w_ hB hr
   have e17:=Rg.c_ (hr 17 (by decide));have ec:=Rg.ec zZ;have ef:=Rg.ef zZ;refine Rg.ae rfl (by go_simp;exact ⟨rfl,rfl⟩) ?_;refine (P1.out _).mono ?_;rintro e w5 ⟨rfl,rfl⟩;exact ⟨_,rfl,rfl,xO _ _⟩
  ·intro _ zZ w_ hB hr
   have e18:=Rg.c_ (hr 18 (by decide));exact Rg.aG rfl (by go_simp)
  ·intro _ zZ w_ hB hr
   have e19:=Rg.c_ (hr 19 (by decide));exact Rg.aG rfl (by go_simp)
  ·intro _ zZ w_ hB hr
   have e3:zZ.tmps[3]?=some (.pointer (some ⟨w.heap.size+1,0,none⟩)):=hr 3 (by decide);have e20:=Rg.c_ (hr 20 (by decide));exact Rg.bs (Rg.bF (j:=4) (b:=true) rfl (Rg.yI rfl e20))
  ·intro _ zZ w_ hB hr
   have e20:=Rg.c_ (hr 20 (by decide));have e21:=Rg.c_ (hr 21 (by decide));exact Rg.bs (Rg.bF (j:=4) (b:=true) rfl (Rg.yI rfl e20))
  ·intro _ zZ w_ hB hr
   have e20:=Rg.c_ (hr 20 (by decide));have e22:=Rg.c_ (hr 22 (by decide));have ec:=Rg.ec zZ;exact Rg.bs (Rg.bF (j:=4) (b:=true) rfl (Rg.yI rfl e20))
  ·intro _ zZ w_ hB hr
   have e20:=Rg.c_ (hr 20 (by decide));have e23:=Rg.c_ (hr 23 (by decide));exact Rg.bs (Rg.bF (j:=4) (b:=true) rfl (Rg.yI rfl e20))
  ·intro _ zZ w_ hB hr
   have e20:=Rg.c_ (hr 20 (by decide));have e24:=Rg.c_ (hr 24 (by decide));have ec:=Rg.ec zZ;exact Rg.aG rfl (by go_simp)
  ·intro _ zZ w_ hB hr
   have e25:=Rg.c_ (hr 25 (by decide));exact Rg.aG rfl (by go_simp)
  ·intro _ zZ w_ hB hr
   have e3:zZ.tmps[3]?=some (.pointer (some ⟨w.heap.size+1,0,none⟩)):=hr 3 (by decide);have e26:=Rg.c_ (hr 26 (by decide));exact Rg.bs (Rg.bF (j:=10) (b:=true) rfl (Rg.yI rfl e26))
  ·intro _ zZ w_ hB hr
   have e26:=Rg.c_ (hr 26 (by decide));have e27:=Rg.c_ (hr 27 (by decide));exact Rg.bs (Rg.bF (j:=10) (b:=true) rfl (Rg.yI rfl e26))
  ·intro _ zZ w_ hB hr
   have e26:=Rg.c_ (hr 26 (by decide));have e28:=Rg.c_ (hr 28 (by decide));have ec:=Rg.ec zZ;exact Rg.bs (Rg.bF (j:=10) (b:=true) rfl (Rg.yI rfl e26))
  ·intro _ zZ w_ hB hr
   have e26:=Rg.c_ (hr 26 (by decide));have e29:=Rg.c_ (hr 29 (by decide));exact Rg.bs (Rg.bF (j:=10) (b:=true) rfl (Rg.yI rfl e26))
  ·intro _ zZ w_ hB hr
   have e26:=Rg.c_ (hr 26 (by decide));have e30:=Rg.c_ (hr 30 (by decide));have ec:=Rg.ec zZ;exact Rg.aG rfl (by go_simp)
  ·intro _ zZ w_ hB hr
   have e31:=Rg.c_ (hr 31 (by decide));exact Rg.aG rfl (by go_simp)
  ·intro _ zZ w_ hB hr
   have e3:zZ.tmps[3]?=some (.pointer (some ⟨w.heap.size+1,0,none⟩)):=hr 3 (by decide);have e32:=Rg.c_ (hr 32 (by decide));exact Rg.bs (Rg.bF (j:=16) (b:=true) rfl (Rg.yI rfl e32))
  ·intro _ zZ w_ hB hr
   have e32:=Rg.c_ (hr 32 (by decide));have e33:=Rg.c_ (hr 33 (by decide));exact Rg.bs (Rg.bF (j:=16) (b:=true) rfl (Rg.yI rfl e32))
  ·intro _ zZ w_ hB hr
   have e32:=Rg.c_ (hr 32 (by decide));have e34:=Rg.c_ (hr 34 (by decide));exact Rg.bs (Rg.bF (j:=16) (b:=true) rfl (Rg.yI rfl e32))
  ·intro _ zZ w_ hB hr
   have e3:zZ.tmps[3]?=some (.pointer (some ⟨w.heap.size+1,0,none⟩)):=hr 3 (by decide);have e32:=Rg.c_ (hr 32 (by decide));exact Rg.bs (Rg.bF (j:=16) (b:=true) rfl (Rg.yI rfl e32))
  ·intro _ zZ w_ hB hr
   have e32:=Rg.c_ (hr 32 (by decide));have e36:=Rg.c_ (hr 36 (by decide));exact Rg.bs (Rg.bF (j:=16) (b:=true) rfl (Rg.yI rfl e32))
  ·intro _ zZ w_ hB hr
   have e32:=Rg.c_ (hr 32 (by decide));have e35:=Rg.c_ (hr 35 (by decide));have e37:=Rg.c_ (hr 37 (by decide));exact Rg.bs (Rg.bF (j:=16) (b:=true) rfl (Rg.yI rfl e32))
  ·intro _ zZ w_ hB hr
   have e32:=Rg.c_ (hr 32 (by decide));have e38:=Rg.c_ (hr 38 (by decide));have ec:=Rg.ec zZ;exact Rg.bs (Rg.bF (j:=16) (b:=true) rfl (Rg.yI rfl e32))
  ·intro _ zZ w_ hB hr
   have e32:=Rg.c_ (hr 32 (by decide));have e39:=Rg.c_ (hr 39 (by decide));have ec:=Rg.ec zZ;exact Rg.aG rfl (by go_simp)
  intro vals wz hB hv hne;have AY:vals 24=.bool true:=hv 24 (by decide);simp only [Rg.ay,Rg.fill,Act.put,Nat.reduceAdd];clear hv;simp only [AY];clear AY;unfold Rg.aX;go_wp2;go_ret;exact ⟨rfl,d_ B hB⟩
 | true=>
 cases i2 with
 | false=>
  have hr2:=xL (show M.bB a b X Y E=false by rw [hpt];rfl);rw [hr2.out];clear hpt hgb hge hyb Bd;have P1:=xL P1;have P2:=xL P2;have P4:=xL P4;go_enter Tryz.func112,Tryz.ntmps112
  go_wp2
  go_upto_region 3 with fail
  refine Rg.bS 25 [.is (.pointer (some ⟨w.heap.size+1,0,none⟩)),.is (.int .i64 X),.is (.bool true),.is (.bool false),.is (.bool false),.is (.pointer (some ⟨w.heap.size+1,2,none⟩)),.is (.int .i64 E),.is (.bool false),.is (.bool true),.is (.bool true),.is (.bool true),.is (undef),.is (undef),.is (undef),.is (undef),.is (.bool true),.is (.bool true),.is (undef),.is (undef),.is (undef),.is (undef),.is (undef),.is (undef),.is (undef),.is (.bool true)] (by kernel_rfl) (by kernel_rfl) (by kernel_rfl) ⟨?_,?_,?_,?_,?_,?_,?_,?_,?_,?_,?_,?_,?_,?_,?_,?_,?_,?_,?_,?_,?_,?_,?_,?_,?_,trivial⟩ ?_
  ·intro _ zZ w_ hB hr
   have e3:zZ.tmps[3]?=some (.pointer (some ⟨w.heap.size+1,0,none⟩)):=hr 3 (by decide);exact Rg.aG rfl (by go_simp)
  ·intro _ zZ w_ hB hr
   have e16:=Rg.c_ (hr 16 (by decide));have k0:=aE hB Q.aK.1;exact Rg.aG rfl (by go_simp)
  ·intro _ zZ w_ hB hr
   have e17:=Rg.c_ (hr 17 (by decide));have ec:=Rg.ec zZ;have ef:=Rg.ef zZ;refine Rg.ae rfl (by go_simp;exact ⟨rfl,rfl⟩) ?_;refine (P1.out _).mono ?_;rintro e w5 ⟨rfl,rfl⟩;exact ⟨_,rfl,rfl,xO _ _⟩
  ·intro _ zZ w_ hB hr
   have e18:=Rg.c_ (hr 18 (by decide));exact Rg.aG rfl (by go_simp)
  ·intro _ zZ w_ hB hr
   have e19:=Rg.c_ (hr 19 (by decide));exact Rg.aG rfl (by go_simp)
  ·intro _ zZ w_ hB hr
   have e3:zZ.tmps[3]?=some (.pointer (some ⟨w.heap.size+1,0,none⟩)):=hr 3 (by decide);have e20:=Rg.c_ (hr 20 (by decide));exact Rg.aG (Rg.ag (j:=4) (b:=false) rfl (Rg.yI rfl e20)) (by go_simp)
  ·intro _ zZ w_ hB hr
   have e20:=Rg.c_ (hr 20 (by decide));have e21:=Rg.c_ (hr 21 (by decide));have k2:=aE hB Q.aK.2.2;exact Rg.aG (Rg.ag (j:=4) (b:=false) rfl (Rg.yI rfl e20)) (by go_simp)
  ·intro _ zZ w_ hB hr
   have e20:=Rg.c_ (hr 20 (by decide));have e22:=Rg.c_ (hr 22 (by decide));have ec:=Rg.ec zZ;have ef:=Rg.ef zZ;refine Rg.ae (Rg.ag (j:=4) (b:=false) rfl (Rg.yI rfl e20)) (by go_simp;exact ⟨rfl,rfl⟩) ?_;refine (P2.out _).mono ?_;rintro e w5 ⟨rfl,rfl⟩;exact ⟨_,rfl,rfl,xO _ _⟩
  ·intro _ zZ w_ hB hr
   have e20:=Rg.c_ (hr 20 (by decide));have e23:=Rg.c_ (hr 23 (by decide));exact Rg.aG (Rg.ag (j:=4) (b:=false) rfl (Rg.yI rfl e20)) (by go_simp)
  ·intro _ zZ w_ hB hr
   have e20:=Rg.c_ (hr 20 (by decide));have e24:=Rg.c_ (hr 24 (by decide));have ec:=Rg.ec zZ;exact Rg.aG rfl (by go_simp)
  ·intro _ zZ w_ hB hr
   have e25:=Rg.c_ (hr 25 (by decide));exact Rg.aG rfl (by go_simp)
  ·intro _ zZ w_ hB hr
   have e3:zZ.tmps[3]?=some (.pointer (some ⟨w.heap.size+1,0,none⟩)):=hr 3 (by decide);have e26:=Rg.c_ (hr 26 (by decide));exact Rg.bs (Rg.bF (j:=10) (b:=true) rfl (Rg.yI rfl e26))
  ·intro _ zZ w_ hB hr
   have e26:=Rg.c_ (hr 26 (by decide));have e27:=Rg.c_ (hr 27 (by decide));exact Rg.bs (Rg.bF (j:=10) (b:=true) rfl (Rg.yI rfl e26))
  ·intro _ zZ w_ hB hr
   have e26:=Rg.c_ (hr 26 (by decide));have e28:=Rg.c_ (hr 28 (by decide));have ec:=Rg.ec zZ;exact Rg.bs (Rg.bF (j:=10) (b:=true) rfl (Rg.yI rfl e26))
  ·intro _ zZ w_ hB hr
   have e26:=Rg.c_ (hr 26 (by decide));have e29:=Rg.c_ (hr 29 (by decide));exact Rg.bs (Rg.bF (j:=10) (b:=true) rfl (Rg.yI rfl e26))
  ·intro _ zZ w_ hB hr
   have e26:=Rg.c_ (hr 26 (by decide));have e30:=Rg.c_ (hr 30 (by decide));have ec:=Rg.ec zZ;exact Rg.aG rfl (by go_simp)
  ·intro _ zZ w_ hB hr
   have e31:=Rg.c_ (hr 31 (by decide));exact Rg.aG rfl (by go_simp)
  ·intro _ zZ w_ hB hr
   have e3:zZ.tmps[3]?=some (.pointer (some ⟨w.heap.size+1,0,none⟩)):=hr 3 (by decide);have e32:=Rg.c_ (hr 32 (by decide));exact Rg.bs (Rg.bF (j:=16) (b:=true) rfl (Rg.yI rfl e32))
  ·intro _ zZ w_ hB hr
   have e32:=Rg.c_ (hr 32 (by decide));have e33:=Rg.c_ (hr 33 (by decide));exact Rg.bs (Rg.bF (j:=16) (b:=true) rfl (Rg.yI rfl e32))
  ·intro _ zZ w_ hB hr
   have e32:=Rg.c_ (hr 32 (by decide));have e34:=Rg.c_ (hr 34 (by decide));exact Rg.bs (Rg.bF (j:=16) (b:=true) rfl (Rg.yI rfl e32))
  ·intro _ zZ w_ hB hr
   have e3:zZ.tmps[3]?=some (.pointer (some ⟨w.heap.size+1,0,none⟩)):=hr 3 (by decide);have e32:=Rg.c_ (hr 32 (by decide));exact Rg.bs (Rg.bF (j:=16) (b:=true) rfl (Rg.yI rfl e32))
  ·intro _ zZ w_ hB hr
   have e32:=Rg.c_ (hr 32 (by decide));have e36:=Rg.c_ (hr 36 (by decide));exact Rg.bs (Rg.bF (j:=16) (b:=true) rfl (Rg.yI rfl e32))
  ·intro _ zZ w_ hB hr
   have e32:=Rg.c_ (hr 32 (by decide));have e35:=Rg.c_ (hr 35 (by decide));have e37:=Rg.c_ (hr 37 (by decide));exact Rg.bs (Rg.bF (j:=16) (b:=true) rfl (Rg.yI rfl e32))
  ·intro _ zZ w_ hB hr
   have e32:=Rg.c_ (hr 32 (by decide));have e38:=Rg.c_ (hr 38 (by decide));have ec:=Rg.ec zZ;exact Rg.bs (Rg.bF (j:=16) (b:=true) rfl (Rg.yI rfl e32))
  ·intro _ zZ w_ hB hr
   have e32:=Rg.c_ (hr 32 (by decide));have e39:=Rg.c_ (hr 39 (by decide));have ec:=Rg.ec zZ;exact Rg.aG rfl (by go_simp)
  intro vals wz hB hv hne;have AY:vals 24=.bool true:=hv 24 (by decide);simp only [Rg.ay,Rg.fill,Act.put,Nat.reduceAdd];clear hv;simp only [AY];clear AY;unfold Rg.aX;go_wp2;go_ret;exact ⟨rfl,d_ B hB⟩
 | true=>
 rw [Bool.true_and,Bool.true_and] at hpt;obtain ⟨x1,x2⟩:=hgb rfl;obtain ⟨e1,e2⟩:=hge rfl;have hcb:=M.mL (a:=a) (b:=b) (x:=X) (e:=E) ha1 ha2 (by omega) (by omega) x1 x2 (by omega) (by omega)
 have PV:=fun W=>kT a b X E W ha1 ha2 (by omega) (by omega) x1 x2 (by omega) (by omega)
 have PA:=fun W=>dG X W (by omega) (by omega)
 have PG:=fun W=>dJ (X.natAbs:Int) E W (by omega) (by omega) (by omega) (by omega)
 rw [M.td] at PG;clear hgb hge;generalize M.gcd X E=gg at *
 cases i4 with
 | false=>
  have hr2:=xL (show M.bB a b X Y E=false by rw [hpt];simp only [Bool.and_eq_false_iff,decide_eq_false_iff_not];right;intro Ca;have q:=hyb Ca (by omega);have:=Bd.2 (by omega);cases this);rw [hr2.out];clear hpt hyb Bd hcb PV PA PG;have P1:=xL P1;have P2:=xL P2;have P4:=xL P4;go_enter Tryz.func112,Tryz.ntmps112
  go_wp2
  go_upto_region 3 with fail
  refine Rg.bS 25 [.is (.pointer (some ⟨w.heap.size+1,0,none⟩)),.is (.int .i64 X),.is (.bool true),.is (.bool false),.is (.bool false),.is (.pointer (some ⟨w.heap.size+1,2,none⟩)),.is (.int .i64 E),.is (.bool true),.is (.bool false),.is (.bool false),.is (.bool false),.is (.pointer (some ⟨w.heap.size+1,1,none⟩)),.is (.int .i64 Y),.is (.bool false),.is (.bool true),.is (.bool true),.is (.bool true),.is (undef),.is (undef),.is (undef),.is (undef),.is (undef),.is (undef),.is (undef),.is (.bool true)] (by kernel_rfl) (by kernel_rfl) (by kernel_rfl) ⟨?_,?_,?_,?_,?_,?_,?_,?_,?_,?_,?_,?_,?_,?_,?_,?_,?_,?_,?_,?_,?_,?_,?_,?_,?_,trivial⟩ ?_
  ·intro _ zZ w_ hB hr
   have e3:zZ.tmps[3]?=some (.pointer (some ⟨w.heap.size+1,0,none⟩)):=hr 3 (by decide);exact Rg.aG rfl (by go_simp)
  ·intro _ zZ w_ hB hr
   have e16:=Rg.c_ (hr 16 (by decide));have k0:=aE hB Q.aK.1;exact Rg.aG rfl (by go_simp)
  ·intro _ zZ w_ hB hr
   have e17:=Rg.c_ (hr 17 (by decide));have ec:=Rg.ec zZ;have ef:=Rg.ef zZ;refine Rg.ae rfl (by go_simp;exact ⟨rfl,rfl⟩) ?_;refine (P1.out _).mono ?_;rintro e w5 ⟨rfl,rfl⟩;exact ⟨_,rfl,rfl,xO _ _⟩
  ·intro _ zZ w_ hB hr
   have e18:=Rg.c_ (hr 18 (by decide));exact Rg.aG rfl (by go_simp)
  ·intro _ zZ w_ hB hr
   have e19:=Rg.c_ (hr 19 (by decide));exact Rg.aG rfl (by go_simp)
  ·intro _ zZ w_ hB hr
   have e3:zZ.tmps[3]?=some (.pointer (some ⟨w.heap.size+1,0,none⟩)):=hr 3 (by decide);have e20:=Rg.c_ (hr 20 (by decide));exact Rg.aG (Rg.ag (j:=4) (b:=false) rfl (Rg.yI rfl e20)) (by go_simp)
  ·intro _ zZ w_ hB hr
   have e20:=Rg.c_ (hr 20 (by decide));have e21:=Rg.c_ (hr 21 (by decide));have k2:=aE hB Q.aK.2.2;exact Rg.aG (Rg.ag (j:=4) (b:=false) rfl (Rg.yI rfl e20)) (by go_simp)
  ·intro _ zZ w_ hB hr
   have e20:=Rg.c_ (hr 20 (by decide));have e22:=Rg.c_ (hr 22 (by decide));have ec:=Rg.ec zZ;have ef:=Rg.ef zZ;refine Rg.ae (Rg.ag (j:=4) (b:=false) rfl (Rg.yI rfl e20)) (by go_simp;exact ⟨rfl,rfl⟩) ?_;refine (P2.out _).mono ?_;rintro e w5 ⟨rfl,rfl⟩;exact ⟨_,rfl,rfl,xO _ _⟩
  ·intro _ zZ w_ hB hr
   have e20:=Rg.c_ (hr 20 (by decide));have e23:=Rg.c_ (hr 23 (by decide));exact Rg.aG (Rg.ag (j:=4) (b:=false) rfl (Rg.yI rfl e20)) (by go_simp)
  ·intro _ zZ w_ hB hr
   have e20:=Rg.c_ (hr 20 (by decide));have e24:=Rg.c_ (hr 24 (by decide));have ec:=Rg.ec zZ;exact Rg.aG rfl (by go_simp)
  ·intro _ zZ w_ hB hr
   have e25:=Rg.c_ (hr 25 (by decide));exact Rg.aG rfl (by go_simp)
  ·intro _ zZ w_ hB hr
   have e3:zZ.tmps[3]?=some (.pointer (some ⟨w.heap.size+1,0,none⟩)):=hr 3 (by decide);have e26:=Rg.c_ (hr 26 (by decide));exact Rg.aG (Rg.ag (j:=10) (b:=false) rfl (Rg.yI rfl e26)) (by go_simp)
  ·intro _ zZ w_ hB hr
   have e26:=Rg.c_ (hr 26 (by decide));have e27:=Rg.c_ (hr 27 (by decide));have k1:=aE hB Q.aK.2.1;exact Rg.aG (Rg.ag (j:=10) (b:=false) rfl (Rg.yI rfl e26)) (by go_simp)
  ·intro _ zZ w_ hB hr
   have e26:=Rg.c_ (hr 26 (by decide));have e28:=Rg.c_ (hr 28 (by decide));have ec:=Rg.ec zZ;have ef:=Rg.ef zZ;refine Rg.ae (Rg.ag (j:=10) (b:=false) rfl (Rg.yI rfl e26)) (by go_simp;exact ⟨rfl,rfl⟩) ?_;refine (P4.out _).mono ?_;rintro e w5 ⟨rfl,rfl⟩;exact ⟨_,rfl,rfl,xO _ _⟩
  ·intro _ zZ w_ hB hr
   have e26:=Rg.c_ (hr 26 (by decide));have e29:=Rg.c_ (hr 29 (by decide));exact Rg.aG (Rg.ag (j:=10) (b:=false) rfl (Rg.yI rfl e26)) (by go_simp)
  ·intro _ zZ w_ hB hr
   have e26:=Rg.c_ (hr 26 (by decide));have e30:=Rg.c_ (hr 30 (by decide));have ec:=Rg.ec zZ;exact Rg.aG rfl (by go_simp)
  ·intro _ zZ w_ hB hr
   have e31:=Rg.c_ (hr 31 (by decide));exact Rg.aG rfl (by go_simp)
  ·intro _ zZ w_ hB hr
   have e3:zZ.tmps[3]?=some (.pointer (some ⟨w.heap.size+1,0,none⟩)):=hr 3 (by decide);have e32:=Rg.c_ (hr 32 (by decide));exact Rg.bs (Rg.bF (j:=16) (b:=true) rfl (Rg.yI rfl e32))
  ·intro _ zZ w_ hB hr
   have e32:=Rg.c_ (hr 32 (by decide));have e33:=Rg.c_ (hr 33 (by decide));exact Rg.bs (Rg.bF (j:=16) (b:=true) rfl (Rg.yI rfl e32))
  ·intro _ zZ w_ hB hr
   have e32:=Rg.c_ (hr 32 (by decide));have e34:=Rg.c_ (hr 34 (by decide));exact Rg.bs (Rg.bF (j:=16) (b:=true) rfl (Rg.yI rfl e32))
  ·intro _ zZ w_ hB hr
   have e3:zZ.tmps[3]?=some (.pointer (some ⟨w.heap.size+1,0,none⟩)):=hr 3 (by decide);have e32:=Rg.c_ (hr 32 (by decide));exact Rg.bs (Rg.bF (j:=16) (b:=true) rfl (Rg.yI rfl e32))
  ·intro _ zZ w_ hB hr
   have e32:=Rg.c_ (hr 32 (by decide));have e36:=Rg.c_ (hr 36 (by decide));exact Rg.bs (Rg.bF (j:=16) (b:=true) rfl (Rg.yI rfl e32))
  ·intro _ zZ w_ hB hr
   have e32:=Rg.c_ (hr 32 (by decide));have e35:=Rg.c_ (hr 35 (by decide));have e37:=Rg.c_ (hr 37 (by decide));exact Rg.bs (Rg.bF (j:=16) (b:=true) rfl (Rg.yI rfl e32))
  ·intro _ zZ w_ hB hr
   have e32:=Rg.c_ (hr 32 (by decide));have e38:=Rg.c_ (hr 38 (by decide));have ec:=Rg.ec zZ;exact Rg.bs (Rg.bF (j:=16) (b:=true) rfl (Rg.yI rfl e32))
  ·intro _ zZ w_ hB hr
   have e32:=Rg.c_ (hr 32 (by decide));have e39:=Rg.c_ (hr 39 (by decide));have ec:=Rg.ec zZ;exact Rg.aG rfl (by go_simp)
  intro vals wz hB hv hne;have AY:vals 24=.bool true:=hv 24 (by decide);simp only [Rg.ay,Rg.fill,Act.put,Nat.reduceAdd];clear hv;simp only [AY];clear AY;unfold Rg.aX;go_wp2;go_ret;exact ⟨rfl,d_ B hB⟩
 | true=>
 have PA:=xL PA;have PG:=xL PG
 by_cases hg1:gg=1
 ·have hg2:(gg == 1)=true:=by rw [beq_iff_eq];exact hg1
  rw [hg2,Bool.true_and] at hpt;obtain ⟨y1,y2⟩:=Bd.1 rfl;have Ca:=M.aL (x:=Y) (y:=Y) (m:=10000000) (n:=10000000) (by omega) (by omega) (by omega) (by omega);generalize M.cv a b X E=v at *;have hpt:=xL hpt;rw [hpt.out];clear Bd hyb hcb;have PV:=xL PV;have P1:=xL P1;have P2:=xL P2;have P4:=xL P4;go_enter Tryz.func112,Tryz.ntmps112
  go_wp2
  go_upto_region 3 with fail
  refine Rg.bS 25 [.is (.pointer (some ⟨w.heap.size+1,0,none⟩)),.is (.int .i64 X),.is (.bool true),.is (.bool false),.is (.bool false),.is (.pointer (some ⟨w.heap.size+1,2,none⟩)),.is (.int .i64 E),.is (.bool true),.is (.bool false),.is (.bool false),.is (.bool false),.is (.pointer (some ⟨w.heap.size+1,1,none⟩)),.is (.int .i64 Y),.is (.bool true),.is (.bool false),.is (.bool false),.is (.bool false),.is (.pointer (some ⟨w.heap.size+1,0,none⟩)),.is (.int .i64 X),.is (.int .i64 (X.natAbs:Int)),.is (.pointer (some ⟨w.heap.size+1,2,none⟩)),.is (.int .i64 E),.is (.int .i64 gg),.is (.bool false),.is (.bool false)] (by kernel_rfl) (by kernel_rfl) (by kernel_rfl) ⟨?_,?_,?_,?_,?_,?_,?_,?_,?_,?_,?_,?_,?_,?_,?_,?_,?_,?_,?_,?_,?_,?_,?_,?_,?_,trivial⟩ ?_
  ·intro _ zZ w_ hB hr
   have e3:zZ.tmps[3]?=some (.pointer (some ⟨w.heap.size+1,0,none⟩)):=hr 3 (by decide);exact Rg.aG rfl (by go_simp)
  ·intro _ zZ w_ hB hr
   have e16:=Rg.c_ (hr 16 (by decide));have k0:=aE hB Q.aK.1;exact Rg.aG rfl (by go_simp)
  ·intro _ zZ w_ hB hr
   have e17:=Rg.c_ (hr 17 (by decide));have ec:=Rg.ec zZ;have ef:=Rg.ef zZ;refine Rg.ae rfl (by go_simp;exact ⟨rfl,rfl⟩) ?_;refine (P1.out _).mono ?_;rintro e w5 ⟨rfl,rfl⟩;exact ⟨_,rfl,rfl,xO _ _⟩
  ·intro _ zZ w_ hB hr
   have e18:=Rg.c_ (hr 18 (by decide));exact Rg.aG rfl (by go_simp)
  ·intro _ zZ w_ hB hr
   have e19:=Rg.c_ (hr 19 (by decide));exact Rg.aG rfl (by go_simp)
  ·intro _ zZ w_ hB hr
   have e3:zZ.tmps[3]?=some (.pointer (some ⟨w.heap.size+1,0,none⟩)):=hr 3 (by decide);have e20:=Rg.c_ (hr 20 (by decide));exact Rg.aG (Rg.ag (j:=4) (b:=false) rfl (Rg.yI rfl e20)) (by go_simp)
  ·intro _ zZ w_ hB hr
   have e20:=Rg.c_ (hr 20 (by decide));have e21:=Rg.c_ (hr 21 (by decide));have k2:=aE hB Q.aK.2.2;exact Rg.aG (Rg.ag (j:=4) (b:=false) rfl (Rg.yI rfl e20)) (by go_simp)
  ·intro _ zZ w_ hB hr
   have e20:=Rg.c_ (hr 20 (by decide));have e22:=Rg.c_ (hr 22 (by decide));have ec:=Rg.ec zZ;have ef:=Rg.ef zZ;refine Rg.ae (Rg.ag (j:=4) (b:=false) rfl (Rg.yI rfl e20)) (by go_simp;exact ⟨rfl,rfl⟩) ?_;refine (P2.out _).mono ?_;rintro e w5 ⟨rfl,rfl⟩;exact ⟨_,rfl,rfl,xO _ _⟩
  ·intro _ zZ w_ hB hr
   have e20:=Rg.c_ (hr 20 (by decide));have e23:=Rg.c_ (hr 23 (by decide));exact Rg.aG (Rg.ag (j:=4) (b:=false) rfl (Rg.yI rfl e20)) (by go_simp)
  ·intro _ zZ w_ hB hr
   have e20:=Rg.c_ (hr 20 (by decide));have e24:=Rg.c_ (hr 24 (by decide));have ec:=Rg.ec zZ;exact Rg.aG rfl (by go_simp)
  ·intro _ zZ w_ hB hr
   have e25:=Rg.c_ (hr 25 (by decide));exact Rg.aG rfl (by go_simp)
  ·intro _ zZ w_ hB hr
   have e3:zZ.tmps[3]?=some (.pointer (some ⟨w.heap.size+1,0,none⟩)):=hr 3 (by decide);have e26:=Rg.c_ (hr 26 (by decide));exact Rg.aG (Rg.ag (j:=10) (b:=false) rfl (Rg.yI rfl e26)) (by go_simp)
  ·intro _ zZ w_ hB hr
   have e26:=Rg.c_ (hr 26 (by decide));have e27:=Rg.c_ (hr 27 (by decide));have k1:=aE hB Q.aK.2.1;exact Rg.aG (Rg.ag (j:=10) (b:=false) rfl (Rg.yI rfl e26)) (by go_simp)
  ·intro _ zZ w_ hB hr
   have e26:=Rg.c_ (hr 26 (by decide));have e28:=Rg.c_ (hr 28 (by decide));have ec:=Rg.ec zZ;have ef:=Rg.ef zZ;refine Rg.ae (Rg.ag (j:=10) (b:=false) rfl (Rg.yI rfl e26)) (by go_simp;exact ⟨rfl,rfl⟩) ?_;refine (P4.out _).mono ?_;rintro e w5 ⟨rfl,rfl⟩;exact ⟨_,rfl,rfl,xO _ _⟩
  ·intro _ zZ w_ hB hr
   have e26:=Rg.c_ (hr 26 (by decide));have e29:=Rg.c_ (hr 29 (by decide));exact Rg.aG (Rg.ag (j:=10) (b:=false) rfl (Rg.yI rfl e26)) (by go_simp)
  ·intro _ zZ w_ hB hr
   have e26:=Rg.c_ (hr 26 (by decide));have e30:=Rg.c_ (hr 30 (by decide));have ec:=Rg.ec zZ;exact Rg.aG rfl (by go_simp)
  ·intro _ zZ w_ hB hr
   have e31:=Rg.c_ (hr 31 (by decide));exact Rg.aG rfl (by go_simp)
  ·intro _ zZ w_ hB hr
   have e3:zZ.tmps[3]?=some (.pointer (some ⟨w.heap.size+1,0,none⟩)):=hr 3 (by decide);have e32:=Rg.c_ (hr 32 (by decide));exact Rg.aG (Rg.ag (j:=16) (b:=false) rfl (Rg.yI rfl e32)) (by go_simp)
  ·intro _ zZ w_ hB hr
   have e32:=Rg.c_ (hr 32 (by decide));have e33:=Rg.c_ (hr 33 (by decide));have k0:=aE hB Q.aK.1;exact Rg.aG (Rg.ag (j:=16) (b:=false) rfl (Rg.yI rfl e32)) (by go_simp)
  ·intro _ zZ w_ hB hr
   have e32:=Rg.c_ (hr 32 (by decide));have e34:=Rg.c_ (hr 34 (by decide));have ef:=Rg.ef zZ;refine Rg.ae (Rg.ag (j:=16) (b:=false) rfl (Rg.yI rfl e32)) (by go_simp;exact ⟨rfl,rfl⟩) ?_;refine (PA.out _).mono ?_;rintro e w5 ⟨rfl,rfl⟩;exact ⟨_,rfl,rfl,xO _ _⟩
  ·intro _ zZ w_ hB hr
   have e3:zZ.tmps[3]?=some (.pointer (some ⟨w.heap.size+1,0,none⟩)):=hr 3 (by decide);have e32:=Rg.c_ (hr 32 (by decide));exact Rg.aG (Rg.ag (j:=16) (b:=false) rfl (Rg.yI rfl e32)) (by go_simp)
  ·intro _ zZ w_ hB hr
   have e32:=Rg.c_ (hr 32 (by decide));have e36:=Rg.c_ (hr 36 (by decide));have k2:=aE hB Q.aK.2.2;exact Rg.aG (Rg.ag (j:=16) (b:=false) rfl (Rg.yI rfl e32)) (by go_simp)
  ·intro _ zZ w_ hB hr
   have e32:=Rg.c_ (hr 32 (by decide));have e35:=Rg.c_ (hr 35 (by decide));have e37:=Rg.c_ (hr 37 (by decide));have ef:=Rg.ef zZ;refine Rg.ae (Rg.ag (j:=16) (b:=false) rfl (Rg.yI rfl e32)) (by go_simp;exact ⟨rfl,rfl⟩) ?_;refine (PG.out _).mono ?_;rintro e w5 ⟨rfl,rfl⟩;exact ⟨_,rfl,rfl,xO _ _⟩
  ·intro _ zZ w_ hB hr
   have e32:=Rg.c_ (hr 32 (by decide));have e38:=Rg.c_ (hr 38 (by decide));have ec:=Rg.ec zZ;exact Rg.aG (Rg.ag (j:=16) (b:=false) rfl (Rg.yI rfl e32)) (by go_simp;first | done | rfl | (simp [hg1];done))
  ·intro _ zZ w_ hB hr
   have e32:=Rg.c_ (hr 32 (by decide));have e39:=Rg.c_ (hr 39 (by decide));have ec:=Rg.ec zZ;exact Rg.aG rfl (by go_simp)
  intro vals wz hB hv hne;have AY:vals 24=.bool false:=hv 24 (by decide);simp only [Rg.ay,Rg.fill,Act.put,Nat.reduceAdd];clear hv;simp only [AY];clear AY;unfold Rg.aX;replace C:=C.keep hB;replace Q:=Q.keep hB;replace B:=d_ B hB;clear hB
  go_upto_region 5 with fail
  refine Rg.bS 13 [.is (.pointer (some ⟨w.heap.size+1,1,none⟩)),.is (.int .i64 Y),.is (.pointer (some ⟨w.heap.size+1,1,none⟩)),.is (.int .i64 Y),.is (.int .i64 (Y*Y)),.is (.agg #[.int .i64 a,.int .i64 b]),.is (.pointer (some ⟨w.heap.size+1,0,none⟩)),.is (.int .i64 X),.is (.pointer (some ⟨w.heap.size+1,2,none⟩)),.is (.int .i64 E),.is (.int .i64 v),.is (.bool (decide (Y*Y=v))),.is (.bool (decide (Y*Y=v)))] (by kernel_rfl) (by kernel_rfl) (by kernel_rfl) ⟨?_,?_,?_,?_,?_,?_,?_,?_,?_,?_,?_,?_,?_,trivial⟩ ?_
  ·intro _ zZ w_ hB hr
   have e3:zZ.tmps[3]?=some (.pointer (some ⟨w.heap.size+1,0,none⟩)):=hr 3 (by decide);exact Rg.aG rfl (by go_simp)
  ·intro _ zZ w_ hB hr
   have e41:=Rg.c_ (hr 41 (by decide));have k1:=aE hB Q.aK.2.1;exact Rg.aG rfl (by go_simp)
  ·intro _ zZ w_ hB hr
   have e3:zZ.tmps[3]?=some (.pointer (some ⟨w.heap.size+1,0,none⟩)):=hr 3 (by decide);exact Rg.aG rfl (by go_simp)
  ·intro _ zZ w_ hB hr
   have e43:=Rg.c_ (hr 43 (by decide));have k1:=aE hB Q.aK.2.1;exact Rg.aG rfl (by go_simp)
  ·intro _ zZ w_ hB hr
   have e42:=Rg.c_ (hr 42 (by decide));have e44:=Rg.c_ (hr 44 (by decide));exact Rg.aG rfl (by go_simp <;> exact Rg.wo (by omega))
  ·intro _ zZ w_ hB hr
   have e2:zZ.tmps[2]?=some (.pointer (some ⟨w.heap.size,0,none⟩)):=hr 2 (by decide);have k0:=aE hB C.box.c0;have k1:=aE hB C.box.c1;exact Rg.aG rfl (by go_simp)
  ·intro _ zZ w_ hB hr
   have e3:zZ.tmps[3]?=some (.pointer (some ⟨w.heap.size+1,0,none⟩)):=hr 3 (by decide);exact Rg.aG rfl (by go_simp)
  ·intro _ zZ w_ hB hr
   have e47:=Rg.c_ (hr 47 (by decide));have k0:=aE hB Q.aK.1;exact Rg.aG rfl (by go_simp)
  ·intro _ zZ w_ hB hr
   have e3:zZ.tmps[3]?=some (.pointer (some ⟨w.heap.size+1,0,none⟩)):=hr 3 (by decide);exact Rg.aG rfl (by go_simp)
  ·intro _ zZ w_ hB hr
   have e49:=Rg.c_ (hr 49 (by decide));have k2:=aE hB Q.aK.2.2;exact Rg.aG rfl (by go_simp)
  ·intro _ zZ w_ hB hr
   have e46:=Rg.c_ (hr 46 (by decide));have e48:=Rg.c_ (hr 48 (by decide));have e50:=Rg.c_ (hr 50 (by decide));have ef:=Rg.ef zZ;exact Rg.bX rfl (by go_simp) (PV.out _)
  ·intro _ zZ w_ hB hr
   have e45:=Rg.c_ (hr 45 (by decide));have e51:=Rg.c_ (hr 51 (by decide));exact Rg.aG rfl (by go_simp;first | done | rfl | (by_cases xj:Y*Y=v <;> simp [xj];done))
  ·intro _ zZ w_ hB hr
   have e52:=Rg.c_ (hr 52 (by decide));exact Rg.aG rfl (by go_simp)
  intro vals wy EU hv hne;have EJ:vals 12=.bool (decide (Y*Y=v)):=hv 12 (by decide);simp only [Rg.ay,Rg.fill,Act.put,Nat.reduceAdd];clear hv;simp only [EJ];clear EJ;unfold Rg.aX;go_wp2;go_ret;exact ⟨rfl,d_ B EU⟩
 have hg2:(gg == 1)=false:=by rw [beq_eq_false_iff_ne];exact hg1
 have hr2:=xL (show M.bB a b X Y E=false by rw [hpt,hg2];rfl);rw [hr2.out];clear hpt hyb Bd hcb PV;have P1:=xL P1;have P2:=xL P2;have P4:=xL P4;go_enter Tryz.func112,Tryz.ntmps112
 go_wp2
 go_upto_region 3 with fail
 refine Rg.bS 25 [.is (.pointer (some ⟨w.heap.size+1,0,none⟩)),.is (.int .i64 X),.is (.bool true),.is (.bool false),.is (.bool false),.is (.pointer (some ⟨w.heap.size+1,2,none⟩)),.is (.int .i64 E),.is (.bool true),.is (.bool false),.is (.bool false),.is (.bool false),.is (.pointer (some ⟨w.heap.size+1,1,none⟩)),.is (.int .i64 Y),.is (.bool true),.is (.bool false),.is (.bool false),.is (.bool false),.is (.pointer (some ⟨w.heap.size+1,0,none⟩)),.is (.int .i64 X),.is (.int .i64 (X.natAbs:Int)),.is (.pointer (some ⟨w.heap.size+1,2,none⟩)),.is (.int .i64 E),.is (.int .i64 gg),.is (.bool true),.is (.bool true)] (by kernel_rfl) (by kernel_rfl) (by kernel_rfl) ⟨?_,?_,?_,?_,?_,?_,?_,?_,?_,?_,?_,?_,?_,?_,?_,?_,?_,?_,?_,?_,?_,?_,?_,?_,?_,trivial⟩ ?_
 ·intro _ zZ w_ hB hr
  have e3:zZ.tmps[3]?=some (.pointer (some ⟨w.heap.size+1,0,none⟩)):=hr 3 (by decide);exact Rg.aG rfl (by go_simp)
 ·intro _ zZ w_ hB hr
  have e16:=Rg.c_ (hr 16 (by decide));have k0:=aE hB Q.aK.1;exact Rg.aG rfl (by go_simp)
 ·intro _ zZ w_ hB hr
  have e17:=Rg.c_ (hr 17 (by decide));have ec:=Rg.ec zZ;have ef:=Rg.ef zZ;refine Rg.ae rfl (by go_simp;exact ⟨rfl,rfl⟩) ?_;refine (P1.out _).mono ?_;rintro e w5 ⟨rfl,rfl⟩;exact ⟨_,rfl,rfl,xO _ _⟩
 ·intro _ zZ w_ hB hr
  have e18:=Rg.c_ (hr 18 (by decide));exact Rg.aG rfl (by go_simp)
 ·intro _ zZ w_ hB hr
  have e19:=Rg.c_ (hr 19 (by decide));exact Rg.aG rfl (by go_simp)
 ·intro _ zZ w_ hB hr
  have e3:zZ.tmps[3]?=some (.pointer (some ⟨w.heap.size+1,0,none⟩)):=hr 3 (by decide);have e20:=Rg.c_ (hr 20 (by decide));exact Rg.aG (Rg.ag (j:=4) (b:=false) rfl (Rg.yI rfl e20)) (by go_simp)
 ·intro _ zZ w_ hB hr
  have e20:=Rg.c_ (hr 20 (by decide));have e21:=Rg.c_ (hr 21 (by decide));have k2:=aE hB Q.aK.2.2;exact Rg.aG (Rg.ag (j:=4) (b:=false) rfl (Rg.yI rfl e20)) (by go_simp)
 ·intro _ zZ w_ hB hr
  have e20:=Rg.c_ (hr 20 (by decide));have e22:=Rg.c_ (hr 22 (by decide));have ec:=Rg.ec zZ;have ef:=Rg.ef zZ;refine Rg.ae (Rg.ag (j:=4) (b:=false) rfl (Rg.yI rfl e20)) (by go_simp;exact ⟨rfl,rfl⟩) ?_;refine (P2.out _).mono ?_;rintro e w5 ⟨rfl,rfl⟩;exact ⟨_,rfl,rfl,xO _ _⟩
 ·intro _ zZ w_ hB hr
  have e20:=Rg.c_ (hr 20 (by decide));have e23:=Rg.c_ (hr 23 (by decide));exact Rg.aG (Rg.ag (j:=4) (b:=false) rfl (Rg.yI rfl e20)) (by go_simp)
 ·intro _ zZ w_ hB hr
  have e20:=Rg.c_ (hr 20 (by decide));have e24:=Rg.c_ (hr 24 (by decide));have ec:=Rg.ec zZ;exact Rg.aG rfl (by go_simp)
 ·intro _ zZ w_ hB hr
  have e25:=Rg.c_ (hr 25 (by decide));exact Rg.aG rfl (by go_simp)
 ·intro _ zZ w_ hB hr
  have e3:zZ.tmps[3]?=some (.pointer (some ⟨w.heap.size+1,0,none⟩)):=hr 3 (by decide);have e26:=Rg.c_ (hr 26 (by decide));exact Rg.aG (Rg.ag (j:=10) (b:=false) rfl (Rg.yI rfl e26)) (by go_simp)
 ·intro _ zZ w_ hB hr
  have e26:=Rg.c_ (hr 26 (by decide));have e27:=Rg.c_ (hr 27 (by decide));have k1:=aE hB Q.aK.2.1;exact Rg.aG (Rg.ag (j:=10) (b:=false) rfl (Rg.yI rfl e26)) (by go_simp)
 ·intro _ zZ w_ hB hr
  have e26:=Rg.c_ (hr 26 (by decide));have e28:=Rg.c_ (hr 28 (by decide));have ec:=Rg.ec zZ;have ef:=Rg.ef zZ;refine Rg.ae (Rg.ag (j:=10) (b:=false) rfl (Rg.yI rfl e26)) (by go_simp;exact ⟨rfl,rfl⟩) ?_;refine (P4.out _).mono ?_;rintro e w5 ⟨rfl,rfl⟩;exact ⟨_,rfl,rfl,xO _ _⟩
 ·intro _ zZ w_ hB hr
  have e26:=Rg.c_ (hr 26 (by decide));have e29:=Rg.c_ (hr 29 (by decide));exact Rg.aG (Rg.ag (j:=10) (b:=false) rfl (Rg.yI rfl e26)) (by go_simp)
 ·intro _ zZ w_ hB hr
  have e26:=Rg.c_ (hr 26 (by decide));have e30:=Rg.c_ (hr 30 (by decide));have ec:=Rg.ec zZ;exact Rg.aG rfl (by go_simp)
 ·intro _ zZ w_ hB hr
  have e31:=Rg.c_ (hr 31 (by decide));exact Rg.aG rfl (by go_simp)
 ·intro _ zZ w_ hB hr
  have e3:zZ.tmps[3]?=some (.pointer (some ⟨w.heap.size+1,0,none⟩)):=hr 3 (by decide);have e32:=Rg.c_ (hr 32 (by decide));exact Rg.aG (Rg.ag (j:=16) (b:=false) rfl (Rg.yI rfl e32)) (by go_simp)
 ·intro _ zZ w_ hB hr
  have e32:=Rg.c_ (hr 32 (by decide));have e33:=Rg.c_ (hr 33 (by decide));have k0:=aE hB Q.aK.1;exact Rg.aG (Rg.ag (j:=16) (b:=false) rfl (Rg.yI rfl e32)) (by go_simp)
 ·intro _ zZ w_ hB hr
  have e32:=Rg.c_ (hr 32 (by decide));have e34:=Rg.c_ (hr 34 (by decide));have ef:=Rg.ef zZ;refine Rg.ae (Rg.ag (j:=16) (b:=false) rfl (Rg.yI rfl e32)) (by go_simp;exact ⟨rfl,rfl⟩) ?_;refine (PA.out _).mono ?_;rintro e w5 ⟨rfl,rfl⟩;exact ⟨_,rfl,rfl,xO _ _⟩
 ·intro _ zZ w_ hB hr
  have e3:zZ.tmps[3]?=some (.pointer (some ⟨w.heap.size+1,0,none⟩)):=hr 3 (by decide);have e32:=Rg.c_ (hr 32 (by decide));exact Rg.aG (Rg.ag (j:=16) (b:=false) rfl (Rg.yI rfl e32)) (by go_simp)
 ·intro _ zZ w_ hB hr
  have e32:=Rg.c_ (hr 32 (by decide));have e36:=Rg.c_ (hr 36 (by decide));have k2:=aE hB Q.aK.2.2;exact Rg.aG (Rg.ag (j:=16) (b:=false) rfl (Rg.yI rfl e32)) (by go_simp)
 ·intro _ zZ w_ hB hr
  have e32:=Rg.c_ (hr 32 (by decide));have e35:=Rg.c_ (hr 35 (by decide));have e37:=Rg.c_ (hr 37 (by decide));have ef:=Rg.ef zZ;refine Rg.ae (Rg.ag (j:=16) (b:=false) rfl (Rg.yI rfl e32)) (by go_simp;exact ⟨rfl,rfl⟩) ?_;refine (PG.out _).mono ?_;rintro e w5 ⟨rfl,rfl⟩;exact ⟨_,rfl,rfl,xO _ _⟩
 ·intro _ zZ w_ hB hr
  have e32:=Rg.c_ (hr 32 (by decide));have e38:=Rg.c_ (hr 38 (by decide));have ec:=Rg.ec zZ;exact Rg.aG (Rg.ag (j:=16) (b:=false) rfl (Rg.yI rfl e32)) (by go_simp;first | done | rfl | (simp [hg1];done))
 ·intro _ zZ w_ hB hr
  have e32:=Rg.c_ (hr 32 (by decide));have e39:=Rg.c_ (hr 39 (by decide));have ec:=Rg.ec zZ;exact Rg.aG rfl (by go_simp)
 intro vals wz hB hv hne;have AY:vals 24=.bool true:=hv 24 (by decide);simp only [Rg.ay,Rg.fill,Act.put,Nat.reduceAdd];clear hv;simp only [AY];clear AY;unfold Rg.aX;go_wp2;go_ret;exact ⟨rfl,d_ B hB⟩
theorem eS (a b X Y E:Int) (w:World) :
  Calls Tryz.prog 62 #[.agg #[.int .i64 a,.int .i64 b],.agg #[.int .i64 X,.int .i64 Y,.int .i64 E]] w fun e w'=>e=.returned (.bool (M.good a b && M.bB a b X Y E))∧Below w.heap.size w w':=by
 have PC:=fun W=>eI a b W
 have PO:=fun W=>vO a b X Y E W
 have C:=(aH.new w #[.int .i64 a,.int .i64 b] 25).alloc (.cells #[.int .i64 X,.int .i64 Y,.int .i64 E] 27)
 have Q:=(aH.new (w.alloc (.cells #[.int .i64 a,.int .i64 b] 25)) #[.int .i64 X,.int .i64 Y,.int .i64 E] 27)
 rw [xM] at Q;have B:=((xO w.heap.size w).alloc (xP _) (.cells #[.int .i64 a,.int .i64 b] 25)).alloc (by rw [xM];omega) (.cells #[.int .i64 X,.int .i64 Y,.int .i64 E] 27);generalize hw3:(w.alloc (.cells #[.int .i64 a,.int .i64 b] 25)).alloc (.cells #[.int .i64 X,.int .i64 Y,.int .i64 E] 27)=wc at *;have ⟨q0,q1,q2⟩:=Q.aK;have f_:=C.box.c0;have i_:=C.box.c1
 cases hgd:M.good a b with
 | false=>
  rw [hgd] at PC;have PC:=xL PC;clear PO;go_enter Tryz.func62,Tryz.ntmps62
  go_wp2_with (go_at_call 77;(with_reducible refine (PC.out _).mono ?_);rintro e w4 ⟨rfl,hb4⟩;replace C:=C.keep hb4;replace B:=d_ B hb4;replace Q:=Q.keep hb4;(have ⟨z0,z1,z2⟩:=Q.aK);(replace ⟨f_,i_⟩:=C.b2))
  go_ret;exact ⟨rfl,B⟩
 | true=>
 rw [hgd] at PC;have PC:=xL PC
 have PO:=fun W=>PO W hgd
 generalize M.bB a b X Y E=pp at *;have PO:=xL PO;clear hgd;go_enter Tryz.func62,Tryz.ntmps62
 go_wp2_with (first
  | (go_at_call 77;(with_reducible refine (PC.out _).mono ?_);rintro e w4 ⟨rfl,hb4⟩;replace C:=C.keep hb4;replace B:=d_ B hb4;replace Q:=Q.keep hb4;(have ⟨z0,z1,z2⟩:=Q.aK);(replace ⟨f_,i_⟩:=C.b2))
  | (go_at_call 112;(with_reducible refine (PO.out _).mono ?_);rintro e w5 ⟨rfl,hb5⟩;replace B:=d_ B hb5))
 go_ret;exact ⟨rfl,B⟩
theorem jg (X Y E:Int) (w:World) (h1:-4000000000000000000≤Y) (h2:Y≤4000000000000000000) :
  Calls Tryz.prog 88 #[.agg #[.int .i64 X,.int .i64 Y,.int .i64 E]] w fun e w'=>e=.returned (.agg #[.int .i64 X,.int .i64 (-Y),.int .i64 E])∧Below w.heap.size w w':=by
 go_enter Tryz.func88,Tryz.ntmps88
 go_wp2;exact bodyPost_ret (v:=.agg #[.int .i64 X,.int .i64 (-Y),.int .i64 E]) (by simp [results,Tryz.results88,go_sem, *]) rfl (⟨rfl,(by repeat (first | exact xO _ _ | refine aS ?_ _ | refine aW ?_ (by assumption) | refine Below.drew ?_ | refine xN ?_ (by first | exact xP _ | exact Nat.le_add_right _ _ | (simp <;> omega)) _ | refine aO ?_ _))⟩)
namespace M
def sN (a X1 Y1 E1 X2 Y2 E2:Int):Int:=if X1=X2∧Y1=Y2∧E1=E2 then 3*X1*X1+a*E1*E1*E1*E1 else Y2*E1*E1*E1 - Y1*E2*E2*E2
def sD (X1 Y1 E1 X2 Y2 E2:Int):Int:=if X1=X2∧Y1=Y2∧E1=E2 then 2*Y1*E1 else E1*E2*(X2*E1*E1 - X1*E2*E2)
end M
theorem M.vW {a X1 Y1 E1 X2 Y2 E2:Int} (ha1:-1000≤a) (ha2:a≤1000) (hx1:-10000≤X1) (hx2:X1≤10000) (hy1:-3000000≤Y1) (hy2:Y1≤3000000) (he1:1≤E1) (he2:E1≤20) (hx3:-10000≤X2) (hx4:X2≤10000) (hy3:-3000000≤Y2) (hy4:Y2≤3000000) (Bc:1≤E2) (CG:E2≤20):-200000000000≤M.sN a X1 Y1 E1 X2 Y2 E2∧M.sN a X1 Y1 E1 X2 Y2 E2≤200000000000∧-200000000000≤M.sD X1 Y1 E1 X2 Y2 E2∧M.sD X1 Y1 E1 X2 Y2 E2≤200000000000:=by
 have sb1:=M.aL (x:=Y2) (y:=E1) (m:=3000000) (n:=20) (by omega) (by omega) (by omega) (by omega);have Jz:=M.aL (x:=Y2*E1) (y:=E1) (m:=60000000) (n:=20) (by omega) (by omega) (by omega) (by omega);have J0:=M.aL (x:=Y2*E1*E1) (y:=E1) (m:=1200000000) (n:=20) (by omega) (by omega) (by omega) (by omega);have J4:=M.aL (x:=Y1) (y:=E2) (m:=3000000) (n:=20) (by omega) (by omega) (by omega) (by omega);have J5:=M.aL (x:=Y1*E2) (y:=E2) (m:=60000000) (n:=20) (by omega) (by omega) (by omega) (by omega);have J6:=M.aL (x:=Y1*E2*E2) (y:=E2) (m:=1200000000) (n:=20) (by omega) (by omega) (by omega) (by omega);have J7:=M.aL (x:=E1) (y:=E2) (m:=20) (n:=20) (by omega) (by omega) (by omega) (by omega);have J8:=M.aL (x:=X2) (y:=E1) (m:=10000) (n:=20) (by omega) (by omega) (by omega) (by omega);have J9:=M.aL (x:=X2*E1) (y:=E1) (m:=200000) (n:=20) (by omega) (by omega) (by omega) (by omega);have FG:=M.aL (x:=X1) (y:=E2) (m:=10000) (n:=20) (by omega) (by omega) (by omega) (by omega);have FH:=M.aL (x:=X1*E2) (y:=E2) (m:=200000) (n:=20) (by omega) (by omega) (by omega) (by omega);have FI:=M.aL (x:=E1*E2) (y:=X2*E1*E1 - X1*E2*E2) (m:=400) (n:=8000000) (by omega) (by omega) (by omega) (by omega);have FJ:=M.aL (x:=3) (y:=X1) (m:=3) (n:=10000) (by omega) (by omega) (by omega) (by omega);have FK:=M.aL (x:=3*X1) (y:=X1) (m:=30000) (n:=10000) (by omega) (by omega) (by omega) (by omega);have FL:=M.aL (x:=a) (y:=E1) (m:=1000) (n:=20) (by omega) (by omega) (by omega) (by omega);have FM:=M.aL (x:=a*E1) (y:=E1) (m:=20000) (n:=20) (by omega) (by omega) (by omega) (by omega);have HC:=M.aL (x:=a*E1*E1) (y:=E1) (m:=400000) (n:=20) (by omega) (by omega) (by omega) (by omega);have HD:=M.aL (x:=a*E1*E1*E1) (y:=E1) (m:=8000000) (n:=20) (by omega) (by omega) (by omega) (by omega);have HE:=M.aL (x:=2) (y:=Y1) (m:=2) (n:=3000000) (by omega) (by omega) (by omega) (by omega);have HF:=M.aL (x:=2*Y1) (y:=E1) (m:=6000000) (n:=20) (by omega) (by omega) (by omega) (by omega);unfold M.sN M.sD
 split <;> omega
theorem uI (a b X1 Y1 E1 X2 Y2 E2:Int) (w:World) (ha1:-1000≤a) (ha2:a≤1000) (hx1:-10000≤X1) (hx2:X1≤10000) (hy1:-3000000≤Y1) (hy2:Y1≤3000000) (he1:1≤E1) (he2:E1≤20) (hx3:-10000≤X2) (hx4:X2≤10000) (hy3:-3000000≤Y2) (hy4:Y2≤3000000) (Bc:1≤E2) (CG:E2≤20) :
  Calls Tryz.prog 137 #[.agg #[.int .i64 a,.int .i64 b],.agg #[.int .i64 X1,.int .i64 Y1,.int .i64 E1],.agg #[.int .i64 X2,.int .i64 Y2,.int .i64 E2]] w fun e w'=>e=.returned (.tuple #[.int .i64 (M.sN a X1 Y1 E1 X2 Y2 E2),.int .i64 (M.sD X1 Y1 E1 X2 Y2 E2)])∧Below w.heap.size w w':=by
 have hcase:(X1=X2∧Y1=Y2∧E1=E2)∨¬ (X1=X2∧Y1=Y2∧E1=E2):=Classical.em _
 rcases hcase with hsame | BS
 ·have e1:=xL (show M.sN a X1 Y1 E1 X2 Y2 E2=3*X1*X1+a*E1*E1*E1*E1 from if_pos hsame)
  have e2:=xL (show M.sD X1 Y1 E1 X2 Y2 E2=2*Y1*E1 from if_pos hsame);rw [e1.out,e2.out];obtain ⟨rfl,rfl,rfl⟩:=hsame;clear e1 e2 hx3 hx4 hy3 hy4 Bc CG;have HI:=M.aL (x:=3) (y:=X1) (m:=3) (n:=10000) (by omega) (by omega) (by omega) (by omega);have HJ:=M.aL (x:=3*X1) (y:=X1) (m:=30000) (n:=10000) (by omega) (by omega) (by omega) (by omega);have HK:=M.aL (x:=a) (y:=E1) (m:=1000) (n:=20) (by omega) (by omega) (by omega) (by omega);have HM:=M.aL (x:=a*E1) (y:=E1) (m:=20000) (n:=20) (by omega) (by omega) (by omega) (by omega);have HN:=M.aL (x:=a*E1*E1) (y:=E1) (m:=400000) (n:=20) (by omega) (by omega) (by omega) (by omega);have HP:=M.aL (x:=a*E1*E1*E1) (y:=E1) (m:=8000000) (n:=20) (by omega) (by omega) (by omega) (by omega);have HQ:=M.aL (x:=2) (y:=Y1) (m:=2) (n:=3000000) (by omega) (by omega) (by omega) (by omega);have JB:=M.aL (x:=2*Y1) (y:=E1) (m:=6000000) (n:=20) (by omega) (by omega) (by omega) (by omega);have C:=((aH.new w #[.int .i64 a,.int .i64 b] 25).alloc (.cells #[.int .i64 X1,.int .i64 Y1,.int .i64 E1] 27)).alloc (.cells #[.int .i64 X1,.int .i64 Y1,.int .i64 E1] 27);have Q:=(aH.new (w.alloc (.cells #[.int .i64 a,.int .i64 b] 25)) #[.int .i64 X1,.int .i64 Y1,.int .i64 E1] 27).alloc (.cells #[.int .i64 X1,.int .i64 Y1,.int .i64 E1] 27);rw [xM] at Q;have U:=aH.new ((w.alloc (.cells #[.int .i64 a,.int .i64 b] 25)).alloc (.cells #[.int .i64 X1,.int .i64 Y1,.int .i64 E1] 27)) #[.int .i64 X1,.int .i64 Y1,.int .i64 E1] 27;rw [xM,xM] at U;have B:=(((xO w.heap.size w).alloc (xP _) (.cells #[.int .i64 a,.int .i64 b] 25)).alloc (by rw [xM];omega) (.cells #[.int .i64 X1,.int .i64 Y1,.int .i64 E1] 27)).alloc (by rw [xM,xM];omega) (.cells #[.int .i64 X1,.int .i64 Y1,.int .i64 E1] 27);generalize hw3:((w.alloc (.cells #[.int .i64 a,.int .i64 b] 25)).alloc (.cells #[.int .i64 X1,.int .i64 Y1,.int .i64 E1] 27)).alloc (.cells #[.int .i64 X1,.int .i64 Y1,.int .i64 E1] 27)=wc at *;have ⟨q0,q1,q2⟩:=Q.aK;have ⟨u0,u1,u2⟩:=U.aK;have f_:=C.box.c0;have i_:=C.box.c1;go_enter Tryz.func137,Tryz.ntmps137
  go_wp2
  go_upto_region 2 with fail
  refine Rg.bS 29 [.is (.pointer (some ⟨w.heap.size+1,0,none⟩)),.is (.int .i64 X1),.is (.int .i64 (3*X1)),.is (.pointer (some ⟨w.heap.size+1,0,none⟩)),.is (.int .i64 X1),.is (.int .i64 ((3*X1)*X1)),.is (.pointer (some ⟨w.heap.size,0,none⟩)),.is (.int .i64 a),.is (.pointer (some ⟨w.heap.size+1,2,none⟩)),.is (.int .i64 E1),.is (.int .i64 (a*E1)),.is (.pointer (some ⟨w.heap.size+1,2,none⟩)),.is (.int .i64 E1),.is (.int .i64 ((a*E1)*E1)),.is (.pointer (some ⟨w.heap.size+1,2,none⟩)),.is (.int .i64 E1),.is (.int .i64 (((a*E1)*E1)*E1)),.is (.pointer (some ⟨w.heap.size+1,2,none⟩)),.is (.int .i64 E1),.is (.int .i64 ((((a*E1)*E1)*E1)*E1)),.is (.int .i64 (((3*X1)*X1)+((((a*E1)*E1)*E1)*E1))),.is (.pointer (some ⟨w.heap.size+1,1,none⟩)),.is (.int .i64 Y1),.is (.int .i64 (2*Y1)),.is (.pointer (some ⟨w.heap.size+1,2,none⟩)),.is (.int .i64 E1),.is (.int .i64 ((2*Y1)*E1)),.is (.int .i64 (((3*X1)*X1)+((((a*E1)*E1)*E1)*E1))),.is (.int .i64 ((2*Y1)*E1))] (by kernel_rfl) (by kernel_rfl) (by kernel_rfl) ⟨?_,?_,?_,?_,?_,?_,?_,?_,?_,?_,?_,?_,?_,?_,?_,?_,?_,?_,?_,?_,?_,?_,?_,?_,?_,?_,?_,?_,?_,trivial⟩ ?_
  ·intro _ zZ w_ hB hr
   have e4:zZ.tmps[4]?=some (.pointer (some ⟨w.heap.size+1,0,none⟩)):=hr 4 (by decide);exact Rg.aG rfl (by go_simp)
  ·intro _ zZ w_ hB hr
   have e13:=Rg.c_ (hr 13 (by decide));have k0:=aE hB Q.aK.1;exact Rg.aG rfl (by go_simp)
  ·intro _ zZ w_ hB hr
   have e14:=Rg.c_ (hr 14 (by decide));have ec:=Rg.ec zZ;exact Rg.aG rfl (by go_simp <;> exact Rg.wo (by omega))
  ·intro _ zZ w_ hB hr
   have e4:zZ.tmps[4]?=some (.pointer (some ⟨w.heap.size+1,0,none⟩)):=hr 4 (by decide);exact Rg.aG rfl (by go_simp)
  ·intro _ zZ w_ hB hr
   have e16:=Rg.c_ (hr 16 (by decide));have k0:=aE hB Q.aK.1;exact Rg.aG rfl (by go_simp)
  ·intro _ zZ w_ hB hr
   have e15:=Rg.c_ (hr 15 (by decide));have e17:=Rg.c_ (hr 17 (by decide));exact Rg.aG rfl (by go_simp <;> exact Rg.wo (by omega))
  ·intro _ zZ w_ hB hr
   have e3:zZ.tmps[3]?=some (.pointer (some ⟨w.heap.size,0,none⟩)):=hr 3 (by decide);exact Rg.aG rfl (by go_simp)
  ·intro _ zZ w_ hB hr
   have e19:=Rg.c_ (hr 19 (by decide));have k0:=aE hB C.box.c0;exact Rg.aG rfl (by go_simp)
  ·intro _ zZ w_ hB hr
   have e4:zZ.tmps[4]?=some (.pointer (some ⟨w.heap.size+1,0,none⟩)):=hr 4 (by decide);exact Rg.aG rfl (by go_simp)
  ·intro _ zZ w_ hB hr
   have e21:=Rg.c_ (hr 21 (by decide));have k2:=aE hB Q.aK.2.2;exact Rg.aG rfl (by go_simp)
  ·intro _ zZ w_ hB hr
   have e20:=Rg.c_ (hr 20 (by decide));have e22:=Rg.c_ (hr 22 (by decide));exact Rg.aG rfl (by go_simp <;> exact Rg.wo (by omega))
  ·intro _ zZ w_ hB hr
   have e4:zZ.tmps[4]?=some (.pointer (some ⟨w.heap.size+1,0,none⟩)):=hr 4 (by decide);exact Rg.aG rfl (by go_simp)
  ·intro _ zZ w_ hB hr
   have e24:=Rg.c_ (hr 24 (by decide));have k2:=aE hB Q.aK.2.2;exact Rg.aG rfl (by go_simp)
  ·intro _ zZ w_ hB hr
   have e23:=Rg.c_ (hr 23 (by decide));have e25:=Rg.c_ (hr 25 (by decide));exact Rg.aG rfl (by go_simp <;> exact Rg.wo (by omega))
  ·intro _ zZ w_ hB hr
   have e4:zZ.tmps[4]?=some (.pointer (some ⟨w.heap.size+1,0,none⟩)):=hr 4 (by decide);exact Rg.aG rfl (by go_simp)
  ·intro _ zZ w_ hB hr
   have e27:=Rg.c_ (hr 27 (by decide));have k2:=aE hB Q.aK.2.2;exact Rg.aG rfl (by go_simp)
  ·intro _ zZ w_ hB hr
   have e26:=Rg.c_ (hr 26 (by decide));have e28:=Rg.c_ (hr 28 (by decide));exact Rg.aG rfl (by go_simp <;> exact Rg.wo (by omega))
  ·intro _ zZ w_ hB hr
   have e4:zZ.tmps[4]?=some (.pointer (some ⟨w.heap.size+1,0,none⟩)):=hr 4 (by decide);exact Rg.aG rfl (by go_simp)
  ·intro _ zZ w_ hB hr
   have e30:=Rg.c_ (hr 30 (by decide));have k2:=aE hB Q.aK.2.2;exact Rg.aG rfl (by go_simp)
  ·intro _ zZ w_ hB hr
   have e29:=Rg.c_ (hr 29 (by decide));have e31:=Rg.c_ (hr 31 (by decide));exact Rg.aG rfl (by go_simp <;> exact Rg.wo (by omega))
  ·intro _ zZ w_ hB hr
   have e18:=Rg.c_ (hr 18 (by decide));have e32:=Rg.c_ (hr 32 (by decide));exact Rg.aG rfl (by go_simp <;> exact Rg.wo (by omega))
  ·intro _ zZ w_ hB hr
   have e4:zZ.tmps[4]?=some (.pointer (some ⟨w.heap.size+1,0,none⟩)):=hr 4 (by decide);exact Rg.aG rfl (by go_simp)
  ·intro _ zZ w_ hB hr
   have e34:=Rg.c_ (hr 34 (by decide));have k1:=aE hB Q.aK.2.1;exact Rg.aG rfl (by go_simp)
  ·intro _ zZ w_ hB hr
   have e35:=Rg.c_ (hr 35 (by decide));have ec:=Rg.ec zZ;exact Rg.aG rfl (by go_simp <;> exact Rg.wo (by omega))
  ·intro _ zZ w_ hB hr
   have e4:zZ.tmps[4]?=some (.pointer (some ⟨w.heap.size+1,0,none⟩)):=hr 4 (by decide);exact Rg.aG rfl (by go_simp)
  ·intro _ zZ w_ hB hr
   have e37:=Rg.c_ (hr 37 (by decide));have k2:=aE hB Q.aK.2.2;exact Rg.aG rfl (by go_simp)
  ·intro _ zZ w_ hB hr
   have e36:=Rg.c_ (hr 36 (by decide));have e38:=Rg.c_ (hr 38 (by decide));exact Rg.aG rfl (by go_simp <;> exact Rg.wo (by omega))
  ·intro _ zZ w_ hB hr
   have e33:=Rg.c_ (hr 33 (by decide));exact Rg.aG rfl (by go_simp)
  ·intro _ zZ w_ hB hr
   have e39:=Rg.c_ (hr 39 (by decide));exact Rg.aG rfl (by go_simp)
  intro vals wz hB hv hne;have JP:vals 27=.int .i64 (((3*X1)*X1)+((((a*E1)*E1)*E1)*E1)):=hv 27 (by decide);have JQ:vals 28=.int .i64 ((2*Y1)*E1):=hv 28 (by decide);simp only [Rg.ay,Rg.fill,Act.put,Nat.reduceAdd];clear hv;simp only [JP,JQ];clear JP JQ;unfold Rg.aX;go_wp2;go_ret2;exact ⟨rfl,d_ B hB⟩
 have e1:=xL (show M.sN a X1 Y1 E1 X2 Y2 E2=Y2*E1*E1*E1 - Y1*E2*E2*E2 from if_neg BS);have e2:=xL (show M.sD X1 Y1 E1 X2 Y2 E2=E1*E2*(X2*E1*E1 - X1*E2*E2) from if_neg BS);rw [e1.out,e2.out];clear e1 e2;have OO:=M.aL (x:=Y2) (y:=E1) (m:=3000000) (n:=20) (by omega) (by omega) (by omega) (by omega);have OP:=M.aL (x:=Y2*E1) (y:=E1) (m:=60000000) (n:=20) (by omega) (by omega) (by omega) (by omega);have OQ:=M.aL (x:=Y2*E1*E1) (y:=E1) (m:=1200000000) (n:=20) (by omega) (by omega) (by omega) (by omega);have OR:=M.aL (x:=Y1) (y:=E2) (m:=3000000) (n:=20) (by omega) (by omega) (by omega) (by omega);have OS:=M.aL (x:=Y1*E2) (y:=E2) (m:=60000000) (n:=20) (by omega) (by omega) (by omega) (by omega);have OT:=M.aL (x:=Y1*E2*E2) (y:=E2) (m:=1200000000) (n:=20) (by omega) (by omega) (by omega) (by omega);have OU:=M.aL (x:=E1) (y:=E2) (m:=20) (n:=20) (by omega) (by omega) (by omega) (by omega);have sb36:=M.aL (x:=X2) (y:=E1) (m:=10000) (n:=20) (by omega) (by omega) (by omega) (by omega);have sb37:=M.aL (x:=X2*E1) (y:=E1) (m:=200000) (n:=20) (by omega) (by omega) (by omega) (by omega);have sb38:=M.aL (x:=X1) (y:=E2) (m:=10000) (n:=20) (by omega) (by omega) (by omega) (by omega);have sb39:=M.aL (x:=X1*E2) (y:=E2) (m:=200000) (n:=20) (by omega) (by omega) (by omega) (by omega);have sb40:=M.aL (x:=E1*E2) (y:=X2*E1*E1 - X1*E2*E2) (m:=400) (n:=8000000) (by omega) (by omega) (by omega) (by omega)
 have hne:X1≠X2∨Y1≠Y2∨E1≠E2:=by
  rcases Classical.em (X1=X2) with h1 | h1
  ·rcases Classical.em (Y1=Y2) with h2 | h2
   ·exact Or.inr (Or.inr fun h3=>BS ⟨h1,h2,h3⟩)
   exact Or.inr (Or.inl h2)
  exact Or.inl h1
 clear BS
 have hdec:(decide (X1=X2) && (decide (Y1=Y2) && decide (E1=E2)))=false:=by
  rcases hne with h | h | h <;> simp [h]
 have C:=((aH.new w #[.int .i64 a,.int .i64 b] 25).alloc (.cells #[.int .i64 X1,.int .i64 Y1,.int .i64 E1] 27)).alloc (.cells #[.int .i64 X2,.int .i64 Y2,.int .i64 E2] 27);have Q:=(aH.new (w.alloc (.cells #[.int .i64 a,.int .i64 b] 25)) #[.int .i64 X1,.int .i64 Y1,.int .i64 E1] 27).alloc (.cells #[.int .i64 X2,.int .i64 Y2,.int .i64 E2] 27);rw [xM] at Q;have U:=aH.new ((w.alloc (.cells #[.int .i64 a,.int .i64 b] 25)).alloc (.cells #[.int .i64 X1,.int .i64 Y1,.int .i64 E1] 27)) #[.int .i64 X2,.int .i64 Y2,.int .i64 E2] 27;rw [xM,xM] at U;have B:=(((xO w.heap.size w).alloc (xP _) (.cells #[.int .i64 a,.int .i64 b] 25)).alloc (by rw [xM];omega) (.cells #[.int .i64 X1,.int .i64 Y1,.int .i64 E1] 27)).alloc (by rw [xM,xM];omega) (.cells #[.int .i64 X2,.int .i64 Y2,.int .i64 E2] 27);generalize hw3:((w.alloc (.cells #[.int .i64 a,.int .i64 b] 25)).alloc (.cells #[.int .i64 X1,.int .i64 Y1,.int .i64 E1] 27)).alloc (.cells #[.int .i64 X2,.int .i64 Y2,.int .i64 E2] 27)=wc at *;have ⟨q0,q1,q2⟩:=Q.aK;have ⟨u0,u1,u2⟩:=U.aK;have f_:=C.box.c0;have i_:=C.box.c1
 rcases hne with h | h | h
 all_goals
  have hb:=beq_eq_false_iff_ne.2 h;go_enter Tryz.func137,Tryz.ntmps137
  go_wp2
  all_goals
   go_ret2;exact ⟨rfl,B⟩
namespace M
def zU (a X1 Y1 E1 X2 Y2 E2:Int):Int:=if sD X1 Y1 E1 X2 Y2 E2=0 then 1 else br (sN a X1 Y1 E1 X2 Y2 E2) (sD X1 Y1 E1 X2 Y2 E2)
def zB (a X1 Y1 E1 X2 Y2 E2:Int):Int:=if sD X1 Y1 E1 X2 Y2 E2=0 then 0 else bW (sN a X1 Y1 E1 X2 Y2 E2) (sD X1 Y1 E1 X2 Y2 E2)
end M
theorem qV (a b X1 Y1 E1 X2 Y2 E2:Int) (w:World) (ha1:-1000≤a) (ha2:a≤1000) (hx1:-10000≤X1) (hx2:X1≤10000) (hy1:-3000000≤Y1) (hy2:Y1≤3000000) (he1:1≤E1) (he2:E1≤20) (hx3:-10000≤X2) (hx4:X2≤10000) (hy3:-3000000≤Y2) (hy4:Y2≤3000000) (Bc:1≤E2) (CG:E2≤20) :
  Calls Tryz.prog 148 #[.agg #[.int .i64 a,.int .i64 b],.agg #[.int .i64 X1,.int .i64 Y1,.int .i64 E1],.agg #[.int .i64 X2,.int .i64 Y2,.int .i64 E2]] w fun e w'=>e=.returned (.tuple #[.int .i64 (M.zU a X1 Y1 E1 X2 Y2 E2),.int .i64 (M.zB a X1 Y1 E1 X2 Y2 E2)])∧Below w.heap.size w w':=by
 have hbd:=M.vW (a:=a) ha1 ha2 hx1 hx2 hy1 hy2 he1 he2 hx3 hx4 hy3 hy4 Bc CG
 have PE:=fun (h:M.sD X1 Y1 E1 X2 Y2 E2≠0) W=>gf (M.sN a X1 Y1 E1 X2 Y2 E2) (M.sD X1 Y1 E1 X2 Y2 E2) W (by omega) (by omega) (by omega) (by omega) h
 unfold M.zU M.zB;have hcase:(X1=X2∧Y1=Y2∧E1=E2)∨¬ (X1=X2∧Y1=Y2∧E1=E2):=Classical.em _
 rcases hcase with hsame | BS
 ·have e1:=show M.sN a X1 Y1 E1 X2 Y2 E2=3*X1*X1+a*E1*E1*E1*E1 from if_pos hsame
  have e2:=show M.sD X1 Y1 E1 X2 Y2 E2=2*Y1*E1 from if_pos hsame
  rw [e1,e2] at PE hbd;rw [e1,e2];obtain ⟨rfl,rfl,rfl⟩:=hsame;clear e1 e2 hx3 hx4 hy3 hy4 Bc CG;have sb1:=M.aL (x:=Y1) (y:=E1) (m:=3000000) (n:=20) (by omega) (by omega) (by omega) (by omega);have Jz:=M.aL (x:=Y1*E1) (y:=E1) (m:=60000000) (n:=20) (by omega) (by omega) (by omega) (by omega);have J0:=M.aL (x:=Y1*E1*E1) (y:=E1) (m:=1200000000) (n:=20) (by omega) (by omega) (by omega) (by omega);have J4:=M.aL (x:=E1) (y:=E1) (m:=20) (n:=20) (by omega) (by omega) (by omega) (by omega);have J5:=M.aL (x:=X1) (y:=E1) (m:=10000) (n:=20) (by omega) (by omega) (by omega) (by omega);have J6:=M.aL (x:=X1*E1) (y:=E1) (m:=200000) (n:=20) (by omega) (by omega) (by omega) (by omega);have J7:=M.aL (x:=E1*E1) (y:=X1*E1*E1 - X1*E1*E1) (m:=400) (n:=8000000) (by omega) (by omega) (by omega) (by omega);have J8:=M.aL (x:=3) (y:=X1) (m:=3) (n:=10000) (by omega) (by omega) (by omega) (by omega);have J9:=M.aL (x:=3*X1) (y:=X1) (m:=30000) (n:=10000) (by omega) (by omega) (by omega) (by omega);have FG:=M.aL (x:=a) (y:=E1) (m:=1000) (n:=20) (by omega) (by omega) (by omega) (by omega);have FH:=M.aL (x:=a*E1) (y:=E1) (m:=20000) (n:=20) (by omega) (by omega) (by omega) (by omega);have FI:=M.aL (x:=a*E1*E1) (y:=E1) (m:=400000) (n:=20) (by omega) (by omega) (by omega) (by omega);have FJ:=M.aL (x:=a*E1*E1*E1) (y:=E1) (m:=8000000) (n:=20) (by omega) (by omega) (by omega) (by omega);have FK:=M.aL (x:=2) (y:=Y1) (m:=2) (n:=3000000) (by omega) (by omega) (by omega) (by omega);have FL:=M.aL (x:=2*Y1) (y:=E1) (m:=6000000) (n:=20) (by omega) (by omega) (by omega) (by omega);have C:=((aH.new w #[.int .i64 a,.int .i64 b] 25).alloc (.cells #[.int .i64 X1,.int .i64 Y1,.int .i64 E1] 27)).alloc (.cells #[.int .i64 X1,.int .i64 Y1,.int .i64 E1] 27);have Q:=(aH.new (w.alloc (.cells #[.int .i64 a,.int .i64 b] 25)) #[.int .i64 X1,.int .i64 Y1,.int .i64 E1] 27).alloc (.cells #[.int .i64 X1,.int .i64 Y1,.int .i64 E1] 27);rw [xM] at Q;have U:=aH.new ((w.alloc (.cells #[.int .i64 a,.int .i64 b] 25)).alloc (.cells #[.int .i64 X1,.int .i64 Y1,.int .i64 E1] 27)) #[.int .i64 X1,.int .i64 Y1,.int .i64 E1] 27;rw [xM,xM] at U;have B:=(((xO w.heap.size w).alloc (xP _) (.cells #[.int .i64 a,.int .i64 b] 25)).alloc (by rw [xM];omega) (.cells #[.int .i64 X1,.int .i64 Y1,.int .i64 E1] 27)).alloc (by rw [xM,xM];omega) (.cells #[.int .i64 X1,.int .i64 Y1,.int .i64 E1] 27);generalize hw3:((w.alloc (.cells #[.int .i64 a,.int .i64 b] 25)).alloc (.cells #[.int .i64 X1,.int .i64 Y1,.int .i64 E1] 27)).alloc (.cells #[.int .i64 X1,.int .i64 Y1,.int .i64 E1] 27)=wc at *;have ⟨q0,q1,q2⟩:=Q.aK;have ⟨u0,u1,u2⟩:=U.aK;have f_:=C.box.c0;have i_:=C.box.c1
  by_cases h0:2*Y1*E1=0
  ·have h1:(2*Y1*E1 == 0)=true:=by rw [beq_iff_eq];exact h0
   rw [if_pos h0,if_pos h0];clear PE;go_enter Tryz.func148,Tryz.ntmps148
   go_wp2
   all_goals
    go_ret2;exact ⟨rfl,B⟩
  have h1:(2*Y1*E1 == 0)=false:=by rw [beq_eq_false_iff_ne];exact h0
  rw [if_neg h0,if_neg h0];have PE:=PE h0;generalize bW (3*X1*X1+a*E1*E1*E1*E1) (2*Y1*E1)=pd,br (3*X1*X1+a*E1*E1*E1*E1) (2*Y1*E1)=pn at *;have PE:=xL PE;go_enter Tryz.func148,Tryz.ntmps148
  go_wp2_with (go_at_call 149;(with_reducible refine (PE.out _).mono ?_);rintro e w4 ⟨rfl,hb4⟩;have B4:=d_ B hb4)
  all_goals
   go_ret2;exact ⟨rfl,B4⟩
 have e1:=show M.sN a X1 Y1 E1 X2 Y2 E2=Y2*E1*E1*E1 - Y1*E2*E2*E2 from if_neg BS
 have e2:=show M.sD X1 Y1 E1 X2 Y2 E2=E1*E2*(X2*E1*E1 - X1*E2*E2) from if_neg BS
 rw [e1,e2] at PE hbd;rw [e1,e2];clear e1 e2;have FM:=M.aL (x:=Y2) (y:=E1) (m:=3000000) (n:=20) (by omega) (by omega) (by omega) (by omega);have HC:=M.aL (x:=Y2*E1) (y:=E1) (m:=60000000) (n:=20) (by omega) (by omega) (by omega) (by omega);have HD:=M.aL (x:=Y2*E1*E1) (y:=E1) (m:=1200000000) (n:=20) (by omega) (by omega) (by omega) (by omega);have HE:=M.aL (x:=Y1) (y:=E2) (m:=3000000) (n:=20) (by omega) (by omega) (by omega) (by omega);have HF:=M.aL (x:=Y1*E2) (y:=E2) (m:=60000000) (n:=20) (by omega) (by omega) (by omega) (by omega);have HI:=M.aL (x:=Y1*E2*E2) (y:=E2) (m:=1200000000) (n:=20) (by omega) (by omega) (by omega) (by omega);have HJ:=M.aL (x:=E1) (y:=E2) (m:=20) (n:=20) (by omega) (by omega) (by omega) (by omega);have HK:=M.aL (x:=X2) (y:=E1) (m:=10000) (n:=20) (by omega) (by omega) (by omega) (by omega);have HM:=M.aL (x:=X2*E1) (y:=E1) (m:=200000) (n:=20) (by omega) (by omega) (by omega) (by omega);have HN:=M.aL (x:=X1) (y:=E2) (m:=10000) (n:=20) (by omega) (by omega) (by omega) (by omega);have HP:=M.aL (x:=X1*E2) (y:=E2) (m:=200000) (n:=20) (by omega) (by omega) (by omega) (by omega);have HQ:=M.aL (x:=E1*E2) (y:=X2*E1*E1 - X1*E2*E2) (m:=400) (n:=8000000) (by omega) (by omega) (by omega) (by omega)
 have hne:X1≠X2∨Y1≠Y2∨E1≠E2:=by
  rcases Classical.em (X1=X2) with h1 | h1
  ·rcases Classical.em (Y1=Y2) with h2 | h2
   ·exact Or.inr (Or.inr fun h3=>BS ⟨h1,h2,h3⟩)
   exact Or.inr (Or.inl h2)
  exact Or.inl h1
 clear BS
 have hdec:(decide (X1=X2) && (decide (Y1=Y2) && decide (E1=E2)))=false:=by
  rcases hne with h | h | h <;> simp [h]
 have C:=((aH.new w #[.int .i64 a,.int .i64 b] 25).alloc (.cells #[.int .i64 X1,.int .i64 Y1,.int .i64 E1] 27)).alloc (.cells #[.int .i64 X2,.int .i64 Y2,.int .i64 E2] 27);have Q:=(aH.new (w.alloc (.cells #[.int .i64 a,.int .i64 b] 25)) #[.int .i64 X1,.int .i64 Y1,.int .i64 E1] 27).alloc (.cells #[.int .i64 X2,.int .i64 Y2,.int .i64 E2] 27);rw [xM] at Q;have U:=aH.new ((w.alloc (.cells #[.int .i64 a,.int .i64 b] 25)).alloc (.cells #[.int .i64 X1,.int .i64 Y1,.int .i64 E1] 27)) #[.int .i64 X2,.int .i64 Y2,.int .i64 E2] 27;rw [xM,xM] at U;have B:=(((xO w.heap.size w).alloc (xP _) (.cells #[.int .i64 a,.int .i64 b] 25)).alloc (by rw [xM];omega) (.cells #[.int .i64 X1,.int .i64 Y1,.int .i64 E1] 27)).alloc (by rw [xM,xM];omega) (.cells #[.int .i64 X2,.int .i64 Y2,.int .i64 E2] 27);generalize hw3:((w.alloc (.cells #[.int .i64 a,.int .i64 b] 25)).alloc (.cells #[.int .i64 X1,.int .i64 Y1,.int .i64 E1] 27)).alloc (.cells #[.int .i64 X2,.int .i64 Y2,.int .i64 E2] 27)=wc at *;have ⟨q0,q1,q2⟩:=Q.aK;have ⟨u0,u1,u2⟩:=U.aK;have f_:=C.box.c0;have i_:=C.box.c1
 rcases hne with h | h | h
 all_goals
  have hb:=beq_eq_false_iff_ne.2 h
  by_cases h0:E1*E2*(X2*E1*E1 - X1*E2*E2)=0
  ·have h1:(E1*E2*(X2*E1*E1 - X1*E2*E2) == 0)=true:=by rw [beq_iff_eq];exact h0
   rw [if_pos h0,if_pos h0];clear PE;go_enter Tryz.func148,Tryz.ntmps148
   go_wp2
   all_goals
    go_ret2;exact ⟨rfl,B⟩
  have h1:(E1*E2*(X2*E1*E1 - X1*E2*E2) == 0)=false:=by rw [beq_eq_false_iff_ne];exact h0
  rw [if_neg h0,if_neg h0];have PE:=PE h0;generalize bW (Y2*E1*E1*E1 - Y1*E2*E2*E2) (E1*E2*(X2*E1*E1 - X1*E2*E2))=pd,br (Y2*E1*E1*E1 - Y1*E2*E2*E2) (E1*E2*(X2*E1*E1 - X1*E2*E2))=pn at *;have PE:=xL PE;go_enter Tryz.func148,Tryz.ntmps148
  go_wp2_with (go_at_call 149;(with_reducible refine (PE.out _).mono ?_);rintro e w4 ⟨rfl,hb4⟩;have B4:=d_ B hb4)
  all_goals
   go_ret2;exact ⟨rfl,B4⟩
end
end Go.Proofs.YtggekfbfechonaaGreat
