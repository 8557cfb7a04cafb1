/-
  Joined texts: contracts and plain lemmas.
-/
import Derived.Test.YtggekfbfechonaaGreatU1
import Derived.Test.YtggekfbfechonaaGreatU11
set_option linter.unusedSimpArgs false
set_option linter.unusedVariables false
set_option maxRecDepth 100000
set_option maxHeartbeats 8000000
namespace Go.Proofs.YtggekfbfechonaaGreat
section
open Go.RowKit
theorem M.so (x y:Int):M.gcd (x.natAbs:Int) y=M.gcd x y:=by unfold M.gcd Int.gcd;rw [Int.natAbs_natCast]
theorem uj (a b X Y E:Int) (w:World) (hgd:M.good a b=true) :
  Calls Tryz.prog 112 #[.agg #[.int .i64 a,.int .i64 b],.agg #[.int .i64 X,.int .i64 Y,.int .i64 E]] w fun e w'=>e=.returned (.bool (M.bB a b X Y E))∧Below w.heap.size w w':=by
 have C:=(aH.new w #[.int .i64 a,.int .i64 b] 25).alloc (.cells #[.int .i64 X,.int .i64 Y,.int .i64 E] 27)
 have Q:=(aH.new (w.alloc (.cells #[.int .i64 a,.int .i64 b] 25)) #[.int .i64 X,.int .i64 Y,.int .i64 E] 27)
 rw [wN] at Q;have B:=((wP w.heap.size w).alloc (wQ _) (.cells #[.int .i64 a,.int .i64 b] 25)).alloc (by rw [wN];omega) (.cells #[.int .i64 X,.int .i64 Y,.int .i64 E] 27);generalize hw3:(w.alloc (.cells #[.int .i64 a,.int .i64 b] 25)).alloc (.cells #[.int .i64 X,.int .i64 Y,.int .i64 E] 27)=wc at *;have ⟨q0,q1,q2⟩:=Q.aO;have f_:=C.box.c0;have g_:=C.box.c1;obtain ⟨ha1,ha2,hb1,hb2⟩:=M.ar (M.ah hgd);clear hgd
 by_cases hE:E=0
 ·subst hE
  have hr:=wM (show M.bB a b X Y 0=(decide (X=0) && decide (Y=0)) by unfold M.bB;rw [if_pos rfl]);rw [hr.out]
  by_cases hX:X=0
  ·by_cases hY:Y=0
   ·subst hX hY
    go_enter Tryz.func112,Tryz.ntmps112
    go_wp2;go_ret;exact ⟨rfl,B⟩
   have hY0:(Y == 0)=false:=by rw [beq_eq_false_iff_ne];exact hY
   subst hX;go_enter Tryz.func112,Tryz.ntmps112
   go_wp2;go_ret;exact ⟨by simp [hY],B⟩
  have hX0:(X == 0)=false:=by rw [beq_eq_false_iff_ne];exact hX
  go_enter Tryz.func112,Tryz.ntmps112
  go_wp2;go_ret;exact ⟨by simp [hX],B⟩
 have hE0:(E == 0)=false:=by rw [beq_eq_false_iff_ne];exact hE
 have hpt:M.bB a b X Y E=(M.ins X (-10000) 10000 && M.ins E 1 20 && (M.gcd X E == 1) && decide (Y*Y=M.cv a b X E)):=by unfold M.bB;rw [if_neg hE]
 have P1:=fun W=>dE X (-10000) 10000 W
 have P2:=fun W=>dE E 1 20 W
 have P4:=fun W=>dE Y (-10000000) 10000000 W
 have hgb:=fun h=>M.es (n:=X) (lo:=-10000) (hi:=10000) h
 have hge:=fun h=>M.es (n:=E) (lo:=1) (hi:=20) h
 have hyb:=fun h=>M.ta (Y:=Y) (v:=M.cv a b X E) h
 have Aa:M.ins Y (-10000000) 10000000=true ↔ (-10000000≤Y∧Y≤10000000):=by unfold M.ins;simp
 generalize M.ins Y (-10000000) 10000000=i4,M.ins E 1 20=i2,M.ins X (-10000) 10000=i1 at *
 cases i1 with
 | false=>
  have hr2:=wM (show M.bB a b X Y E=false by rw [hpt];rfl);rw [hr2.out];clear hpt hgb hge hyb Aa;have P1:=wM P1;have P2:=wM P2;have P4:=wM P4;go_enter Tryz.func112,Tryz.ntmps112
  go_wp2
  go_upto_region 3 with fail
  refine Rg.bO 25 [.is (.pointer (some ⟨w.heap.size+1,0,none⟩)),.is (.int .i64 X),.is (.bool false),.is (.bool true),.is (.bool true),.is (undef),.is (undef),.is (undef),.is (undef),.is (.bool true),.is (.bool true),.is (undef),.is (undef),.is (undef),.is (undef),.is (.bool true),.is (.bool true),.is (undef),.is (undef),.is (undef),.is (undef),.is (undef),.is (undef),.is (undef),.is (.bool true)] (by kernel_rfl) (by kernel_rfl) (by kernel_rfl) ⟨?_,?_,?_,?_,?_,?_,?_,?_,?_,?_,?_,?_,?_,?_,?_,?_,?_,?_,?_,?_,?_,?_,?_,?_,?_,trivial⟩ ?_
  ·intro _ zZ w_ hB hr
   have e3:zZ.tmps[3]?=some (.pointer (some ⟨w.heap.size+1,0,none⟩)):=hr 3 (by decide);exact Rg.aG rfl (by go_simp)
  ·intro _ zZ w_ hB hr
   have e16:=Rg.c_ (hr 16 (by decide));have k0:=aE hB Q.aO.1;exact Rg.aG rfl (by go_simp)
  ·intro _ zZ w_ hB hr
   have e17:=Rg.c_ (hr 17 (by decide));have ec:=Rg.ec zZ;have ef:=Rg.ef zZ;refine Rg.af rfl (by go_simp;exact ⟨rfl,rfl⟩) ?_;refine (P1.out _).mono ?_;rintro e w5 ⟨rfl,rfl⟩;exact ⟨_,rfl,rfl,wP _ _⟩
  ·intro _ zZ w_ hB hr
   have e18:=Rg.c_ (hr 18 (by decide));exact Rg.aG rfl (by go_simp)
  ·intro _ zZ w_ hB hr
   have e19:=Rg.c_ (hr 19 (by decide));exact Rg.aG rfl (by go_simp)
  ·intro _ zZ w_ hB hr
   have e3:zZ.tmps[3]?=some (.pointer (some ⟨w.heap.size+1,0,none⟩)):=hr 3 (by decide);have e20:=Rg.c_ (hr 20 (by decide));exact Rg.be (Rg.bD (j:=4) (b:=true) rfl (Rg.xN rfl e20))
  ·intro _ zZ w_ hB hr
   have e20:=Rg.c_ (hr 20 (by decide));have e21:=Rg.c_ (hr 21 (by decide));exact Rg.be (Rg.bD (j:=4) (b:=true) rfl (Rg.xN rfl e20))
  ·intro _ zZ w_ hB hr
   have e20:=Rg.c_ (hr 20 (by decide));have e22:=Rg.c_ (hr 22 (by decide));have ec:=Rg.ec zZ;exact Rg.be (Rg.bD (j:=4) (b:=true) rfl (Rg.xN rfl e20))
  ·intro _ zZ w_ hB hr
   have e20:=Rg.c_ (hr 20 (by decide));have e23:=Rg.c_ (hr 23 (by decide));exact Rg.be (Rg.bD (j:=4) (b:=true) rfl (Rg.xN rfl e20))
  ·intro _ zZ w_ hB hr
   have e20:=Rg.c_ (hr 20 (by decide));have e24:=Rg.c_ (hr 24 (by decide));have ec:=Rg.ec zZ;exact Rg.aG rfl (by go_simp)
  ·intro _ zZ w_ hB hr
   have e25:=Rg.c_ (hr 25 (by decide));exact Rg.aG rfl (by go_simp)
  ·intro _ zZ w_ hB hr
   have e3:zZ.tmps[3]?=some (.pointer (some ⟨w.heap.size+1,0,none⟩)):=hr 3 (by decide);have e26:=Rg.c_ (hr 26 (by decide));exact Rg.be (Rg.bD (j:=10) (b:=true) rfl (Rg.xN rfl e26))
  ·intro _ zZ w_ hB hr
   have e26:=Rg.c_ (hr 26 (by decide));have e27:=Rg.c_ (hr 27 (by decide));exact Rg.be (Rg.bD (j:=10) (b:=true) rfl (Rg.xN rfl e26))
  ·intro _ zZ w_ hB hr
   have e26:=Rg.c_ (hr 26 (by decide));have e28:=Rg.c_ (hr 28 (by decide));have ec:=Rg.ec zZ;exact Rg.be (Rg.bD (j:=10) (b:=true) rfl (Rg.xN rfl e26))
  ·intro _ zZ w_ hB hr
   have e26:=Rg.c_ (hr 26 (by decide));have e29:=Rg.c_ (hr 29 (by decide));exact Rg.be (Rg.bD (j:=10) (b:=true) rfl (Rg.xN rfl e26))
  ·intro _ zZ w_ hB hr
   have e26:=Rg.c_ (hr 26 (by decide));have e30:=Rg.c_ (hr 30 (by decide));have ec:=Rg.ec zZ;exact Rg.aG rfl (by go_simp)
  ·intro _ zZ w_ hB hr
   have e31:=Rg.c_ (hr 31 (by decide));exact Rg.aG rfl (by go_simp)
  ·intro _ zZ w_ hB hr
   have e3:zZ.tmps[3]?=some (.pointer (some ⟨w.heap.size+1,0,none⟩)):=hr 3 (by decide);have e32:=Rg.c_ (hr 32 (by decide));exact Rg.be (Rg.bD (j:=16) (b:=true) rfl (Rg.xN rfl e32))
  ·intro _ zZ w_ hB hr
   have e32:=Rg.c_ (hr 32 (by decide));have e33:=Rg.c_ (hr 33 (by decide));exact Rg.be (Rg.bD (j:=16) (b:=true) rfl (Rg.xN rfl e32))
  ·intro _ zZ w_ hB hr
   have e32:=Rg.c_ (hr 32 (by decide));have e34:=Rg.c_ (hr 34 (by decide));exact Rg.be (Rg.bD (j:=16) (b:=true) rfl (Rg.xN rfl e32))
  ·intro _ zZ w_ hB hr
   have e3:zZ.tmps[3]?=some (.pointer (some ⟨w.heap.size+1,0,none⟩)):=hr 3 (by decide);have e32:=Rg.c_ (hr 32 (by decide));exact Rg.be (Rg.bD (j:=16) (b:=true) rfl (Rg.xN rfl e32))
  ·intro _ zZ w_ hB hr
   have e32:=Rg.c_ (hr 32 (by decide));have e36:=Rg.c_ (hr 36 (by decide));exact Rg.be (Rg.bD (j:=16) (b:=true) rfl (Rg.xN rfl e32))
  ·intro _ zZ w_ hB hr
   have e32:=Rg.c_ (hr 32 (by decide));have e35:=Rg.c_ (hr 35 (by decide));have e37:=Rg.c_ (hr 37 (by decide));exact Rg.be (Rg.bD (j:=16) (b:=true) rfl (Rg.xN rfl e32))
  ·intro _ zZ w_ hB hr
   have e32:=Rg.c_ (hr 32 (by decide));have e38:=Rg.c_ (hr 38 (by decide));have ec:=Rg.ec zZ;exact Rg.be (Rg.bD (j:=16) (b:=true) rfl (Rg.xN rfl e32))
  ·intro _ zZ w_ hB hr
   have e32:=Rg.c_ (hr 32 (by decide));have e39:=Rg.c_ (hr 39 (by decide));have ec:=Rg.ec zZ;exact Rg.aG rfl (by go_simp)
  intro vals wz hB hv hne;have ym:vals 24=.bool true:=hv 24 (by decide);simp only [Rg.bE,Rg.fill,Act.put,Nat.reduceAdd];clear hv;simp only [ym];clear ym;unfold Rg.aZ;go_wp2;go_ret;exact ⟨rfl,d_ B hB⟩
 | true=>
 cases i2 with
 | false=>
  have hr2:=wM (show M.bB a b X Y E=false by rw [hpt];rfl);rw [hr2.out];clear hpt hgb hge hyb Aa;have P1:=wM P1;have P2:=wM P2;have P4:=wM P4;go_enter Tryz.func112,Tryz.ntmps112
  go_wp2
  go_upto_region 3 with fail
  refine Rg.bO 25 [.is (.pointer (some ⟨w.heap.size+1,0,none⟩)),.is (.int .i64 X),.is (.bool true),.is (.bool false),.is (.bool false),.is (.pointer (some ⟨w.heap.size+1,2,none⟩)),.is (.int .i64 E),.is (.bool false),.is (.bool true),.is (.bool true),.is (.bool true),.is (undef),.is (undef),.is (undef),.is (undef),.is (.bool true),.is (.bool true),.is (undef),.is (undef),.is (undef),.is (undef),.is (undef),.is (undef),.is (undef),.is (.bool true)] (by kernel_rfl) (by kernel_rfl) (by kernel_rfl) ⟨?_,?_,?_,?_,?_,?_,?_,?_,?_,?_,?_,?_,?_,?_,?_,?_,?_,?_,?_,?_,?_,?_,?_,?_,?_,trivial⟩ ?_
  ·intro _ zZ w_ hB hr
   have e3:zZ.tmps[3]?=some (.pointer (some ⟨w.heap.size+1,0,none⟩)):=hr 3 (by decide);exact Rg.aG rfl (by go_simp)
  ·intro _ zZ w_ hB hr
   have e16:=Rg.c_ (hr 16 (by decide));have k0:=aE hB Q.aO.1;exact Rg.aG rfl (by go_simp)
  ·intro _ zZ w_ hB hr
   have e17:=Rg.c_ (hr 17 (by decide));have ec:=Rg.ec zZ;have ef:=Rg.ef zZ;refine Rg.af rfl (by go_simp;exact ⟨rfl,rfl⟩) ?_;refine (P1.out _).mono ?_;rintro e w5 ⟨rfl,rfl⟩;exact ⟨_,rfl,rfl,wP _ _⟩
  ·intro _ zZ w_ hB hr
   have e18:=Rg.c_ (hr 18 (by decide));exact Rg.aG rfl (by go_simp)
  ·intro _ zZ w_ hB hr
   have e19:=Rg.c_ (hr 19 (by decide));exact Rg.aG rfl (by go_simp)
  ·intro _ zZ w_ hB hr
   have e3:zZ.tmps[3]?=some (.pointer (some ⟨w.heap.size+1,0,none⟩)):=hr 3 (by decide);have e20:=Rg.c_ (hr 20 (by decide));exact Rg.aG (Rg.ai (j:=4) (b:=false) rfl (Rg.xN rfl e20)) (by go_simp)
  ·intro _ zZ w_ hB hr
   have e20:=Rg.c_ (hr 20 (by decide));have e21:=Rg.c_ (hr 21 (by decide));have k2:=aE hB Q.aO.2.2;exact Rg.aG (Rg.ai (j:=4) (b:=false) rfl (Rg.xN rfl e20)) (by go_simp)
  ·intro _ zZ w_ hB hr
   have e20:=Rg.c_ (hr 20 (by decide));have e22:=Rg.c_ (hr 22 (by decide));have ec:=Rg.ec zZ;have ef:=Rg.ef zZ;refine Rg.af (Rg.ai (j:=4) (b:=false) rfl (Rg.xN rfl e20)) (by go_simp;exact ⟨rfl,rfl⟩) ?_;refine (P2.out _).mono ?_;rintro e w5 ⟨rfl,rfl⟩;exact ⟨_,rfl,rfl,wP _ _⟩
  ·intro _ zZ w_ hB hr
   have e20:=Rg.c_ (hr 20 (by decide));have e23:=Rg.c_ (hr 23 (by decide));exact Rg.aG (Rg.ai (j:=4) (b:=false) rfl (Rg.xN rfl e20)) (by go_simp)
  ·intro _ zZ w_ hB hr
   have e20:=Rg.c_ (hr 20 (by decide));have e24:=Rg.c_ (hr 24 (by decide));have ec:=Rg.ec zZ;exact Rg.aG rfl (by go_simp)
  ·intro _ zZ w_ hB hr
   have e25:=Rg.c_ (hr 25 (by decide));exact Rg.aG rfl (by go_simp)
  ·intro _ zZ w_ hB hr
   have e3:zZ.tmps[3]?=some (.pointer (some ⟨w.heap.size+1,0,none⟩)):=hr 3 (by decide);have e26:=Rg.c_ (hr 26 (by decide));exact Rg.be (Rg.bD (j:=10) (b:=true) rfl (Rg.xN rfl e26))
  ·intro _ zZ w_ hB hr
   have e26:=Rg.c_ (hr 26 (by decide));have e27:=Rg.c_ (hr 27 (by decide));exact Rg.be (Rg.bD (j:=10) (b:=true) rfl (Rg.xN rfl e26))
  ·intro _ zZ w_ hB hr
   have e26:=Rg.c_ (hr 26 (by decide));have e28:=Rg.c_ (hr 28 (by decide));have ec:=Rg.ec zZ;exact Rg.be (Rg.bD (j:=10) (b:=true) rfl (Rg.xN rfl e26))
  ·intro _ zZ w_ hB hr
   have e26:=Rg.c_ (hr 26 (by decide));have e29:=Rg.c_ (hr 29 (by decide));exact Rg.be (Rg.bD (j:=10) (b:=true) rfl (Rg.xN rfl e26))
  ·intro _ zZ w_ hB hr
   have e26:=Rg.c_ (hr 26 (by decide));have e30:=Rg.c_ (hr 30 (by decide));have ec:=Rg.ec zZ;exact Rg.aG rfl (by go_simp)
  ·intro _ zZ w_ hB hr
   have e31:=Rg.c_ (hr 31 (by decide));exact Rg.aG rfl (by go_simp)
  ·intro _ zZ w_ hB hr
   have e3:zZ.tmps[3]?=some (.pointer (some ⟨w.heap.size+1,0,none⟩)):=hr 3 (by decide);have e32:=Rg.c_ (hr 32 (by decide));exact Rg.be (Rg.bD (j:=16) (b:=true) rfl (Rg.xN rfl e32))
  ·intro _ zZ w_ hB hr
   have e32:=Rg.c_ (hr 32 (by decide));have e33:=Rg.c_ (hr 33 (by decide));exact Rg.be (Rg.bD (j:=16) (b:=true) rfl (Rg.xN rfl e32))
  ·intro _ zZ w_ hB hr
   have e32:=Rg.c_ (hr 32 (by decide));have e34:=Rg.c_ (hr 34 (by decide));exact Rg.be (Rg.bD (j:=16) (b:=true) rfl (Rg.xN rfl e32))
  ·intro _ zZ w_ hB hr
   have e3:zZ.tmps[3]?=some (.pointer (some ⟨w.heap.size+1,0,none⟩)):=hr 3 (by decide);have e32:=Rg.c_ (hr 32 (by decide));exact Rg.be (Rg.bD (j:=16) (b:=true) rfl (Rg.xN rfl e32))
  ·intro _ zZ w_ hB hr
   have e32:=Rg.c_ (hr 32 (by decide));have e36:=Rg.c_ (hr 36 (by decide));exact Rg.be (Rg.bD (j:=16) (b:=true) rfl (Rg.xN rfl e32))
  ·intro _ zZ w_ hB hr
   have e32:=Rg.c_ (hr 32 (by decide));have e35:=Rg.c_ (hr 35 (by decide));have e37:=Rg.c_ (hr 37 (by decide));exact Rg.be (Rg.bD (j:=16) (b:=true) rfl (Rg.xN rfl e32))
  ·intro _ zZ w_ hB hr
   have e32:=Rg.c_ (hr 32 (by decide));have e38:=Rg.c_ (hr 38 (by decide));have ec:=Rg.ec zZ;exact Rg.be (Rg.bD (j:=16) (b:=true) rfl (Rg.xN rfl e32))
  ·intro _ zZ w_ hB hr
   have e32:=Rg.c_ (hr 32 (by decide));have e39:=Rg.c_ (hr 39 (by decide));have ec:=Rg.ec zZ;exact Rg.aG rfl (by go_simp)
  intro vals wz hB hv hne;have ym:vals 24=.bool true:=hv 24 (by decide);simp only [Rg.bE,Rg.fill,Act.put,Nat.reduceAdd];clear hv;simp only [ym];clear ym;unfold Rg.aZ;go_wp2;go_ret;exact ⟨rfl,d_ B hB⟩
 | true=>
 rw [Bool.true_and,Bool.true_and] at hpt;obtain ⟨x1,x2⟩:=hgb rfl;obtain ⟨e1,e2⟩:=hge rfl;have hcb:=M.lN (a:=a) (b:=b) (x:=X) (e:=E) ha1 ha2 (by omega) (by omega) x1 x2 (by omega) (by omega)
 have PV:=fun W=>pi a b X E W ha1 ha2 (by omega) (by omega) x1 x2 (by omega) (by omega)
 have PA:=fun W=>cm X W (by omega) (by omega)
 have PG:=fun W=>co (X.natAbs:Int) E W (by omega) (by omega) (by omega) (by omega)
 rw [M.so] at PG;clear hgb hge;generalize M.gcd X E=gg at *
 cases i4 with
 | false=>
  have hr2:=wM (show M.bB a b X Y E=false by rw [hpt];simp only [Bool.and_eq_false_iff,decide_eq_false_iff_not];right;intro Ap;have q:=hyb Ap (by omega);have:=Aa.2 (by omega);cases this);rw [hr2.out];clear hpt hyb Aa hcb PV PA PG;have P1:=wM P1;have P2:=wM P2;have P4:=wM P4;go_enter Tryz.func112,Tryz.ntmps112
  go_wp2
  go_upto_region 3 with fail
  refine Rg.bO 25 [.is (.pointer (some ⟨w.heap.size+1,0,none⟩)),.is (.int .i64 X),.is (.bool true),.is (.bool false),.is (.bool false),.is (.pointer (some ⟨w.heap.size+1,2,none⟩)),.is (.int .i64 E),.is (.bool true),.is (.bool false),.is (.bool false),.is (.bool false),.is (.pointer (some ⟨w.heap.size+1,1,none⟩)),.is (.int .i64 Y),.is (.bool false),.is (.bool true),.is (.bool true),.is (.bool true),.is (undef),.is (undef),.is (undef),.is (undef),.is (undef),.is (undef),.is (undef),.is (.bool true)] (by kernel_rfl) (by kernel_rfl) (by kernel_rfl) ⟨?_,?_,?_,?_,?_,?_,?_,?_,?_,?_,?_,?_,?_,?_,?_,?_,?_,?_,?_,?_,?_,?_,?_,?_,?_,trivial⟩ ?_
  ·intro _ zZ w_ hB hr
   have e3:zZ.tmps[3]?=some (.pointer (some ⟨w.heap.size+1,0,none⟩)):=hr 3 (by decide);exact Rg.aG rfl (by go_simp)
  ·intro _ zZ w_ hB hr
   have e16:=Rg.c_ (hr 16 (by decide));have k0:=aE hB Q.aO.1;exact Rg.aG rfl (by go_simp)
  ·intro _ zZ w_ hB hr
   have e17:=Rg.c_ (hr 17 (by decide));have ec:=Rg.ec zZ;have ef:=Rg.ef zZ;refine Rg.af rfl (by go_simp;exact ⟨rfl,rfl⟩) ?_;refine (P1.out _).mono ?_;rintro e w5 ⟨rfl,rfl⟩;exact ⟨_,rfl,rfl,wP _ _⟩
  ·intro _ zZ w_ hB hr
   have e18:=Rg.c_ (hr 18 (by decide));exact Rg.aG rfl (by go_simp)
  ·intro _ zZ w_ hB hr
   have e19:=Rg.c_ (hr 19 (by decide));exact Rg.aG rfl (by go_simp)
  ·intro _ zZ w_ hB hr
   have e3:zZ.tmps[3]?=some (.pointer (some ⟨w.heap.size+1,0,none⟩)):=hr 3 (by decide);have e20:=Rg.c_ (hr 20 (by decide));exact Rg.aG (Rg.ai (j:=4) (b:=false) rfl (Rg.xN rfl e20)) (by go_simp)
  ·intro _ zZ w_ hB hr
   have e20:=Rg.c_ (hr 20 (by decide));have e21:=Rg.c_ (hr 21 (by decide));have k2:=aE hB Q.aO.2.2;exact Rg.aG (Rg.ai (j:=4) (b:=false) rfl (Rg.xN rfl e20)) (by go_simp)
  ·intro _ zZ w_ hB hr
   have e20:=Rg.c_ (hr 20 (by decide));have e22:=Rg.c_ (hr 22 (by decide));have ec:=Rg.ec zZ;have ef:=Rg.ef zZ;refine Rg.af (Rg.ai (j:=4) (b:=false) rfl (Rg.xN rfl e20)) (by go_simp;exact ⟨rfl,rfl⟩) ?_;refine (P2.out _).mono ?_;rintro e w5 ⟨rfl,rfl⟩;exact ⟨_,rfl,rfl,wP _ _⟩
  ·intro _ zZ w_ hB hr
   have e20:=Rg.c_ (hr 20 (by decide));have e23:=Rg.c_ (hr 23 (by decide));exact Rg.aG (Rg.ai (j:=4) (b:=false) rfl (Rg.xN rfl e20)) (by go_simp)
  ·intro _ zZ w_ hB hr
   have e20:=Rg.c_ (hr 20 (by decide));have e24:=Rg.c_ (hr 24 (by decide));have ec:=Rg.ec zZ;exact Rg.aG rfl (by go_simp)
  ·intro _ zZ w_ hB hr
   have e25:=Rg.c_ (hr 25 (by decide));exact Rg.aG rfl (by go_simp)
  ·intro _ zZ w_ hB hr
   have e3:zZ.tmps[3]?=some (.pointer (some ⟨w.heap.size+1,0,none⟩)):=hr 3 (by decide);have e26:=Rg.c_ (hr 26 (by decide));exact Rg.aG (Rg.ai (j:=10) (b:=false) rfl (Rg.xN rfl e26)) (by go_simp)
  ·intro _ zZ w_ hB hr
   have e26:=Rg.c_ (hr 26 (by decide));have e27:=Rg.c_ (hr 27 (by decide));have k1:=aE hB Q.aO.2.1;exact Rg.aG (Rg.ai (j:=10) (b:=false) rfl (Rg.xN rfl e26)) (by go_simp)
  ·intro _ zZ w_ hB hr
   have e26:=Rg.c_ (hr 26 (by decide));have e28:=Rg.c_ (hr 28 (by decide));have ec:=Rg.ec zZ;have ef:=Rg.ef zZ;refine Rg.af (Rg.ai (j:=10) (b:=false) rfl (Rg.xN rfl e26)) (by go_simp;exact ⟨rfl,rfl⟩) ?_;refine (P4.out _).mono ?_;rintro e w5 ⟨rfl,rfl⟩;exact ⟨_,rfl,rfl,wP _ _⟩
  ·intro _ zZ w_ hB hr
   have e26:=Rg.c_ (hr 26 (by decide));have e29:=Rg.c_ (hr 29 (by decide));exact Rg.aG (Rg.ai (j:=10) (b:=false) rfl (Rg.xN rfl e26)) (by go_simp)
  ·intro _ zZ w_ hB hr
   have e26:=Rg.c_ (hr 26 (by decide));have e30:=Rg.c_ (hr 30 (by decide));have ec:=Rg.ec zZ;exact Rg.aG rfl (by go_simp)
  ·intro _ zZ w_ hB hr
   have e31:=Rg.c_ (hr 31 (by decide));exact Rg.aG rfl (by go_simp)
  ·intro _ zZ w_ hB hr
   have e3:zZ.tmps[3]?=some (.pointer (some ⟨w.heap.size+1,0,none⟩)):=hr 3 (by decide);have e32:=Rg.c_ (hr 32 (by decide));exact Rg.be (Rg.bD (j:=16) (b:=true) rfl (Rg.xN rfl e32))
  ·intro _ zZ w_ hB hr
   have e32:=Rg.c_ (hr 32 (by decide));have e33:=Rg.c_ (hr 33 (by decide));exact Rg.be (Rg.bD (j:=16) (b:=true) rfl (Rg.xN rfl e32))
  ·intro _ zZ w_ hB hr
   have e32:=Rg.c_ (hr 32 (by decide));have e34:=Rg.c_ (hr 34 (by decide));exact Rg.be (Rg.bD (j:=16) (b:=true) rfl (Rg.xN rfl e32))
  ·intro _ zZ w_ hB hr
   have e3:zZ.tmps[3]?=some (.pointer (some ⟨w.heap.size+1,0,none⟩)):=hr 3 (by decide);have e32:=Rg.c_ (hr 32 (by decide));exact Rg.be (Rg.bD (j:=16) (b:=true) rfl (Rg.xN rfl e32))
  ·intro _ zZ w_ hB hr
   have e32:=Rg.c_ (hr 32 (by decide));have e36:=Rg.c_ (hr 36 (by decide));exact Rg.be (Rg.bD (j:=16) (b:=true) rfl (Rg.xN rfl e32))
  ·intro _ zZ w_ hB hr
   have e32:=Rg.c_ (hr 32 (by decide));have e35:=Rg.c_ (hr 35 (by decide));have e37:=Rg.c_ (hr 37 (by decide));exact Rg.be (Rg.bD (j:=16) (b:=true) rfl (Rg.xN rfl e32))
  ·intro _ zZ w_ hB hr
   have e32:=Rg.c_ (hr 32 (by decide));have e38:=Rg.c_ (hr 38 (by decide));have ec:=Rg.ec zZ;exact Rg.be (Rg.bD (j:=16) (b:=true) rfl (Rg.xN rfl e32))
  ·intro _ zZ w_ hB hr
   have e32:=Rg.c_ (hr 32 (by decide));have e39:=Rg.c_ (hr 39 (by decide));have ec:=Rg.ec zZ;exact Rg.aG rfl (by go_simp)
  intro vals wz hB hv hne;have ym:vals 24=.bool true:=hv 24 (by decide);simp only [Rg.bE,Rg.fill,Act.put,Nat.reduceAdd];clear hv;simp only [ym];clear ym;unfold Rg.aZ;go_wp2;go_ret;exact ⟨rfl,d_ B hB⟩
 | true=>
 have PA:=wM PA;have PG:=wM PG
 by_cases hg1:gg=1
 ·have hg2:(gg == 1)=true:=by rw [beq_iff_eq];exact hg1
  rw [hg2,Bool.true_and] at hpt;obtain ⟨y1,y2⟩:=Aa.1 rfl;have Ap:=M.aK (x:=Y) (y:=Y) (m:=10000000) (n:=10000000) (by omega) (by omega) (by omega) (by omega);generalize M.cv a b X E=v at *;have hpt:=wM hpt;rw [hpt.out];clear Aa hyb hcb;have PV:=wM PV;have P1:=wM P1;have P2:=wM P2;have P4:=wM P4;go_enter Tryz.func112,Tryz.ntmps112
  go_wp2
  go_upto_region 3 with fail
  refine Rg.bO 25 [.is (.pointer (some ⟨w.heap.size+1,0,none⟩)),.is (.int .i64 X),.is (.bool true),.is (.bool false),.is (.bool false),.is (.pointer (some ⟨w.heap.size+1,2,none⟩)),.is (.int .i64 E),.is (.bool true),.is (.bool false),.is (.bool false),.is (.bool false),.is (.pointer (some ⟨w.heap.size+1,1,none⟩)),.is (.int .i64 Y),.is (.bool true),.is (.bool false),.is (.bool false),.is (.bool false),.is (.pointer (some ⟨w.heap.size+1,0,none⟩)),.is (.int .i64 X),.is (.int .i64 (X.natAbs:Int)),.is (.pointer (some ⟨w.heap.size+1,2,none⟩)),.is (.int .i64 E),.is (.int .i64 gg),.is (.bool false),.is (.bool false)] (by kernel_rfl) (by kernel_rfl) (by kernel_rfl) ⟨?_,?_,?_,?_,?_,?_,?_,?_,?_,?_,?_,?_,?_,?_,?_,?_,?_,?_,?_,?_,?_,?_,?_,?_,?_,trivial⟩ ?_
  ·intro _ zZ w_ hB hr
   have e3:zZ.tmps[3]?=some (.pointer (some ⟨w.heap.size+1,0,none⟩)):=hr 3 (by decide);exact Rg.aG rfl (by go_simp)
  ·intro _ zZ w_ hB hr
   have e16:=Rg.c_ (hr 16 (by decide));have k0:=aE hB Q.aO.1;exact Rg.aG rfl (by go_simp)
  ·intro _ zZ w_ hB hr
   have e17:=Rg.c_ (hr 17 (by decide));have ec:=Rg.ec zZ;have ef:=Rg.ef zZ;refine Rg.af rfl (by go_simp;exact ⟨rfl,rfl⟩) ?_;refine (P1.out _).mono ?_;rintro e w5 ⟨rfl,rfl⟩;exact ⟨_,rfl,rfl,wP _ _⟩
  ·intro _ zZ w_ hB hr
   have e18:=Rg.c_ (hr 18 (by decide));exact Rg.aG rfl (by go_simp)
  ·intro _ zZ w_ hB hr
   have e19:=Rg.c_ (hr 19 (by decide));exact Rg.aG rfl (by go_simp)
  ·intro _ zZ w_ hB hr
   have e3:zZ.tmps[3]?=some (.pointer (some ⟨w.heap.size+1,0,none⟩)):=hr 3 (by decide);have e20:=Rg.c_ (hr 20 (by decide));exact Rg.aG (Rg.ai (j:=4) (b:=false) rfl (Rg.xN rfl e20)) (by go_simp)
  ·intro _ zZ w_ hB hr
   have e20:=Rg.c_ (hr 20 (by decide));have e21:=Rg.c_ (hr 21 (by decide));have k2:=aE hB Q.aO.2.2;exact Rg.aG (Rg.ai (j:=4) (b:=false) rfl (Rg.xN rfl e20)) (by go_simp)
  ·intro _ zZ w_ hB hr
   have e20:=Rg.c_ (hr 20 (by decide));have e22:=Rg.c_ (hr 22 (by decide));have ec:=Rg.ec zZ;have ef:=Rg.ef zZ;refine Rg.af (Rg.ai (j:=4) (b:=false) rfl (Rg.xN rfl e20)) (by go_simp;exact ⟨rfl,rfl⟩) ?_;refine (P2.out _).mono ?_;rintro e w5 ⟨rfl,rfl⟩;exact ⟨_,rfl,rfl,wP _ _⟩
  ·intro _ zZ w_ hB hr
   have e20:=Rg.c_ (hr 20 (by decide));have e23:=Rg.c_ (hr 23 (by decide));exact Rg.aG (Rg.ai (j:=4) (b:=false) rfl (Rg.xN rfl e20)) (by go_simp)
  ·intro _ zZ w_ hB hr
   have e20:=Rg.c_ (hr 20 (by decide));have e24:=Rg.c_ (hr 24 (by decide));have ec:=Rg.ec zZ;exact Rg.aG rfl (by go_simp)
  ·intro _ zZ w_ hB hr
   have e25:=Rg.c_ (hr 25 (by decide));exact Rg.aG rfl (by go_simp)
  ·intro _ zZ w_ hB hr
   have e3:zZ.tmps[3]?=some (.pointer (some ⟨w.heap.size+1,0,none⟩)):=hr 3 (by decide);have e26:=Rg.c_ (hr 26 (by decide));exact Rg.aG (Rg.ai (j:=10) (b:=false) rfl (Rg.xN rfl e26)) (by go_simp)
  ·intro _ zZ w_ hB hr
   have e26:=Rg.c_ (hr 26 (by decide));have e27:=Rg.c_ (hr 27 (by decide));have k1:=aE hB Q.aO.2.1;exact Rg.aG (Rg.ai (j:=10) (b:=false) rfl (Rg.xN rfl e26)) (by go_simp)
  ·intro _ zZ w_ hB hr
   have e26:=Rg.c_ (hr 26 (by decide));have e28:=Rg.c_ (hr 28 (by decide));have ec:=Rg.ec zZ;have ef:=Rg.ef zZ;refine Rg.af (Rg.ai (j:=10) (b:=false) rfl (Rg.xN rfl e26)) (by go_simp;exact ⟨rfl,rfl⟩) ?_;refine (P4.out _).mono ?_;rintro e w5 ⟨rfl,rfl⟩;exact ⟨_,rfl,rfl,wP _ _⟩
  ·intro _ zZ w_ hB hr
   have e26:=Rg.c_ (hr 26 (by decide));have e29:=Rg.c_ (hr 29 (by decide));exact Rg.aG (Rg.ai (j:=10) (b:=false) rfl (Rg.xN rfl e26)) (by go_simp)
  ·intro _ zZ w_ hB hr
   have e26:=Rg.c_ (hr 26 (by decide));have e30:=Rg.c_ (hr 30 (by decide));have ec:=Rg.ec zZ;exact Rg.aG rfl (by go_simp)
  ·intro _ zZ w_ hB hr
   have e31:=Rg.c_ (hr 31 (by decide));exact Rg.aG rfl (by go_simp)
  ·intro _ zZ w_ hB hr
   have e3:zZ.tmps[3]?=some (.pointer (some ⟨w.heap.size+1,0,none⟩)):=hr 3 (by decide);have e32:=Rg.c_ (hr 32 (by decide));exact Rg.aG (Rg.ai (j:=16) (b:=false) rfl (Rg.xN rfl e32)) (by go_simp)
  ·intro _ zZ w_ hB hr
   have e32:=Rg.c_ (hr 32 (by decide));have e33:=Rg.c_ (hr 33 (by decide));have k0:=aE hB Q.aO.1;exact Rg.aG (Rg.ai (j:=16) (b:=false) rfl (Rg.xN rfl e32)) (by go_simp)
  ·intro _ zZ w_ hB hr
   have e32:=Rg.c_ (hr 32 (by decide));have e34:=Rg.c_ (hr 34 (by decide));have ef:=Rg.ef zZ;refine Rg.af (Rg.ai (j:=16) (b:=false) rfl (Rg.xN rfl e32)) (by go_simp;exact ⟨rfl,rfl⟩) ?_;refine (PA.out _).mono ?_;rintro e w5 ⟨rfl,rfl⟩;exact ⟨_,rfl,rfl,wP _ _⟩
  ·intro _ zZ w_ hB hr
   have e3:zZ.tmps[3]?=some (.pointer (some ⟨w.heap.size+1,0,none⟩)):=hr 3 (by decide);have e32:=Rg.c_ (hr 32 (by decide));exact Rg.aG (Rg.ai (j:=16) (b:=false) rfl (Rg.xN rfl e32)) (by go_simp)
  ·intro _ zZ w_ hB hr
   have e32:=Rg.c_ (hr 32 (by decide));have e36:=Rg.c_ (hr 36 (by decide));have k2:=aE hB Q.aO.2.2;exact Rg.aG (Rg.ai (j:=16) (b:=false) rfl (Rg.xN rfl e32)) (by go_simp)
  ·intro _ zZ w_ hB hr
   have e32:=Rg.c_ (hr 32 (by decide));have e35:=Rg.c_ (hr 35 (by decide));have e37:=Rg.c_ (hr 37 (by decide));have ef:=Rg.ef zZ;refine Rg.af (Rg.ai (j:=16) (b:=false) rfl (Rg.xN rfl e32)) (by go_simp;exact ⟨rfl,rfl⟩) ?_;refine (PG.out _).mono ?_;rintro e w5 ⟨rfl,rfl⟩;exact ⟨_,rfl,rfl,wP _ _⟩
  ·intro _ zZ w_ hB hr
   have e32:=Rg.c_ (hr 32 (by decide));have e38:=Rg.c_ (hr 38 (by decide));have ec:=Rg.ec zZ;exact Rg.aG (Rg.ai (j:=16) (b:=false) rfl (Rg.xN rfl e32)) (by go_simp;first | done | rfl | (simp [hg1];done))
  ·intro _ zZ w_ hB hr
   have e32:=Rg.c_ (hr 32 (by decide));have e39:=Rg.c_ (hr 39 (by decide));have ec:=Rg.ec zZ;exact Rg.aG rfl (by go_simp)
  intro vals wz hB hv hne;have ym:vals 24=.bool false:=hv 24 (by decide);simp only [Rg.bE,Rg.fill,Act.put,Nat.reduceAdd];clear hv;simp only [ym];clear ym;unfold Rg.aZ;replace C:=C.keep hB;replace Q:=Q.keep hB;replace B:=d_ B hB;clear hB
  go_upto_region 5 with fail
  refine Rg.bO 13 [.is (.pointer (some ⟨w.heap.size+1,1,none⟩)),.is (.int .i64 Y),.is (.pointer (some ⟨w.heap.size+1,1,none⟩)),.is (.int .i64 Y),.is (.int .i64 (Y*Y)),.is (.agg #[.int .i64 a,.int .i64 b]),.is (.pointer (some ⟨w.heap.size+1,0,none⟩)),.is (.int .i64 X),.is (.pointer (some ⟨w.heap.size+1,2,none⟩)),.is (.int .i64 E),.is (.int .i64 v),.is (.bool (decide (Y*Y=v))),.is (.bool (decide (Y*Y=v)))] (by kernel_rfl) (by kernel_rfl) (by kernel_rfl) ⟨?_,?_,?_,?_,?_,?_,?_,?_,?_,?_,?_,?_,?_,trivial⟩ ?_
  ·intro _ zZ w_ hB hr
   have e3:zZ.tmps[3]?=some (.pointer (some ⟨w.heap.size+1,0,none⟩)):=hr 3 (by decide);exact Rg.aG rfl (by go_simp)
  ·intro _ zZ w_ hB hr
   have e41:=Rg.c_ (hr 41 (by decide));have k1:=aE hB Q.aO.2.1;exact Rg.aG rfl (by go_simp)
  ·intro _ zZ w_ hB hr
   have e3:zZ.tmps[3]?=some (.pointer (some ⟨w.heap.size+1,0,none⟩)):=hr 3 (by decide);exact Rg.aG rfl (by go_simp)
  ·intro _ zZ w_ hB hr
   have e43:=Rg.c_ (hr 43 (by decide));have k1:=aE hB Q.aO.2.1;exact Rg.aG rfl (by go_simp)
  ·intro _ zZ w_ hB hr
   have e42:=Rg.c_ (hr 42 (by decide));have e44:=Rg.c_ (hr 44 (by decide));exact Rg.aG rfl (by go_simp <;> exact Rg.wo (by omega))
  ·intro _ zZ w_ hB hr
   have e2:zZ.tmps[2]?=some (.pointer (some ⟨w.heap.size,0,none⟩)):=hr 2 (by decide);have k0:=aE hB C.box.c0;have k1:=aE hB C.box.c1;exact Rg.aG rfl (by go_simp)
  ·intro _ zZ w_ hB hr
   have e3:zZ.tmps[3]?=some (.pointer (some ⟨w.heap.size+1,0,none⟩)):=hr 3 (by decide);exact Rg.aG rfl (by go_simp)
  ·intro _ zZ w_ hB hr
   have e47:=Rg.c_ (hr 47 (by decide));have k0:=aE hB Q.aO.1;exact Rg.aG rfl (by go_simp)
  ·intro _ zZ w_ hB hr
   have e3:zZ.tmps[3]?=some (.pointer (some ⟨w.heap.size+1,0,none⟩)):=hr 3 (by decide);exact Rg.aG rfl (by go_simp)
  ·intro _ zZ w_ hB hr
   have e49:=Rg.c_ (hr 49 (by decide));have k2:=aE hB Q.aO.2.2;exact Rg.aG rfl (by go_simp)
  ·intro _ zZ w_ hB hr
   have e46:=Rg.c_ (hr 46 (by decide));have e48:=Rg.c_ (hr 48 (by decide));have e50:=Rg.c_ (hr 50 (by decide));have ef:=Rg.ef zZ;exact Rg.bp rfl (by go_simp) (PV.out _)
  ·intro _ zZ w_ hB hr
   have e45:=Rg.c_ (hr 45 (by decide));have e51:=Rg.c_ (hr 51 (by decide));exact Rg.aG rfl (by go_simp;first | done | rfl | (by_cases wt:Y*Y=v <;> simp [wt];done))
  ·intro _ zZ w_ hB hr
   have e52:=Rg.c_ (hr 52 (by decide));exact Rg.aG rfl (by go_simp)
  intro vals wy DI hv hne;have DA:vals 12=.bool (decide (Y*Y=v)):=hv 12 (by decide);simp only [Rg.bE,Rg.fill,Act.put,Nat.reduceAdd];clear hv;simp only [DA];clear DA;unfold Rg.aZ;go_wp2;go_ret;exact ⟨rfl,d_ B DI⟩
 have hg2:(gg == 1)=false:=by rw [beq_eq_false_iff_ne];exact hg1
 have hr2:=wM (show M.bB a b X Y E=false by rw [hpt,hg2];rfl);rw [hr2.out];clear hpt hyb Aa hcb PV;have P1:=wM P1;have P2:=wM P2;have P4:=wM P4;go_enter Tryz.func112,Tryz.ntmps112
 go_wp2
 go_upto_region 3 with fail
 refine Rg.bO 25 [.is (.pointer (some ⟨w.heap.size+1,0,none⟩)),.is (.int .i64 X),.is (.bool true),.is (.bool false),.is (.bool false),.is (.pointer (some ⟨w.heap.size+1,2,none⟩)),.is (.int .i64 E),.is (.bool true),.is (.bool false),.is (.bool false),.is (.bool false),.is (.pointer (some ⟨w.heap.size+1,1,none⟩)),.is (.int .i64 Y),.is (.bool true),.is (.bool false),.is (.bool false),.is (.bool false),.is (.pointer (some ⟨w.heap.size+1,0,none⟩)),.is (.int .i64 X),.is (.int .i64 (X.natAbs:Int)),.is (.pointer (some ⟨w.heap.size+1,2,none⟩)),.is (.int .i64 E),.is (.int .i64 gg),.is (.bool true),.is (.bool true)] (by kernel_rfl) (by kernel_rfl) (by kernel_rfl) ⟨?_,?_,?_,?_,?_,?_,?_,?_,?_,?_,?_,?_,?_,?_,?_,?_,?_,?_,?_,?_,?_,?_,?_,?_,?_,trivial⟩ ?_
 ·intro _ zZ w_ hB hr
  have e3:zZ.tmps[3]?=some (.pointer (some ⟨w.heap.size+1,0,none⟩)):=hr 3 (by decide);exact Rg.aG rfl (by go_simp)
 ·intro _ zZ w_ hB hr
  have e16:=Rg.c_ (hr 16 (by decide));have k0:=aE hB Q.aO.1;exact Rg.aG rfl (by go_simp)
 ·intro _ zZ w_ hB hr
  have e17:=Rg.c_ (hr 17 (by decide));have ec:=Rg.ec zZ;have ef:=Rg.ef zZ;refine Rg.af rfl (by go_simp;exact ⟨rfl,rfl⟩) ?_;refine (P1.out _).mono ?_;rintro e w5 ⟨rfl,rfl⟩;exact ⟨_,rfl,rfl,wP _ _⟩
 ·intro _ zZ w_ hB hr
  have e18:=Rg.c_ (hr 18 (by decide));exact Rg.aG rfl (by go_simp)
 ·intro _ zZ w_ hB hr
  have e19:=Rg.c_ (hr 19 (by decide));exact Rg.aG rfl (by go_simp)
 ·intro _ zZ w_ hB hr
  have e3:zZ.tmps[3]?=some (.pointer (some ⟨w.heap.size+1,0,none⟩)):=hr 3 (by decide);have e20:=Rg.c_ (hr 20 (by decide));exact Rg.aG (Rg.ai (j:=4) (b:=false) rfl (Rg.xN rfl e20)) (by go_simp)
 ·intro _ zZ w_ hB hr
  have e20:=Rg.c_ (hr 20 (by decide));have e21:=Rg.c_ (hr 21 (by decide));have k2:=aE hB Q.aO.2.2;exact Rg.aG (Rg.ai (j:=4) (b:=false) rfl (Rg.xN rfl e20)) (by go_simp)
 ·intro _ zZ w_ hB hr
  have e20:=Rg.c_ (hr 20 (by decide));have e22:=Rg.c_ (hr 22 (by decide));have ec:=Rg.ec zZ;have ef:=Rg.ef zZ;refine Rg.af (Rg.ai (j:=4) (b:=false) rfl (Rg.xN rfl e20)) (by go_simp;exact ⟨rfl,rfl⟩) ?_;refine (P2.out _).mono ?_;rintro e w5 ⟨rfl,rfl⟩;exact ⟨_,rfl,rfl,wP _ _⟩
 ·intro _ zZ w_ hB hr
  have e20:=Rg.c_ (hr 20 (by decide));have e23:=Rg.c_ (hr 23 (by decide));exact Rg.aG (Rg.ai (j:=4) (b:=false) rfl (Rg.xN rfl e20)) (by go_simp)
 ·intro _ zZ w_ hB hr
  have e20:=Rg.c_ (hr 20 (by decide));have e24:=Rg.c_ (hr 24 (by decide));have ec:=Rg.ec zZ;exact Rg.aG rfl (by go_simp)
 ·intro _ zZ w_ hB hr
  have e25:=Rg.c_ (hr 25 (by decide));exact Rg.aG rfl (by go_simp)
 ·intro _ zZ w_ hB hr
  have e3:zZ.tmps[3]?=some (.pointer (some ⟨w.heap.size+1,0,none⟩)):=hr 3 (by decide);have e26:=Rg.c_ (hr 26 (by decide));exact Rg.aG (Rg.ai (j:=10) (b:=false) rfl (Rg.xN rfl e26)) (by go_simp)
 ·intro _ zZ w_ hB hr
  have e26:=Rg.c_ (hr 26 (by decide));have e27:=Rg.c_ (hr 27 (by decide));have k1:=aE hB Q.aO.2.1;exact Rg.aG (Rg.ai (j:=10) (b:=false) rfl (Rg.xN rfl e26)) (by go_simp)
 ·intro _ zZ w_ hB hr
  have e26:=Rg.c_ (hr 26 (by decide));have e28:=Rg.c_ (hr 28 (by decide));have ec:=Rg.ec zZ;have ef:=Rg.ef zZ;refine Rg.af (Rg.ai (j:=10) (b:=false) rfl (Rg.xN rfl e26)) (by go_simp;exact ⟨rfl,rfl⟩) ?_;refine (P4.out _).mono ?_;rintro e w5 ⟨rfl,rfl⟩;exact ⟨_,rfl,rfl,wP _ _⟩
 ·intro _ zZ w_ hB hr
  have e26:=Rg.c_ (hr 26 (by decide));have e29:=Rg.c_ (hr 29 (by decide));exact Rg.aG (Rg.ai (j:=10) (b:=false) rfl (Rg.xN rfl e26)) (by go_simp)
 ·intro _ zZ w_ hB hr
  have e26:=Rg.c_ (hr 26 (by decide));have e30:=Rg.c_ (hr 30 (by decide));have ec:=Rg.ec zZ;exact Rg.aG rfl (by go_simp)
 ·intro _ zZ w_ hB hr
  have e31:=Rg.c_ (hr 31 (by decide));exact Rg.aG rfl (by go_simp)
 ·intro _ zZ w_ hB hr
  have e3:zZ.tmps[3]?=some (.pointer (some ⟨w.heap.size+1,0,none⟩)):=hr 3 (by decide);have e32:=Rg.c_ (hr 32 (by decide));exact Rg.aG (Rg.ai (j:=16) (b:=false) rfl (Rg.xN rfl e32)) (by go_simp)
 ·intro _ zZ w_ hB hr
  have e32:=Rg.c_ (hr 32 (by decide));have e33:=Rg.c_ (hr 33 (by decide));have k0:=aE hB Q.aO.1;exact Rg.aG (Rg.ai (j:=16) (b:=false) rfl (Rg.xN rfl e32)) (by go_simp)
 ·intro _ zZ w_ hB hr
  have e32:=Rg.c_ (hr 32 (by decide));have e34:=Rg.c_ (hr 34 (by decide));have ef:=Rg.ef zZ;refine Rg.af (Rg.ai (j:=16) (b:=false) rfl (Rg.xN rfl e32)) (by go_simp;exact ⟨rfl,rfl⟩) ?_;refine (PA.out _).mono ?_;rintro e w5 ⟨rfl,rfl⟩;exact ⟨_,rfl,rfl,wP _ _⟩
 ·intro _ zZ w_ hB hr
  have e3:zZ.tmps[3]?=some (.pointer (some ⟨w.heap.size+1,0,none⟩)):=hr 3 (by decide);have e32:=Rg.c_ (hr 32 (by decide));exact Rg.aG (Rg.ai (j:=16) (b:=false) rfl (Rg.xN rfl e32)) (by go_simp)
 ·intro _ zZ w_ hB hr
  have e32:=Rg.c_ (hr 32 (by decide));have e36:=Rg.c_ (hr 36 (by decide));have k2:=aE hB Q.aO.2.2;exact Rg.aG (Rg.ai (j:=16) (b:=false) rfl (Rg.xN rfl e32)) (by go_simp)
 ·intro _ zZ w_ hB hr
  have e32:=Rg.c_ (hr 32 (by decide));have e35:=Rg.c_ (hr 35 (by decide));have e37:=Rg.c_ (hr 37 (by decide));have ef:=Rg.ef zZ;refine Rg.af (Rg.ai (j:=16) (b:=false) rfl (Rg.xN rfl e32)) (by go_simp;exact ⟨rfl,rfl⟩) ?_;refine (PG.out _).mono ?_;rintro e w5 ⟨rfl,rfl⟩;exact ⟨_,rfl,rfl,wP _ _⟩
 ·intro _ zZ w_ hB hr
  have e32:=Rg.c_ (hr 32 (by decide));have e38:=Rg.c_ (hr 38 (by decide));have ec:=Rg.ec zZ;exact Rg.aG (Rg.ai (j:=16) (b:=false) rfl (Rg.xN rfl e32)) (by go_simp;first | done | rfl | (simp [hg1];done))
 ·intro _ zZ w_ hB hr
  have e32:=Rg.c_ (hr 32 (by decide));have e39:=Rg.c_ (hr 39 (by decide));have ec:=Rg.ec zZ;exact Rg.aG rfl (by go_simp)
 intro vals wz hB hv hne;have ym:vals 24=.bool true:=hv 24 (by decide);simp only [Rg.bE,Rg.fill,Act.put,Nat.reduceAdd];clear hv;simp only [ym];clear ym;unfold Rg.aZ;go_wp2;go_ret;exact ⟨rfl,d_ B hB⟩
theorem d7 (a b X Y E:Int) (w:World) :
  Calls Tryz.prog 62 #[.agg #[.int .i64 a,.int .i64 b],.agg #[.int .i64 X,.int .i64 Y,.int .i64 E]] w fun e w'=>e=.returned (.bool (M.good a b && M.bB a b X Y E))∧Below w.heap.size w w':=by
 have PC:=fun W=>dq a b W
 have PO:=fun W=>uj a b X Y E W
 have C:=(aH.new w #[.int .i64 a,.int .i64 b] 25).alloc (.cells #[.int .i64 X,.int .i64 Y,.int .i64 E] 27)
 have Q:=(aH.new (w.alloc (.cells #[.int .i64 a,.int .i64 b] 25)) #[.int .i64 X,.int .i64 Y,.int .i64 E] 27)
 rw [wN] at Q;have B:=((wP w.heap.size w).alloc (wQ _) (.cells #[.int .i64 a,.int .i64 b] 25)).alloc (by rw [wN];omega) (.cells #[.int .i64 X,.int .i64 Y,.int .i64 E] 27);generalize hw3:(w.alloc (.cells #[.int .i64 a,.int .i64 b] 25)).alloc (.cells #[.int .i64 X,.int .i64 Y,.int .i64 E] 27)=wc at *;have ⟨q0,q1,q2⟩:=Q.aO;have f_:=C.box.c0;have g_:=C.box.c1
 cases hgd:M.good a b with
 | false=>
  rw [hgd] at PC;have PC:=wM PC;clear PO;go_enter Tryz.func62,Tryz.ntmps62
  go_wp2_with (go_at_call 77;(with_reducible refine (PC.out _).mono ?_);rintro e w4 ⟨rfl,hb4⟩;replace C:=C.keep hb4;replace B:=d_ B hb4;replace Q:=Q.keep hb4;(have ⟨z0,z1,z2⟩:=Q.aO);(replace ⟨f_,g_⟩:=C.b2))
  go_ret;exact ⟨rfl,B⟩
 | true=>
 rw [hgd] at PC;have PC:=wM PC
 have PO:=fun W=>PO W hgd
 generalize M.bB a b X Y E=pp at *;have PO:=wM PO;clear hgd;go_enter Tryz.func62,Tryz.ntmps62
 go_wp2_with (first
  | (go_at_call 77;(with_reducible refine (PC.out _).mono ?_);rintro e w4 ⟨rfl,hb4⟩;replace C:=C.keep hb4;replace B:=d_ B hb4;replace Q:=Q.keep hb4;(have ⟨z0,z1,z2⟩:=Q.aO);(replace ⟨f_,g_⟩:=C.b2))
  | (go_at_call 112;(with_reducible refine (PO.out _).mono ?_);rintro e w5 ⟨rfl,hb5⟩;replace B:=d_ B hb5))
 go_ret;exact ⟨rfl,B⟩
theorem mn (X Y E:Int) (w:World) (h1:-4000000000000000000≤Y) (h2:Y≤4000000000000000000) :
  Calls Tryz.prog 88 #[.agg #[.int .i64 X,.int .i64 Y,.int .i64 E]] w fun e w'=>e=.returned (.agg #[.int .i64 X,.int .i64 (-Y),.int .i64 E])∧Below w.heap.size w w':=by
 go_enter Tryz.func88,Tryz.ntmps88
 go_wp2;exact bodyPost_ret (v:=.agg #[.int .i64 X,.int .i64 (-Y),.int .i64 E]) (by simp [results,Tryz.results88,go_sem, *]) rfl (⟨rfl,(by repeat (first | exact wP _ _ | refine aQ ?_ _ | refine aS ?_ (by assumption) | refine Below.drew ?_ | refine wO ?_ (by first | exact wQ _ | exact Nat.le_add_right _ _ | (simp <;> omega)) _ | refine aM ?_ _))⟩)
namespace M
def sN (a X1 Y1 E1 X2 Y2 E2:Int):Int:=if X1=X2∧Y1=Y2∧E1=E2 then 3*X1*X1+a*E1*E1*E1*E1 else Y2*E1*E1*E1 - Y1*E2*E2*E2
def sD (X1 Y1 E1 X2 Y2 E2:Int):Int:=if X1=X2∧Y1=Y2∧E1=E2 then 2*Y1*E1 else E1*E2*(X2*E1*E1 - X1*E2*E2)
end M
theorem M.un {a X1 Y1 E1 X2 Y2 E2:Int} (ha1:-1000≤a) (ha2:a≤1000) (hx1:-10000≤X1) (hx2:X1≤10000) (hy1:-3000000≤Y1) (hy2:Y1≤3000000) (he1:1≤E1) (he2:E1≤20) (hx3:-10000≤X2) (hx4:X2≤10000) (hy3:-3000000≤Y2) (hy4:Y2≤3000000) (AZ:1≤E2) (Ay:E2≤20):-200000000000≤M.sN a X1 Y1 E1 X2 Y2 E2∧M.sN a X1 Y1 E1 X2 Y2 E2≤200000000000∧-200000000000≤M.sD X1 Y1 E1 X2 Y2 E2∧M.sD X1 Y1 E1 X2 Y2 E2≤200000000000:=by
 have sb1:=M.aK (x:=Y2) (y:=E1) (m:=3000000) (n:=20) (by omega) (by omega) (by omega) (by omega);have IM:=M.aK (x:=Y2*E1) (y:=E1) (m:=60000000) (n:=20) (by omega) (by omega) (by omega) (by omega);have IP:=M.aK (x:=Y2*E1*E1) (y:=E1) (m:=1200000000) (n:=20) (by omega) (by omega) (by omega) (by omega);have IQ:=M.aK (x:=Y1) (y:=E2) (m:=3000000) (n:=20) (by omega) (by omega) (by omega) (by omega);have IR:=M.aK (x:=Y1*E2) (y:=E2) (m:=60000000) (n:=20) (by omega) (by omega) (by omega) (by omega);have IU:=M.aK (x:=Y1*E2*E2) (y:=E2) (m:=1200000000) (n:=20) (by omega) (by omega) (by omega) (by omega);have IV:=M.aK (x:=E1) (y:=E2) (m:=20) (n:=20) (by omega) (by omega) (by omega) (by omega);have IW:=M.aK (x:=X2) (y:=E1) (m:=10000) (n:=20) (by omega) (by omega) (by omega) (by omega);have IX:=M.aK (x:=X2*E1) (y:=E1) (m:=200000) (n:=20) (by omega) (by omega) (by omega) (by omega);have Dy:=M.aK (x:=X1) (y:=E2) (m:=10000) (n:=20) (by omega) (by omega) (by omega) (by omega);have Dz:=M.aK (x:=X1*E2) (y:=E2) (m:=200000) (n:=20) (by omega) (by omega) (by omega) (by omega);have D1:=M.aK (x:=E1*E2) (y:=X2*E1*E1 - X1*E2*E2) (m:=400) (n:=8000000) (by omega) (by omega) (by omega) (by omega);have D2:=M.aK (x:=3) (y:=X1) (m:=3) (n:=10000) (by omega) (by omega) (by omega) (by omega);have D3:=M.aK (x:=3*X1) (y:=X1) (m:=30000) (n:=10000) (by omega) (by omega) (by omega) (by omega);have D4:=M.aK (x:=a) (y:=E1) (m:=1000) (n:=20) (by omega) (by omega) (by omega) (by omega);have D5:=M.aK (x:=a*E1) (y:=E1) (m:=20000) (n:=20) (by omega) (by omega) (by omega) (by omega);have Fd:=M.aK (x:=a*E1*E1) (y:=E1) (m:=400000) (n:=20) (by omega) (by omega) (by omega) (by omega);have Fe:=M.aK (x:=a*E1*E1*E1) (y:=E1) (m:=8000000) (n:=20) (by omega) (by omega) (by omega) (by omega);have Ff:=M.aK (x:=2) (y:=Y1) (m:=2) (n:=3000000) (by omega) (by omega) (by omega) (by omega);have Fg:=M.aK (x:=2*Y1) (y:=E1) (m:=6000000) (n:=20) (by omega) (by omega) (by omega) (by omega);unfold M.sN M.sD
 split <;> omega
theorem tR (a b X1 Y1 E1 X2 Y2 E2:Int) (w:World) (ha1:-1000≤a) (ha2:a≤1000) (hx1:-10000≤X1) (hx2:X1≤10000) (hy1:-3000000≤Y1) (hy2:Y1≤3000000) (he1:1≤E1) (he2:E1≤20) (hx3:-10000≤X2) (hx4:X2≤10000) (hy3:-3000000≤Y2) (hy4:Y2≤3000000) (AZ:1≤E2) (Ay:E2≤20) :
  Calls Tryz.prog 137 #[.agg #[.int .i64 a,.int .i64 b],.agg #[.int .i64 X1,.int .i64 Y1,.int .i64 E1],.agg #[.int .i64 X2,.int .i64 Y2,.int .i64 E2]] w fun e w'=>e=.returned (.tuple #[.int .i64 (M.sN a X1 Y1 E1 X2 Y2 E2),.int .i64 (M.sD X1 Y1 E1 X2 Y2 E2)])∧Below w.heap.size w w':=by
 have hcase:(X1=X2∧Y1=Y2∧E1=E2)∨¬ (X1=X2∧Y1=Y2∧E1=E2):=Classical.em _
 rcases hcase with hsame | AG
 ·have e1:=wM (show M.sN a X1 Y1 E1 X2 Y2 E2=3*X1*X1+a*E1*E1*E1*E1 from if_pos hsame)
  have e2:=wM (show M.sD X1 Y1 E1 X2 Y2 E2=2*Y1*E1 from if_pos hsame);rw [e1.out,e2.out];obtain ⟨rfl,rfl,rfl⟩:=hsame;clear e1 e2 hx3 hx4 hy3 hy4 AZ Ay;have Fh:=M.aK (x:=3) (y:=X1) (m:=3) (n:=10000) (by omega) (by omega) (by omega) (by omega);have Fi:=M.aK (x:=3*X1) (y:=X1) (m:=30000) (n:=10000) (by omega) (by omega) (by omega) (by omega);have Fj:=M.aK (x:=a) (y:=E1) (m:=1000) (n:=20) (by omega) (by omega) (by omega) (by omega);have Fk:=M.aK (x:=a*E1) (y:=E1) (m:=20000) (n:=20) (by omega) (by omega) (by omega) (by omega);have Fl:=M.aK (x:=a*E1*E1) (y:=E1) (m:=400000) (n:=20) (by omega) (by omega) (by omega) (by omega);have Fm:=M.aK (x:=a*E1*E1*E1) (y:=E1) (m:=8000000) (n:=20) (by omega) (by omega) (by omega) (by omega);have Fn:=M.aK (x:=2) (y:=Y1) (m:=2) (n:=3000000) (by omega) (by omega) (by omega) (by omega);have HK:=M.aK (x:=2*Y1) (y:=E1) (m:=6000000) (n:=20) (by omega) (by omega) (by omega) (by omega);have C:=((aH.new w #[.int .i64 a,.int .i64 b] 25).alloc (.cells #[.int .i64 X1,.int .i64 Y1,.int .i64 E1] 27)).alloc (.cells #[.int .i64 X1,.int .i64 Y1,.int .i64 E1] 27);have Q:=(aH.new (w.alloc (.cells #[.int .i64 a,.int .i64 b] 25)) #[.int .i64 X1,.int .i64 Y1,.int .i64 E1] 27).alloc (.cells #[.int .i64 X1,.int .i64 Y1,.int .i64 E1] 27);rw [wN] at Q;have U:=aH.new ((w.alloc (.cells #[.int .i64 a,.int .i64 b] 25)).alloc (.cells #[.int .i64 X1,.int .i64 Y1,.int .i64 E1] 27)) #[.int .i64 X1,.int .i64 Y1,.int .i64 E1] 27;rw [wN,wN] at U;have B:=(((wP w.heap.size w).alloc (wQ _) (.cells #[.int .i64 a,.int .i64 b] 25)).alloc (by rw [wN];omega) (.cells #[.int .i64 X1,.int .i64 Y1,.int .i64 E1] 27)).alloc (by rw [wN,wN];omega) (.cells #[.int .i64 X1,.int .i64 Y1,.int .i64 E1] 27);generalize hw3:((w.alloc (.cells #[.int .i64 a,.int .i64 b] 25)).alloc (.cells #[.int .i64 X1,.int .i64 Y1,.int .i64 E1] 27)).alloc (.cells #[.int .i64 X1,.int .i64 Y1,.int .i64 E1] 27)=wc at *;have ⟨q0,q1,q2⟩:=Q.aO;have ⟨u0,u1,u2⟩:=U.aO;have f_:=C.box.c0;have g_:=C.box.c1;go_enter Tryz.func137,Tryz.ntmps137
  go_wp2
  go_upto_region 2 with fail
  refine Rg.bO 29 [.is (.pointer (some ⟨w.heap.size+1,0,none⟩)),.is (.int .i64 X1),.is (.int .i64 (3*X1)),.is (.pointer (some ⟨w.heap.size+1,0,none⟩)),.is (.int .i64 X1),.is (.int .i64 ((3*X1)*X1)),.is (.pointer (some ⟨w.heap.size,0,none⟩)),.is (.int .i64 a),.is (.pointer (some ⟨w.heap.size+1,2,none⟩)),.is (.int .i64 E1),.is (.int .i64 (a*E1)),.is (.pointer (some ⟨w.heap.size+1,2,none⟩)),.is (.int .i64 E1),.is (.int .i64 ((a*E1)*E1)),.is (.pointer (some ⟨w.heap.size+1,2,none⟩)),.is (.int .i64 E1),.is (.int .i64 (((a*E1)*E1)*E1)),.is (.pointer (some ⟨w.heap.size+1,2,none⟩)),.is (.int .i64 E1),.is (.int .i64 ((((a*E1)*E1)*E1)*E1)),.is (.int .i64 (((3*X1)*X1)+((((a*E1)*E1)*E1)*E1))),.is (.pointer (some ⟨w.heap.size+1,1,none⟩)),.is (.int .i64 Y1),.is (.int .i64 (2*Y1)),.is (.pointer (some ⟨w.heap.size+1,2,none⟩)),.is (.int .i64 E1),.is (.int .i64 ((2*Y1)*E1)),.is (.int .i64 (((3*X1)*X1)+((((a*E1)*E1)*E1)*E1))),.is (.int .i64 ((2*Y1)*E1))] (by kernel_rfl) (by kernel_rfl) (by kernel_rfl) ⟨?_,?_,?_,?_,?_,?_,?_,?_,?_,?_,?_,?_,?_,?_,?_,?_,?_,?_,?_,?_,?_,?_,?_,?_,?_,?_,?_,?_,?_,trivial⟩ ?_
  ·intro _ zZ w_ hB hr
   have e4:zZ.tmps[4]?=some (.pointer (some ⟨w.heap.size+1,0,none⟩)):=hr 4 (by decide);exact Rg.aG rfl (by go_simp)
  ·intro _ zZ w_ hB hr
   have e13:=Rg.c_ (hr 13 (by decide));have k0:=aE hB Q.aO.1;exact Rg.aG rfl (by go_simp)
  ·intro _ zZ w_ hB hr
   have e14:=Rg.c_ (hr 14 (by decide));have ec:=Rg.ec zZ;exact Rg.aG rfl (by go_simp <;> exact Rg.wo (by omega))
  ·intro _ zZ w_ hB hr
   have e4:zZ.tmps[4]?=some (.pointer (some ⟨w.heap.size+1,0,none⟩)):=hr 4 (by decide);exact Rg.aG rfl (by go_simp)
  ·intro _ zZ w_ hB hr
   have e16:=Rg.c_ (hr 16 (by decide));have k0:=aE hB Q.aO.1;exact Rg.aG rfl (by go_simp)
  ·intro _ zZ w_ hB hr
   have e15:=Rg.c_ (hr 15 (by decide));have e17:=Rg.c_ (hr 17 (by decide));exact Rg.aG rfl (by go_simp <;> exact Rg.wo (by omega))
  ·intro _ zZ w_ hB hr
   have e3:zZ.tmps[3]?=some (.pointer (some ⟨w.heap.size,0,none⟩)):=hr 3 (by decide);exact Rg.aG rfl (by go_simp)
  ·intro _ zZ w_ hB hr
   have e19:=Rg.c_ (hr 19 (by decide));have k0:=aE hB C.box.c0;exact Rg.aG rfl (by go_simp)
  ·intro _ zZ w_ hB hr
   have e4:zZ.tmps[4]?=some (.pointer (some ⟨w.heap.size+1,0,none⟩)):=hr 4 (by decide);exact Rg.aG rfl (by go_simp)
  ·intro _ zZ w_ hB hr
   have e21:=Rg.c_ (hr 21 (by decide));have k2:=aE hB Q.aO.2.2;exact Rg.aG rfl (by go_simp)
  ·intro _ zZ w_ hB hr
   have e20:=Rg.c_ (hr 20 (by decide));have e22:=Rg.c_ (hr 22 (by decide));exact Rg.aG rfl (by go_simp <;> exact Rg.wo (by omega))
  ·intro _ zZ w_ hB hr
   have e4:zZ.tmps[4]?=some (.pointer (some ⟨w.heap.size+1,0,none⟩)):=hr 4 (by decide);exact Rg.aG rfl (by go_simp)
  ·intro _ zZ w_ hB hr
   have e24:=Rg.c_ (hr 24 (by decide));have k2:=aE hB Q.aO.2.2;exact Rg.aG rfl (by go_simp)
  ·intro _ zZ w_ hB hr
   have e23:=Rg.c_ (hr 23 (by decide));have e25:=Rg.c_ (hr 25 (by decide));exact Rg.aG rfl (by go_simp <;> exact Rg.wo (by omega))
  ·intro _ zZ w_ hB hr
   have e4:zZ.tmps[4]?=some (.pointer (some ⟨w.heap.size+1,0,none⟩)):=hr 4 (by decide);exact Rg.aG rfl (by go_simp)
  ·intro _ zZ w_ hB hr
   have e27:=Rg.c_ (hr 27 (by decide));have k2:=aE hB Q.aO.2.2;exact Rg.aG rfl (by go_simp)
  ·intro _ zZ w_ hB hr
   have e26:=Rg.c_ (hr 26 (by decide));have e28:=Rg.c_ (hr 28 (by decide));exact Rg.aG rfl (by go_simp <;> exact Rg.wo (by omega))
  ·intro _ zZ w_ hB hr
   have e4:zZ.tmps[4]?=some (.pointer (some ⟨w.heap.size+1,0,none⟩)):=hr 4 (by decide);exact Rg.aG rfl (by go_simp)
  ·intro _ zZ w_ hB hr
   have e30:=Rg.c_ (hr 30 (by decide));have k2:=aE hB Q.aO.2.2;exact Rg.aG rfl (by go_simp)
  ·intro _ zZ w_ hB hr
   have e29:=Rg.c_ (hr 29 (by decide));have e31:=Rg.c_ (hr 31 (by decide));exact Rg.aG rfl (by go_simp <;> exact Rg.wo (by omega))
  ·intro _ zZ w_ hB hr
   have e18:=Rg.c_ (hr 18 (by decide));have e32:=Rg.c_ (hr 32 (by decide));exact Rg.aG rfl (by go_simp <;> exact Rg.wo (by omega))
  ·intro _ zZ w_ hB hr
   have e4:zZ.tmps[4]?=some (.pointer (some ⟨w.heap.size+1,0,none⟩)):=hr 4 (by decide);exact Rg.aG rfl (by go_simp)
  ·intro _ zZ w_ hB hr
   have e34:=Rg.c_ (hr 34 (by decide));have k1:=aE hB Q.aO.2.1;exact Rg.aG rfl (by go_simp)
  ·intro _ zZ w_ hB hr
   have e35:=Rg.c_ (hr 35 (by decide));have ec:=Rg.ec zZ;exact Rg.aG rfl (by go_simp <;> exact Rg.wo (by omega))
  ·intro _ zZ w_ hB hr
   have e4:zZ.tmps[4]?=some (.pointer (some ⟨w.heap.size+1,0,none⟩)):=hr 4 (by decide);exact Rg.aG rfl (by go_simp)
  ·intro _ zZ w_ hB hr
   have e37:=Rg.c_ (hr 37 (by decide));have k2:=aE hB Q.aO.2.2;exact Rg.aG rfl (by go_simp)
  ·intro _ zZ w_ hB hr
   have e36:=Rg.c_ (hr 36 (by decide));have e38:=Rg.c_ (hr 38 (by decide));exact Rg.aG rfl (by go_simp <;> exact Rg.wo (by omega))
  ·intro _ zZ w_ hB hr
   have e33:=Rg.c_ (hr 33 (by decide));exact Rg.aG rfl (by go_simp)
  ·intro _ zZ w_ hB hr
   have e39:=Rg.c_ (hr 39 (by decide));exact Rg.aG rfl (by go_simp)
  intro vals wz hB hv hne;have Hb:vals 27=.int .i64 (((3*X1)*X1)+((((a*E1)*E1)*E1)*E1)):=hv 27 (by decide);have Hd:vals 28=.int .i64 ((2*Y1)*E1):=hv 28 (by decide);simp only [Rg.bE,Rg.fill,Act.put,Nat.reduceAdd];clear hv;simp only [Hb,Hd];clear Hb Hd;unfold Rg.aZ;go_wp2;go_ret2;exact ⟨rfl,d_ B hB⟩
 have e1:=wM (show M.sN a X1 Y1 E1 X2 Y2 E2=Y2*E1*E1*E1 - Y1*E2*E2*E2 from if_neg AG);have e2:=wM (show M.sD X1 Y1 E1 X2 Y2 E2=E1*E2*(X2*E1*E1 - X1*E2*E2) from if_neg AG);rw [e1.out,e2.out];clear e1 e2;have MO:=M.aK (x:=Y2) (y:=E1) (m:=3000000) (n:=20) (by omega) (by omega) (by omega) (by omega);have MP:=M.aK (x:=Y2*E1) (y:=E1) (m:=60000000) (n:=20) (by omega) (by omega) (by omega) (by omega);have MQ:=M.aK (x:=Y2*E1*E1) (y:=E1) (m:=1200000000) (n:=20) (by omega) (by omega) (by omega) (by omega);have MR:=M.aK (x:=Y1) (y:=E2) (m:=3000000) (n:=20) (by omega) (by omega) (by omega) (by omega);have MS:=M.aK (x:=Y1*E2) (y:=E2) (m:=60000000) (n:=20) (by omega) (by omega) (by omega) (by omega);have MU:=M.aK (x:=Y1*E2*E2) (y:=E2) (m:=1200000000) (n:=20) (by omega) (by omega) (by omega) (by omega);have MV:=M.aK (x:=E1) (y:=E2) (m:=20) (n:=20) (by omega) (by omega) (by omega) (by omega);have sb36:=M.aK (x:=X2) (y:=E1) (m:=10000) (n:=20) (by omega) (by omega) (by omega) (by omega);have sb37:=M.aK (x:=X2*E1) (y:=E1) (m:=200000) (n:=20) (by omega) (by omega) (by omega) (by omega);have sb38:=M.aK (x:=X1) (y:=E2) (m:=10000) (n:=20) (by omega) (by omega) (by omega) (by omega);have sb39:=M.aK (x:=X1*E2) (y:=E2) (m:=200000) (n:=20) (by omega) (by omega) (by omega) (by omega);have sb40:=M.aK (x:=E1*E2) (y:=X2*E1*E1 - X1*E2*E2) (m:=400) (n:=8000000) (by omega) (by omega) (by omega) (by omega)
 have hne:X1≠X2∨Y1≠Y2∨E1≠E2:=by
  rcases Classical.em (X1=X2) with h1 | h1
  ·rcases Classical.em (Y1=Y2) with h2 | h2
   ·exact Or.inr (Or.inr fun h3=>AG ⟨h1,h2,h3⟩)
   exact Or.inr (Or.inl h2)
  exact Or.inl h1
 clear AG
 have hdec:(decide (X1=X2) && (decide (Y1=Y2) && decide (E1=E2)))=false:=by
  rcases hne with h | h | h <;> simp [h]
 have C:=((aH.new w #[.int .i64 a,.int .i64 b] 25).alloc (.cells #[.int .i64 X1,.int .i64 Y1,.int .i64 E1] 27)).alloc (.cells #[.int .i64 X2,.int .i64 Y2,.int .i64 E2] 27);have Q:=(aH.new (w.alloc (.cells #[.int .i64 a,.int .i64 b] 25)) #[.int .i64 X1,.int .i64 Y1,.int .i64 E1] 27).alloc (.cells #[.int .i64 X2,.int .i64 Y2,.int .i64 E2] 27);rw [wN] at Q;have U:=aH.new ((w.alloc (.cells #[.int .i64 a,.int .i64 b] 25)).alloc (.cells #[.int .i64 X1,.int .i64 Y1,.int .i64 E1] 27)) #[.int .i64 X2,.int .i64 Y2,.int .i64 E2] 27;rw [wN,wN] at U;have B:=(((wP w.heap.size w).alloc (wQ _) (.cells #[.int .i64 a,.int .i64 b] 25)).alloc (by rw [wN];omega) (.cells #[.int .i64 X1,.int .i64 Y1,.int .i64 E1] 27)).alloc (by rw [wN,wN];omega) (.cells #[.int .i64 X2,.int .i64 Y2,.int .i64 E2] 27);generalize hw3:((w.alloc (.cells #[.int .i64 a,.int .i64 b] 25)).alloc (.cells #[.int .i64 X1,.int .i64 Y1,.int .i64 E1] 27)).alloc (.cells #[.int .i64 X2,.int .i64 Y2,.int .i64 E2] 27)=wc at *;have ⟨q0,q1,q2⟩:=Q.aO;have ⟨u0,u1,u2⟩:=U.aO;have f_:=C.box.c0;have g_:=C.box.c1
 rcases hne with h | h | h
 all_goals
  have hb:=beq_eq_false_iff_ne.2 h;go_enter Tryz.func137,Tryz.ntmps137
  go_wp2
  all_goals
   go_ret2;exact ⟨rfl,B⟩
namespace M
def yW (a X1 Y1 E1 X2 Y2 E2:Int):Int:=if sD X1 Y1 E1 X2 Y2 E2=0 then 1 else bc (sN a X1 Y1 E1 X2 Y2 E2) (sD X1 Y1 E1 X2 Y2 E2)
def yK (a X1 Y1 E1 X2 Y2 E2:Int):Int:=if sD X1 Y1 E1 X2 Y2 E2=0 then 0 else bR (sN a X1 Y1 E1 X2 Y2 E2) (sD X1 Y1 E1 X2 Y2 E2)
end M
theorem ph (a b X1 Y1 E1 X2 Y2 E2:Int) (w:World) (ha1:-1000≤a) (ha2:a≤1000) (hx1:-10000≤X1) (hx2:X1≤10000) (hy1:-3000000≤Y1) (hy2:Y1≤3000000) (he1:1≤E1) (he2:E1≤20) (hx3:-10000≤X2) (hx4:X2≤10000) (hy3:-3000000≤Y2) (hy4:Y2≤3000000) (AZ:1≤E2) (Ay:E2≤20) :
  Calls Tryz.prog 148 #[.agg #[.int .i64 a,.int .i64 b],.agg #[.int .i64 X1,.int .i64 Y1,.int .i64 E1],.agg #[.int .i64 X2,.int .i64 Y2,.int .i64 E2]] w fun e w'=>e=.returned (.tuple #[.int .i64 (M.yW a X1 Y1 E1 X2 Y2 E2),.int .i64 (M.yK a X1 Y1 E1 X2 Y2 E2)])∧Below w.heap.size w w':=by
 have hbd:=M.un (a:=a) ha1 ha2 hx1 hx2 hy1 hy2 he1 he2 hx3 hx4 hy3 hy4 AZ Ay
 have PE:=fun (h:M.sD X1 Y1 E1 X2 Y2 E2≠0) W=>f7 (M.sN a X1 Y1 E1 X2 Y2 E2) (M.sD X1 Y1 E1 X2 Y2 E2) W (by omega) (by omega) (by omega) (by omega) h
 unfold M.yW M.yK;have hcase:(X1=X2∧Y1=Y2∧E1=E2)∨¬ (X1=X2∧Y1=Y2∧E1=E2):=Classical.em _
 rcases hcase with hsame | AG
 ·have e1:=show M.sN a X1 Y1 E1 X2 Y2 E2=3*X1*X1+a*E1*E1*E1*E1 from if_pos hsame
  have e2:=show M.sD X1 Y1 E1 X2 Y2 E2=2*Y1*E1 from if_pos hsame
  rw [e1,e2] at PE hbd;rw [e1,e2];obtain ⟨rfl,rfl,rfl⟩:=hsame;clear e1 e2 hx3 hx4 hy3 hy4 AZ Ay;have sb1:=M.aK (x:=Y1) (y:=E1) (m:=3000000) (n:=20) (by omega) (by omega) (by omega) (by omega);have IM:=M.aK (x:=Y1*E1) (y:=E1) (m:=60000000) (n:=20) (by omega) (by omega) (by omega) (by omega);have IP:=M.aK (x:=Y1*E1*E1) (y:=E1) (m:=1200000000) (n:=20) (by omega) (by omega) (by omega) (by omega);have IQ:=M.aK (x:=E1) (y:=E1) (m:=20) (n:=20) (by omega) (by omega) (by omega) (by omega);have IR:=M.aK (x:=X1) (y:=E1) (m:=10000) (n:=20) (by omega) (by omega) (by omega) (by omega);have IU:=M.aK (x:=X1*E1) (y:=E1) (m:=200000) (n:=20) (by omega) (by omega) (by omega) (by omega);have IV:=M.aK (x:=E1*E1) (y:=X1*E1*E1 - X1*E1*E1) (m:=400) (n:=8000000) (by omega) (by omega) (by omega) (by omega);have IW:=M.aK (x:=3) (y:=X1) (m:=3) (n:=10000) (by omega) (by omega) (by omega) (by omega);have IX:=M.aK (x:=3*X1) (y:=X1) (m:=30000) (n:=10000) (by omega) (by omega) (by omega) (by omega);have Dy:=M.aK (x:=a) (y:=E1) (m:=1000) (n:=20) (by omega) (by omega) (by omega) (by omega);have Dz:=M.aK (x:=a*E1) (y:=E1) (m:=20000) (n:=20) (by omega) (by omega) (by omega) (by omega);have D1:=M.aK (x:=a*E1*E1) (y:=E1) (m:=400000) (n:=20) (by omega) (by omega) (by omega) (by omega);have D2:=M.aK (x:=a*E1*E1*E1) (y:=E1) (m:=8000000) (n:=20) (by omega) (by omega) (by omega) (by omega);have D3:=M.aK (x:=2) (y:=Y1) (m:=2) (n:=3000000) (by omega) (by omega) (by omega) (by omega);have D4:=M.aK (x:=2*Y1) (y:=E1) (m:=6000000) (n:=20) (by omega) (by omega) (by omega) (by omega);have C:=((aH.new w #[.int .i64 a,.int .i64 b] 25).alloc (.cells #[.int .i64 X1,.int .i64 Y1,.int .i64 E1] 27)).alloc (.cells #[.int .i64 X1,.int .i64 Y1,.int .i64 E1] 27);have Q:=(aH.new (w.alloc (.cells #[.int .i64 a,.int .i64 b] 25)) #[.int .i64 X1,.int .i64 Y1,.int .i64 E1] 27).alloc (.cells #[.int .i64 X1,.int .i64 Y1,.int .i64 E1] 27);rw [wN] at Q;have U:=aH.new ((w.alloc (.cells #[.int .i64 a,.int .i64 b] 25)).alloc (.cells #[.int .i64 X1,.int .i64 Y1,.int .i64 E1] 27)) #[.int .i64 X1,.int .i64 Y1,.int .i64 E1] 27;rw [wN,wN] at U;have B:=(((wP w.heap.size w).alloc (wQ _) (.cells #[.int .i64 a,.int .i64 b] 25)).alloc (by rw [wN];omega) (.cells #[.int .i64 X1,.int .i64 Y1,.int .i64 E1] 27)).alloc (by rw [wN,wN];omega) (.cells #[.int .i64 X1,.int .i64 Y1,.int .i64 E1] 27);generalize hw3:((w.alloc (.cells #[.int .i64 a,.int .i64 b] 25)).alloc (.cells #[.int .i64 X1,.int .i64 Y1,.int .i64 E1] 27)).alloc (.cells #[.int .i64 X1,.int .i64 Y1,.int .i64 E1] 27)=wc at *;have ⟨q0,q1,q2⟩:=Q.aO;have ⟨u0,u1,u2⟩:=U.aO;have f_:=C.box.c0;have g_:=C.box.c1
  by_cases h0:2*Y1*E1=0
  ·have h1:(2*Y1*E1 == 0)=true:=by rw [beq_iff_eq];exact h0
   rw [if_pos h0,if_pos h0];clear PE;go_enter Tryz.func148,Tryz.ntmps148
   go_wp2
   all_goals
    go_ret2;exact ⟨rfl,B⟩
  have h1:(2*Y1*E1 == 0)=false:=by rw [beq_eq_false_iff_ne];exact h0
  rw [if_neg h0,if_neg h0];have PE:=PE h0;generalize bR (3*X1*X1+a*E1*E1*E1*E1) (2*Y1*E1)=pd,bc (3*X1*X1+a*E1*E1*E1*E1) (2*Y1*E1)=pn at *;have PE:=wM PE;go_enter Tryz.func148,Tryz.ntmps148
  go_wp2_with (go_at_call 149;(with_reducible refine (PE.out _).mono ?_);rintro e w4 ⟨rfl,hb4⟩;have B4:=d_ B hb4)
  all_goals
   go_ret2;exact ⟨rfl,B4⟩
 have e1:=show M.sN a X1 Y1 E1 X2 Y2 E2=Y2*E1*E1*E1 - Y1*E2*E2*E2 from if_neg AG
 have e2:=show M.sD X1 Y1 E1 X2 Y2 E2=E1*E2*(X2*E1*E1 - X1*E2*E2) from if_neg AG
 rw [e1,e2] at PE hbd;rw [e1,e2];clear e1 e2;have D5:=M.aK (x:=Y2) (y:=E1) (m:=3000000) (n:=20) (by omega) (by omega) (by omega) (by omega);have Fd:=M.aK (x:=Y2*E1) (y:=E1) (m:=60000000) (n:=20) (by omega) (by omega) (by omega) (by omega);have Fe:=M.aK (x:=Y2*E1*E1) (y:=E1) (m:=1200000000) (n:=20) (by omega) (by omega) (by omega) (by omega);have Ff:=M.aK (x:=Y1) (y:=E2) (m:=3000000) (n:=20) (by omega) (by omega) (by omega) (by omega);have Fg:=M.aK (x:=Y1*E2) (y:=E2) (m:=60000000) (n:=20) (by omega) (by omega) (by omega) (by omega);have Fh:=M.aK (x:=Y1*E2*E2) (y:=E2) (m:=1200000000) (n:=20) (by omega) (by omega) (by omega) (by omega);have Fi:=M.aK (x:=E1) (y:=E2) (m:=20) (n:=20) (by omega) (by omega) (by omega) (by omega);have Fj:=M.aK (x:=X2) (y:=E1) (m:=10000) (n:=20) (by omega) (by omega) (by omega) (by omega);have Fk:=M.aK (x:=X2*E1) (y:=E1) (m:=200000) (n:=20) (by omega) (by omega) (by omega) (by omega);have Fl:=M.aK (x:=X1) (y:=E2) (m:=10000) (n:=20) (by omega) (by omega) (by omega) (by omega);have Fm:=M.aK (x:=X1*E2) (y:=E2) (m:=200000) (n:=20) (by omega) (by omega) (by omega) (by omega);have Fn:=M.aK (x:=E1*E2) (y:=X2*E1*E1 - X1*E2*E2) (m:=400) (n:=8000000) (by omega) (by omega) (by omega) (by omega)
 have hne:X1≠X2∨Y1≠Y2∨E1≠E2:=by
  rcases Classical.em (X1=X2) with h1 | h1
  ·rcases Classical.em (Y1=Y2) with h2 | h2
   ·exact Or.inr (Or.inr fun h3=>AG ⟨h1,h2,h3⟩)
   exact Or.inr (Or.inl h2)
  exact Or.inl h1
 clear AG
 have hdec:(decide (X1=X2) && (decide (Y1=Y2) && decide (E1=E2)))=false:=by
  rcases hne with h | h | h <;> simp [h]
 have C:=((aH.new w #[.int .i64 a,.int .i64 b] 25).alloc (.cells #[.int .i64 X1,.int .i64 Y1,.int .i64 E1] 27)).alloc (.cells #[.int .i64 X2,.int .i64 Y2,.int .i64 E2] 27);have Q:=(aH.new (w.alloc (.cells #[.int .i64 a,.int .i64 b] 25)) #[.int .i64 X1,.int .i64 Y1,.int .i64 E1] 27).alloc (.cells #[.int .i64 X2,.int .i64 Y2,.int .i64 E2] 27);rw [wN] at Q;have U:=aH.new ((w.alloc (.cells #[.int .i64 a,.int .i64 b] 25)).alloc (.cells #[.int .i64 X1,.int .i64 Y1,.int .i64 E1] 27)) #[.int .i64 X2,.int .i64 Y2,.int .i64 E2] 27;rw [wN,wN] at U;have B:=(((wP w.heap.size w).alloc (wQ _) (.cells #[.int .i64 a,.int .i64 b] 25)).alloc (by rw [wN];omega) (.cells #[.int .i64 X1,.int .i64 Y1,.int .i64 E1] 27)).alloc (by rw [wN,wN];omega) (.cells #[.int .i64 X2,.int .i64 Y2,.int .i64 E2] 27);generalize hw3:((w.alloc (.cells #[.int .i64 a,.int .i64 b] 25)).alloc (.cells #[.int .i64 X1,.int .i64 Y1,.int .i64 E1] 27)).alloc (.cells #[.int .i64 X2,.int .i64 Y2,.int .i64 E2] 27)=wc at *;have ⟨q0,q1,q2⟩:=Q.aO;have ⟨u0,u1,u2⟩:=U.aO;have f_:=C.box.c0;have g_:=C.box.c1
 rcases hne with h | h | h
 all_goals
  have hb:=beq_eq_false_iff_ne.2 h
  by_cases h0:E1*E2*(X2*E1*E1 - X1*E2*E2)=0
  ·have h1:(E1*E2*(X2*E1*E1 - X1*E2*E2) == 0)=true:=by rw [beq_iff_eq];exact h0
   rw [if_pos h0,if_pos h0];clear PE;go_enter Tryz.func148,Tryz.ntmps148
   go_wp2
   all_goals
    go_ret2;exact ⟨rfl,B⟩
  have h1:(E1*E2*(X2*E1*E1 - X1*E2*E2) == 0)=false:=by rw [beq_eq_false_iff_ne];exact h0
  rw [if_neg h0,if_neg h0];have PE:=PE h0;generalize bR (Y2*E1*E1*E1 - Y1*E2*E2*E2) (E1*E2*(X2*E1*E1 - X1*E2*E2))=pd,bc (Y2*E1*E1*E1 - Y1*E2*E2*E2) (E1*E2*(X2*E1*E1 - X1*E2*E2))=pn at *;have PE:=wM PE;go_enter Tryz.func148,Tryz.ntmps148
  go_wp2_with (go_at_call 149;(with_reducible refine (PE.out _).mono ?_);rintro e w4 ⟨rfl,hb4⟩;have B4:=d_ B hb4)
  all_goals
   go_ret2;exact ⟨rfl,B4⟩
theorem iJ (a b:Int) (va vb:Value) (w:World) (ba bb:Nat) (hoa:aF w ba va (Wh.a_ a.natAbs)) (x5:aF w bb vb (Wh.a_ b.natAbs)) (hl1:(Wh.a_ a.natAbs).length≤100000) (hl2:(Wh.a_ b.natAbs).length≤100000) :
  Calls Tryz.prog 174 #[.agg #[.bool (decide (a<0)),va],.agg #[.bool (decide (b<0)),vb]] w fun e w'=>e=.returned (.int .i64 (Wh.x8 a b))∧Below w.heap.size w w':=by
 obtain ⟨aa,ca,rfl,-,-⟩:=aF.view hoa;obtain ⟨ab,cb,rfl,-,-⟩:=aF.view x5
 have P1:=fun s r W (h1:aF W ba (.slice aa (Wh.a_ a.natAbs).length ca) (Wh.a_ a.natAbs)) (h2:aF W bb (.slice ab (Wh.a_ b.natAbs).length cb) (Wh.a_ b.natAbs))=>dA a.natAbs b.natAbs s r _ _ W ba bb h1 h2 hl1 hl2
 have P2:=fun s r W (h1:aF W ba (.slice aa (Wh.a_ a.natAbs).length ca) (Wh.a_ a.natAbs)) (h2:aF W bb (.slice ab (Wh.a_ b.natAbs).length cb) (Wh.a_ b.natAbs))=>dA b.natAbs a.natAbs s r _ _ W bb ba h2 h1 hl2 hl1
 replace hoa:=wM hoa;replace x5:=wM x5;generalize (Wh.a_ b.natAbs).length=lb,(Wh.a_ a.natAbs).length=la at *
 by_cases h1:a<0
 ·by_cases h2:b<0
  ·have hs:=wM (show Wh.x8 (b.natAbs:Int) (a.natAbs:Int)=Wh.x8 a b by unfold Wh.x8;(repeat' split) <;> omega)
   rw [decide_eq_true h1,decide_eq_true h2];rw [←hs.out];clear h1 h2 P1;replace P2:=wM P2;have hBb:=((wP w.heap.size w).alloc (wQ _) (.cells #[.bool true,.slice aa la ca] 125)).alloc (by rw [wN];omega) (.cells #[.bool true,.slice ab lb cb] 125);go_enter Tryz.func174,Tryz.ntmps174
   go_wp2_with (go_at_call 173;(with_reducible refine (P2.out _ _ _ (aF.below hoa.out hBb) (aF.below x5.out hBb)).mono ?_);rintro e w4 ⟨rfl,hb4⟩)
   go_ret;exact ⟨rfl,d_ hBb hb4⟩
  have hs:=wM (show Wh.x8 a b=-1 by unfold Wh.x8;(repeat' split) <;> omega);rw [decide_eq_true h1,decide_eq_false h2];rw [hs.out];clear h1 h2 P1 P2;go_enter Tryz.func174,Tryz.ntmps174
  go_wp2;go_ret;exact ⟨rfl,(by repeat (first | exact wP _ _ | refine aQ ?_ _ | refine aS ?_ (by assumption) | refine Below.drew ?_ | refine wO ?_ (by first | exact wQ _ | exact Nat.le_add_right _ _ | (simp <;> omega)) _ | refine aM ?_ _))⟩
 by_cases h2:b<0
 ·have hs:=wM (show Wh.x8 a b=1 by unfold Wh.x8;(repeat' split) <;> omega)
  rw [decide_eq_false h1,decide_eq_true h2];rw [hs.out];clear h1 h2 P1 P2;go_enter Tryz.func174,Tryz.ntmps174
  go_wp2;go_ret;exact ⟨rfl,(by repeat (first | exact wP _ _ | refine aQ ?_ _ | refine aS ?_ (by assumption) | refine Below.drew ?_ | refine wO ?_ (by first | exact wQ _ | exact Nat.le_add_right _ _ | (simp <;> omega)) _ | refine aM ?_ _))⟩
 have hs:=wM (show Wh.x8 (a.natAbs:Int) (b.natAbs:Int)=Wh.x8 a b by unfold Wh.x8;(repeat' split) <;> omega);rw [decide_eq_false h1,decide_eq_false h2];rw [←hs.out];clear h1 h2 P2;replace P1:=wM P1;have hBb:=((wP w.heap.size w).alloc (wQ _) (.cells #[.bool false,.slice aa la ca] 125)).alloc (by rw [wN];omega) (.cells #[.bool false,.slice ab lb cb] 125);go_enter Tryz.func174,Tryz.ntmps174
 go_wp2_with (go_at_call 173;(with_reducible refine (P1.out _ _ _ (aF.below hoa.out hBb) (aF.below x5.out hBb)).mono ?_);rintro e w4 ⟨rfl,hb4⟩)
 go_ret;exact ⟨rfl,d_ hBb hb4⟩
namespace M
def sq (A D:Int):Int:=max (-10000) (min 10000 (-(-A / D)))
theorem j6 {A D m:Int} (hD:0<D):-(-A / D)≤m ↔ A≤D*m:=by
 have e1:=Int.mul_ediv_add_emod (-A) D;have e2:=Int.emod_nonneg (-A) (by omega:D≠0);have e3:=Int.emod_lt_of_pos (-A) hD;generalize -A / D=q at *
 constructor
 ·intro h
  have:D*(-q)≤D*m:=Int.mul_le_mul_of_nonneg_left h (by omega);rw [Int.mul_neg] at this;omega
 intro h
 rcases Int.lt_or_le m (-q) with h1 | h1
 ·have:D*(m+1)≤D*(-q):=Int.mul_le_mul_of_nonneg_left (by omega) (by omega)
  rw [Int.mul_neg,Int.mul_add] at this;omega
 exact h1
theorem wG {A D x:Int} (hD:0<D) (h1:-10000≤x) (h2:x≤10000) (h:D*x=A):sq A D=x:=by
 have q1:=(j6 (A:=A) (m:=x) hD).2 (by omega)
 have q2:¬ -(-A / D)≤x - 1:=fun h3=>by
  have:=(j6 hD).1 h3;rw [Int.mul_sub] at this;omega
 unfold sq;omega
end M
theorem iN (A D:Int) (va vd:Value) (w:World) (ba bd:Nat) (hoa:aF w ba va (Wh.a_ A.natAbs)) (hod:aF w bd vd (Wh.a_ D.natAbs)) (hA:Wh.sz A 1000) (hD:Wh.sz D 1000) (hD0:0<D) :
  Calls Tryz.prog 142 #[.agg #[.bool (decide (A<0)),va],.agg #[.bool (decide (D<0)),vd],.int .i64 10000] w fun e w'=>e=.returned (.tuple #[.int .i64 (M.sq A D),.bool (decide (D*M.sq A D=A))])∧Below w.heap.size w w':=by
 obtain ⟨aa,ca,rfl,-,-⟩:=aF.view hoa;obtain ⟨ad,cd,rfl,-,-⟩:=aF.view hod
 have PT:=fun n (h1:-10000≤n) (h2:n≤10000) v W k (h:aF W k v (Wh.a_ D.natAbs))=>jN D n v W k h (Wh.aY.2 (Wh.aN hD (by omega))) (by omega) (by omega)
 have PC:=fun n (h1:-10000≤n) (h2:n≤10000) v v' W k k' (h:aF W k v (Wh.a_ (D*n).natAbs)) (h':aF W k' v' (Wh.a_ A.natAbs))=>iJ (D*n) A v v' W k k' h h' (Wh.aY.2 (Wh.aN (Wh.aw hD (Wh.bS (n:=n) (by omega) (by omega))) (by omega))) (Wh.aY.2 (Wh.aN hA (by omega)))
 generalize decide (D<0)=s2,decide (A<0)=s1 at *;replace hoa:=wM hoa;replace hod:=wM hod;generalize (Wh.a_ D.natAbs).length=ld,(Wh.a_ A.natAbs).length=la at *;have PT:=wM PT;have PC:=wM PC
 have Li:-10000≤M.sq A D∧M.sq A D≤10000:=by unfold M.sq;omega
 have hcl:=wM fun m=>M.j6 (A:=A) (D:=D) (m:=m) hD0
 have hsd:Hid (M.sq A D=max (-10000) (min 10000 (-(-A / D)))):=wM rfl;generalize M.sq A D=L at *;have V:=(aH.new w #[.bool s1,.slice aa la ca] 125).alloc (.cells #[.bool s2,.slice ad ld cd] 125);have U:=aH.new (w.alloc (.cells #[.bool s1,.slice aa la ca] 125)) #[.bool s2,.slice ad ld cd] 125;rw [wN] at U;have B:=((wP w.heap.size w).alloc (wQ _) (.cells #[.bool s1,.slice aa la ca] 125)).alloc (by rw [wN];omega) (.cells #[.bool s2,.slice ad ld cd] 125);generalize hw3:(w.alloc (.cells #[.bool s1,.slice aa la ca] 125)).alloc (.cells #[.bool s2,.slice ad ld cd] 125)=wc at *;obtain ⟨l1,l2⟩:=Li;go_enter Tryz.func142,Tryz.ntmps142
 go_wp2
 go_loopw [8,9] (fun vl vh wr=>∃ lo hi:Int,vl=.int .i64 lo∧vh=.int .i64 hi∧-10000≤lo∧lo≤L∧L≤hi∧hi≤10000∧aH wr w.heap.size 125 #[.bool s1,.slice aa la ca]∧aH wr (w.heap.size+1) 125 #[.bool s2,.slice ad ld cd]∧Below w.heap.size w wr) (fun vl vh _=>(intOf vh - intOf vl).toNat)
 case atStart=>exact ⟨-10000,10000,rfl,rfl,by omega,l1,l2,by omega,V,U,B⟩
 case round=>
 clear V U B hw3;obtain ⟨lo,hi,rfl,rfl,h1,h2,h3,h4,V,U,B⟩:=hrel;have oa:=wM (aF.below hoa.out B);have od:=wM (aF.below hod.out B)
 by_cases hlt:lo<hi
 ·have hm1:lo≤(lo+hi) / 2:=by omega
  have hm2:(lo+hi) / 2<hi:=by omega
  have PF:=fun W=>gU (lo+hi) 2 W (by omega) (by omega) (by omega) (by omega)
  have hge:=(hcl.out ((lo+hi) / 2))
  generalize (lo+hi) / 2=m at *;have PF:=wM PF
  have Ht:=wM fun v W k h=>PT.out m (by omega) (by omega) v W k h
  have D8:=fun v v' W k k' h h'=>PC.out m (by omega) (by omega) v v' W k k' h h'
  have hsg:0≤Wh.x8 (D*m) A ↔ A≤D*m:=by unfold Wh.x8;(repeat' split) <;> omega
  have hsn:L≤m ↔ A≤D*m:=by rw [←hge,hsd.out];omega
  generalize Wh.x8 (D*m) A=sg at *;have D8:=wM D8
  by_cases hL:L≤m
  ·have hs0:0≤sg:=hsg.2 (hsn.1 hL)
   clear hsg hsn hge PC PT
   go_upto_region 4 with (go_at_call 116;(with_reducible refine (PF.out _).mono ?_);rintro e w4 ⟨rfl,rfl⟩)
   refine Rg.bO 6 [.is (.agg #[.bool s2,.slice ad ld cd]),.is (.int .i64 m),.at (aJ (wr.heap.size) (D*m)),.is (.agg #[.bool s1,.slice aa la ca]),.is (.int .i64 sg),.is (.bool true)] (by kernel_rfl) (by kernel_rfl) (by kernel_rfl) ⟨?_,?_,?_,?_,?_,?_,trivial⟩ ?_
   ·intro _ zZ w_ hB hr
    have e4:zZ.tmps[4]?=some (.pointer (some ⟨w.heap.size+1,0,none⟩)):=hr 4 (by decide);have k0:=aE hB U.box.c0;have k1:=aE hB U.box.c1;exact Rg.aG rfl (by go_simp)
   ·intro _ zZ w_ hB hr
    have e10:zZ.tmps[10]?=some (.int .i64 m):=hr 10 (by decide);exact Rg.aG rfl (by go_simp)
   ·intro _ zZ w_ hB hr
    have e21:=Rg.c_ (hr 21 (by decide));have e22:=Rg.c_ (hr 22 (by decide));have ef:=Rg.ef zZ;refine Rg.af rfl (by go_simp;exact ⟨rfl,rfl⟩) ?_;refine (Ht.out _ _ _ (aF.below od.out hB)).mono ?_;rintro e w5 ⟨xX,rfl,wl,hb5⟩;exact ⟨_,rfl,aJ.at wl (by have:=hB.size;omega),hb5⟩
   ·intro _ zZ w_ hB hr
    have e3:zZ.tmps[3]?=some (.pointer (some ⟨w.heap.size,0,none⟩)):=hr 3 (by decide);have k0:=aE hB V.box.c0;have k1:=aE hB V.box.c1;exact Rg.aG rfl (by go_simp)
   ·intro _ zZ w_ hB hr
    obtain ⟨v23,e23,n23⟩:∃ v,zZ.tmps[23]?=some v∧(Rg.Val.at (aJ (wr.heap.size) (D*m))).ok v w_:=hr 23 (by decide);obtain ⟨s23,a23,l23,c23,Cj,rfl,FT⟩:=(Rg.ag n23).view;have e24:=Rg.c_ (hr 24 (by decide));have ef:=Rg.ef zZ;obtain rfl:=Cj.out;exact Rg.bp rfl (by go_simp) (D8.out _ _ _ _ _ FT (aF.below oa.out hB))
   ·intro _ zZ w_ hB hr
    have e25:=Rg.c_ (hr 25 (by decide));have ec:=Rg.ec zZ;exact Rg.aG rfl (by go_simp;first | done | omega | (simp;omega))
   intro vals wz hB hv hne;have BO:vals 5=.bool true:=hv 5 (by decide);simp only [Rg.bE,Rg.fill,Act.put,Nat.reduceAdd];clear hv;simp only [BO];clear BO;replace V:=V.keep hB;replace U:=U.keep hB;replace B:=d_ B hB;clear hB;unfold Rg.aZ;go_wp2
   go_roundw
   case rel=>exact ⟨lo,m,rfl,rfl,h1,h2,hL,by omega,V,U,B⟩
   case measure=>simp [intOf] <;> omega
  have hs0:¬ 0≤sg:=fun h=>hL (hsn.2 (hsg.1 h))
  clear hsg hsn hge PC PT
  go_upto_region 4 with (go_at_call 116;(with_reducible refine (PF.out _).mono ?_);rintro e w4 ⟨rfl,rfl⟩)
  refine Rg.bO 6 [.is (.agg #[.bool s2,.slice ad ld cd]),.is (.int .i64 m),.at (aJ (wr.heap.size) (D*m)),.is (.agg #[.bool s1,.slice aa la ca]),.is (.int .i64 sg),.is (.bool false)] (by kernel_rfl) (by kernel_rfl) (by kernel_rfl) ⟨?_,?_,?_,?_,?_,?_,trivial⟩ ?_
  ·intro _ zZ w_ hB hr
   have e4:zZ.tmps[4]?=some (.pointer (some ⟨w.heap.size+1,0,none⟩)):=hr 4 (by decide);have k0:=aE hB U.box.c0;have k1:=aE hB U.box.c1;exact Rg.aG rfl (by go_simp)
  ·intro _ zZ w_ hB hr
   have e10:zZ.tmps[10]?=some (.int .i64 m):=hr 10 (by decide);exact Rg.aG rfl (by go_simp)
  ·intro _ zZ w_ hB hr
   have e21:=Rg.c_ (hr 21 (by decide));have e22:=Rg.c_ (hr 22 (by decide));have ef:=Rg.ef zZ;refine Rg.af rfl (by go_simp;exact ⟨rfl,rfl⟩) ?_;refine (Ht.out _ _ _ (aF.below od.out hB)).mono ?_;rintro e w5 ⟨xX,rfl,wl,hb5⟩;exact ⟨_,rfl,aJ.at wl (by have:=hB.size;omega),hb5⟩
  ·intro _ zZ w_ hB hr
   have e3:zZ.tmps[3]?=some (.pointer (some ⟨w.heap.size,0,none⟩)):=hr 3 (by decide);have k0:=aE hB V.box.c0;have k1:=aE hB V.box.c1;exact Rg.aG rfl (by go_simp)
  ·intro _ zZ w_ hB hr
   obtain ⟨v23,e23,n23⟩:∃ v,zZ.tmps[23]?=some v∧(Rg.Val.at (aJ (wr.heap.size) (D*m))).ok v w_:=hr 23 (by decide);obtain ⟨s23,a23,l23,c23,Cj,rfl,FT⟩:=(Rg.ag n23).view;have e24:=Rg.c_ (hr 24 (by decide));have ef:=Rg.ef zZ;obtain rfl:=Cj.out;exact Rg.bp rfl (by go_simp) (D8.out _ _ _ _ _ FT (aF.below oa.out hB))
  ·intro _ zZ w_ hB hr
   have e25:=Rg.c_ (hr 25 (by decide));have ec:=Rg.ec zZ;exact Rg.aG rfl (by go_simp;first | done | omega | (simp;omega))
  intro vals wz hB hv hne;have BO:vals 5=.bool false:=hv 5 (by decide);simp only [Rg.bE,Rg.fill,Act.put,Nat.reduceAdd];clear hv;simp only [BO];clear BO;replace V:=V.keep hB;replace U:=U.keep hB;replace B:=d_ B hB;clear hB;unfold Rg.aZ;go_wp2
  go_roundw
  case rel=>exact ⟨m+1,hi,rfl,rfl,by omega,by omega,h3,h4,V,U,B⟩
  case measure=>simp [intOf] <;> omega
 obtain rfl:lo=L:=by omega
 obtain rfl:hi=lo:=by omega
 have Ht:=wM fun v W k h=>PT.out hi (by omega) (by omega) v W k h
 have D8:=fun v v' W k k' h h'=>PC.out hi (by omega) (by omega) v v' W k k' h h'
 have hsg:Wh.x8 (D*hi) A=0 ↔ D*hi=A:=by unfold Wh.x8;(repeat' split) <;> omega
 generalize Wh.x8 (D*hi) A=sg at *;have D8:=wM D8;have hdd:=wM (show decide (D*hi=A)=decide (sg=0) by rw [decide_eq_decide];exact hsg.symm);clear hsg PC PT
 go_upto_region 7 with fail
 refine Rg.bO 9 [.is (.int .i64 hi),.is (.agg #[.bool s2,.slice ad ld cd]),.is (.int .i64 hi),.at (aJ (wr.heap.size) (D*hi)),.is (.agg #[.bool s1,.slice aa la ca]),.is (.int .i64 sg),.is (.bool (decide (sg=0))),.is (.int .i64 hi),.is (.bool (decide (sg=0)))] (by kernel_rfl) (by kernel_rfl) (by kernel_rfl) ⟨?_,?_,?_,?_,?_,?_,?_,?_,?_,trivial⟩ ?_
 ·intro _ zZ w_ hB hr
  have e8:zZ.tmps[8]?=some (.int .i64 hi):=hr 8 (by decide);exact Rg.aG rfl (by go_simp)
 ·intro _ zZ w_ hB hr
  have e4:zZ.tmps[4]?=some (.pointer (some ⟨w.heap.size+1,0,none⟩)):=hr 4 (by decide);have k0:=aE hB U.box.c0;have k1:=aE hB U.box.c1;exact Rg.aG rfl (by go_simp)
 ·intro _ zZ w_ hB hr
  have e8:zZ.tmps[8]?=some (.int .i64 hi):=hr 8 (by decide);exact Rg.aG rfl (by go_simp)
 ·intro _ zZ w_ hB hr
  have e31:=Rg.c_ (hr 31 (by decide));have e32:=Rg.c_ (hr 32 (by decide));have ef:=Rg.ef zZ;refine Rg.af rfl (by go_simp;exact ⟨rfl,rfl⟩) ?_;refine (Ht.out _ _ _ (aF.below od.out hB)).mono ?_;rintro e w5 ⟨xX,rfl,wl,hb5⟩;exact ⟨_,rfl,aJ.at wl (by have:=hB.size;omega),hb5⟩
 ·intro _ zZ w_ hB hr
  have e3:zZ.tmps[3]?=some (.pointer (some ⟨w.heap.size,0,none⟩)):=hr 3 (by decide);have k0:=aE hB V.box.c0;have k1:=aE hB V.box.c1;exact Rg.aG rfl (by go_simp)
 ·intro _ zZ w_ hB hr
  obtain ⟨v33,e33,n33⟩:∃ v,zZ.tmps[33]?=some v∧(Rg.Val.at (aJ (wr.heap.size) (D*hi))).ok v w_:=hr 33 (by decide);obtain ⟨Dw,a33,Dt,Db,Ck,rfl,FU⟩:=(Rg.ag n33).view;have e34:=Rg.c_ (hr 34 (by decide));have ef:=Rg.ef zZ;obtain rfl:=Ck.out;exact Rg.bp rfl (by go_simp) (D8.out _ _ _ _ _ FU (aF.below oa.out hB))
 ·intro _ zZ w_ hB hr
  have e35:=Rg.c_ (hr 35 (by decide));have ec:=Rg.ec zZ;exact Rg.aG rfl (by go_simp;first | done | rfl | (by_cases wt:sg=0 <;> simp [wt];done))
 ·intro _ zZ w_ hB hr
  have e30:=Rg.c_ (hr 30 (by decide));exact Rg.aG rfl (by go_simp)
 ·intro _ zZ w_ hB hr
  have e36:=Rg.c_ (hr 36 (by decide));exact Rg.aG rfl (by go_simp)
 intro vals wz hB hv hne;have AB:vals 7=.int .i64 hi:=hv 7 (by decide);have Bc:vals 8=.bool (decide (sg=0)):=hv 8 (by decide);simp only [Rg.bE,Rg.fill,Act.put,Nat.reduceAdd];clear hv;simp only [AB,Bc];clear AB Bc;unfold Rg.aZ;go_wp2;go_ret2;exact ⟨by rw [hdd.out];rfl,d_ B hB⟩
namespace M
def top (n m X1 E1 X2 E2:Int):Int:=n*n*(E1*E1*E2*E2) - m*m*(X1*E2*E2+X2*E1*E1)
def bot (m E1 E2:Int):Int:=m*m*(E1*E1*E2*E2)
def eO (n m X1 Y1 E1 x e:Int):Int:=n*(X1*e*e - x*E1*E1)*E1 - Y1*m*e*e
theorem vN {x1 x2 y1 y2 l A B:Int} (h1:y1*y1=x1*x1*x1+A*x1+B) (h2:y2*y2=x2*x2*x2+A*x2+B) (hl:l*(x2 - x1)=y2 - y1) (hne:x2 - x1≠0):(l*(x1 - (l*l - x1 - x2)) - y1)*(l*(x1 - (l*l - x1 - x2)) - y1)=(l*l - x1 - x2)*(l*l - x1 - x2)*(l*l - x1 - x2)+A*(l*l - x1 - x2)+B:=by
 have hU:(x2 - x1)*(A - 2*l*(y1 - l*x1) - (x1*x2+(x1+x2)*(l*l - x1 - x2)))=0:=by grind
 have hU2:A - 2*l*(y1 - l*x1) - (x1*x2+(x1+x2)*(l*l - x1 - x2))=0:=by
  rcases Int.mul_eq_zero.1 hU with h | h
  ·exact absurd h hne
  exact h
 grind
theorem MX {x1 y1 l A B:Int} (h1:y1*y1=x1*x1*x1+A*x1+B) (hl:l*(2*y1)=3*x1*x1+A):(l*(x1 - (l*l - x1 - x1)) - y1)*(l*(x1 - (l*l - x1 - x1)) - y1)=(l*l - x1 - x1)*(l*l - x1 - x1)*(l*l - x1 - x1)+A*(l*l - x1 - x1)+B:=by
 grind
theorem scale {a b X Y E m F:Int} (h:Y*Y=X*X*X+a*X*E*E*E*E+b*E*E*E*E*E*E):(Y*m*m*m*F*F*F)*(Y*m*m*m*F*F*F)=(X*m*m*F*F)*(X*m*m*F*F)*(X*m*m*F*F)+a*((m*E*F)*(m*E*F)*((m*E*F)*(m*E*F)))*(X*m*m*F*F)+b*((m*E*F)*(m*E*F)*((m*E*F)*(m*E*F))*((m*E*F)*(m*E*F))):=by
 have q:(Y*m*m*m*F*F*F)*(Y*m*m*m*F*F*F)=(Y*Y)*(m*m*m*m*m*m*(F*F*F*F*F*F)):=by clear h;grind
 rw [q,h];clear h q
 grind
theorem slp {n m u v k l r:Int} (h:n*u=m*v) (e1:l=u*k*n) (e2:r=v*(k*m)):l=r:=by
 rw [e1,e2,show u*k*n=n*u*k by grind,h];clear h e1 e2
 grind
theorem wI {a b X1 Y1 E1 X2 Y2 E2 n m:Int} (h1:Y1*Y1=cv a b X1 E1) (h2:Y2*Y2=cv a b X2 E2) (he1:E1≠0) (he2:E2≠0) (hm:m≠0) (hs:n*sD X1 Y1 E1 X2 Y2 E2=m*sN a X1 Y1 E1 X2 Y2 E2) (hd:sD X1 Y1 E1 X2 Y2 E2≠0) :
  (n*E1*E2*(X1*m*m*E2*E2 - top n m X1 E1 X2 E2) - Y1*m*m*m*E2*E2*E2)*(n*E1*E2*(X1*m*m*E2*E2 - top n m X1 E1 X2 E2) - Y1*m*m*m*E2*E2*E2)=top n m X1 E1 X2 E2*top n m X1 E1 X2 E2*top n m X1 E1 X2 E2+a*(bot m E1 E2*bot m E1 E2)*top n m X1 E1 X2 E2+b*(bot m E1 E2*bot m E1 E2*bot m E1 E2):=by
 unfold cv at h1 h2
 have ht:top n m X1 E1 X2 E2=(n*E1*E2)*(n*E1*E2) - X1*m*m*E2*E2 - X2*m*m*E1*E1:=by unfold top;grind
 have hb:bot m E1 E2=(m*E1*E2)*(m*E1*E2):=by unfold bot;grind
 have k1:=scale (m:=m) (F:=E2) h1
 by_cases hc:X1=X2∧Y1=Y2∧E1=E2
 ·unfold sD at hs;rw [if_pos hc] at hs
  unfold sN at hs;rw [if_pos hc] at hs;obtain ⟨rfl,rfl,rfl⟩:=hc;have kl:(n*E1*E1)*(2*(Y1*m*m*m*E1*E1*E1))=3*(X1*m*m*E1*E1)*(X1*m*m*E1*E1)+a*((m*E1*E1)*(m*E1*E1)*((m*E1*E1)*(m*E1*E1))):=slp (k:=m*m*m*E1*E1*E1*E1) hs (by clear hs k1;grind) (by clear hs k1;grind);have:=MX k1 kl;rw [ht,hb];exact this
 unfold sD at hs hd;rw [if_neg hc] at hs hd;unfold sN at hs;rw [if_neg hc] at hs;have k2:=scale (m:=m) (F:=E1) h2;rw [show m*E2*E1=m*E1*E2 by grind] at k2;have kl:(n*E1*E2)*(X2*m*m*E1*E1 - X1*m*m*E2*E2)=Y2*m*m*m*E1*E1*E1 - Y1*m*m*m*E2*E2*E2:=slp (k:=m*m) hs (by clear hs k1 k2 hd;grind) (by clear hs k1 k2 hd;grind)
 have kn:X2*m*m*E1*E1 - X1*m*m*E2*E2≠0:=by
  intro h
  have:m*m*(X2*E1*E1 - X1*E2*E2)=0:=by rw [←h];clear h;grind
  rcases Int.mul_eq_zero.1 this with h | h
  ·rcases Int.mul_eq_zero.1 h with h | h <;> exact hm h
  exact hd (by rw [h];simp)
 have:=vN k1 k2 kl kn;rw [ht,hb];exact this
theorem di {k x y:Int} (hk:k≠0) (h:k*x=k*y):x=y:=Int.eq_of_mul_eq_mul_left hk h
theorem rp {a b X1 Y1 E1 X2 Y2 E2 n m x e:Int} (h1:Y1*Y1=cv a b X1 E1) (h2:Y2*Y2=cv a b X2 E2) (he1:E1≠0) (he2:E2≠0) (hm:m≠0) (hs:n*sD X1 Y1 E1 X2 Y2 E2=m*sN a X1 Y1 E1 X2 Y2 E2) (hd:sD X1 Y1 E1 X2 Y2 E2≠0) (hx:bot m E1 E2*x=top n m X1 E1 X2 E2*(e*e)) :
  (e*eO n m X1 Y1 E1 x e)*(e*eO n m X1 Y1 E1 x e)=(m*E1*E1*E1)*(m*E1*E1*E1)*cv a b x e:=by
 have h3:=wI h1 h2 he1 he2 hm hs hd
 have hy:e*e*(n*E1*E2*(X1*m*m*E2*E2 - top n m X1 E1 X2 E2) - Y1*m*m*m*E2*E2*E2)=m*m*E2*E2*E2*eO n m X1 Y1 E1 x e:=by
  unfold eO;unfold bot at hx
  have hq:n*E1*E2*(m*m*(E1*E1*E2*E2)*x)=n*E1*E2*(top n m X1 E1 X2 E2*(e*e)):=by rw [hx]
  generalize top n m X1 E1 X2 E2=t at *;clear h1 h2 he1 he2 hm hs hd h3 hx
  grind
 generalize top n m X1 E1 X2 E2=t,eO n m X1 Y1 E1 x e=s,(n*E1*E2*(X1*m*m*E2*E2 - top n m X1 E1 X2 E2) - Y1*m*m*m*E2*E2*E2)=y3 at *
 have hk:(m*m*m*m)*(E2*E2*E2*E2*E2*E2)≠0:=by
  repeat' apply Int.mul_ne_zero
  all_goals assumption
 apply di hk
 have q1:(m*m*m*m)*(E2*E2*E2*E2*E2*E2)*((e*s)*(e*s))=e*e*(e*e*y3)*(e*e*y3):=by rw [hy];clear h1 h2 hs h3 hx hy;grind
 have q2:e*e*(e*e*y3)*(e*e*y3)=(e*e)*(e*e)*(e*e)*(y3*y3):=by clear h1 h2 hs h3 hx hy q1;grind
 rw [q1,q2,h3]
 have q3:bot m E1 E2=(m*E1*E2)*(m*E1*E2):=by unfold bot;grind
 have q4:(e*e)*(e*e)*(e*e)*(t*t*t+a*(bot m E1 E2*bot m E1 E2)*t+b*(bot m E1 E2*bot m E1 E2*bot m E1 E2))=(t*(e*e))*(t*(e*e))*(t*(e*e))+a*(bot m E1 E2*bot m E1 E2)*(t*(e*e))*(e*e*(e*e))+b*(bot m E1 E2*bot m E1 E2*bot m E1 E2)*(e*e*(e*e)*(e*e)):=by clear h1 h2 hs h3 hx hy q1 q2 q3;grind
 rw [q4,←hx];unfold cv;rw [q3];clear h1 h2 he1 he2 hm hs hd h3 hx hy hk q1 q2 q3 q4
 grind
theorem rh {k c z:Int} (hk:k≠0) (h:z*z=k*k*c):∃ q,z=k*q∧q*q=c:=by
 have h1:k*k ∣ z*z:=⟨c,h⟩
 have h2:k.natAbs ^ 2 ∣ z.natAbs ^ 2:=by
  have:=Int.natAbs_dvd_natAbs.2 h1
  rwa [Int.natAbs_mul,Int.natAbs_mul,←Nat.pow_two,←Nat.pow_two] at this
 have h3:k ∣ z:=Int.natAbs_dvd_natAbs.1 ((Nat.pow_dvd_pow_iff (by decide)).1 h2);obtain ⟨q,rfl⟩:=h3;refine ⟨q,rfl,?_⟩;have hkk:k*k≠0:=Int.mul_ne_zero hk hk
 apply di hkk
 rw [←h];clear h h1 h2
 grind
theorem tU {a b X1 Y1 E1 X2 Y2 E2 n m x e:Int} (h1:Y1*Y1=cv a b X1 E1) (h2:Y2*Y2=cv a b X2 E2) (he1:E1≠0) (he2:E2≠0) (hm:m≠0) (hs:n*sD X1 Y1 E1 X2 Y2 E2=m*sN a X1 Y1 E1 X2 Y2 E2) (hd:sD X1 Y1 E1 X2 Y2 E2≠0) (hx:bot m E1 E2*x=top n m X1 E1 X2 E2*(e*e)) :
  ∃ y,e*eO n m X1 Y1 E1 x e=m*E1*E1*E1*y∧y*y=cv a b x e:=
 rh (Int.mul_ne_zero (Int.mul_ne_zero (Int.mul_ne_zero hm he1) he1) he1) (rp h1 h2 he1 he2 hm hs hd hx)
theorem pm {X1 E1 X2 E2 n m x e:Int} (hg:Int.gcd n m=1) (hx:bot m E1 E2*x=top n m X1 E1 X2 E2*(e*e)):m ∣ E1*E2*e:=by
 have h1:(n*(E1*E2*e))*(n*(E1*E2*e))=m*m*(E1*E1*E2*E2*x+(X1*E2*E2+X2*E1*E1)*(e*e)):=by
  unfold bot top at hx;clear hg
  grind
 have h3:m ∣ n*(E1*E2*e):=by
  by_cases hm:m=0
  ·subst hm
   simp only [Int.zero_mul] at h1
   rcases Int.mul_eq_zero.1 h1 with h | h <;> rw [h] <;> exact ⟨0,rfl⟩
  obtain ⟨q,hq,-⟩:=rh hm h1;exact ⟨q,hq⟩
 have h4:=Int.dvd_gcd_mul_iff_dvd_mul.2 h3;rw [Int.gcd_comm,hg] at h4
 simpa using h4
theorem rf {X1 E1 X2 E2 n m x e:Int} (he1:1≤E1) (he2:1≤E2) (he:1≤e) (hx1:X1≤10000) (hx2:X2≤10000) (hx3:x≤10000) (hx:bot m E1 E2*x=top n m X1 E1 X2 E2*(e*e)):n*n≤30000*(m*m):=by
 have k1:1≤E1*E1:=by have:=Int.mul_le_mul he1 he1 (by omega) (by omega);omega
 have k2:1≤E2*E2:=by have:=Int.mul_le_mul he2 he2 (by omega) (by omega);omega
 have k3:1≤e*e:=by have:=Int.mul_le_mul he he (by omega) (by omega);omega
 have h1:(E1*E1)*(E2*E2)*(e*e)*(n*n)=m*m*((E1*E1)*(E2*E2)*x+(E2*E2)*(e*e)*X1+(E1*E1)*(e*e)*X2):=by
  unfold bot top at hx;clear k1 k2 k3
  grind
 have hmm:0≤m*m:=by rcases Int.le_total 0 m with h | h;exact Int.mul_nonneg h h;exact Int.mul_nonneg_of_nonpos_of_nonpos h h
 clear hx he1 he2 he;generalize e*e=z,E2*E2=v,E1*E1=u at *;have p1:0≤u*v:=Int.mul_nonneg (by omega) (by omega);have p2:0≤v*z:=Int.mul_nonneg (by omega) (by omega);have p3:0≤u*z:=Int.mul_nonneg (by omega) (by omega);have p4:0<u*v*z:=Int.mul_pos (Int.mul_pos (by omega) (by omega)) (by omega)
 have s1:u*v*x≤u*v*z*10000:=by
  have a1:=Int.mul_le_mul_of_nonneg_left hx3 p1;have a2:=Int.mul_le_mul_of_nonneg_left k3 p1;omega
 have s2:v*z*X1≤u*v*z*10000:=by
  have a1:=Int.mul_le_mul_of_nonneg_left hx1 p2;have a2:=Int.mul_le_mul_of_nonneg_left k1 p2
  have a3:v*z*u=u*v*z:=by clear h1;grind
  omega
 have s3:u*z*X2≤u*v*z*10000:=by
  have a1:=Int.mul_le_mul_of_nonneg_left hx2 p3;have a2:=Int.mul_le_mul_of_nonneg_left k2 p3
  have a3:u*z*v=u*v*z:=by clear h1;grind
  omega
 have s4:u*v*z*(n*n)≤u*v*z*(30000*(m*m)):=by
  rw [h1];have a1:=Int.mul_le_mul_of_nonneg_left (show u*v*x+v*z*X1+u*z*X2≤u*v*z*30000 by omega) hmm
  have a2:m*m*(u*v*z*30000)=u*v*z*(30000*(m*m)):=by clear h1 a1 s1 s2 s3;grind
  omega
 exact Int.le_of_mul_le_mul_left s4 p4
theorem ju {n m:Int} (h:n*n≤30000*(m*m)):(n.natAbs:Int)≤200*(m.natAbs:Int):=by
 rw [←Int.natAbs_mul_self' n,←Int.natAbs_mul_self' m] at h
 have u0:0≤(n.natAbs:Int):=by omega
 have v0:0≤(m.natAbs:Int):=by omega
 generalize (n.natAbs:Int)=u at *;generalize (m.natAbs:Int)=v at *
 rcases Int.lt_or_le (200*v) u with q | q
 ·exfalso
  have:=Int.mul_le_mul (show 200*v+1≤u by omega) (show 200*v+1≤u by omega) (by omega) (by omega);rw [show (200*v+1)*(200*v+1)=40000*(v*v)+400*v+1 by clear this h q;grind] at this;have vv:=Int.mul_nonneg v0 v0;omega
 exact q
theorem mo {n m k:Int} (hk:0<k):bc (n*k) (m*k)=bc n m∧bR (n*k) (m*k)=bR n m:=by
 have hg:M.gcd (n*k) (m*k)=M.gcd n m*k:=by
  unfold M.gcd;rw [Int.gcd_mul_right]
  push_cast
  rw [Int.natAbs_of_nonneg (by omega)]
 have t1:(n*k).tdiv (M.gcd n m*k)=n.tdiv (M.gcd n m):=Int.mul_tdiv_mul_of_pos_left n (M.gcd n m) hk;have t2:(m*k).tdiv (M.gcd n m*k)=m.tdiv (M.gcd n m):=Int.mul_tdiv_mul_of_pos_left m (M.gcd n m) hk
 by_cases hn:m<0
 ·have hn':m*k<0:=Int.mul_neg_of_neg_of_pos hn hk
  rw [dh hn',dg hn',dh hn,dg hn,hg,t1,t2];exact ⟨rfl,rfl⟩
 have hn':0≤m*k:=Int.mul_nonneg (by omega) (by omega);rw [cf (by omega),ce (by omega),cf (by omega),ce (by omega),hg,t1,t2];exact ⟨rfl,rfl⟩
theorem kQ {t b x f:Int} (hb:0<b) (hf:0<f) (hg:Int.gcd x f=1) (h:b*x=t*f):bc t b=x∧bR t b=f:=by
 have h1:f ∣ x*b:=⟨t,by rw [Int.mul_comm x b,h,Int.mul_comm]⟩
 have h2:=Int.dvd_gcd_mul_iff_dvd_mul.2 h1;rw [Int.gcd_comm,hg] at h2
 obtain ⟨k,hk⟩:=(by simpa using h2:f ∣ b)
 have hk0:0<k:=by
  rcases Int.lt_or_le 0 k with q | q
  ·exact q
  have:=Int.mul_nonneg_of_nonpos_of_nonpos (show -f≤0 by omega) q;rw [Int.neg_mul] at this;omega
 have ht:t=x*k:=by
  apply di (show f≠0 by omega)
  rw [Int.mul_comm f t,←h,hk];clear h h1 h2 hk
  grind
 have hs:=mo (n:=x) (m:=f) hk0
 have hgg:M.gcd x f=1:=by unfold M.gcd;rw [hg];rfl
 rw [ht,hk];rw [hs.1,hs.2,cf (by omega),ce (by omega),hgg];simp
theorem kR {t b:Int} (hb:0<b):b*bc t b=t*bR t b∧0<bR t b∧Int.gcd (bc t b) (bR t b)=1:=by
 have hg:(0:Int)<M.gcd t b:=by
  unfold M.gcd;have:=Int.gcd_pos_of_ne_zero_right t (show b≠0 by omega);omega
 have d1:(M.gcd t b:Int) ∣ t:=Int.gcd_dvd_left ..;have d2:(M.gcd t b:Int) ∣ b:=Int.gcd_dvd_right ..;rw [cf (by omega),ce (by omega)];obtain ⟨u,hu⟩:=d1;obtain ⟨v,hv⟩:=d2
 have e1:t.tdiv (M.gcd t b)=u:=by
                     conv=>lhs;arg 1;rw [hu]
                     exact Int.mul_tdiv_cancel_left u (by omega)
 have e2:b.tdiv (M.gcd t b)=v:=by
                     conv=>lhs;arg 1;rw [hv]
                     exact Int.mul_tdiv_cancel_left v (by omega)
 rw [e1,e2]
 have hgu:M.gcd (M.gcd t b*u) (M.gcd t b*v)=M.gcd t b:=by rw [←hu,←hv]
 generalize M.gcd t b=g at *;unfold M.gcd at hgu;rw [Int.gcd_mul_left] at hgu
 push_cast at hgu
 rw [Int.natAbs_of_nonneg (by omega)] at hgu;refine ⟨?_,?_,?_⟩
 ·rw [hu,hv];clear hu hv e1 e2 hgu;grind
 ·rcases Int.lt_or_le 0 v with q | q
  ·exact q
  have:=Int.mul_nonneg_of_nonpos_of_nonpos (show -g≤0 by omega) q;rw [Int.neg_mul] at this;omega
 have:(Int.gcd u v:Int)=1:=by
  apply di (show g≠0 by omega)
  omega
 omega
theorem kD {x e:Int}:Int.gcd x (e*e)=1 ↔ Int.gcd x e=1:=by
 unfold Int.gcd;rw [Int.natAbs_mul]
 constructor
 ·intro h
  exact Nat.Coprime.coprime_mul_left_right (show Nat.Coprime x.natAbs (e.natAbs*e.natAbs) from h)
 intro h;exact Nat.Coprime.mul_right (show Nat.Coprime x.natAbs e.natAbs from h) h
theorem oQ {e:Int} (h:0≤e):root (e*e)=e:=(iU ⟨h,Int.le_refl _,by rw [Int.add_mul,Int.mul_add];omega⟩).symm
noncomputable def yl (n m X1 E1 X2 E2:Int):Int:=root (bR (top n m X1 E1 X2 E2) (bot m E1 E2))
noncomputable def Ai (n m X1 E1 X2 E2:Int):Int:=bc (top n m X1 E1 X2 E2) (bot m E1 E2)
noncomputable def CU (n m X1 Y1 E1 X2 E2:Int):Int:=(yl n m X1 E1 X2 E2*eO n m X1 Y1 E1 (Ai n m X1 E1 X2 E2) (yl n m X1 E1 X2 E2)) / (m*E1*E1*E1)
noncomputable def dj (n m X1 E1 X2 E2:Int):Bool:=decide (yl n m X1 E1 X2 E2*yl n m X1 E1 X2 E2=bR (top n m X1 E1 X2 E2) (bot m E1 E2)) && decide (yl n m X1 E1 X2 E2≤20) && M.ins (Ai n m X1 E1 X2 E2) (-10000) 10000
theorem iQ {m E1 E2:Int} (hm:m≠0) (he1:E1≠0) (he2:E2≠0):0<bot m E1 E2:=by
 have h:bot m E1 E2=(m*E1*E2)*(m*E1*E2):=by unfold bot;grind
 have h0:m*E1*E2≠0:=Int.mul_ne_zero (Int.mul_ne_zero hm he1) he2;rw [h]
 rcases Int.lt_or_gt_of_ne h0 with q | q
 ·exact Int.mul_pos_of_neg_of_neg q q
 exact Int.mul_pos q q
theorem uB {n m X1 E1 X2 E2 x e:Int} (hm:m≠0) (he1:E1≠0) (he2:E2≠0) (h1:1≤e) (h2:e≤20) (h3:-10000≤x) (h4:x≤10000) (hg:Int.gcd x e=1) (hx:bot m E1 E2*x=top n m X1 E1 X2 E2*(e*e)):dj n m X1 E1 X2 E2=true∧Ai n m X1 E1 X2 E2=x∧yl n m X1 E1 X2 E2=e:=by
 have hp:=kQ (iQ hm he1 he2) (Int.mul_pos (by omega) (by omega)) (kD.2 hg) hx
 have hE:yl n m X1 E1 X2 E2=e:=by unfold yl;rw [hp.2];exact oQ (by omega)
 have hX:Ai n m X1 E1 X2 E2=x:=hp.1;refine ⟨?_,hX,hE⟩;unfold dj;rw [hE,hX,hp.2];simp [M.ins,h2,h3,h4]
theorem nO {n m X1 E1 X2 E2:Int} (hm:m≠0) (he1:E1≠0) (he2:E2≠0) (h:dj n m X1 E1 X2 E2=true):1≤yl n m X1 E1 X2 E2∧yl n m X1 E1 X2 E2≤20∧-10000≤Ai n m X1 E1 X2 E2∧Ai n m X1 E1 X2 E2≤10000∧Int.gcd (Ai n m X1 E1 X2 E2) (yl n m X1 E1 X2 E2)=1∧bot m E1 E2*Ai n m X1 E1 X2 E2=top n m X1 E1 X2 E2*(yl n m X1 E1 X2 E2*yl n m X1 E1 X2 E2):=by
 have hp:=kR (t:=top n m X1 E1 X2 E2) (iQ hm he1 he2);unfold dj at h;simp only [Bool.and_eq_true,decide_eq_true_eq,M.ins] at h;obtain ⟨⟨k1,k2⟩,k3,k4⟩:=h;rw [←k1] at hp;have hE:0≤yl n m X1 E1 X2 E2:=(fb (by have:=hp.2.1;omega)).1;refine ⟨?_,k2,k3,k4,kD.1 hp.2.2,hp.1⟩
 rcases Int.lt_or_le 0 (yl n m X1 E1 X2 E2) with q | q
 ·omega
 have:yl n m X1 E1 X2 E2=0:=by omega
 have:=hp.2.1;rw [‹yl n m X1 E1 X2 E2=0›] at this;omega
end M
end
end Go.Proofs.YtggekfbfechonaaGreat
