/-
  Joined texts: contracts and plain lemmas.
-/
import Derived.Test.YtgfkcoablfjbcaaGreatDoorB1
import Derived.Test.YtgfkcoablfjbcaaGreatDoorB16
set_option linter.unusedSimpArgs false
set_option linter.unusedVariables false
set_option maxRecDepth 100000
set_option maxHeartbeats 8000000
namespace Go.Proofs.YtgfkcoablfjbcaaGreatDoor
section
open Go.RowKit
theorem M.rq (x y:Int):M.gcd (x.natAbs:Int) y=M.gcd x y:=by unfold M.gcd Int.gcd;rw [Int.natAbs_natCast]
theorem tn (a b X Y E:Int) (w:World) (hgd:M.good a b=true) :
  Calls Tryz.prog 27 #[.agg #[.int .i64 a,.int .i64 b],.agg #[.int .i64 X,.int .i64 Y,.int .i64 E]] w fun e w'=>e=.returned (.bool (M.bR a b X Y E))∧Below w.heap.size w w':=by
 have C:=(aH.new w #[.int .i64 a,.int .i64 b] 28).alloc (.cells #[.int .i64 X,.int .i64 Y,.int .i64 E] 45)
 have Q:=(aH.new (w.alloc (.cells #[.int .i64 a,.int .i64 b] 28)) #[.int .i64 X,.int .i64 Y,.int .i64 E] 45)
 rw [ui] at Q
 have B:=((uk w.heap.size w).alloc (ul _) (.cells #[.int .i64 a,.int .i64 b] 28)).alloc (by rw [ui];omega) (.cells #[.int .i64 X,.int .i64 Y,.int .i64 E] 45)
 generalize hw3:(w.alloc (.cells #[.int .i64 a,.int .i64 b] 28)).alloc (.cells #[.int .i64 X,.int .i64 Y,.int .i64 E] 45)=wc at *
 have ⟨q0,q1,q2⟩:=Q.aQ
 have C_c0:=C.box.c0
 have C_c1:=C.box.c1
 obtain ⟨ha1,ha2,hb1,hb2⟩:=M.ah (M.bE hgd)
 clear hgd
 by_cases hE:E=0
 ·subst hE
  have hr:=uh (show M.bR a b X Y 0=(decide (X=0) && decide (Y=0)) by unfold M.bR;rw [if_pos rfl])
  rw [hr.out]
  by_cases hX:X=0
  ·by_cases hY:Y=0
   ·subst hX hY
    go_enter Tryz.func27,Tryz.ntmps27
    go_wp2
    go_ret
    exact ⟨rfl,B⟩
   have hY0:(Y == 0)=false:=by rw [beq_eq_false_iff_ne];exact hY
   subst hX
   go_enter Tryz.func27,Tryz.ntmps27
   go_wp2
   go_ret
   exact ⟨by simp [hY],B⟩
  have hX0:(X == 0)=false:=by rw [beq_eq_false_iff_ne];exact hX
  go_enter Tryz.func27,Tryz.ntmps27
  go_wp2
  go_ret
  exact ⟨by simp [hX],B⟩
 have hE0:(E == 0)=false:=by rw [beq_eq_false_iff_ne];exact hE
 have hpt:M.bR a b X Y E=(M.ins X (-10000) 10000 && M.ins E 1 20 && (M.gcd X E == 1) && decide (Y*Y=M.cv a b X E)):=by unfold M.bR;rw [if_neg hE]
 have P1:=fun W=>dQ X (-10000) 10000 W
 have P2:=fun W=>dQ E 1 20 W
 have P4:=fun W=>dQ Y (-10000000) 10000000 W
 have hgb:=fun h=>M.el (n:=X) (lo:=-10000) (hi:=10000) h
 have hge:=fun h=>M.el (n:=E) (lo:=1) (hi:=20) h
 have hyb:=fun h=>M.sv (Y:=Y) (v:=M.cv a b X E) h
 have hiy:M.ins Y (-10000000) 10000000=true ↔ (-10000000≤Y∧Y≤10000000):=by unfold M.ins;simp
 generalize M.ins X (-10000) 10000=i1 at *
 generalize M.ins E 1 20=i2 at *
 generalize M.ins Y (-10000000) 10000000=i4 at *
 cases i1 with
 | false=>
  have hr2:=uh (show M.bR a b X Y E=false by rw [hpt];rfl)
  rw [hr2.out]
  clear hpt hgb hge hyb hiy
  have P1:=uh P1
  have P2:=uh P2
  have P4:=uh P4
  go_enter Tryz.func27,Tryz.ntmps27
  go_wp2
  go_upto_region 3 with fail
  refine Rg.bF 25 [.is (.pointer (some ⟨w.heap.size+1,0,none⟩)),.is (.int .i64 X),.is (.bool false),.is (.bool true),.is (.bool true),.is (undef),.is (undef),.is (undef),.is (undef),.is (.bool true),.is (.bool true),.is (undef),.is (undef),.is (undef),.is (undef),.is (.bool true),.is (.bool true),.is (undef),.is (undef),.is (undef),.is (undef),.is (undef),.is (undef),.is (undef),.is (.bool true)] (by kernel_rfl) (by kernel_rfl) (by kernel_rfl) ⟨?_,?_,?_,?_,?_,?_,?_,?_,?_,?_,?_,?_,?_,?_,?_,?_,?_,?_,?_,?_,?_,?_,?_,?_,?_,trivial⟩ ?_
  ·intro _ ac_ w_ hB hr
   have e3:ac_.tmps[3]?=some (.pointer (some ⟨w.heap.size+1,0,none⟩)):=hr 3 (by decide)
   exact Rg.aG rfl (by go_simp)
  ·intro _ ac_ w_ hB hr
   have e16:=Rg.ev1 (hr 16 (by decide))
   have k0:=aE hB Q.aQ.1
   exact Rg.aG rfl (by go_simp)
  ·intro _ ac_ w_ hB hr
   have e17:=Rg.ev1 (hr 17 (by decide))
   have ec:=Rg.ec ac_
   have ef:=Rg.ef ac_
   refine Rg.aX rfl (by go_simp;exact ⟨rfl,rfl⟩) ?_
   refine (P1.out _).mono ?_
   rintro e w5 ⟨rfl,rfl⟩
   exact ⟨_,rfl,rfl,uk _ _⟩
  ·intro _ ac_ w_ hB hr
   have e18:=Rg.ev1 (hr 18 (by decide))
   exact Rg.aG rfl (by go_simp)
  ·intro _ ac_ w_ hB hr
   have e19:=Rg.ev1 (hr 19 (by decide))
   exact Rg.aG rfl (by go_simp)
  ·intro _ ac_ w_ hB hr
   have e3:ac_.tmps[3]?=some (.pointer (some ⟨w.heap.size+1,0,none⟩)):=hr 3 (by decide)
   have e20:=Rg.ev1 (hr 20 (by decide))
   exact Rg.bq (Rg.ak (j:=4) (b:=true) rfl (Rg.yld rfl e20))
  ·intro _ ac_ w_ hB hr
   have e20:=Rg.ev1 (hr 20 (by decide))
   have e21:=Rg.ev1 (hr 21 (by decide))
   exact Rg.bq (Rg.ak (j:=4) (b:=true) rfl (Rg.yld rfl e20))
  ·intro _ ac_ w_ hB hr
   have e20:=Rg.ev1 (hr 20 (by decide))
   have e22:=Rg.ev1 (hr 22 (by decide))
   have ec:=Rg.ec ac_
   exact Rg.bq (Rg.ak (j:=4) (b:=true) rfl (Rg.yld rfl e20))
  ·intro _ ac_ w_ hB hr
   have e20:=Rg.ev1 (hr 20 (by decide))
   have e23:=Rg.ev1 (hr 23 (by decide))
   exact Rg.bq (Rg.ak (j:=4) (b:=true) rfl (Rg.yld rfl e20))
  ·intro _ ac_ w_ hB hr
   have e20:=Rg.ev1 (hr 20 (by decide))
   have e24:=Rg.ev1 (hr 24 (by decide))
   have ec:=Rg.ec ac_
   exact Rg.aG rfl (by go_simp)
  ·intro _ ac_ w_ hB hr
   have e25:=Rg.ev1 (hr 25 (by decide))
   exact Rg.aG rfl (by go_simp)
  ·intro _ ac_ w_ hB hr
   have e3:ac_.tmps[3]?=some (.pointer (some ⟨w.heap.size+1,0,none⟩)):=hr 3 (by decide)
   have e26:=Rg.ev1 (hr 26 (by decide))
   exact Rg.bq (Rg.ak (j:=10) (b:=true) rfl (Rg.yld rfl e26))
  ·intro _ ac_ w_ hB hr
   have e26:=Rg.ev1 (hr 26 (by decide))
   have e27:=Rg.ev1 (hr 27 (by decide))
   exact Rg.bq (Rg.ak (j:=10) (b:=true) rfl (Rg.yld rfl e26))
  ·intro _ ac_ w_ hB hr
   have e26:=Rg.ev1 (hr 26 (by decide))
   have e28:=Rg.ev1 (hr 28 (by decide))
   have ec:=Rg.ec ac_
   exact Rg.bq (Rg.ak (j:=10) (b:=true) rfl (Rg.yld rfl e26))
  ·intro _ ac_ w_ hB hr
   have e26:=Rg.ev1 (hr 26 (by decide))
   have e29:=Rg.ev1 (hr 29 (by decide))
   exact Rg.bq (Rg.ak (j:=10) (b:=true) rfl (Rg.yld rfl e26))
  ·intro _ ac_ w_ hB hr
   have e26:=Rg.ev1 (hr 26 (by decide))
   have e30:=Rg.ev1 (hr 30 (by decide))
   have ec:=Rg.ec ac_
   exact Rg.aG rfl (by go_simp)
  ·intro _ ac_ w_ hB hr
   have e31:=Rg.ev1 (hr 31 (by decide))
   exact Rg.aG rfl (by go_simp)
  ·intro _ ac_ w_ hB hr
   have e3:ac_.tmps[3]?=some (.pointer (some ⟨w.heap.size+1,0,none⟩)):=hr 3 (by decide)
   have e32:=Rg.ev1 (hr 32 (by decide))
   exact Rg.bq (Rg.ak (j:=16) (b:=true) rfl (Rg.yld rfl e32))
  ·intro _ ac_ w_ hB hr
   have e32:=Rg.ev1 (hr 32 (by decide))
   have e33:=Rg.ev1 (hr 33 (by decide))
   exact Rg.bq (Rg.ak (j:=16) (b:=true) rfl (Rg.yld rfl e32))
  ·intro _ ac_ w_ hB hr
   have e32:=Rg.ev1 (hr 32 (by decide))
   have e34:=Rg.ev1 (hr 34 (by decide))
   exact Rg.bq (Rg.ak (j:=16) (b:=true) rfl (Rg.yld rfl e32))
  ·intro _ ac_ w_ hB hr
   have e3:ac_.tmps[3]?=some (.pointer (some ⟨w.heap.size+1,0,none⟩)):=hr 3 (by decide)
   have e32:=Rg.ev1 (hr 32 (by decide))
   exact Rg.bq (Rg.ak (j:=16) (b:=true) rfl (Rg.yld rfl e32))
  ·intro _ ac_ w_ hB hr
   have e32:=Rg.ev1 (hr 32 (by decide))
   have e36:=Rg.ev1 (hr 36 (by decide))
   exact Rg.bq (Rg.ak (j:=16) (b:=true) rfl (Rg.yld rfl e32))
  ·intro _ ac_ w_ hB hr
   have e32:=Rg.ev1 (hr 32 (by decide))
   have e35:=Rg.ev1 (hr 35 (by decide))
   have e37:=Rg.ev1 (hr 37 (by decide))
   exact Rg.bq (Rg.ak (j:=16) (b:=true) rfl (Rg.yld rfl e32))
  ·intro _ ac_ w_ hB hr
   have e32:=Rg.ev1 (hr 32 (by decide))
   have e38:=Rg.ev1 (hr 38 (by decide))
   have ec:=Rg.ec ac_
   exact Rg.bq (Rg.ak (j:=16) (b:=true) rfl (Rg.yld rfl e32))
  ·intro _ ac_ w_ hB hr
   have e32:=Rg.ev1 (hr 32 (by decide))
   have e39:=Rg.ev1 (hr 39 (by decide))
   have ec:=Rg.ec ac_
   exact Rg.aG rfl (by go_simp)
  intro vals wz hB hv hne
  have v_24:vals 24=.bool true:=hv 24 (by decide)
  simp only [Rg.am,Rg.fill,Act.put,Nat.reduceAdd]
  clear hv
  simp only [v_24]
  clear v_24
  unfold Rg.aV
  go_wp2
  go_ret
  exact ⟨rfl,B.trans (hB.mono B.size)⟩
 | true=>
 cases i2 with
 | false=>
  have hr2:=uh (show M.bR a b X Y E=false by rw [hpt];rfl)
  rw [hr2.out]
  clear hpt hgb hge hyb hiy
  have P1:=uh P1
  have P2:=uh P2
  have P4:=uh P4
  go_enter Tryz.func27,Tryz.ntmps27
  go_wp2
  go_upto_region 3 with fail
  refine Rg.bF 25 [.is (.pointer (some ⟨w.heap.size+1,0,none⟩)),.is (.int .i64 X),.is (.bool true),.is (.bool false),.is (.bool false),.is (.pointer (some ⟨w.heap.size+1,2,none⟩)),.is (.int .i64 E),.is (.bool false),.is (.bool true),.is (.bool true),.is (.bool true),.is (undef),.is (undef),.is (undef),.is (undef),.is (.bool true),.is (.bool true),.is (undef),.is (undef),.is (undef),.is (undef),.is (undef),.is (undef),.is (undef),.is (.bool true)] (by kernel_rfl) (by kernel_rfl) (by kernel_rfl) ⟨?_,?_,?_,?_,?_,?_,?_,?_,?_,?_,?_,?_,?_,?_,?_,?_,?_,?_,?_,?_,?_,?_,?_,?_,?_,trivial⟩ ?_
  ·intro _ ac_ w_ hB hr
   have e3:ac_.tmps[3]?=some (.pointer (some ⟨w.heap.size+1,0,none⟩)):=hr 3 (by decide)
   exact Rg.aG rfl (by go_simp)
  ·intro _ ac_ w_ hB hr
   have e16:=Rg.ev1 (hr 16 (by decide))
   have k0:=aE hB Q.aQ.1
   exact Rg.aG rfl (by go_simp)
  ·intro _ ac_ w_ hB hr
   have e17:=Rg.ev1 (hr 17 (by decide))
   have ec:=Rg.ec ac_
   have ef:=Rg.ef ac_
   refine Rg.aX rfl (by go_simp;exact ⟨rfl,rfl⟩) ?_
   refine (P1.out _).mono ?_
   rintro e w5 ⟨rfl,rfl⟩
   exact ⟨_,rfl,rfl,uk _ _⟩
  ·intro _ ac_ w_ hB hr
   have e18:=Rg.ev1 (hr 18 (by decide))
   exact Rg.aG rfl (by go_simp)
  ·intro _ ac_ w_ hB hr
   have e19:=Rg.ev1 (hr 19 (by decide))
   exact Rg.aG rfl (by go_simp)
  ·intro _ ac_ w_ hB hr
   have e3:ac_.tmps[3]?=some (.pointer (some ⟨w.heap.size+1,0,none⟩)):=hr 3 (by decide)
   have e20:=Rg.ev1 (hr 20 (by decide))
   exact Rg.aG (Rg.aY (j:=4) (b:=false) rfl (Rg.yld rfl e20)) (by go_simp)
  ·intro _ ac_ w_ hB hr
   have e20:=Rg.ev1 (hr 20 (by decide))
   have e21:=Rg.ev1 (hr 21 (by decide))
   have k2:=aE hB Q.aQ.2.2
   exact Rg.aG (Rg.aY (j:=4) (b:=false) rfl (Rg.yld rfl e20)) (by go_simp)
  ·intro _ ac_ w_ hB hr
   have e20:=Rg.ev1 (hr 20 (by decide))
   have e22:=Rg.ev1 (hr 22 (by decide))
   have ec:=Rg.ec ac_
   have ef:=Rg.ef ac_
   refine Rg.aX (Rg.aY (j:=4) (b:=false) rfl (Rg.yld rfl e20)) (by go_simp;exact ⟨rfl,rfl⟩) ?_
   refine (P2.out _).mono ?_
   rintro e w5 ⟨rfl,rfl⟩
   exact ⟨_,rfl,rfl,uk _ _⟩
  ·intro _ ac_ w_ hB hr
   have e20:=Rg.ev1 (hr 20 (by decide))
   have e23:=Rg.ev1 (hr 23 (by decide))
   exact Rg.aG (Rg.aY (j:=4) (b:=false) rfl (Rg.yld rfl e20)) (by go_simp)
  ·intro _ ac_ w_ hB hr
   have e20:=Rg.ev1 (hr 20 (by decide))
   have e24:=Rg.ev1 (hr 24 (by decide))
   have ec:=Rg.ec ac_
   exact Rg.aG rfl (by go_simp)
  ·intro _ ac_ w_ hB hr
   have e25:=Rg.ev1 (hr 25 (by decide))
   exact Rg.aG rfl (by go_simp)
  ·intro _ ac_ w_ hB hr
   have e3:ac_.tmps[3]?=some (.pointer (some ⟨w.heap.size+1,0,none⟩)):=hr 3 (by decide)
   have e26:=Rg.ev1 (hr 26 (by decide))
   exact Rg.bq (Rg.ak (j:=10) (b:=true) rfl (Rg.yld rfl e26))
  ·intro _ ac_ w_ hB hr
   have e26:=Rg.ev1 (hr 26 (by decide))
   have e27:=Rg.ev1 (hr 27 (by decide))
   exact Rg.bq (Rg.ak (j:=10) (b:=true) rfl (Rg.yld rfl e26))
  ·intro _ ac_ w_ hB hr
   have e26:=Rg.ev1 (hr 26 (by decide))
   have e28:=Rg.ev1 (hr 28 (by decide))
   have ec:=Rg.ec ac_
   exact Rg.bq (Rg.ak (j:=10) (b:=true) rfl (Rg.yld rfl e26))
  ·intro _ ac_ w_ hB hr
   have e26:=Rg.ev1 (hr 26 (by decide))
   have e29:=Rg.ev1 (hr 29 (by decide))
   exact Rg.bq (Rg.ak (j:=10) (b:=true) rfl (Rg.yld rfl e26))
  ·intro _ ac_ w_ hB hr
   have e26:=Rg.ev1 (hr 26 (by decide))
   have e30:=Rg.ev1 (hr 30 (by decide))
   have ec:=Rg.ec ac_
   exact Rg.aG rfl (by go_simp)
  ·intro _ ac_ w_ hB hr
   have e31:=Rg.ev1 (hr 31 (by decide))
   exact Rg.aG rfl (by go_simp)
  ·intro _ ac_ w_ hB hr
   have e3:ac_.tmps[3]?=some (.pointer (some ⟨w.heap.size+1,0,none⟩)):=hr 3 (by decide)
   have e32:=Rg.ev1 (hr 32 (by decide))
   exact Rg.bq (Rg.ak (j:=16) (b:=true) rfl (Rg.yld rfl e32))
  ·intro _ ac_ w_ hB hr
   have e32:=Rg.ev1 (hr 32 (by decide))
   have e33:=Rg.ev1 (hr 33 (by decide))
   exact Rg.bq (Rg.ak (j:=16) (b:=true) rfl (Rg.yld rfl e32))
  ·intro _ ac_ w_ hB hr
   have e32:=Rg.ev1 (hr 32 (by decide))
   have e34:=Rg.ev1 (hr 34 (by decide))
   exact Rg.bq (Rg.ak (j:=16) (b:=true) rfl (Rg.yld rfl e32))
  ·intro _ ac_ w_ hB hr
   have e3:ac_.tmps[3]?=some (.pointer (some ⟨w.heap.size+1,0,none⟩)):=hr 3 (by decide)
   have e32:=Rg.ev1 (hr 32 (by decide))
   exact Rg.bq (Rg.ak (j:=16) (b:=true) rfl (Rg.yld rfl e32))
  ·intro _ ac_ w_ hB hr
   have e32:=Rg.ev1 (hr 32 (by decide))
   have e36:=Rg.ev1 (hr 36 (by decide))
   exact Rg.bq (Rg.ak (j:=16) (b:=true) rfl (Rg.yld rfl e32))
  ·intro _ ac_ w_ hB hr
   have e32:=Rg.ev1 (hr 32 (by decide))
   have e35:=Rg.ev1 (hr 35 (by decide))
   have e37:=Rg.ev1 (hr 37 (by decide))
   exact Rg.bq (Rg.ak (j:=16) (b:=true) rfl (Rg.yld rfl e32))
  ·intro _ ac_ w_ hB hr
   have e32:=Rg.ev1 (hr 32 (by decide))
   have e38:=Rg.ev1 (hr 38 (by decide))
   have ec:=Rg.ec ac_
   exact Rg.bq (Rg.ak (j:=16) (b:=true) rfl (Rg.yld rfl e32))
  ·intro _ ac_ w_ hB hr
   have e32:=Rg.ev1 (hr 32 (by decide))
   have e39:=Rg.ev1 (hr 39 (by decide))
   have ec:=Rg.ec ac_
   exact Rg.aG rfl (by go_simp)
  intro vals wz hB hv hne
  have v_24:vals 24=.bool true:=hv 24 (by decide)
  simp only [Rg.am,Rg.fill,Act.put,Nat.reduceAdd]
  clear hv
  simp only [v_24]
  clear v_24
  unfold Rg.aV
  go_wp2
  go_ret
  exact ⟨rfl,B.trans (hB.mono B.size)⟩
 | true=>
 rw [Bool.true_and,Bool.true_and] at hpt
 obtain ⟨x1,x2⟩:=hgb rfl
 obtain ⟨e1,e2⟩:=hge rfl
 have hcb:=M.kx (a:=a) (b:=b) (x:=X) (e:=E) ha1 ha2 (by omega) (by omega) x1 x2 (by omega) (by omega)
 have PV:=fun W=>pO a b X E W ha1 ha2 (by omega) (by omega) x1 x2 (by omega) (by omega)
 have PA:=fun W=>dA X W (by omega) (by omega)
 have PG:=fun W=>dD (X.natAbs:Int) E W (by omega) (by omega) (by omega) (by omega)
 rw [M.rq] at PG
 clear hgb hge
 generalize M.gcd X E=gg at *
 cases i4 with
 | false=>
  have hr2:=uh (show M.bR a b X Y E=false by rw [hpt];simp only [Bool.and_eq_false_iff,decide_eq_false_iff_not];right;intro hyy;have q:=hyb hyy (by omega);have:=hiy.2 (by omega);cases this)
  rw [hr2.out]
  clear hpt hyb hiy hcb PV PA PG
  have P1:=uh P1
  have P2:=uh P2
  have P4:=uh P4
  go_enter Tryz.func27,Tryz.ntmps27
  go_wp2
  go_upto_region 3 with fail
  refine Rg.bF 25 [.is (.pointer (some ⟨w.heap.size+1,0,none⟩)),.is (.int .i64 X),.is (.bool true),.is (.bool false),.is (.bool false),.is (.pointer (some ⟨w.heap.size+1,2,none⟩)),.is (.int .i64 E),.is (.bool true),.is (.bool false),.is (.bool false),.is (.bool false),.is (.pointer (some ⟨w.heap.size+1,1,none⟩)),.is (.int .i64 Y),.is (.bool false),.is (.bool true),.is (.bool true),.is (.bool true),.is (undef),.is (undef),.is (undef),.is (undef),.is (undef),.is (undef),.is (undef),.is (.bool true)] (by kernel_rfl) (by kernel_rfl) (by kernel_rfl) ⟨?_,?_,?_,?_,?_,?_,?_,?_,?_,?_,?_,?_,?_,?_,?_,?_,?_,?_,?_,?_,?_,?_,?_,?_,?_,trivial⟩ ?_
  ·intro _ ac_ w_ hB hr
   have e3:ac_.tmps[3]?=some (.pointer (some ⟨w.heap.size+1,0,none⟩)):=hr 3 (by decide)
   exact Rg.aG rfl (by go_simp)
  ·intro _ ac_ w_ hB hr
   have e16:=Rg.ev1 (hr 16 (by decide))
   have k0:=aE hB Q.aQ.1
   exact Rg.aG rfl (by go_simp)
  ·intro _ ac_ w_ hB hr
   have e17:=Rg.ev1 (hr 17 (by decide))
   have ec:=Rg.ec ac_
   have ef:=Rg.ef ac_
   refine Rg.aX rfl (by go_simp;exact ⟨rfl,rfl⟩) ?_
   refine (P1.out _).mono ?_
   rintro e w5 ⟨rfl,rfl⟩
   exact ⟨_,rfl,rfl,uk _ _⟩
  ·intro _ ac_ w_ hB hr
   have e18:=Rg.ev1 (hr 18 (by decide))
   exact Rg.aG rfl (by go_simp)
  ·intro _ ac_ w_ hB hr
   have e19:=Rg.ev1 (hr 19 (by decide))
   exact Rg.aG rfl (by go_simp)
  ·intro _ ac_ w_ hB hr
   have e3:ac_.tmps[3]?=some (.pointer (some ⟨w.heap.size+1,0,none⟩)):=hr 3 (by decide)
   have e20:=Rg.ev1 (hr 20 (by decide))
   exact Rg.aG (Rg.aY (j:=4) (b:=false) rfl (Rg.yld rfl e20)) (by go_simp)
  ·intro _ ac_ w_ hB hr
   have e20:=Rg.ev1 (hr 20 (by decide))
   have e21:=Rg.ev1 (hr 21 (by decide))
   have k2:=aE hB Q.aQ.2.2
   exact Rg.aG (Rg.aY (j:=4) (b:=false) rfl (Rg.yld rfl e20)) (by go_simp)
  ·intro _ ac_ w_ hB hr
   have e20:=Rg.ev1 (hr 20 (by decide))
   have e22:=Rg.ev1 (hr 22 (by decide))
   have ec:=Rg.ec ac_
   have ef:=Rg.ef ac_
   refine Rg.aX (Rg.aY (j:=4) (b:=false) rfl (Rg.yld rfl e20)) (by go_simp;exact ⟨rfl,rfl⟩) ?_
   refine (P2.out _).mono ?_
   rintro e w5 ⟨rfl,rfl⟩
   exact ⟨_,rfl,rfl,uk _ _⟩
  ·intro _ ac_ w_ hB hr
   have e20:=Rg.ev1 (hr 20 (by decide))
   have e23:=Rg.ev1 (hr 23 (by decide))
   exact Rg.aG (Rg.aY (j:=4) (b:=false) rfl (Rg.yld rfl e20)) (by go_simp)
  ·intro _ ac_ w_ hB hr
   have e20:=Rg.ev1 (hr 20 (by decide))
   have e24:=Rg.ev1 (hr 24 (by decide))
   have ec:=Rg.ec ac_
   exact Rg.aG rfl (by go_simp)
  ·intro _ ac_ w_ hB hr
   have e25:=Rg.ev1 (hr 25 (by decide))
   exact Rg.aG rfl (by go_simp)
  ·intro _ ac_ w_ hB hr
   have e3:ac_.tmps[3]?=some (.pointer (some ⟨w.heap.size+1,0,none⟩)):=hr 3 (by decide)
   have e26:=Rg.ev1 (hr 26 (by decide))
   exact Rg.aG (Rg.aY (j:=10) (b:=false) rfl (Rg.yld rfl e26)) (by go_simp)
  ·intro _ ac_ w_ hB hr
   have e26:=Rg.ev1 (hr 26 (by decide))
   have e27:=Rg.ev1 (hr 27 (by decide))
   have k1:=aE hB Q.aQ.2.1
   exact Rg.aG (Rg.aY (j:=10) (b:=false) rfl (Rg.yld rfl e26)) (by go_simp)
  ·intro _ ac_ w_ hB hr
   have e26:=Rg.ev1 (hr 26 (by decide))
   have e28:=Rg.ev1 (hr 28 (by decide))
   have ec:=Rg.ec ac_
   have ef:=Rg.ef ac_
   refine Rg.aX (Rg.aY (j:=10) (b:=false) rfl (Rg.yld rfl e26)) (by go_simp;exact ⟨rfl,rfl⟩) ?_
   refine (P4.out _).mono ?_
   rintro e w5 ⟨rfl,rfl⟩
   exact ⟨_,rfl,rfl,uk _ _⟩
  ·intro _ ac_ w_ hB hr
   have e26:=Rg.ev1 (hr 26 (by decide))
   have e29:=Rg.ev1 (hr 29 (by decide))
   exact Rg.aG (Rg.aY (j:=10) (b:=false) rfl (Rg.yld rfl e26)) (by go_simp)
  ·intro _ ac_ w_ hB hr
   have e26:=Rg.ev1 (hr 26 (by decide))
   have e30:=Rg.ev1 (hr 30 (by decide))
   have ec:=Rg.ec ac_
   exact Rg.aG rfl (by go_simp)
  ·intro _ ac_ w_ hB hr
   have e31:=Rg.ev1 (hr 31 (by decide))
   exact Rg.aG rfl (by go_simp)
  ·intro _ ac_ w_ hB hr
   have e3:ac_.tmps[3]?=some (.pointer (some ⟨w.heap.size+1,0,none⟩)):=hr 3 (by decide)
   have e32:=Rg.ev1 (hr 32 (by decide))
   exact Rg.bq (Rg.ak (j:=16) (b:=true) rfl (Rg.yld rfl e32))
  ·intro _ ac_ w_ hB hr
   have e32:=Rg.ev1 (hr 32 (by decide))
   have e33:=Rg.ev1 (hr 33 (by decide))
   exact Rg.bq (Rg.ak (j:=16) (b:=true) rfl (Rg.yld rfl e32))
  ·intro _ ac_ w_ hB hr
   have e32:=Rg.ev1 (hr 32 (by decide))
   have e34:=Rg.ev1 (hr 34 (by decide))
   exact Rg.bq (Rg.ak (j:=16) (b:=true) rfl (Rg.yld rfl e32))
  ·intro _ ac_ w_ hB hr
   have e3:ac_.tmps[3]?=some (.pointer (some ⟨w.heap.size+1,0,none⟩)):=hr 3 (by decide)
   have e32:=Rg.ev1 (hr 32 (by decide))
   exact Rg.bq (Rg.ak (j:=16) (b:=true) rfl (Rg.yld rfl e32))
  ·intro _ ac_ w_ hB hr
   have e32:=Rg.ev1 (hr 32 (by decide))
   have e36:=Rg.ev1 (hr 36 (by decide))
   exact Rg.bq (Rg.ak (j:=16) (b:=true) rfl (Rg.yld rfl e32))
  ·intro _ ac_ w_ hB hr
   have e32:=Rg.ev1 (hr 32 (by decide))
   have e35:=Rg.ev1 (hr 35 (by decide))
   have e37:=Rg.ev1 (hr 37 (by decide))
   exact Rg.bq (Rg.ak (j:=16) (b:=true) rfl (Rg.yld rfl e32))
  ·intro _ ac_ w_ hB hr
   have e32:=Rg.ev1 (hr 32 (by decide))
   have e38:=Rg.ev1 (hr 38 (by decide))
   have ec:=Rg.ec ac_
   exact Rg.bq (Rg.ak (j:=16) (b:=true) rfl (Rg.yld rfl e32))
  ·intro _ ac_ w_ hB hr
   have e32:=Rg.ev1 (hr 32 (by decide))
   have e39:=Rg.ev1 (hr 39 (by decide))
   have ec:=Rg.ec ac_
   exact Rg.aG rfl (by go_simp)
  intro vals wz hB hv hne
  have v_24:vals 24=.bool true:=hv 24 (by decide)
  simp only [Rg.am,Rg.fill,Act.put,Nat.reduceAdd]
  clear hv
  simp only [v_24]
  clear v_24
  unfold Rg.aV
  go_wp2
  go_ret
  exact ⟨rfl,B.trans (hB.mono B.size)⟩
 | true=>
 have PA:=uh PA
 have PG:=uh PG
 by_cases hg1:gg=1
 ·have hg2:(gg == 1)=true:=by rw [beq_iff_eq];exact hg1
  rw [hg2,Bool.true_and] at hpt
  obtain ⟨y1,y2⟩:=hiy.1 rfl
  have hyy:=M.aL (x:=Y) (y:=Y) (m:=10000000) (n:=10000000) (by omega) (by omega) (by omega) (by omega)
  generalize M.cv a b X E=v at *
  have hpt:=uh hpt
  rw [hpt.out]
  clear hiy hyb hcb
  have PV:=uh PV
  have P1:=uh P1
  have P2:=uh P2
  have P4:=uh P4
  go_enter Tryz.func27,Tryz.ntmps27
  go_wp2
  go_upto_region 3 with fail
  refine Rg.bF 25 [.is (.pointer (some ⟨w.heap.size+1,0,none⟩)),.is (.int .i64 X),.is (.bool true),.is (.bool false),.is (.bool false),.is (.pointer (some ⟨w.heap.size+1,2,none⟩)),.is (.int .i64 E),.is (.bool true),.is (.bool false),.is (.bool false),.is (.bool false),.is (.pointer (some ⟨w.heap.size+1,1,none⟩)),.is (.int .i64 Y),.is (.bool true),.is (.bool false),.is (.bool false),.is (.bool false),.is (.pointer (some ⟨w.heap.size+1,0,none⟩)),.is (.int .i64 X),.is (.int .i64 (X.natAbs:Int)),.is (.pointer (some ⟨w.heap.size+1,2,none⟩)),.is (.int .i64 E),.is (.int .i64 gg),.is (.bool false),.is (.bool false)] (by kernel_rfl) (by kernel_rfl) (by kernel_rfl) ⟨?_,?_,?_,?_,?_,?_,?_,?_,?_,?_,?_,?_,?_,?_,?_,?_,?_,?_,?_,?_,?_,?_,?_,?_,?_,trivial⟩ ?_
  ·intro _ ac_ w_ hB hr
   have e3:ac_.tmps[3]?=some (.pointer (some ⟨w.heap.size+1,0,none⟩)):=hr 3 (by decide)
   exact Rg.aG rfl (by go_simp)
  ·intro _ ac_ w_ hB hr
   have e16:=Rg.ev1 (hr 16 (by decide))
   have k0:=aE hB Q.aQ.1
   exact Rg.aG rfl (by go_simp)
  ·intro _ ac_ w_ hB hr
   have e17:=Rg.ev1 (hr 17 (by decide))
   have ec:=Rg.ec ac_
   have ef:=Rg.ef ac_
   refine Rg.aX rfl (by go_simp;exact ⟨rfl,rfl⟩) ?_
   refine (P1.out _).mono ?_
   rintro e w5 ⟨rfl,rfl⟩
   exact ⟨_,rfl,rfl,uk _ _⟩
  ·intro _ ac_ w_ hB hr
   have e18:=Rg.ev1 (hr 18 (by decide))
   exact Rg.aG rfl (by go_simp)
  ·intro _ ac_ w_ hB hr
   have e19:=Rg.ev1 (hr 19 (by decide))
   exact Rg.aG rfl (by go_simp)
  ·intro _ ac_ w_ hB hr
   have e3:ac_.tmps[3]?=some (.pointer (some ⟨w.heap.size+1,0,none⟩)):=hr 3 (by decide)
   have e20:=Rg.ev1 (hr 20 (by decide))
   exact Rg.aG (Rg.aY (j:=4) (b:=false) rfl (Rg.yld rfl e20)) (by go_simp)
  ·intro _ ac_ w_ hB hr
   have e20:=Rg.ev1 (hr 20 (by decide))
   have e21:=Rg.ev1 (hr 21 (by decide))
   have k2:=aE hB Q.aQ.2.2
   exact Rg.aG (Rg.aY (j:=4) (b:=false) rfl (Rg.yld rfl e20)) (by go_simp)
  ·intro _ ac_ w_ hB hr
   have e20:=Rg.ev1 (hr 20 (by decide))
   have e22:=Rg.ev1 (hr 22 (by decide))
   have ec:=Rg.ec ac_
   have ef:=Rg.ef ac_
   refine Rg.aX (Rg.aY (j:=4) (b:=false) rfl (Rg.yld rfl e20)) (by go_simp;exact ⟨rfl,rfl⟩) ?_
   refine (P2.out _).mono ?_
   rintro e w5 ⟨rfl,rfl⟩
   exact ⟨_,rfl,rfl,uk _ _⟩
  ·intro _ ac_ w_ hB hr
   have e20:=Rg.ev1 (hr 20 (by decide))
   have e23:=Rg.ev1 (hr 23 (by decide))
   exact Rg.aG (Rg.aY (j:=4) (b:=false) rfl (Rg.yld rfl e20)) (by go_simp)
  ·intro _ ac_ w_ hB hr
   have e20:=Rg.ev1 (hr 20 (by decide))
   have e24:=Rg.ev1 (hr 24 (by decide))
   have ec:=Rg.ec ac_
   exact Rg.aG rfl (by go_simp)
  ·intro _ ac_ w_ hB hr
   have e25:=Rg.ev1 (hr 25 (by decide))
   exact Rg.aG rfl (by go_simp)
  ·intro _ ac_ w_ hB hr
   have e3:ac_.tmps[3]?=some (.pointer (some ⟨w.heap.size+1,0,none⟩)):=hr 3 (by decide)
   have e26:=Rg.ev1 (hr 26 (by decide))
   exact Rg.aG (Rg.aY (j:=10) (b:=false) rfl (Rg.yld rfl e26)) (by go_simp)
  ·intro _ ac_ w_ hB hr
   have e26:=Rg.ev1 (hr 26 (by decide))
   have e27:=Rg.ev1 (hr 27 (by decide))
   have k1:=aE hB Q.aQ.2.1
   exact Rg.aG (Rg.aY (j:=10) (b:=false) rfl (Rg.yld rfl e26)) (by go_simp)
  ·intro _ ac_ w_ hB hr
   have e26:=Rg.ev1 (hr 26 (by decide))
   have e28:=Rg.ev1 (hr 28 (by decide))
   have ec:=Rg.ec ac_
   have ef:=Rg.ef ac_
   refine Rg.aX (Rg.aY (j:=10) (b:=false) rfl (Rg.yld rfl e26)) (by go_simp;exact ⟨rfl,rfl⟩) ?_
   refine (P4.out _).mono ?_
   rintro e w5 ⟨rfl,rfl⟩
   exact ⟨_,rfl,rfl,uk _ _⟩
  ·intro _ ac_ w_ hB hr
   have e26:=Rg.ev1 (hr 26 (by decide))
   have e29:=Rg.ev1 (hr 29 (by decide))
   exact Rg.aG (Rg.aY (j:=10) (b:=false) rfl (Rg.yld rfl e26)) (by go_simp)
  ·intro _ ac_ w_ hB hr
   have e26:=Rg.ev1 (hr 26 (by decide))
   have e30:=Rg.ev1 (hr 30 (by decide))
   have ec:=Rg.ec ac_
   exact Rg.aG rfl (by go_simp)
  ·intro _ ac_ w_ hB hr
   have e31:=Rg.ev1 (hr 31 (by decide))
   exact Rg.aG rfl (by go_simp)
  ·intro _ ac_ w_ hB hr
   have e3:ac_.tmps[3]?=some (.pointer (some ⟨w.heap.size+1,0,none⟩)):=hr 3 (by decide)
   have e32:=Rg.ev1 (hr 32 (by decide))
   exact Rg.aG (Rg.aY (j:=16) (b:=false) rfl (Rg.yld rfl e32)) (by go_simp)
  ·intro _ ac_ w_ hB hr
   have e32:=Rg.ev1 (hr 32 (by decide))
   have e33:=Rg.ev1 (hr 33 (by decide))
   have k0:=aE hB Q.aQ.1
   exact Rg.aG (Rg.aY (j:=16) (b:=false) rfl (Rg.yld rfl e32)) (by go_simp)
  ·intro _ ac_ w_ hB hr
   have e32:=Rg.ev1 (hr 32 (by decide))
   have e34:=Rg.ev1 (hr 34 (by decide))
   have ef:=Rg.ef ac_
   refine Rg.aX (Rg.aY (j:=16) (b:=false) rfl (Rg.yld rfl e32)) (by go_simp;exact ⟨rfl,rfl⟩) ?_
   refine (PA.out _).mono ?_
   rintro e w5 ⟨rfl,rfl⟩
   exact ⟨_,rfl,rfl,uk _ _⟩
  ·intro _ ac_ w_ hB hr
   have e3:ac_.tmps[3]?=some (.pointer (some ⟨w.heap.size+1,0,none⟩)):=hr 3 (by decide)
   have e32:=Rg.ev1 (hr 32 (by decide))
   exact Rg.aG (Rg.aY (j:=16) (b:=false) rfl (Rg.yld rfl e32)) (by go_simp)
  ·intro _ ac_ w_ hB hr
   have e32:=Rg.ev1 (hr 32 (by decide))
   have e36:=Rg.ev1 (hr 36 (by decide))
   have k2:=aE hB Q.aQ.2.2
   exact Rg.aG (Rg.aY (j:=16) (b:=false) rfl (Rg.yld rfl e32)) (by go_simp)
  ·intro _ ac_ w_ hB hr
   have e32:=Rg.ev1 (hr 32 (by decide))
   have e35:=Rg.ev1 (hr 35 (by decide))
   have e37:=Rg.ev1 (hr 37 (by decide))
   have ef:=Rg.ef ac_
   refine Rg.aX (Rg.aY (j:=16) (b:=false) rfl (Rg.yld rfl e32)) (by go_simp;exact ⟨rfl,rfl⟩) ?_
   refine (PG.out _).mono ?_
   rintro e w5 ⟨rfl,rfl⟩
   exact ⟨_,rfl,rfl,uk _ _⟩
  ·intro _ ac_ w_ hB hr
   have e32:=Rg.ev1 (hr 32 (by decide))
   have e38:=Rg.ev1 (hr 38 (by decide))
   have ec:=Rg.ec ac_
   exact Rg.aG (Rg.aY (j:=16) (b:=false) rfl (Rg.yld rfl e32)) (by go_simp;first | done | rfl | (simp [hg1];done))
  ·intro _ ac_ w_ hB hr
   have e32:=Rg.ev1 (hr 32 (by decide))
   have e39:=Rg.ev1 (hr 39 (by decide))
   have ec:=Rg.ec ac_
   exact Rg.aG rfl (by go_simp)
  intro vals wz hB hv hne
  have v_24:vals 24=.bool false:=hv 24 (by decide)
  simp only [Rg.am,Rg.fill,Act.put,Nat.reduceAdd]
  clear hv
  simp only [v_24]
  clear v_24
  unfold Rg.aV
  replace C:=C.keep hB
  replace Q:=Q.keep hB
  replace B:=B.trans (hB.mono B.size)
  clear hB
  go_upto_region 5 with fail
  refine Rg.bF 13 [.is (.pointer (some ⟨w.heap.size+1,1,none⟩)),.is (.int .i64 Y),.is (.pointer (some ⟨w.heap.size+1,1,none⟩)),.is (.int .i64 Y),.is (.int .i64 (Y*Y)),.is (.agg #[.int .i64 a,.int .i64 b]),.is (.pointer (some ⟨w.heap.size+1,0,none⟩)),.is (.int .i64 X),.is (.pointer (some ⟨w.heap.size+1,2,none⟩)),.is (.int .i64 E),.is (.int .i64 v),.is (.bool (decide (Y*Y=v))),.is (.bool (decide (Y*Y=v)))] (by kernel_rfl) (by kernel_rfl) (by kernel_rfl) ⟨?_,?_,?_,?_,?_,?_,?_,?_,?_,?_,?_,?_,?_,trivial⟩ ?_
  ·intro _ ac_ w_ hB hr
   have e3:ac_.tmps[3]?=some (.pointer (some ⟨w.heap.size+1,0,none⟩)):=hr 3 (by decide)
   exact Rg.aG rfl (by go_simp)
  ·intro _ ac_ w_ hB hr
   have e41:=Rg.ev1 (hr 41 (by decide))
   have k1:=aE hB Q.aQ.2.1
   exact Rg.aG rfl (by go_simp)
  ·intro _ ac_ w_ hB hr
   have e3:ac_.tmps[3]?=some (.pointer (some ⟨w.heap.size+1,0,none⟩)):=hr 3 (by decide)
   exact Rg.aG rfl (by go_simp)
  ·intro _ ac_ w_ hB hr
   have e43:=Rg.ev1 (hr 43 (by decide))
   have k1:=aE hB Q.aQ.2.1
   exact Rg.aG rfl (by go_simp)
  ·intro _ ac_ w_ hB hr
   have e42:=Rg.ev1 (hr 42 (by decide))
   have e44:=Rg.ev1 (hr 44 (by decide))
   exact Rg.aG rfl (by go_simp <;> exact Rg.wo (by omega))
  ·intro _ ac_ w_ hB hr
   have e2:ac_.tmps[2]?=some (.pointer (some ⟨w.heap.size,0,none⟩)):=hr 2 (by decide)
   have k0:=aE hB C.box.c0
   have k1:=aE hB C.box.c1
   exact Rg.aG rfl (by go_simp)
  ·intro _ ac_ w_ hB hr
   have e3:ac_.tmps[3]?=some (.pointer (some ⟨w.heap.size+1,0,none⟩)):=hr 3 (by decide)
   exact Rg.aG rfl (by go_simp)
  ·intro _ ac_ w_ hB hr
   have e47:=Rg.ev1 (hr 47 (by decide))
   have k0:=aE hB Q.aQ.1
   exact Rg.aG rfl (by go_simp)
  ·intro _ ac_ w_ hB hr
   have e3:ac_.tmps[3]?=some (.pointer (some ⟨w.heap.size+1,0,none⟩)):=hr 3 (by decide)
   exact Rg.aG rfl (by go_simp)
  ·intro _ ac_ w_ hB hr
   have e49:=Rg.ev1 (hr 49 (by decide))
   have k2:=aE hB Q.aQ.2.2
   exact Rg.aG rfl (by go_simp)
  ·intro _ ac_ w_ hB hr
   have e46:=Rg.ev1 (hr 46 (by decide))
   have e48:=Rg.ev1 (hr 48 (by decide))
   have e50:=Rg.ev1 (hr 50 (by decide))
   have ef:=Rg.ef ac_
   exact Rg.bK rfl (by go_simp) (PV.out _)
  ·intro _ ac_ w_ hB hr
   have e45:=Rg.ev1 (hr 45 (by decide))
   have e51:=Rg.ev1 (hr 51 (by decide))
   exact Rg.aG rfl (by go_simp;first | done | rfl | (by_cases hv_:Y*Y=v <;> simp [hv_];done))
  ·intro _ ac_ w_ hB hr
   have e52:=Rg.ev1 (hr 52 (by decide))
   exact Rg.aG rfl (by go_simp)
  intro vals wy hB7 hv hne
  have v_12:vals 12=.bool (decide (Y*Y=v)):=hv 12 (by decide)
  simp only [Rg.am,Rg.fill,Act.put,Nat.reduceAdd]
  clear hv
  simp only [v_12]
  clear v_12
  unfold Rg.aV
  go_wp2
  go_ret
  exact ⟨rfl,B.trans (hB7.mono B.size)⟩
 have hg2:(gg == 1)=false:=by rw [beq_eq_false_iff_ne];exact hg1
 have hr2:=uh (show M.bR a b X Y E=false by rw [hpt,hg2];rfl)
 rw [hr2.out]
 clear hpt hyb hiy hcb PV
 have P1:=uh P1
 have P2:=uh P2
 have P4:=uh P4
 go_enter Tryz.func27,Tryz.ntmps27
 go_wp2
 go_upto_region 3 with fail
 refine Rg.bF 25 [.is (.pointer (some ⟨w.heap.size+1,0,none⟩)),.is (.int .i64 X),.is (.bool true),.is (.bool false),.is (.bool false),.is (.pointer (some ⟨w.heap.size+1,2,none⟩)),.is (.int .i64 E),.is (.bool true),.is (.bool false),.is (.bool false),.is (.bool false),.is (.pointer (some ⟨w.heap.size+1,1,none⟩)),.is (.int .i64 Y),.is (.bool true),.is (.bool false),.is (.bool false),.is (.bool false),.is (.pointer (some ⟨w.heap.size+1,0,none⟩)),.is (.int .i64 X),.is (.int .i64 (X.natAbs:Int)),.is (.pointer (some ⟨w.heap.size+1,2,none⟩)),.is (.int .i64 E),.is (.int .i64 gg),.is (.bool true),.is (.bool true)] (by kernel_rfl) (by kernel_rfl) (by kernel_rfl) ⟨?_,?_,?_,?_,?_,?_,?_,?_,?_,?_,?_,?_,?_,?_,?_,?_,?_,?_,?_,?_,?_,?_,?_,?_,?_,trivial⟩ ?_
 ·intro _ ac_ w_ hB hr
  have e3:ac_.tmps[3]?=some (.pointer (some ⟨w.heap.size+1,0,none⟩)):=hr 3 (by decide)
  exact Rg.aG rfl (by go_simp)
 ·intro _ ac_ w_ hB hr
  have e16:=Rg.ev1 (hr 16 (by decide))
  have k0:=aE hB Q.aQ.1
  exact Rg.aG rfl (by go_simp)
 ·intro _ ac_ w_ hB hr
  have e17:=Rg.ev1 (hr 17 (by decide))
  have ec:=Rg.ec ac_
  have ef:=Rg.ef ac_
  refine Rg.aX rfl (by go_simp;exact ⟨rfl,rfl⟩) ?_
  refine (P1.out _).mono ?_
  rintro e w5 ⟨rfl,rfl⟩
  exact ⟨_,rfl,rfl,uk _ _⟩
 ·intro _ ac_ w_ hB hr
  have e18:=Rg.ev1 (hr 18 (by decide))
  exact Rg.aG rfl (by go_simp)
 ·intro _ ac_ w_ hB hr
  have e19:=Rg.ev1 (hr 19 (by decide))
  exact Rg.aG rfl (by go_simp)
 ·intro _ ac_ w_ hB hr
  have e3:ac_.tmps[3]?=some (.pointer (some ⟨w.heap.size+1,0,none⟩)):=hr 3 (by decide)
  have e20:=Rg.ev1 (hr 20 (by decide))
  exact Rg.aG (Rg.aY (j:=4) (b:=false) rfl (Rg.yld rfl e20)) (by go_simp)
 ·intro _ ac_ w_ hB hr
  have e20:=Rg.ev1 (hr 20 (by decide))
  have e21:=Rg.ev1 (hr 21 (by decide))
  have k2:=aE hB Q.aQ.2.2
  exact Rg.aG (Rg.aY (j:=4) (b:=false) rfl (Rg.yld rfl e20)) (by go_simp)
 ·intro _ ac_ w_ hB hr
  have e20:=Rg.ev1 (hr 20 (by decide))
  have e22:=Rg.ev1 (hr 22 (by decide))
  have ec:=Rg.ec ac_
  have ef:=Rg.ef ac_
  refine Rg.aX (Rg.aY (j:=4) (b:=false) rfl (Rg.yld rfl e20)) (by go_simp;exact ⟨rfl,rfl⟩) ?_
  refine (P2.out _).mono ?_
  rintro e w5 ⟨rfl,rfl⟩
  exact ⟨_,rfl,rfl,uk _ _⟩
 ·intro _ ac_ w_ hB hr
  have e20:=Rg.ev1 (hr 20 (by decide))
  have e23:=Rg.ev1 (hr 23 (by decide))
  exact Rg.aG (Rg.aY (j:=4) (b:=false) rfl (Rg.yld rfl e20)) (by go_simp)
 ·intro _ ac_ w_ hB hr
  have e20:=Rg.ev1 (hr 20 (by decide))
  have e24:=Rg.ev1 (hr 24 (by decide))
  have ec:=Rg.ec ac_
  exact Rg.aG rfl (by go_simp)
 ·intro _ ac_ w_ hB hr
  have e25:=Rg.ev1 (hr 25 (by decide))
  exact Rg.aG rfl (by go_simp)
 ·intro _ ac_ w_ hB hr
  have e3:ac_.tmps[3]?=some (.pointer (some ⟨w.heap.size+1,0,none⟩)):=hr 3 (by decide)
  have e26:=Rg.ev1 (hr 26 (by decide))
  exact Rg.aG (Rg.aY (j:=10) (b:=false) rfl (Rg.yld rfl e26)) (by go_simp)
 ·intro _ ac_ w_ hB hr
  have e26:=Rg.ev1 (hr 26 (by decide))
  have e27:=Rg.ev1 (hr 27 (by decide))
  have k1:=aE hB Q.aQ.2.1
  exact Rg.aG (Rg.aY (j:=10) (b:=false) rfl (Rg.yld rfl e26)) (by go_simp)
 ·intro _ ac_ w_ hB hr
  have e26:=Rg.ev1 (hr 26 (by decide))
  have e28:=Rg.ev1 (hr 28 (by decide))
  have ec:=Rg.ec ac_
  have ef:=Rg.ef ac_
  refine Rg.aX (Rg.aY (j:=10) (b:=false) rfl (Rg.yld rfl e26)) (by go_simp;exact ⟨rfl,rfl⟩) ?_
  refine (P4.out _).mono ?_
  rintro e w5 ⟨rfl,rfl⟩
  exact ⟨_,rfl,rfl,uk _ _⟩
 ·intro _ ac_ w_ hB hr
  have e26:=Rg.ev1 (hr 26 (by decide))
  have e29:=Rg.ev1 (hr 29 (by decide))
  exact Rg.aG (Rg.aY (j:=10) (b:=false) rfl (Rg.yld rfl e26)) (by go_simp)
 ·intro _ ac_ w_ hB hr
  have e26:=Rg.ev1 (hr 26 (by decide))
  have e30:=Rg.ev1 (hr 30 (by decide))
  have ec:=Rg.ec ac_
  exact Rg.aG rfl (by go_simp)
 ·intro _ ac_ w_ hB hr
  have e31:=Rg.ev1 (hr 31 (by decide))
  exact Rg.aG rfl (by go_simp)
 ·intro _ ac_ w_ hB hr
  have e3:ac_.tmps[3]?=some (.pointer (some ⟨w.heap.size+1,0,none⟩)):=hr 3 (by decide)
  have e32:=Rg.ev1 (hr 32 (by decide))
  exact Rg.aG (Rg.aY (j:=16) (b:=false) rfl (Rg.yld rfl e32)) (by go_simp)
 ·intro _ ac_ w_ hB hr
  have e32:=Rg.ev1 (hr 32 (by decide))
  have e33:=Rg.ev1 (hr 33 (by decide))
  have k0:=aE hB Q.aQ.1
  exact Rg.aG (Rg.aY (j:=16) (b:=false) rfl (Rg.yld rfl e32)) (by go_simp)
 ·intro _ ac_ w_ hB hr
  have e32:=Rg.ev1 (hr 32 (by decide))
  have e34:=Rg.ev1 (hr 34 (by decide))
  have ef:=Rg.ef ac_
  refine Rg.aX (Rg.aY (j:=16) (b:=false) rfl (Rg.yld rfl e32)) (by go_simp;exact ⟨rfl,rfl⟩) ?_
  refine (PA.out _).mono ?_
  rintro e w5 ⟨rfl,rfl⟩
  exact ⟨_,rfl,rfl,uk _ _⟩
 ·intro _ ac_ w_ hB hr
  have e3:ac_.tmps[3]?=some (.pointer (some ⟨w.heap.size+1,0,none⟩)):=hr 3 (by decide)
  have e32:=Rg.ev1 (hr 32 (by decide))
  exact Rg.aG (Rg.aY (j:=16) (b:=false) rfl (Rg.yld rfl e32)) (by go_simp)
 ·intro _ ac_ w_ hB hr
  have e32:=Rg.ev1 (hr 32 (by decide))
  have e36:=Rg.ev1 (hr 36 (by decide))
  have k2:=aE hB Q.aQ.2.2
  exact Rg.aG (Rg.aY (j:=16) (b:=false) rfl (Rg.yld rfl e32)) (by go_simp)
 ·intro _ ac_ w_ hB hr
  have e32:=Rg.ev1 (hr 32 (by decide))
  have e35:=Rg.ev1 (hr 35 (by decide))
  have e37:=Rg.ev1 (hr 37 (by decide))
  have ef:=Rg.ef ac_
  refine Rg.aX (Rg.aY (j:=16) (b:=false) rfl (Rg.yld rfl e32)) (by go_simp;exact ⟨rfl,rfl⟩) ?_
  refine (PG.out _).mono ?_
  rintro e w5 ⟨rfl,rfl⟩
  exact ⟨_,rfl,rfl,uk _ _⟩
 ·intro _ ac_ w_ hB hr
  have e32:=Rg.ev1 (hr 32 (by decide))
  have e38:=Rg.ev1 (hr 38 (by decide))
  have ec:=Rg.ec ac_
  exact Rg.aG (Rg.aY (j:=16) (b:=false) rfl (Rg.yld rfl e32)) (by go_simp;first | done | rfl | (simp [hg1];done))
 ·intro _ ac_ w_ hB hr
  have e32:=Rg.ev1 (hr 32 (by decide))
  have e39:=Rg.ev1 (hr 39 (by decide))
  have ec:=Rg.ec ac_
  exact Rg.aG rfl (by go_simp)
 intro vals wz hB hv hne
 have v_24:vals 24=.bool true:=hv 24 (by decide)
 simp only [Rg.am,Rg.fill,Act.put,Nat.reduceAdd]
 clear hv
 simp only [v_24]
 clear v_24
 unfold Rg.aV
 go_wp2
 go_ret
 exact ⟨rfl,B.trans (hB.mono B.size)⟩
theorem kh (a b X Y E:Int) (w:World) :
  Calls Tryz.prog 17 #[.agg #[.int .i64 a,.int .i64 b],.agg #[.int .i64 X,.int .i64 Y,.int .i64 E]] w fun e w'=>e=.returned (.bool (M.good a b && M.bR a b X Y E))∧Below w.heap.size w w':=by
 have PC:=fun W=>k8 a b W
 have PO:=fun W=>tn a b X Y E W
 have C:=(aH.new w #[.int .i64 a,.int .i64 b] 28).alloc (.cells #[.int .i64 X,.int .i64 Y,.int .i64 E] 45)
 have Q:=(aH.new (w.alloc (.cells #[.int .i64 a,.int .i64 b] 28)) #[.int .i64 X,.int .i64 Y,.int .i64 E] 45)
 rw [ui] at Q
 have B:=((uk w.heap.size w).alloc (ul _) (.cells #[.int .i64 a,.int .i64 b] 28)).alloc (by rw [ui];omega) (.cells #[.int .i64 X,.int .i64 Y,.int .i64 E] 45)
 generalize hw3:(w.alloc (.cells #[.int .i64 a,.int .i64 b] 28)).alloc (.cells #[.int .i64 X,.int .i64 Y,.int .i64 E] 45)=wc at *
 have ⟨q0,q1,q2⟩:=Q.aQ
 have C_c0:=C.box.c0
 have C_c1:=C.box.c1
 cases hgd:M.good a b with
 | false=>
  rw [hgd] at PC
  have PC:=uh PC
  clear PO
  go_enter Tryz.func17,Tryz.ntmps17
  go_wp2_with (go_at_call 18;(with_reducible refine (PC.out _).mono ?_);rintro e w4 ⟨rfl,hb4⟩;(replace C:=C.keep hb4);(replace B:=B.trans (hb4.mono B.size));(replace Q:=Q.keep hb4);(have ⟨z0,z1,z2⟩:=Q.aQ);(replace ⟨C_c0,C_c1⟩:=C.b2))
  go_ret
  exact ⟨rfl,B⟩
 | true=>
 rw [hgd] at PC
 have PC:=uh PC
 have PO:=fun W=>PO W hgd
 generalize M.bR a b X Y E=pp at *
 have PO:=uh PO
 clear hgd
 go_enter Tryz.func17,Tryz.ntmps17
 go_wp2_with (first
  | (go_at_call 18;(with_reducible refine (PC.out _).mono ?_);rintro e w4 ⟨rfl,hb4⟩;(replace C:=C.keep hb4);(replace B:=B.trans (hb4.mono B.size));(replace Q:=Q.keep hb4);(have ⟨z0,z1,z2⟩:=Q.aQ);(replace ⟨C_c0,C_c1⟩:=C.b2))
  | (go_at_call 27;(with_reducible refine (PO.out _).mono ?_);rintro e w5 ⟨rfl,hb5⟩;(replace B:=B.trans (hb5.mono B.size))))
 go_ret
 exact ⟨rfl,B⟩
theorem ml (X Y E:Int) (w:World) (h1:-4000000000000000000≤Y) (h2:Y≤4000000000000000000) :
  Calls Tryz.prog 74 #[.agg #[.int .i64 X,.int .i64 Y,.int .i64 E]] w fun e w'=>e=.returned (.agg #[.int .i64 X,.int .i64 (-Y),.int .i64 E])∧Below w.heap.size w w':=by
 go_enter Tryz.func74,Tryz.ntmps74
 go_wp2
 exact bodyPost_ret (v:=.agg #[.int .i64 X,.int .i64 (-Y),.int .i64 E]) (by simp [results,Tryz.results74,go_sem, *]) rfl (⟨rfl,(by repeat (first | exact uk _ _ | refine aP ?_ _ | refine aS ?_ (by assumption) | refine Below.drew ?_ | refine uj ?_ (by first | exact ul _ | exact Nat.le_add_right _ _ | (simp <;> omega)) _ | refine aK ?_ _))⟩)
namespace M
def sN (a X1 Y1 E1 X2 Y2 E2:Int):Int:=if X1=X2∧Y1=Y2∧E1=E2 then 3*X1*X1+a*E1*E1*E1*E1 else Y2*E1*E1*E1 - Y1*E2*E2*E2
def sD (X1 Y1 E1 X2 Y2 E2:Int):Int:=if X1=X2∧Y1=Y2∧E1=E2 then 2*Y1*E1 else E1*E2*(X2*E1*E1 - X1*E2*E2)
end M
theorem M.tq {a X1 Y1 E1 X2 Y2 E2:Int} (ha1:-1000≤a) (ha2:a≤1000) (hx1:-10000≤X1) (hx2:X1≤10000) (hy1:-3000000≤Y1) (hy2:Y1≤3000000) (he1:1≤E1) (he2:E1≤20) (hx3:-10000≤X2) (hx4:X2≤10000) (hy3:-3000000≤Y2) (hy4:Y2≤3000000) (he3:1≤E2) (he4:E2≤20):-200000000000≤M.sN a X1 Y1 E1 X2 Y2 E2∧M.sN a X1 Y1 E1 X2 Y2 E2≤200000000000∧-200000000000≤M.sD X1 Y1 E1 X2 Y2 E2∧M.sD X1 Y1 E1 X2 Y2 E2≤200000000000:=by
 have sb1:=M.aL (x:=Y2) (y:=E1) (m:=3000000) (n:=20) (by omega) (by omega) (by omega) (by omega)
 have sb2:=M.aL (x:=Y2*E1) (y:=E1) (m:=60000000) (n:=20) (by omega) (by omega) (by omega) (by omega)
 have sb3:=M.aL (x:=Y2*E1*E1) (y:=E1) (m:=1200000000) (n:=20) (by omega) (by omega) (by omega) (by omega)
 have sb4:=M.aL (x:=Y1) (y:=E2) (m:=3000000) (n:=20) (by omega) (by omega) (by omega) (by omega)
 have sb5:=M.aL (x:=Y1*E2) (y:=E2) (m:=60000000) (n:=20) (by omega) (by omega) (by omega) (by omega)
 have sb6:=M.aL (x:=Y1*E2*E2) (y:=E2) (m:=1200000000) (n:=20) (by omega) (by omega) (by omega) (by omega)
 have sb7:=M.aL (x:=E1) (y:=E2) (m:=20) (n:=20) (by omega) (by omega) (by omega) (by omega)
 have sb8:=M.aL (x:=X2) (y:=E1) (m:=10000) (n:=20) (by omega) (by omega) (by omega) (by omega)
 have sb9:=M.aL (x:=X2*E1) (y:=E1) (m:=200000) (n:=20) (by omega) (by omega) (by omega) (by omega)
 have sb10:=M.aL (x:=X1) (y:=E2) (m:=10000) (n:=20) (by omega) (by omega) (by omega) (by omega)
 have sb11:=M.aL (x:=X1*E2) (y:=E2) (m:=200000) (n:=20) (by omega) (by omega) (by omega) (by omega)
 have sb12:=M.aL (x:=E1*E2) (y:=X2*E1*E1 - X1*E2*E2) (m:=400) (n:=8000000) (by omega) (by omega) (by omega) (by omega)
 have sb13:=M.aL (x:=3) (y:=X1) (m:=3) (n:=10000) (by omega) (by omega) (by omega) (by omega)
 have sb14:=M.aL (x:=3*X1) (y:=X1) (m:=30000) (n:=10000) (by omega) (by omega) (by omega) (by omega)
 have sb15:=M.aL (x:=a) (y:=E1) (m:=1000) (n:=20) (by omega) (by omega) (by omega) (by omega)
 have sb16:=M.aL (x:=a*E1) (y:=E1) (m:=20000) (n:=20) (by omega) (by omega) (by omega) (by omega)
 have sb17:=M.aL (x:=a*E1*E1) (y:=E1) (m:=400000) (n:=20) (by omega) (by omega) (by omega) (by omega)
 have sb18:=M.aL (x:=a*E1*E1*E1) (y:=E1) (m:=8000000) (n:=20) (by omega) (by omega) (by omega) (by omega)
 have sb19:=M.aL (x:=2) (y:=Y1) (m:=2) (n:=3000000) (by omega) (by omega) (by omega) (by omega)
 have sb20:=M.aL (x:=2*Y1) (y:=E1) (m:=6000000) (n:=20) (by omega) (by omega) (by omega) (by omega)
 unfold M.sN M.sD
 split <;> omega
theorem sj (a b X1 Y1 E1 X2 Y2 E2:Int) (w:World) (ha1:-1000≤a) (ha2:a≤1000) (hx1:-10000≤X1) (hx2:X1≤10000) (hy1:-3000000≤Y1) (hy2:Y1≤3000000) (he1:1≤E1) (he2:E1≤20) (hx3:-10000≤X2) (hx4:X2≤10000) (hy3:-3000000≤Y2) (hy4:Y2≤3000000) (he3:1≤E2) (he4:E2≤20) :
  Calls Tryz.prog 75 #[.agg #[.int .i64 a,.int .i64 b],.agg #[.int .i64 X1,.int .i64 Y1,.int .i64 E1],.agg #[.int .i64 X2,.int .i64 Y2,.int .i64 E2]] w fun e w'=>e=.returned (.tuple #[.int .i64 (M.sN a X1 Y1 E1 X2 Y2 E2),.int .i64 (M.sD X1 Y1 E1 X2 Y2 E2)])∧Below w.heap.size w w':=by
 have hcase:(X1=X2∧Y1=Y2∧E1=E2)∨¬ (X1=X2∧Y1=Y2∧E1=E2):=Classical.em _
 rcases hcase with hsame | hdif
 ·have e1:=uh (show M.sN a X1 Y1 E1 X2 Y2 E2=3*X1*X1+a*E1*E1*E1*E1 from if_pos hsame)
  have e2:=uh (show M.sD X1 Y1 E1 X2 Y2 E2=2*Y1*E1 from if_pos hsame)
  rw [e1.out,e2.out]
  obtain ⟨rfl,rfl,rfl⟩:=hsame
  clear e1 e2 hx3 hx4 hy3 hy4 he3 he4
  have sb21:=M.aL (x:=3) (y:=X1) (m:=3) (n:=10000) (by omega) (by omega) (by omega) (by omega)
  have sb22:=M.aL (x:=3*X1) (y:=X1) (m:=30000) (n:=10000) (by omega) (by omega) (by omega) (by omega)
  have sb23:=M.aL (x:=a) (y:=E1) (m:=1000) (n:=20) (by omega) (by omega) (by omega) (by omega)
  have sb24:=M.aL (x:=a*E1) (y:=E1) (m:=20000) (n:=20) (by omega) (by omega) (by omega) (by omega)
  have sb25:=M.aL (x:=a*E1*E1) (y:=E1) (m:=400000) (n:=20) (by omega) (by omega) (by omega) (by omega)
  have sb26:=M.aL (x:=a*E1*E1*E1) (y:=E1) (m:=8000000) (n:=20) (by omega) (by omega) (by omega) (by omega)
  have sb27:=M.aL (x:=2) (y:=Y1) (m:=2) (n:=3000000) (by omega) (by omega) (by omega) (by omega)
  have sb28:=M.aL (x:=2*Y1) (y:=E1) (m:=6000000) (n:=20) (by omega) (by omega) (by omega) (by omega)
  have C:=((aH.new w #[.int .i64 a,.int .i64 b] 28).alloc (.cells #[.int .i64 X1,.int .i64 Y1,.int .i64 E1] 45)).alloc (.cells #[.int .i64 X1,.int .i64 Y1,.int .i64 E1] 45)
  have Q:=(aH.new (w.alloc (.cells #[.int .i64 a,.int .i64 b] 28)) #[.int .i64 X1,.int .i64 Y1,.int .i64 E1] 45).alloc (.cells #[.int .i64 X1,.int .i64 Y1,.int .i64 E1] 45)
  rw [ui] at Q
  have U:=aH.new ((w.alloc (.cells #[.int .i64 a,.int .i64 b] 28)).alloc (.cells #[.int .i64 X1,.int .i64 Y1,.int .i64 E1] 45)) #[.int .i64 X1,.int .i64 Y1,.int .i64 E1] 45
  rw [ui,ui] at U
  have B:=(((uk w.heap.size w).alloc (ul _) (.cells #[.int .i64 a,.int .i64 b] 28)).alloc (by rw [ui];omega) (.cells #[.int .i64 X1,.int .i64 Y1,.int .i64 E1] 45)).alloc (by rw [ui,ui];omega) (.cells #[.int .i64 X1,.int .i64 Y1,.int .i64 E1] 45)
  generalize hw3:((w.alloc (.cells #[.int .i64 a,.int .i64 b] 28)).alloc (.cells #[.int .i64 X1,.int .i64 Y1,.int .i64 E1] 45)).alloc (.cells #[.int .i64 X1,.int .i64 Y1,.int .i64 E1] 45)=wc at *
  have ⟨q0,q1,q2⟩:=Q.aQ
  have ⟨u0,u1,u2⟩:=U.aQ
  have C_c0:=C.box.c0
  have C_c1:=C.box.c1
  go_enter Tryz.func75,Tryz.ntmps75
  go_wp2
  go_upto_region 2 with fail
  refine Rg.bF 29 [.is (.pointer (some ⟨w.heap.size+1,0,none⟩)),.is (.int .i64 X1),.is (.int .i64 (3*X1)),.is (.pointer (some ⟨w.heap.size+1,0,none⟩)),.is (.int .i64 X1),.is (.int .i64 ((3*X1)*X1)),.is (.pointer (some ⟨w.heap.size,0,none⟩)),.is (.int .i64 a),.is (.pointer (some ⟨w.heap.size+1,2,none⟩)),.is (.int .i64 E1),.is (.int .i64 (a*E1)),.is (.pointer (some ⟨w.heap.size+1,2,none⟩)),.is (.int .i64 E1),.is (.int .i64 ((a*E1)*E1)),.is (.pointer (some ⟨w.heap.size+1,2,none⟩)),.is (.int .i64 E1),.is (.int .i64 (((a*E1)*E1)*E1)),.is (.pointer (some ⟨w.heap.size+1,2,none⟩)),.is (.int .i64 E1),.is (.int .i64 ((((a*E1)*E1)*E1)*E1)),.is (.int .i64 (((3*X1)*X1)+((((a*E1)*E1)*E1)*E1))),.is (.pointer (some ⟨w.heap.size+1,1,none⟩)),.is (.int .i64 Y1),.is (.int .i64 (2*Y1)),.is (.pointer (some ⟨w.heap.size+1,2,none⟩)),.is (.int .i64 E1),.is (.int .i64 ((2*Y1)*E1)),.is (.int .i64 (((3*X1)*X1)+((((a*E1)*E1)*E1)*E1))),.is (.int .i64 ((2*Y1)*E1))] (by kernel_rfl) (by kernel_rfl) (by kernel_rfl) ⟨?_,?_,?_,?_,?_,?_,?_,?_,?_,?_,?_,?_,?_,?_,?_,?_,?_,?_,?_,?_,?_,?_,?_,?_,?_,?_,?_,?_,?_,trivial⟩ ?_
  ·intro _ ac_ w_ hB hr
   have e4:ac_.tmps[4]?=some (.pointer (some ⟨w.heap.size+1,0,none⟩)):=hr 4 (by decide)
   exact Rg.aG rfl (by go_simp)
  ·intro _ ac_ w_ hB hr
   have e13:=Rg.ev1 (hr 13 (by decide))
   have k0:=aE hB Q.aQ.1
   exact Rg.aG rfl (by go_simp)
  ·intro _ ac_ w_ hB hr
   have e14:=Rg.ev1 (hr 14 (by decide))
   have ec:=Rg.ec ac_
   exact Rg.aG rfl (by go_simp <;> exact Rg.wo (by omega))
  ·intro _ ac_ w_ hB hr
   have e4:ac_.tmps[4]?=some (.pointer (some ⟨w.heap.size+1,0,none⟩)):=hr 4 (by decide)
   exact Rg.aG rfl (by go_simp)
  ·intro _ ac_ w_ hB hr
   have e16:=Rg.ev1 (hr 16 (by decide))
   have k0:=aE hB Q.aQ.1
   exact Rg.aG rfl (by go_simp)
  ·intro _ ac_ w_ hB hr
   have e15:=Rg.ev1 (hr 15 (by decide))
   have e17:=Rg.ev1 (hr 17 (by decide))
   exact Rg.aG rfl (by go_simp <;> exact Rg.wo (by omega))
  ·intro _ ac_ w_ hB hr
   have e3:ac_.tmps[3]?=some (.pointer (some ⟨w.heap.size,0,none⟩)):=hr 3 (by decide)
   exact Rg.aG rfl (by go_simp)
  ·intro _ ac_ w_ hB hr
   have e19:=Rg.ev1 (hr 19 (by decide))
   have k0:=aE hB C.box.c0
   exact Rg.aG rfl (by go_simp)
  ·intro _ ac_ w_ hB hr
   have e4:ac_.tmps[4]?=some (.pointer (some ⟨w.heap.size+1,0,none⟩)):=hr 4 (by decide)
   exact Rg.aG rfl (by go_simp)
  ·intro _ ac_ w_ hB hr
   have e21:=Rg.ev1 (hr 21 (by decide))
   have k2:=aE hB Q.aQ.2.2
   exact Rg.aG rfl (by go_simp)
  ·intro _ ac_ w_ hB hr
   have e20:=Rg.ev1 (hr 20 (by decide))
   have e22:=Rg.ev1 (hr 22 (by decide))
   exact Rg.aG rfl (by go_simp <;> exact Rg.wo (by omega))
  ·intro _ ac_ w_ hB hr
   have e4:ac_.tmps[4]?=some (.pointer (some ⟨w.heap.size+1,0,none⟩)):=hr 4 (by decide)
   exact Rg.aG rfl (by go_simp)
  ·intro _ ac_ w_ hB hr
   have e24:=Rg.ev1 (hr 24 (by decide))
   have k2:=aE hB Q.aQ.2.2
   exact Rg.aG rfl (by go_simp)
  ·intro _ ac_ w_ hB hr
   have e23:=Rg.ev1 (hr 23 (by decide))
   have e25:=Rg.ev1 (hr 25 (by decide))
   exact Rg.aG rfl (by go_simp <;> exact Rg.wo (by omega))
  ·intro _ ac_ w_ hB hr
   have e4:ac_.tmps[4]?=some (.pointer (some ⟨w.heap.size+1,0,none⟩)):=hr 4 (by decide)
   exact Rg.aG rfl (by go_simp)
  ·intro _ ac_ w_ hB hr
   have e27:=Rg.ev1 (hr 27 (by decide))
   have k2:=aE hB Q.aQ.2.2
   exact Rg.aG rfl (by go_simp)
  ·intro _ ac_ w_ hB hr
   have e26:=Rg.ev1 (hr 26 (by decide))
   have e28:=Rg.ev1 (hr 28 (by decide))
   exact Rg.aG rfl (by go_simp <;> exact Rg.wo (by omega))
  ·intro _ ac_ w_ hB hr
   have e4:ac_.tmps[4]?=some (.pointer (some ⟨w.heap.size+1,0,none⟩)):=hr 4 (by decide)
   exact Rg.aG rfl (by go_simp)
  ·intro _ ac_ w_ hB hr
   have e30:=Rg.ev1 (hr 30 (by decide))
   have k2:=aE hB Q.aQ.2.2
   exact Rg.aG rfl (by go_simp)
  ·intro _ ac_ w_ hB hr
   have e29:=Rg.ev1 (hr 29 (by decide))
   have e31:=Rg.ev1 (hr 31 (by decide))
   exact Rg.aG rfl (by go_simp <;> exact Rg.wo (by omega))
  ·intro _ ac_ w_ hB hr
   have e18:=Rg.ev1 (hr 18 (by decide))
   have e32:=Rg.ev1 (hr 32 (by decide))
   exact Rg.aG rfl (by go_simp <;> exact Rg.wo (by omega))
  ·intro _ ac_ w_ hB hr
   have e4:ac_.tmps[4]?=some (.pointer (some ⟨w.heap.size+1,0,none⟩)):=hr 4 (by decide)
   exact Rg.aG rfl (by go_simp)
  ·intro _ ac_ w_ hB hr
   have e34:=Rg.ev1 (hr 34 (by decide))
   have k1:=aE hB Q.aQ.2.1
   exact Rg.aG rfl (by go_simp)
  ·intro _ ac_ w_ hB hr
   have e35:=Rg.ev1 (hr 35 (by decide))
   have ec:=Rg.ec ac_
   exact Rg.aG rfl (by go_simp <;> exact Rg.wo (by omega))
  ·intro _ ac_ w_ hB hr
   have e4:ac_.tmps[4]?=some (.pointer (some ⟨w.heap.size+1,0,none⟩)):=hr 4 (by decide)
   exact Rg.aG rfl (by go_simp)
  ·intro _ ac_ w_ hB hr
   have e37:=Rg.ev1 (hr 37 (by decide))
   have k2:=aE hB Q.aQ.2.2
   exact Rg.aG rfl (by go_simp)
  ·intro _ ac_ w_ hB hr
   have e36:=Rg.ev1 (hr 36 (by decide))
   have e38:=Rg.ev1 (hr 38 (by decide))
   exact Rg.aG rfl (by go_simp <;> exact Rg.wo (by omega))
  ·intro _ ac_ w_ hB hr
   have e33:=Rg.ev1 (hr 33 (by decide))
   exact Rg.aG rfl (by go_simp)
  ·intro _ ac_ w_ hB hr
   have e39:=Rg.ev1 (hr 39 (by decide))
   exact Rg.aG rfl (by go_simp)
  intro vals wz hB hv hne
  have v_27:vals 27=.int .i64 (((3*X1)*X1)+((((a*E1)*E1)*E1)*E1)):=hv 27 (by decide)
  have v_28:vals 28=.int .i64 ((2*Y1)*E1):=hv 28 (by decide)
  simp only [Rg.am,Rg.fill,Act.put,Nat.reduceAdd]
  clear hv
  simp only [v_27,v_28]
  clear v_27 v_28
  unfold Rg.aV
  go_wp2
  go_ret2
  exact ⟨rfl,B.trans (hB.mono B.size)⟩
 have e1:=uh (show M.sN a X1 Y1 E1 X2 Y2 E2=Y2*E1*E1*E1 - Y1*E2*E2*E2 from if_neg hdif)
 have e2:=uh (show M.sD X1 Y1 E1 X2 Y2 E2=E1*E2*(X2*E1*E1 - X1*E2*E2) from if_neg hdif)
 rw [e1.out,e2.out]
 clear e1 e2
 have sb29:=M.aL (x:=Y2) (y:=E1) (m:=3000000) (n:=20) (by omega) (by omega) (by omega) (by omega)
 have sb30:=M.aL (x:=Y2*E1) (y:=E1) (m:=60000000) (n:=20) (by omega) (by omega) (by omega) (by omega)
 have sb31:=M.aL (x:=Y2*E1*E1) (y:=E1) (m:=1200000000) (n:=20) (by omega) (by omega) (by omega) (by omega)
 have sb32:=M.aL (x:=Y1) (y:=E2) (m:=3000000) (n:=20) (by omega) (by omega) (by omega) (by omega)
 have sb33:=M.aL (x:=Y1*E2) (y:=E2) (m:=60000000) (n:=20) (by omega) (by omega) (by omega) (by omega)
 have sb34:=M.aL (x:=Y1*E2*E2) (y:=E2) (m:=1200000000) (n:=20) (by omega) (by omega) (by omega) (by omega)
 have sb35:=M.aL (x:=E1) (y:=E2) (m:=20) (n:=20) (by omega) (by omega) (by omega) (by omega)
 have sb36:=M.aL (x:=X2) (y:=E1) (m:=10000) (n:=20) (by omega) (by omega) (by omega) (by omega)
 have sb37:=M.aL (x:=X2*E1) (y:=E1) (m:=200000) (n:=20) (by omega) (by omega) (by omega) (by omega)
 have sb38:=M.aL (x:=X1) (y:=E2) (m:=10000) (n:=20) (by omega) (by omega) (by omega) (by omega)
 have sb39:=M.aL (x:=X1*E2) (y:=E2) (m:=200000) (n:=20) (by omega) (by omega) (by omega) (by omega)
 have sb40:=M.aL (x:=E1*E2) (y:=X2*E1*E1 - X1*E2*E2) (m:=400) (n:=8000000) (by omega) (by omega) (by omega) (by omega)
 have hne:X1≠X2∨Y1≠Y2∨E1≠E2:=by
  rcases Classical.em (X1=X2) with h1 | h1
  ·rcases Classical.em (Y1=Y2) with h2 | h2
   ·exact Or.inr (Or.inr fun h3=>hdif ⟨h1,h2,h3⟩)
   exact Or.inr (Or.inl h2)
  exact Or.inl h1
 clear hdif
 have hdec:(decide (X1=X2) && (decide (Y1=Y2) && decide (E1=E2)))=false:=by
  rcases hne with h | h | h <;> simp [h]
 have C:=((aH.new w #[.int .i64 a,.int .i64 b] 28).alloc (.cells #[.int .i64 X1,.int .i64 Y1,.int .i64 E1] 45)).alloc (.cells #[.int .i64 X2,.int .i64 Y2,.int .i64 E2] 45)
 have Q:=(aH.new (w.alloc (.cells #[.int .i64 a,.int .i64 b] 28)) #[.int .i64 X1,.int .i64 Y1,.int .i64 E1] 45).alloc (.cells #[.int .i64 X2,.int .i64 Y2,.int .i64 E2] 45)
 rw [ui] at Q
 have U:=aH.new ((w.alloc (.cells #[.int .i64 a,.int .i64 b] 28)).alloc (.cells #[.int .i64 X1,.int .i64 Y1,.int .i64 E1] 45)) #[.int .i64 X2,.int .i64 Y2,.int .i64 E2] 45
 rw [ui,ui] at U
 have B:=(((uk w.heap.size w).alloc (ul _) (.cells #[.int .i64 a,.int .i64 b] 28)).alloc (by rw [ui];omega) (.cells #[.int .i64 X1,.int .i64 Y1,.int .i64 E1] 45)).alloc (by rw [ui,ui];omega) (.cells #[.int .i64 X2,.int .i64 Y2,.int .i64 E2] 45)
 generalize hw3:((w.alloc (.cells #[.int .i64 a,.int .i64 b] 28)).alloc (.cells #[.int .i64 X1,.int .i64 Y1,.int .i64 E1] 45)).alloc (.cells #[.int .i64 X2,.int .i64 Y2,.int .i64 E2] 45)=wc at *
 have ⟨q0,q1,q2⟩:=Q.aQ
 have ⟨u0,u1,u2⟩:=U.aQ
 have C_c0:=C.box.c0
 have C_c1:=C.box.c1
 rcases hne with h | h | h
 all_goals
  have hb:=beq_eq_false_iff_ne.2 h
  go_enter Tryz.func75,Tryz.ntmps75
  go_wp2
  all_goals
   go_ret2
   exact ⟨rfl,B⟩
end
end Go.Proofs.YtgfkcoablfjbcaaGreatDoor
