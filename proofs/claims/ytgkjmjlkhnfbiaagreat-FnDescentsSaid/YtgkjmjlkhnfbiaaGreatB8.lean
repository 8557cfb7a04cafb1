/-
  Joined texts: contracts and plain laws.
-/
import Derived.Test.YtgkjmjlkhnfbiaaGreatB7
import Derived.Test.YtgkjmjlkhnfbiaaGreatB6
namespace Go.Proofs.YtgkjmjlkhnfbiaaGreat
set_option linter.unusedSimpArgs false
set_option linter.unusedVariables false
open Go.RowKit
set_option maxRecDepth 100000 in
set_option maxHeartbeats 4000000 in
theorem loLifts_c (D A C m e p : Int) (k : Nat) (w : World) (hpr : M.prime p = true) (hp : 2 ≤ p) (hp2 : p ≤ 997) (hk : M.ipow p k ≤ 1000000000) (hk2 : k ≤ 29) (m0 : 0 ≤ m) (m1 : m ≤ 1000000000) (e0 : 0 ≤ e) (e1 : e ≤ 1000000000) :
    Calls Tryz.prog 178 #[.agg #[.int .i64 D, .int .i64 A, .int .i64 C], .int .i64 m, .int .i64 e, .int .i64 p, .int .i64 k] w fun e' w' => e' = .returned (.tuple #[.bool (M.poss D A C m e p k), .bool (M.lift D A C m e p k)]) ∧ Below w.heap.size w w' := by
  have n1 := M.ipow_pos (show 1 ≤ p by omega) k
  have P1 := fun W => loPowerB_c p k W (by omega) (by omega) (by omega)
  have P2 := fun W => loAt_c D A C m e (M.ipow p k) W n1 hk m0 m1 e0 e1
  have hq : ∀ x : Int, 0 ≤ x % M.ipow p k ∧ x % M.ipow p k < M.ipow p k := fun x => ⟨Int.emod_nonneg x (by omega), Int.emod_lt_of_pos x (show 0 < M.ipow p k by omega)⟩
  have v0 := hq (M.qval D A C m e)
  have y0 := hq (M.byM D A m e)
  have y1 := hq (M.byE A C m e)
  have P3 := fun W => loSquare_c (M.qval D A C m e % M.ipow p k) p k W hpr hp hp2 v0.1 v0.2 hk hk2
  have P4 := fun W => loOften_c (M.byM D A m e % M.ipow p k) p k W hp y0.1 y0.2 (by omega)
  have P5 := fun W => loOften_c (M.byE A C m e % M.ipow p k) p k W hp y1.1 y1.2 (by omega)
  have P6 := fun W => loOften_c (M.qval D A C m e % M.ipow p k) p k W hp v0.1 v0.2 (by omega)
  have hof : ∀ x : Int, 0 ≤ x → x < M.ipow p k → 0 ≤ M.ofn x p k ∧ M.ofn x p k ≤ k := fun x h1 h2 => by
    unfold M.ofn
    split
    · omega
    · rename_i h
      have := M.valn_res hp h h1 h2
      omega
  have o1 := hof _ y0.1 y0.2
  have o2 := hof _ y1.1 y1.2
  unfold M.lift M.lw
  have hpo : M.poss D A C m e p k = M.sqm (M.qval D A C m e % M.ipow p k) p k := rfl
  rw [hpo]
  generalize M.sqm (M.qval D A C m e % M.ipow p k) p k = s at *
  have P7 := fun W => l1Least_c (M.ofn (M.byM D A m e % M.ipow p k) p k) (M.ofn (M.byE A C m e % M.ipow p k) p k) W
  generalize M.ofn (M.byM D A m e % M.ipow p k) p k = a1 at *
  generalize M.ofn (M.byE A C m e % M.ipow p k) p k = a2 at *
  have hj : M.ofn (M.qval D A C m e % M.ipow p k) p k = if M.qval D A C m e % M.ipow p k = 0 then (k : Int) else M.valn (M.qval D A C m e % M.ipow p k) p := rfl
  have hvn : M.qval D A C m e % M.ipow p k ≠ 0 → 0 ≤ M.valn (M.qval D A C m e % M.ipow p k) p ∧ M.valn (M.qval D A C m e % M.ipow p k) p < k := fun h => by
    have := M.valn_res hp h v0.1 v0.2
    omega
  generalize M.valn (M.qval D A C m e % M.ipow p k) p = vv at *
  rw [hj] at P6
  generalize M.qval D A C m e % M.ipow p k = V at *
  generalize M.byM D A m e % M.ipow p k = X at *
  generalize M.byE A C m e % M.ipow p k = Y at *
  generalize M.ipow p k = n at *
  have hmin : 0 ≤ min a1 a2 ∧ min a1 a2 ≤ k := by omega
  obtain ⟨am, ham⟩ : ∃ am, min a1 a2 = am := ⟨_, rfl⟩
  rw [ham] at P7 hmin
  rw [ham]
  obtain ⟨res, hres⟩ : ∃ res, (s && decide (2 * (if V = 0 then am else min am (vv / 2 + if p = 2 then 1 else 0)) + 1 ≤ (k : Int))) = res := ⟨_, rfl⟩
  rw [hres]
  have P8 := fun (x : Int) W => l1Least_c am x W
  have HR := Lib.hid hres
  have P1 := Lib.hid P1
  have P2 := Lib.hid P2
  have P3 := Lib.hid P3
  have P4 := Lib.hid P4
  have P5 := Lib.hid P5
  have P7 := Lib.hid P7
  have P8 := Lib.hid P8
  clear hres hpo hof hq ham hj v0 y0 y1
  obtain ⟨c0, c1, c2⟩ := box3 w D A C 35
  by_cases hV : V = 0
  · simp only [hV, if_true] at P6
    have HR2 := HR.out
    rw [if_pos hV] at HR2
    have HR3 := Lib.hid HR2
    have P6 := Lib.hid P6
    clear HR HR2 hvn P8
    go_enter Tryz.func178, Tryz.ntmps178
    go_upto_region 1 with fail
    refine Rg.walk [.is (.agg #[.int .i64 D, .int .i64 A, .int .i64 C]), .is (.int .i64 m), .is (.int .i64 e), .is (.int .i64 p), .is (.int .i64 k), .is (.int .i64 n), .is (.tuple #[.int .i64 V, .int .i64 X, .int .i64 Y]), .is (.tuple #[.int .i64 V, .int .i64 X, .int .i64 Y]), .is (.int .i64 V), .is (.int .i64 X), .is (.int .i64 Y), .is (.int .i64 V), .is (.int .i64 X), .is (.int .i64 Y)] (by kernel_rfl) (by kernel_rfl) ⟨?_, ?_, ?_, ?_, ?_, ?_, ?_, ?_, ?_, ?_, ?_, ?_, ?_, ?_, trivial⟩ ?_
    · intro ac_ w_ hB hr
      have e5 : ac_.tmps[5]? = some (.pointer (some ⟨w.heap.size, 0, none⟩)) := hr 5 (by decide)
      have k0 := keepCell hB c0
      have k1 := keepCell hB c1
      have k2 := keepCell hB c2
      exact Rg.pure1 rfl (by first | (go_simp; done) | (go_simp; exact Rg.wr (by omega) (by omega)))
    · intro ac_ w_ hB hr
      have e1 : ac_.tmps[1]? = some (.int .i64 m) := hr 1 (by decide)
      exact Rg.pure1 rfl (by first | (go_simp; done) | (go_simp; exact Rg.wr (by omega) (by omega)))
    · intro ac_ w_ hB hr
      have e2 : ac_.tmps[2]? = some (.int .i64 e) := hr 2 (by decide)
      exact Rg.pure1 rfl (by first | (go_simp; done) | (go_simp; exact Rg.wr (by omega) (by omega)))
    · intro ac_ w_ hB hr
      have e3 : ac_.tmps[3]? = some (.int .i64 p) := hr 3 (by decide)
      exact Rg.pure1 rfl (by first | (go_simp; done) | (go_simp; exact Rg.wr (by omega) (by omega)))
    · intro ac_ w_ hB hr
      have e4 : ac_.tmps[4]? = some (.int .i64 k) := hr 4 (by decide)
      exact Rg.pure1 rfl (by first | (go_simp; done) | (go_simp; exact Rg.wr (by omega) (by omega)))
    · intro ac_ w_ hB hr
      have e22 : ac_.tmps[22]? = some (.int .i64 p) := Rg.ev1 (hr 22 (by decide))
      have e23 : ac_.tmps[23]? = some (.int .i64 k) := Rg.ev1 (hr 23 (by decide))
      have ef : ∀ f, ac_.eval (.func f) = .func (.func f) #[] #[] := fun _ => rfl
      refine Rg.call1 rfl (by go_simp; exact ⟨rfl, rfl⟩) ?_
      refine (P1.out _).mono ?_
      rintro _ _ ⟨rfl, rfl⟩
      exact ⟨_, rfl, rfl, Below.refl _ _⟩
    · intro ac_ w_ hB hr
      have e19 : ac_.tmps[19]? = some (.agg #[.int .i64 D, .int .i64 A, .int .i64 C]) := Rg.ev1 (hr 19 (by decide))
      have e20 : ac_.tmps[20]? = some (.int .i64 m) := Rg.ev1 (hr 20 (by decide))
      have e21 : ac_.tmps[21]? = some (.int .i64 e) := Rg.ev1 (hr 21 (by decide))
      have e24 : ac_.tmps[24]? = some (.int .i64 n) := Rg.ev1 (hr 24 (by decide))
      have ef : ∀ f, ac_.eval (.func f) = .func (.func f) #[] #[] := fun _ => rfl
      refine Rg.call1 rfl (by go_simp; exact ⟨rfl, rfl⟩) ?_
      refine (P2.out _).mono ?_
      rintro _ _ ⟨rfl, hb_⟩
      exact ⟨_, rfl, rfl, hb_⟩
    · intro ac_ w_ hB hr
      have e25 : ac_.tmps[25]? = some (.tuple #[.int .i64 V, .int .i64 X, .int .i64 Y]) := Rg.ev1 (hr 25 (by decide))
      exact Rg.pure1 rfl (by first | (go_simp; done) | (go_simp; exact Rg.wr (by omega) (by omega)))
    · intro ac_ w_ hB hr
      have e18 : ac_.tmps[18]? = some (.tuple #[.int .i64 V, .int .i64 X, .int .i64 Y]) := Rg.ev1 (hr 18 (by decide))
      exact Rg.pure1 rfl (by first | (go_simp; done) | (go_simp; exact Rg.wr (by omega) (by omega)))
    · intro ac_ w_ hB hr
      have e18 : ac_.tmps[18]? = some (.tuple #[.int .i64 V, .int .i64 X, .int .i64 Y]) := Rg.ev1 (hr 18 (by decide))
      exact Rg.pure1 rfl (by first | (go_simp; done) | (go_simp; exact Rg.wr (by omega) (by omega)))
    · intro ac_ w_ hB hr
      have e18 : ac_.tmps[18]? = some (.tuple #[.int .i64 V, .int .i64 X, .int .i64 Y]) := Rg.ev1 (hr 18 (by decide))
      exact Rg.pure1 rfl (by first | (go_simp; done) | (go_simp; exact Rg.wr (by omega) (by omega)))
    · intro ac_ w_ hB hr
      have e26 : ac_.tmps[26]? = some (.int .i64 V) := Rg.ev1 (hr 26 (by decide))
      exact Rg.pure1 rfl (by first | (go_simp; done) | (go_simp; exact Rg.wr (by omega) (by omega)))
    · intro ac_ w_ hB hr
      have e27 : ac_.tmps[27]? = some (.int .i64 X) := Rg.ev1 (hr 27 (by decide))
      exact Rg.pure1 rfl (by first | (go_simp; done) | (go_simp; exact Rg.wr (by omega) (by omega)))
    · intro ac_ w_ hB hr
      have e28 : ac_.tmps[28]? = some (.int .i64 Y) := Rg.ev1 (hr 28 (by decide))
      exact Rg.pure1 rfl (by first | (go_simp; done) | (go_simp; exact Rg.wr (by omega) (by omega)))
    · intro vals wz hB hv
      have v_0 : vals 0 = .agg #[.int .i64 D, .int .i64 A, .int .i64 C] := hv 0 (by decide)
      have v_1 : vals 1 = .int .i64 m := hv 1 (by decide)
      have v_2 : vals 2 = .int .i64 e := hv 2 (by decide)
      have v_3 : vals 3 = .int .i64 p := hv 3 (by decide)
      have v_4 : vals 4 = .int .i64 k := hv 4 (by decide)
      have v_5 : vals 5 = .int .i64 n := hv 5 (by decide)
      have v_6 : vals 6 = .tuple #[.int .i64 V, .int .i64 X, .int .i64 Y] := hv 6 (by decide)
      have v_7 : vals 7 = .tuple #[.int .i64 V, .int .i64 X, .int .i64 Y] := hv 7 (by decide)
      have v_8 : vals 8 = .int .i64 V := hv 8 (by decide)
      have v_9 : vals 9 = .int .i64 X := hv 9 (by decide)
      have v_10 : vals 10 = .int .i64 Y := hv 10 (by decide)
      have v_11 : vals 11 = .int .i64 V := hv 11 (by decide)
      have v_12 : vals 12 = .int .i64 X := hv 12 (by decide)
      have v_13 : vals 13 = .int .i64 Y := hv 13 (by decide)
      simp only [Rg.fill, if_true, Act.put, List.setIfInBounds_toArray, List.set_cons_zero, List.set_cons_succ, Nat.zero_add, Nat.reduceAdd, v_0, v_1, v_2, v_3, v_4, v_5, v_6, v_7, v_8, v_9, v_10, v_11, v_12, v_13]
      clear hv v_0 v_1 v_2 v_3 v_4 v_5 v_6 v_7 v_8 v_9 v_10 v_11 v_12 v_13
      have hbq : Below w.heap.size w wz := by have h_ := hB; exact (by repeat (first | exact Below.refl _ _ | refine below_alloc ?_ _ | refine below_step ?_ (by assumption) | refine Below.drew ?_ | refine Below.setCell ?_ (by first | exact Nat.le_refl _ | exact Nat.le_add_right _ _ | (simp <;> omega)) _ | refine below_drewN ?_ _))
      clear hB c0 c1 c2 P1 P2
      subst hV
      cases s
      · go_wp2_with (first | (go_at_call 183; (with_reducible refine (P3.out _).mono ?_); rintro e w' ⟨rfl, rfl⟩))
        go_ret2
        exact ⟨by rw [← HR3.out]; rfl, hbq⟩
      · go_wp2_with (first | (go_at_call 183; (with_reducible refine (P3.out _).mono ?_); rintro e w' ⟨rfl, rfl⟩) | (go_at_call 185; (with_reducible refine (P4.out _).mono ?_); rintro e w' ⟨rfl, rfl⟩) | (go_at_call 185; (with_reducible refine (P5.out _).mono ?_); rintro e w' ⟨rfl, rfl⟩) | (go_at_call 185; (with_reducible refine (P6.out _).mono ?_); rintro e w' ⟨rfl, rfl⟩) | (go_at_call 184; (with_reducible refine (P7.out _).mono ?_); rintro e w' ⟨rfl, rfl⟩))
        go_ret2
        exact ⟨by rw [← HR3.out]; simp, hbq⟩
  · simp only [hV, if_false] at P6
    have HR2 := HR.out
    rw [if_neg hV] at HR2
    obtain ⟨v3, v4⟩ := hvn hV
    have e1 : vv.tdiv 2 = vv / 2 := Int.tdiv_eq_ediv_of_nonneg v3
    have P6 := Lib.hid P6
    have HR3 := Lib.hid HR2
    clear HR HR2 hvn
    go_enter Tryz.func178, Tryz.ntmps178
    go_upto_region 1 with fail
    refine Rg.walk [.is (.agg #[.int .i64 D, .int .i64 A, .int .i64 C]), .is (.int .i64 m), .is (.int .i64 e), .is (.int .i64 p), .is (.int .i64 k), .is (.int .i64 n), .is (.tuple #[.int .i64 V, .int .i64 X, .int .i64 Y]), .is (.tuple #[.int .i64 V, .int .i64 X, .int .i64 Y]), .is (.int .i64 V), .is (.int .i64 X), .is (.int .i64 Y), .is (.int .i64 V), .is (.int .i64 X), .is (.int .i64 Y)] (by kernel_rfl) (by kernel_rfl) ⟨?_, ?_, ?_, ?_, ?_, ?_, ?_, ?_, ?_, ?_, ?_, ?_, ?_, ?_, trivial⟩ ?_
    · intro ac_ w_ hB hr
      have e5 : ac_.tmps[5]? = some (.pointer (some ⟨w.heap.size, 0, none⟩)) := hr 5 (by decide)
      have k0 := keepCell hB c0
      have k1 := keepCell hB c1
      have k2 := keepCell hB c2
      exact Rg.pure1 rfl (by first | (go_simp; done) | (go_simp; exact Rg.wr (by omega) (by omega)))
    · intro ac_ w_ hB hr
      have e1 : ac_.tmps[1]? = some (.int .i64 m) := hr 1 (by decide)
      exact Rg.pure1 rfl (by first | (go_simp; done) | (go_simp; exact Rg.wr (by omega) (by omega)))
    · intro ac_ w_ hB hr
      have e2 : ac_.tmps[2]? = some (.int .i64 e) := hr 2 (by decide)
      exact Rg.pure1 rfl (by first | (go_simp; done) | (go_simp; exact Rg.wr (by omega) (by omega)))
    · intro ac_ w_ hB hr
      have e3 : ac_.tmps[3]? = some (.int .i64 p) := hr 3 (by decide)
      exact Rg.pure1 rfl (by first | (go_simp; done) | (go_simp; exact Rg.wr (by omega) (by omega)))
    · intro ac_ w_ hB hr
      have e4 : ac_.tmps[4]? = some (.int .i64 k) := hr 4 (by decide)
      exact Rg.pure1 rfl (by first | (go_simp; done) | (go_simp; exact Rg.wr (by omega) (by omega)))
    · intro ac_ w_ hB hr
      have e22 : ac_.tmps[22]? = some (.int .i64 p) := Rg.ev1 (hr 22 (by decide))
      have e23 : ac_.tmps[23]? = some (.int .i64 k) := Rg.ev1 (hr 23 (by decide))
      have ef : ∀ f, ac_.eval (.func f) = .func (.func f) #[] #[] := fun _ => rfl
      refine Rg.call1 rfl (by go_simp; exact ⟨rfl, rfl⟩) ?_
      refine (P1.out _).mono ?_
      rintro _ _ ⟨rfl, rfl⟩
      exact ⟨_, rfl, rfl, Below.refl _ _⟩
    · intro ac_ w_ hB hr
      have e19 : ac_.tmps[19]? = some (.agg #[.int .i64 D, .int .i64 A, .int .i64 C]) := Rg.ev1 (hr 19 (by decide))
      have e20 : ac_.tmps[20]? = some (.int .i64 m) := Rg.ev1 (hr 20 (by decide))
      have e21 : ac_.tmps[21]? = some (.int .i64 e) := Rg.ev1 (hr 21 (by decide))
      have e24 : ac_.tmps[24]? = some (.int .i64 n) := Rg.ev1 (hr 24 (by decide))
      have ef : ∀ f, ac_.eval (.func f) = .func (.func f) #[] #[] := fun _ => rfl
      refine Rg.call1 rfl (by go_simp; exact ⟨rfl, rfl⟩) ?_
      refine (P2.out _).mono ?_
      rintro _ _ ⟨rfl, hb_⟩
      exact ⟨_, rfl, rfl, hb_⟩
    · intro ac_ w_ hB hr
      have e25 : ac_.tmps[25]? = some (.tuple #[.int .i64 V, .int .i64 X, .int .i64 Y]) := Rg.ev1 (hr 25 (by decide))
      exact Rg.pure1 rfl (by first | (go_simp; done) | (go_simp; exact Rg.wr (by omega) (by omega)))
    · intro ac_ w_ hB hr
      have e18 : ac_.tmps[18]? = some (.tuple #[.int .i64 V, .int .i64 X, .int .i64 Y]) := Rg.ev1 (hr 18 (by decide))
      exact Rg.pure1 rfl (by first | (go_simp; done) | (go_simp; exact Rg.wr (by omega) (by omega)))
    · intro ac_ w_ hB hr
      have e18 : ac_.tmps[18]? = some (.tuple #[.int .i64 V, .int .i64 X, .int .i64 Y]) := Rg.ev1 (hr 18 (by decide))
      exact Rg.pure1 rfl (by first | (go_simp; done) | (go_simp; exact Rg.wr (by omega) (by omega)))
    · intro ac_ w_ hB hr
      have e18 : ac_.tmps[18]? = some (.tuple #[.int .i64 V, .int .i64 X, .int .i64 Y]) := Rg.ev1 (hr 18 (by decide))
      exact Rg.pure1 rfl (by first | (go_simp; done) | (go_simp; exact Rg.wr (by omega) (by omega)))
    · intro ac_ w_ hB hr
      have e26 : ac_.tmps[26]? = some (.int .i64 V) := Rg.ev1 (hr 26 (by decide))
      exact Rg.pure1 rfl (by first | (go_simp; done) | (go_simp; exact Rg.wr (by omega) (by omega)))
    · intro ac_ w_ hB hr
      have e27 : ac_.tmps[27]? = some (.int .i64 X) := Rg.ev1 (hr 27 (by decide))
      exact Rg.pure1 rfl (by first | (go_simp; done) | (go_simp; exact Rg.wr (by omega) (by omega)))
    · intro ac_ w_ hB hr
      have e28 : ac_.tmps[28]? = some (.int .i64 Y) := Rg.ev1 (hr 28 (by decide))
      exact Rg.pure1 rfl (by first | (go_simp; done) | (go_simp; exact Rg.wr (by omega) (by omega)))
    · intro vals wz hB hv
      have v_0 : vals 0 = .agg #[.int .i64 D, .int .i64 A, .int .i64 C] := hv 0 (by decide)
      have v_1 : vals 1 = .int .i64 m := hv 1 (by decide)
      have v_2 : vals 2 = .int .i64 e := hv 2 (by decide)
      have v_3 : vals 3 = .int .i64 p := hv 3 (by decide)
      have v_4 : vals 4 = .int .i64 k := hv 4 (by decide)
      have v_5 : vals 5 = .int .i64 n := hv 5 (by decide)
      have v_6 : vals 6 = .tuple #[.int .i64 V, .int .i64 X, .int .i64 Y] := hv 6 (by decide)
      have v_7 : vals 7 = .tuple #[.int .i64 V, .int .i64 X, .int .i64 Y] := hv 7 (by decide)
      have v_8 : vals 8 = .int .i64 V := hv 8 (by decide)
      have v_9 : vals 9 = .int .i64 X := hv 9 (by decide)
      have v_10 : vals 10 = .int .i64 Y := hv 10 (by decide)
      have v_11 : vals 11 = .int .i64 V := hv 11 (by decide)
      have v_12 : vals 12 = .int .i64 X := hv 12 (by decide)
      have v_13 : vals 13 = .int .i64 Y := hv 13 (by decide)
      simp only [Rg.fill, if_true, Act.put, List.setIfInBounds_toArray, List.set_cons_zero, List.set_cons_succ, Nat.zero_add, Nat.reduceAdd, v_0, v_1, v_2, v_3, v_4, v_5, v_6, v_7, v_8, v_9, v_10, v_11, v_12, v_13]
      clear hv v_0 v_1 v_2 v_3 v_4 v_5 v_6 v_7 v_8 v_9 v_10 v_11 v_12 v_13
      have hbq : Below w.heap.size w wz := by have h_ := hB; exact (by repeat (first | exact Below.refl _ _ | refine below_alloc ?_ _ | refine below_step ?_ (by assumption) | refine Below.drew ?_ | refine Below.setCell ?_ (by first | exact Nat.le_refl _ | exact Nat.le_add_right _ _ | (simp <;> omega)) _ | refine below_drewN ?_ _))
      clear hB c0 c1 c2 P1 P2
      cases s
      · go_wp2_with (first | (go_at_call 183; (with_reducible refine (P3.out _).mono ?_); rintro e w' ⟨rfl, rfl⟩))
        go_ret2
        exact ⟨by rw [← HR3.out]; rfl, hbq⟩
      · by_cases hp3 : p = 2
        · subst hp3
          go_wp2_with (first | (go_at_call 183; (with_reducible refine (P3.out _).mono ?_); rintro e w' ⟨rfl, rfl⟩) | (go_at_call 185; (with_reducible refine (P4.out _).mono ?_); rintro e w' ⟨rfl, rfl⟩) | (go_at_call 185; (with_reducible refine (P5.out _).mono ?_); rintro e w' ⟨rfl, rfl⟩) | (go_at_call 185; (with_reducible refine (P6.out _).mono ?_); rintro e w' ⟨rfl, rfl⟩) | (go_at_call 184; (with_reducible refine (P7.out _).mono ?_); rintro e w' ⟨rfl, rfl⟩) | (go_at_call 184; (with_reducible refine (P8.out _ _).mono ?_); rintro e w' ⟨rfl, rfl⟩))
          go_ret2
          exact ⟨by rw [← HR3.out]; simp, hbq⟩
        · go_wp2_with (first | (go_at_call 183; (with_reducible refine (P3.out _).mono ?_); rintro e w' ⟨rfl, rfl⟩) | (go_at_call 185; (with_reducible refine (P4.out _).mono ?_); rintro e w' ⟨rfl, rfl⟩) | (go_at_call 185; (with_reducible refine (P5.out _).mono ?_); rintro e w' ⟨rfl, rfl⟩) | (go_at_call 185; (with_reducible refine (P6.out _).mono ?_); rintro e w' ⟨rfl, rfl⟩) | (go_at_call 184; (with_reducible refine (P7.out _).mono ?_); rintro e w' ⟨rfl, rfl⟩) | (go_at_call 184; (with_reducible refine (P8.out _ _).mono ?_); rintro e w' ⟨rfl, rfl⟩))
          go_ret2
          exact ⟨by rw [← HR3.out]; simp [hp3], hbq⟩
end Go.Proofs.YtgkjmjlkhnfbiaaGreat

namespace Go.Proofs.YtgkjmjlkhnfbiaaGreat
set_option linter.unusedSimpArgs false
set_option linter.unusedVariables false
namespace M
/-- how many numbers are tried below a residue of level i -/
def cnt (p : Nat) (b : Bool) (i : Nat) : Nat := if b && i == 0 then 1 else p
section
variable (p : Nat) (ok lf : Bool → Nat → Int → Bool)
/-- whether a residue of level i has a descendant d levels on; whether one that lifts -/
def bB (b : Bool) : Nat → Nat → Int → Bool
  | 0, i, x => i == 0 || ok b i x
  | d + 1, i, x => (i == 0 || ok b i x) && (List.range (cnt p b i)).any fun t => bB b d (i + 1) (x + t * ipow p i)
def bA (b : Bool) : Nat → Nat → Int → Bool
  | 0, i, x => (i == 0 || ok b i x) && lf b i x
  | d + 1, i, x => (i == 0 || ok b i x) && (List.range (cnt p b i)).any fun t => bA b d (i + 1) (x + t * ipow p i)
/-- the pairs of the next level that may be possible, in the program's order -/
def cands (l : List (Int × Int)) (i : Nat) : List (Int × Int) :=
  [true, false].flatMap fun pl => (List.range p).flatMap fun (j : Nat) => (l.filter fun x => (x.2 == 1) == pl).map fun x => if pl then (x.1 + j * ipow p i, x.2) else (x.1, x.2 + j * ipow p i)
/-- a pair's kind and number -/
def okP (i : Nat) (x : Int × Int) : Bool := if x.2 == 1 then ok false i x.1 else ok true i x.2
def lfP (i : Nat) (x : Int × Int) : Bool := if x.2 == 1 then lf false i x.1 else lf true i x.2
/-- the possible pairs of a level (of level i + 1) -/
def lst : Nat → List (Int × Int)
  | 0 => (((List.range p).filter fun (m : Nat) => ok false 1 (m : Int)).map fun (m : Nat) => ((m : Int), (1 : Int))) ++ (if ok true 1 0 then [(1, 0)] else [])
  | i + 1 => (cands p (lst i) (i + 1)).filter (okP (ok := ok) (i + 2))
end
section
variable {p : Nat} {ok lf : Bool → Nat → Int → Bool}
/-- a descendant -/
def Desc (p : Nat) (ok : Bool → Nat → Int → Bool) (b : Bool) : Nat → Nat → Int → Int → Prop
  | 0, _, x, y => y = x
  | d + 1, i, x, y => ∃ t : Nat, t < cnt p b i ∧ ok b (i + 1) (x + t * ipow p i) = true ∧ Desc p ok b d (i + 1) (x + t * ipow p i) y
theorem bB_iff (b : Bool) : ∀ (d i : Nat) (x : Int), bB p ok b d i x = true ↔ (i = 0 ∨ ok b i x = true) ∧ ∃ y, Desc p ok b d i x y
  | 0, i, x => by simp [bB, Desc]
  | d + 1, i, x => by
    simp only [bB, Bool.and_eq_true, Bool.or_eq_true, beq_iff_eq, List.any_eq_true, List.mem_range, bB_iff b d, Desc]
    constructor
    · rintro ⟨h, t, ht, h1, y, hy⟩
      exact ⟨h, y, t, ht, by rcases h1 with q | q; cases q; exact q, hy⟩
    · rintro ⟨h, y, t, ht, h1, hy⟩
      exact ⟨h, t, ht, Or.inr h1, y, hy⟩
theorem bA_iff (b : Bool) : ∀ (d i : Nat) (x : Int), bA p ok lf b d i x = true ↔ (i = 0 ∨ ok b i x = true) ∧ ∃ y, Desc p ok b d i x y ∧ lf b (i + d) y = true
  | 0, i, x => by simp [bA, Desc]
  | d + 1, i, x => by
    simp only [bA, Bool.and_eq_true, Bool.or_eq_true, beq_iff_eq, List.any_eq_true, List.mem_range, bA_iff b d, Desc]
    rw [show i + (d + 1) = i + 1 + d from by omega]
    constructor
    · rintro ⟨h, t, ht, h1, y, hy, hl⟩
      exact ⟨h, y, ⟨t, ht, by rcases h1 with q | q; cases q; exact q, hy⟩, hl⟩
    · rintro ⟨h, y, ⟨t, ht, h1, hy⟩, hl⟩
      exact ⟨h, t, ht, Or.inr h1, y, hy, hl⟩
/-- the last step first -/
theorem desc_last (b : Bool) : ∀ (d i : Nat) (x y : Int), Desc p ok b (d + 1) i x y ↔ ∃ z, Desc p ok b d i x z ∧ ∃ t : Nat, t < cnt p b (i + d) ∧ y = z + t * ipow p (i + d) ∧ ok b (i + d + 1) y = true
  | 0, i, x, y => by
    simp only [Desc, Nat.add_zero]
    constructor
    · rintro ⟨t, ht, h1, rfl⟩
      exact ⟨x, rfl, t, ht, rfl, h1⟩
    · rintro ⟨z, rfl, t, ht, rfl, h1⟩
      exact ⟨t, ht, h1, rfl⟩
  | d + 1, i, x, y => by
    constructor
    · rintro ⟨t, ht, h1, h2⟩
      obtain ⟨z, hz, s, hs, hy, ho⟩ := (desc_last b d (i + 1) _ y).1 h2
      rw [show i + 1 + d = i + (d + 1) from by omega] at hs hy ho
      exact ⟨z, ⟨t, ht, h1, hz⟩, s, hs, hy, ho⟩
    · rintro ⟨z, ⟨t, ht, h1, hz⟩, s, hs, hy, ho⟩
      refine ⟨t, ht, h1, (desc_last b d (i + 1) _ y).2 ⟨z, hz, s, ?_, ?_, ?_⟩⟩
      · rw [show i + 1 + d = i + (d + 1) from by omega]; exact hs
      · rw [show i + 1 + d = i + (d + 1) from by omega]; exact hy
      · rw [show i + 1 + d = i + (d + 1) from by omega]; exact ho
/-- which pairs are of a level -/
theorem mem_lst (hp : 2 ≤ p) : ∀ (i : Nat) (u v : Int), (u, v) ∈ lst p ok i ↔ (v = 1 ∧ Desc p ok false (i + 1) 0 0 u) ∨ (u = 1 ∧ v ≠ 1 ∧ v % p = 0 ∧ Desc p ok true (i + 1) 0 0 v)
  | 0, u, v => by
    simp only [lst, List.mem_append, List.mem_map, List.mem_filter, List.mem_range, Prod.mk.injEq, Desc, cnt, ipow, Bool.false_and, Bool.true_and, beq_self_eq_true, if_true, Bool.false_eq_true, if_false]
    constructor
    · rintro (⟨m, ⟨h1, h2⟩, rfl, rfl⟩ | h)
      · exact Or.inl ⟨rfl, m, h1, by simpa using h2, by simp⟩
      · split at h
        · rename_i ho
          simp only [List.mem_singleton, Prod.mk.injEq] at h
          obtain ⟨rfl, rfl⟩ := h
          exact Or.inr ⟨rfl, by decide, by simp, 0, by omega, by simpa using ho, by simp⟩
        · cases h
    · rintro (⟨rfl, m, h1, h2, rfl⟩ | ⟨rfl, h0, -, t, ht, h2, rfl⟩)
      · exact Or.inl ⟨m, ⟨h1, by simpa using h2⟩, by simp, rfl⟩
      · obtain rfl : t = 0 := by omega
        right
        have h3 : ok true 1 0 = true := by simpa using h2
        rw [if_pos h3]
        simp
  | i + 1, u, v => by
    have ih := mem_lst hp i
    have hcp : ∀ b, cnt p b (0 + (i + 1)) = p := fun b => by simp [cnt]
    have hq : ipow p (i + 1) % p = 0 := by simp [ipow]
    have hpp : ∀ t : Nat, (t * ipow p (i + 1)) % (p : Int) = 0 := fun t => by
      rw [Int.mul_emod, hq]; simp
    rw [desc_last, desc_last]
    simp only [Nat.zero_add, show cnt p false (i + 1) = p from by simp [cnt], show cnt p true (i + 1) = p from by simp [cnt]]
    simp only [lst, cands, List.mem_filter, List.mem_flatMap, List.mem_map, List.mem_range, List.mem_cons, List.not_mem_nil, or_false]
    constructor
    · rintro ⟨⟨pl, -, j, hj, ⟨a, c⟩, ⟨hm, hpl⟩, he⟩, ho⟩
      rcases (ih a c).1 hm with ⟨rfl, hd⟩ | ⟨rfl, hc1, hc, hd⟩
      · obtain rfl : pl = true := by simpa using hpl
        simp only [if_true, Prod.mk.injEq] at he
        obtain ⟨rfl, rfl⟩ := he
        refine Or.inl ⟨rfl, a, hd, j, hj, rfl, ?_⟩
        simpa [okP] using ho
      · have hpl' : pl = false := by
          have : (c == 1) = false := by simpa using hc1
          simp only [this] at hpl
          simpa using hpl
        subst hpl'
        simp only [Bool.false_eq_true, if_false, Prod.mk.injEq] at he
        obtain ⟨rfl, rfl⟩ := he
        have hv : (c + j * ipow p (i + 1)) % (p : Int) = 0 := by rw [Int.add_emod, hc, hpp]; simp
        have hv1 : c + j * ipow p (i + 1) ≠ 1 := fun h => by
          rw [h, Int.emod_eq_of_lt (by omega) (by omega)] at hv
          omega
        refine Or.inr ⟨rfl, hv1, hv, c, hd, j, hj, rfl, ?_⟩
        simpa [okP, hv1] using ho
    · rintro (⟨rfl, z, hd, t, ht, rfl, ho⟩ | ⟨rfl, h0, hv, z, hd, t, ht, rfl, ho⟩)
      · exact ⟨⟨true, Or.inl rfl, t, ht, (z, 1), ⟨(ih z 1).2 (Or.inl ⟨rfl, hd⟩), rfl⟩, rfl⟩, by simpa [okP] using ho⟩
      · have hz : z % (p : Int) = 0 := by
          rw [Int.add_emod, hpp, Int.add_zero, Int.emod_emod] at hv
          exact hv
        have hz1 : z ≠ 1 := fun h => by
          rw [h, Int.emod_eq_of_lt (by omega) (by omega)] at hz
          omega
        exact ⟨⟨false, Or.inr rfl, t, ht, (1, z), ⟨(ih 1 z).2 (Or.inr ⟨rfl, hz1, hz, hd⟩), by simpa using hz1⟩, rfl⟩, by simpa [okP, h0] using ho⟩
theorem desc_true (hp : 2 ≤ p) {i : Nat} {v : Int} : ∀ {i : Nat} {v : Int}, Desc p ok true (i + 1) 0 0 v → v % p = 0 ∧ v ≠ 1 := by
  intro i
  induction i with
  | zero =>
    rintro v ⟨t, ht, -, rfl⟩
    simp only [cnt, Bool.true_and, beq_self_eq_true, if_true] at ht
    obtain rfl : t = 0 := by omega
    simp
  | succ i ih =>
    intro v h
    obtain ⟨z, hz, t, -, rfl, -⟩ := (desc_last true (i + 1) 0 0 v).1 h
    have h1 := (ih hz).1
    have hv : (z + t * ipow p (0 + (i + 1))) % (p : Int) = 0 := by
      rw [Int.add_emod, h1, Nat.zero_add, Int.mul_emod, show ipow p (i + 1) % (p : Int) = 0 from by simp [ipow]]
      simp
    refine ⟨hv, fun e => ?_⟩
    rw [e, Int.emod_eq_of_lt (by omega) (by omega)] at hv
    omega
/-- the level's list has a pair; it has one that lifts -/
theorem lst_some (hp : 2 ≤ p) (i : Nat) : (!(lst p ok i).isEmpty) = (bB p ok false (i + 1) 0 0 || bB p ok true (i + 1) 0 0) := by
  rw [Bool.eq_iff_iff, Bool.or_eq_true, bB_iff, bB_iff]
  constructor
  · intro h
    cases hl : lst p ok i with
    | nil => rw [hl] at h; cases h
    | cons x xs =>
      have hm : (x.1, x.2) ∈ lst p ok i := by rw [hl]; exact List.mem_cons_self ..
      rcases (mem_lst hp i x.1 x.2).1 hm with ⟨-, h⟩ | ⟨-, -, -, h⟩
      · exact Or.inl ⟨Or.inl rfl, _, h⟩
      · exact Or.inr ⟨Or.inl rfl, _, h⟩
  · have key : ∀ x, x ∈ lst p ok i → (!(lst p ok i).isEmpty) = true := fun x hx => by
      cases hl : lst p ok i with
      | nil => rw [hl] at hx; cases hx
      | cons x xs => rfl
    rintro (⟨-, y, h⟩ | ⟨-, y, h⟩)
    · exact key (y, 1) ((mem_lst hp i y 1).2 (Or.inl ⟨rfl, h⟩))
    · have := desc_true hp (i := i) (v := y) h
      exact key (1, y) ((mem_lst hp i 1 y).2 (Or.inr ⟨rfl, this.2, this.1, h⟩))
theorem lst_lift (hp : 2 ≤ p) (i : Nat) : (lst p ok i).any (lfP lf (i + 1)) = (bA p ok lf false (i + 1) 0 0 || bA p ok lf true (i + 1) 0 0) := by
  rw [Bool.eq_iff_iff, Bool.or_eq_true, bA_iff, bA_iff, List.any_eq_true]
  simp only [Nat.zero_add]
  constructor
  · rintro ⟨⟨u, v⟩, hm, hl⟩
    rcases (mem_lst hp i u v).1 hm with ⟨rfl, h⟩ | ⟨rfl, h1, -, h⟩
    · exact Or.inl ⟨Or.inl trivial, u, h, by simpa [lfP] using hl⟩
    · exact Or.inr ⟨Or.inl trivial, v, h, by simpa [lfP, h1] using hl⟩
  · rintro (⟨-, y, h, hl⟩ | ⟨-, y, h, hl⟩)
    · exact ⟨(y, 1), (mem_lst hp i y 1).2 (Or.inl ⟨rfl, h⟩), by simpa [lfP] using hl⟩
    · have := desc_true hp (i := i) (v := y) h
      exact ⟨(1, y), (mem_lst hp i 1 y).2 (Or.inr ⟨rfl, this.2, this.1, h⟩), by simpa [lfP, this.2] using hl⟩
end
end M
end Go.Proofs.YtgkjmjlkhnfbiaaGreat

namespace Go.Proofs.YtgkjmjlkhnfbiaaGreat
set_option linter.unusedSimpArgs false
set_option linter.unusedVariables false
open Go.RowKit
/-- whether a residue of a level is possible, and lifts: of pairs (x, 1), and of turned ones (1, x) -/
def M.qok (D A C : Int) (p : Nat) (b : Bool) (i : Nat) (x : Int) : Bool := if b then M.poss D A C 1 x p i else M.poss D A C x 1 p i
def M.qlf (D A C : Int) (p : Nat) (b : Bool) (i : Nat) (x : Int) : Bool := if b then M.lift D A C 1 x p i else M.lift D A C x 1 p i
theorem loLifts_q (D A C x : Int) (p i : Nat) (b : Bool) (m e : Int) (hm : m = if b then 1 else x) (he : e = if b then x else 1) (w : World) (hpr : M.prime p = true) (hp : 2 ≤ p) (hp2 : p ≤ 997) (hk : M.ipow p i ≤ 1000000000) (hk2 : i ≤ 29) (x0 : 0 ≤ x) (x1 : x ≤ 1000000000) :
    Calls Tryz.prog 178 #[.agg #[.int .i64 D, .int .i64 A, .int .i64 C], .int .i64 m, .int .i64 e, .int .i64 p, .int .i64 i] w fun e' w' => e' = .returned (.tuple #[.bool (M.qok D A C p b i x), .bool (M.qlf D A C p b i x)]) ∧ Below w.heap.size w w' := by
  subst hm he
  cases b
  · exact loLifts_c D A C x 1 p i w hpr (by omega) (by omega) hk hk2 x0 x1 (by omega) (by omega)
  · exact loLifts_c D A C 1 x p i w hpr (by omega) (by omega) hk hk2 (by omega) (by omega) x0 x1
theorem M.any_or (f : Nat → Bool) (n : Nat) : (List.range (n + 1)).any f = ((List.range n).any f || f n) := M.any_succ f n
/-- what the search hands back -/
def BestPost (A B : Bool) (w : World) (e : Ending) (w' : World) : Prop := ∃ r : Int, e = .returned (.tuple #[.int .i64 r, .bool B]) ∧ decide (0 ≤ r) = A ∧ Below w.heap.size w w'
set_option maxRecDepth 100000 in
set_option maxHeartbeats 4000000 in
theorem loBest_c (D A C : Int) (p k : Nat) (b : Bool) (hpr : M.prime p = true) (hp : 2 ≤ p) (hp2 : p ≤ 997) (hk : M.ipow p k ≤ 1000000000) (hk2 : k ≤ 29) (hk1 : 1 ≤ k) :
    ∀ (d i : Nat) (x : Int) (w : World), k = i + d → 0 ≤ x → x < M.ipow p i →
      Calls Tryz.prog 167 #[.agg #[.int .i64 D, .int .i64 A, .int .i64 C], .bool b, .int .i64 p, .int .i64 k, .int .i64 x, .int .i64 i] w (BestPost (M.bA p (M.qok D A C p) (M.qlf D A C p) b d i x) (M.bB p (M.qok D A C p) b d i x) w) := by
  intro d
  induction d with
  | zero =>
    intro i x w hik x0 x1
    obtain rfl : k = i := by omega
    have hi0 : (k == 0) = false := by simpa using (show ¬ k = 0 by omega)
    have PL := fun W => loLifts_q D A C x p k b _ _ rfl rfl W hpr hp hp2 hk hk2 x0 (by omega)
    simp only [M.bA, M.bB, hi0, Bool.false_or]
    generalize M.qok D A C p b k x = o at *
    generalize M.qlf D A C p b k x = l at *
    have hk0 : (0 : Int) < (k : Int) := by omega
    obtain ⟨c0, c1, c2⟩ := box3 w D A C 35
    clear hk hik x1 hi0
    cases b
    all_goals
      simp only [if_true, if_false, Bool.false_eq_true] at PL
      cases o <;> cases l
      all_goals
        replace PL := Lib.hid PL
        go_enter Tryz.func167, Tryz.ntmps167
        go_wp2_with (go_at_call 178; (with_reducible refine (PL.out _).mono ?_); rintro e_ w2 ⟨rfl, hb⟩)
        go_ret2
        refine ⟨_, rfl, ?_, by have h_ := hb; exact (by repeat (first | exact Below.refl _ _ | refine below_alloc ?_ _ | refine below_step ?_ (by assumption) | refine Below.drew ?_ | refine Below.setCell ?_ (by first | exact Nat.le_refl _ | exact Nat.le_add_right _ _ | (simp <;> omega)) _ | refine below_drewN ?_ _))⟩
        first | rfl | simpa using x0
  | succ d ih =>
    intro i x w hik x0 x1
    have hp1 : (1 : Int) ≤ (p : Int) := by omega
    have hkm := M.ipow_mono hp1 (show i + 1 ≤ k by omega)
    have hq1 := M.ipow_pos hp1 i
    have hki := M.ipow_mono hp1 (show i ≤ k by omega)
    have PW := fun W => loPowerB_c (p : Int) i W hp1 (by omega) (by omega)
    -- the loop, whatever lies ahead of it
    have hI := fun (t : Nat) (ht : t < p) W => ih (i + 1) (x + t * M.ipow p i) W (by omega) (Int.add_nonneg x0 (Int.mul_nonneg (by omega) (by omega))) (by
      have h1 : (t : Int) * M.ipow p i ≤ ((p : Int) - 1) * M.ipow p i := Int.mul_le_mul_of_nonneg_right (by omega) (by omega)
      have h2 : M.ipow p (i + 1) = M.ipow p i * p := rfl
      have h3 : ((p : Int) - 1) * M.ipow p i = M.ipow p i * p - M.ipow p i := by rw [Int.sub_mul, Int.mul_comm]; omega
      omega)
    have hbt : ∀ t : Nat, t < p → 0 ≤ (t : Int) * M.ipow p i ∧ (t : Int) * M.ipow p i ≤ 1000000000 := fun t ht => by
      have h1 : (t : Int) * M.ipow p i ≤ (p : Int) * M.ipow p i := Int.mul_le_mul_of_nonneg_right (by omega) (by omega)
      have h2 : M.ipow p (i + 1) = M.ipow p i * p := rfl
      have h3 : (p : Int) * M.ipow p i = M.ipow p i * p := Int.mul_comm ..
      exact ⟨Int.mul_nonneg (by omega) (by omega), by omega⟩
    have PL := fun (hi : ¬ i = 0) W => loLifts_q D A C x p i b _ _ rfl rfl W hpr hp hp2 (by omega) (by omega) x0 (by omega)
    simp only [M.bA, M.bB]
    generalize hAA : (fun t : Nat => M.bA p (M.qok D A C p) (M.qlf D A C p) b d (i + 1) (x + t * M.ipow p i)) = FA at *
    generalize hBB : (fun t : Nat => M.bB p (M.qok D A C p) b d (i + 1) (x + t * M.ipow p i)) = FB at *
    have hI : ∀ (t : Nat), t < p → ∀ W, Calls Tryz.prog 167 #[.agg #[.int .i64 D, .int .i64 A, .int .i64 C], .bool b, .int .i64 p, .int .i64 k, .int .i64 (x + t * M.ipow p i), .int .i64 ((i : Int) + 1)] W (BestPost (FA t) (FB t) W) := fun t ht W => by
      have := hI t ht W
      rw [← hAA, ← hBB]
      exact this
    have hcn : M.cnt p b i ≤ p ∧ 1 ≤ M.cnt p b i ∧ (M.cnt p b i = p ∨ (b = true ∧ i = 0 ∧ M.cnt p b i = 1)) := by
      unfold M.cnt
      split
      · rename_i h
        rw [Bool.and_eq_true, beq_iff_eq] at h
        exact ⟨by omega, by omega, Or.inr ⟨h.1, h.2, rfl⟩⟩
      · exact ⟨by omega, by omega, Or.inl rfl⟩
    have hcb : b = true → i = 0 → M.cnt p b i = 1 := fun h1 h2 => by unfold M.cnt; rw [h1, h2]; rfl
    have hq9 : M.ipow p i ≤ 1000000000 := by omega
    generalize hCC : M.cnt p b i = c at *
    generalize hQ : M.ipow p i = Q at *
    have HI := Lib.hid hI
    have HT := Lib.hid hbt
    have PW := Lib.hid PW
    clear hI hAA hBB ih hbt hkm hki hCC hQ hk
    obtain ⟨c0, c1, c2⟩ := box3 w D A C 35
    by_cases hi : i = 0
    · subst hi
      clear PL
      cases b
      · have hc : p = c := by rcases hcn.2.2 with q | q; exact q.symm; exact absurd q.1 Bool.false_ne_true
        clear hcn hcb
        subst hc
        simp only [beq_self_eq_true, Bool.true_or, Bool.true_and]
        have PW : ∀ W, Calls Tryz.prog 179 #[.int .i64 (p : Int), .int .i64 (0 : Int)] W fun e w' => e = .returned (.int .i64 Q) ∧ W = w' := PW.out
        replace PW := Lib.hid PW
        clear hik
        have HI1 : ∀ (t : Nat), t < p → ∀ W, Calls Tryz.prog 167 #[.agg #[.int .i64 D, .int .i64 A, .int .i64 C], .bool false, .int .i64 p, .int .i64 k, .int .i64 (x + t * Q), .int .i64 (1 : Int)] W (BestPost (FA t) (FB t) W) := HI.out
        clear HI
        have HI := Lib.hid HI1
        clear HI1
        go_enter Tryz.func167, Tryz.ntmps167
        go_upto_region 15 with (first | (go_at_call 178; (with_reducible refine (PL.out _).mono ?_); rintro e_ w2 ⟨rfl, hb⟩; (have c0 := keepCell hb c0); (have c1 := keepCell hb c1); (have c2 := keepCell hb c2)) | (go_at_call 179; (with_reducible refine (PW.out _).mono ?_); rintro e w' ⟨rfl, rfl⟩))
        have hbw : Below w.heap.size w (w.alloc (.cells #[.int .i64 D, .int .i64 A, .int .i64 C] 35)) := (by repeat (first | exact Below.refl _ _ | refine below_alloc ?_ _ | refine below_step ?_ (by assumption) | refine Below.drew ?_ | refine Below.setCell ?_ (by first | exact Nat.le_refl _ | exact Nat.le_add_right _ _ | (simp <;> omega)) _ | refine below_drewN ?_ _))
        generalize hW1 : w.alloc (.cells #[.int .i64 D, .int .i64 A, .int .i64 C] 35) = W1 at *
        clear hW1
        go_wp2
        go_loopw [18, 19, 21] (fun vb vs vt wr => ∃ (j : Nat) (r : Int), j ≤ p ∧ vt = .int .i64 j ∧ vb = .int .i64 r ∧ vs = .bool ((List.range j).any FB) ∧ decide (0 ≤ r) = (List.range j).any FA ∧ Below W1.heap.size W1 wr) (fun _ _ vt _ => p + 1 - (intOf vt).toNat)
        case atStart => exact ⟨0, -1, by omega, rfl, rfl, rfl, rfl, Below.refl _ _⟩
        case round =>
          obtain ⟨j, r, hj, rfl, rfl, rfl, hr, hbr⟩ := hrel
          have z2 := hbr.size
          have e0 := keepCell hbr c0
          have e1 := keepCell hbr c1
          have e2 := keepCell hbr c2
          have hr2 := Lib.hid hr
          clear hr
          by_cases hjc : j < p
          · have hjp : (j : Int) < (p : Int) := by omega
            have HJ := Lib.hid (HI.out j (by omega))
            have hT := HT.out j (by omega)
            have sA := Lib.hid (M.any_or FA j)
            have sB := Lib.hid (M.any_or FB j)
            clear HI HT
            generalize (List.range j).any FA = ra at *
            generalize (List.range j).any FB = rb at *
            generalize FA j = fa at *
            generalize FB j = fb at *
            skip
            go_wp2_with fail
            with_reducible refine (HJ.out _).mono ?_
            rintro e_ w5 ⟨y, rfl, hy', hb5⟩
            have hy := Lib.hid hy'
            clear hy'
            by_cases h1 : 0 ≤ y
            · by_cases h2 : r < 0
              · cases rb <;> (go_wp2; go_roundw; (case rel => exact ⟨j + 1, y, by omega, by go_num, by first | rfl | (rw [sB.out]; simp), by first | rfl | (rw [sB.out]; simp), by rw [sA.out, ← hr2.out, ← hy.out, Bool.eq_iff_iff]; simp; omega, hbr.trans (hb5.mono z2)⟩); (case measure => (simp [intOf]; omega)))
              · by_cases h3 : y < r
                · cases rb <;> (go_wp2; go_roundw; (case rel => exact ⟨j + 1, y, by omega, by go_num, by first | rfl | (rw [sB.out]; simp), by first | rfl | (rw [sB.out]; simp), by rw [sA.out, ← hr2.out, ← hy.out, Bool.eq_iff_iff]; simp; omega, hbr.trans (hb5.mono z2)⟩); (case measure => (simp [intOf]; omega)))
                · cases rb <;> (go_wp2; go_roundw; (case rel => exact ⟨j + 1, r, by omega, by go_num, by first | rfl | (rw [sB.out]; simp), by first | rfl | (rw [sB.out]; simp), by rw [sA.out, ← hr2.out, ← hy.out, Bool.eq_iff_iff]; simp; omega, hbr.trans (hb5.mono z2)⟩); (case measure => (simp [intOf]; omega)))
            · cases rb <;> (go_wp2; go_roundw; (case rel => exact ⟨j + 1, r, by omega, by go_num, by first | rfl | (rw [sB.out]; simp), by first | rfl | (rw [sB.out]; simp), by rw [sA.out, ← hr2.out, ← hy.out, Bool.eq_iff_iff]; simp; omega, hbr.trans (hb5.mono z2)⟩); (case measure => (simp [intOf]; omega)))
          · have hjp : ¬ ((j : Int) < (p : Int)) := by omega
            obtain rfl : j = p := by omega
            go_wp2
            go_ret2
            exact ⟨r, rfl, hr2.out, hbw.trans (hbr.mono hbw.size)⟩
      · have hc : c = 1 := hcb rfl rfl
        clear hcn hcb
        simp only [beq_self_eq_true, Bool.true_or, Bool.true_and]
        have PW : ∀ W, Calls Tryz.prog 179 #[.int .i64 (p : Int), .int .i64 (0 : Int)] W fun e w' => e = .returned (.int .i64 Q) ∧ W = w' := PW.out
        replace PW := Lib.hid PW
        clear hik
        have HI1 : ∀ (t : Nat), t < p → ∀ W, Calls Tryz.prog 167 #[.agg #[.int .i64 D, .int .i64 A, .int .i64 C], .bool true, .int .i64 p, .int .i64 k, .int .i64 (x + t * Q), .int .i64 (1 : Int)] W (BestPost (FA t) (FB t) W) := HI.out
        clear HI
        have HI := Lib.hid HI1
        clear HI1
        go_enter Tryz.func167, Tryz.ntmps167
        go_upto_region 15 with (first | (go_at_call 178; (with_reducible refine (PL.out _).mono ?_); rintro e_ w2 ⟨rfl, hb⟩; (have c0 := keepCell hb c0); (have c1 := keepCell hb c1); (have c2 := keepCell hb c2)) | (go_at_call 179; (with_reducible refine (PW.out _).mono ?_); rintro e w' ⟨rfl, rfl⟩))
        have hbw : Below w.heap.size w (w.alloc (.cells #[.int .i64 D, .int .i64 A, .int .i64 C] 35)) := (by repeat (first | exact Below.refl _ _ | refine below_alloc ?_ _ | refine below_step ?_ (by assumption) | refine Below.drew ?_ | refine Below.setCell ?_ (by first | exact Nat.le_refl _ | exact Nat.le_add_right _ _ | (simp <;> omega)) _ | refine below_drewN ?_ _))
        generalize hW1 : w.alloc (.cells #[.int .i64 D, .int .i64 A, .int .i64 C] 35) = W1 at *
        clear hW1
        go_wp2
        go_loopw [18, 19, 21] (fun vb vs vt wr => ∃ (j : Nat) (r : Int), j ≤ c ∧ vt = .int .i64 j ∧ vb = .int .i64 r ∧ vs = .bool ((List.range j).any FB) ∧ decide (0 ≤ r) = (List.range j).any FA ∧ Below W1.heap.size W1 wr) (fun _ _ vt _ => p + 1 - (intOf vt).toNat)
        case atStart => exact ⟨0, -1, by omega, rfl, rfl, rfl, rfl, Below.refl _ _⟩
        case round =>
          obtain ⟨j, r, hj, rfl, rfl, rfl, hr, hbr⟩ := hrel
          have z2 := hbr.size
          have e0 := keepCell hbr c0
          have e1 := keepCell hbr c1
          have e2 := keepCell hbr c2
          have hr2 := Lib.hid hr
          clear hr
          by_cases hjc : j < c
          · have hjp : (j : Int) < (p : Int) := by omega
            have HJ := Lib.hid (HI.out j (by omega))
            have hT := HT.out j (by omega)
            have sA := Lib.hid (M.any_or FA j)
            have sB := Lib.hid (M.any_or FB j)
            clear HI HT
            generalize (List.range j).any FA = ra at *
            generalize (List.range j).any FB = rb at *
            generalize FA j = fa at *
            generalize FB j = fb at *
            obtain rfl : j = 0 := by omega
            have HJ1 : ∀ W, Calls Tryz.prog 167 #[.agg #[.int .i64 D, .int .i64 A, .int .i64 C], .bool true, .int .i64 p, .int .i64 k, .int .i64 x, .int .i64 (1 : Int)] W (BestPost fa fb W) := by
              have h_ := HJ.out
              simpa using h_
            clear HJ
            have HJ := Lib.hid HJ1
            clear HJ1
            go_wp2_with fail
            with_reducible refine (HJ.out _).mono ?_
            rintro e_ w5 ⟨y, rfl, hy', hb5⟩
            have hy := Lib.hid hy'
            clear hy'
            by_cases h1 : 0 ≤ y
            · by_cases h2 : r < 0
              · cases rb <;> (go_wp2; go_roundw; (case rel => exact ⟨1, y, by omega, by go_num, by first | rfl | (rw [sB.out]; simp), by first | rfl | (rw [sB.out]; simp), by rw [sA.out, ← hr2.out, ← hy.out, Bool.eq_iff_iff]; simp; omega, hbr.trans (hb5.mono z2)⟩); (case measure => (simp [intOf] <;> omega)))
              · by_cases h3 : y < r
                · cases rb <;> (go_wp2; go_roundw; (case rel => exact ⟨1, y, by omega, by go_num, by first | rfl | (rw [sB.out]; simp), by first | rfl | (rw [sB.out]; simp), by rw [sA.out, ← hr2.out, ← hy.out, Bool.eq_iff_iff]; simp; omega, hbr.trans (hb5.mono z2)⟩); (case measure => (simp [intOf] <;> omega)))
                · cases rb <;> (go_wp2; go_roundw; (case rel => exact ⟨1, r, by omega, by go_num, by first | rfl | (rw [sB.out]; simp), by first | rfl | (rw [sB.out]; simp), by rw [sA.out, ← hr2.out, ← hy.out, Bool.eq_iff_iff]; simp; omega, hbr.trans (hb5.mono z2)⟩); (case measure => (simp [intOf] <;> omega)))
            · cases rb <;> (go_wp2; go_roundw; (case rel => exact ⟨1, r, by omega, by go_num, by first | rfl | (rw [sB.out]; simp), by first | rfl | (rw [sB.out]; simp), by rw [sA.out, ← hr2.out, ← hy.out, Bool.eq_iff_iff]; simp; omega, hbr.trans (hb5.mono z2)⟩); (case measure => (simp [intOf] <;> omega)))
          · have hj0 : (0 : Int) < (j : Int) := by omega
            have hjp : (j : Int) < (p : Int) := by omega
            obtain rfl : j = c := by omega
            go_wp2
            go_ret2
            exact ⟨r, rfl, hr2.out, hbw.trans (hbr.mono hbw.size)⟩
    · have hc : p = c := by rcases hcn.2.2 with q | q; exact q.symm; exact absurd q.2.1 hi
      clear hcn hcb
      subst hc
      have PL := PL hi
      have hi0 : (i == 0) = false := by simpa using hi
      cases ho : M.qok D A C p b i x
      · rw [ho] at PL
        have hip : (0 : Int) < (i : Int) := by omega
        rw [hi0]
        clear HI HT PW hik
        cases b
        all_goals
          simp only [if_true, if_false, Bool.false_eq_true] at PL
          replace PL := Lib.hid PL
          go_enter Tryz.func167, Tryz.ntmps167
          go_wp2_with (go_at_call 178; (with_reducible refine (PL.out _).mono ?_); rintro e_ w2 ⟨rfl, hb⟩)
          go_ret2
          exact ⟨-1, rfl, rfl, by have h_ := hb; exact (by repeat (first | exact Below.refl _ _ | refine below_alloc ?_ _ | refine below_step ?_ (by assumption) | refine Below.drew ?_ | refine Below.setCell ?_ (by first | exact Nat.le_refl _ | exact Nat.le_add_right _ _ | (simp <;> omega)) _ | refine below_drewN ?_ _))⟩
      · rw [ho] at PL
        generalize M.qlf D A C p b i x = l at *
        cases b
        · rw [hi0, Bool.false_or, Bool.true_and, Bool.true_and]
          simp only [if_true, if_false, Bool.false_eq_true] at PL
          replace PL := Lib.hid PL
          have hip : (0 : Int) < (i : Int) := by omega
          have hik2 : ¬ (i : Int) = (k : Int) := by omega
          have hi29 : i ≤ 28 := by omega
          skip
          clear hik
          go_enter Tryz.func167, Tryz.ntmps167
          go_upto_region 15 with (first | (go_at_call 178; (with_reducible refine (PL.out _).mono ?_); rintro e_ w2 ⟨rfl, hb⟩; (have c0 := keepCell hb c0); (have c1 := keepCell hb c1); (have c2 := keepCell hb c2)) | (go_at_call 179; (with_reducible refine (PW.out _).mono ?_); rintro e w' ⟨rfl, rfl⟩))
          have hbw : Below w.heap.size w w2 := by have h_ := hb; exact (by repeat (first | exact Below.refl _ _ | refine below_alloc ?_ _ | refine below_step ?_ (by assumption) | refine Below.drew ?_ | refine Below.setCell ?_ (by first | exact Nat.le_refl _ | exact Nat.le_add_right _ _ | (simp <;> omega)) _ | refine below_drewN ?_ _))
          generalize hW1 : w2 = W1 at *
          clear hW1 hb
          go_wp2
          go_loopw [18, 19, 21] (fun vb vs vt wr => ∃ (j : Nat) (r : Int), j ≤ p ∧ vt = .int .i64 j ∧ vb = .int .i64 r ∧ vs = .bool ((List.range j).any FB) ∧ decide (0 ≤ r) = (List.range j).any FA ∧ Below W1.heap.size W1 wr) (fun _ _ vt _ => p + 1 - (intOf vt).toNat)
          case atStart => exact ⟨0, -1, by omega, rfl, rfl, rfl, rfl, Below.refl _ _⟩
          case round =>
            obtain ⟨j, r, hj, rfl, rfl, rfl, hr, hbr⟩ := hrel
            have z2 := hbr.size
            have e0 := keepCell hbr c0
            have e1 := keepCell hbr c1
            have e2 := keepCell hbr c2
            have hr2 := Lib.hid hr
            clear hr
            by_cases hjc : j < p
            · have hjp : (j : Int) < (p : Int) := by omega
              have HJ := Lib.hid (HI.out j (by omega))
              have hT := HT.out j (by omega)
              have sA := Lib.hid (M.any_or FA j)
              have sB := Lib.hid (M.any_or FB j)
              clear HI HT
              generalize (List.range j).any FA = ra at *
              generalize (List.range j).any FB = rb at *
              generalize FA j = fa at *
              generalize FB j = fb at *
              skip
              go_wp2_with fail
              with_reducible refine (HJ.out _).mono ?_
              rintro e_ w5 ⟨y, rfl, hy', hb5⟩
              have hy := Lib.hid hy'
              clear hy'
              by_cases h1 : 0 ≤ y
              · by_cases h2 : r < 0
                · cases rb <;> (go_wp2; go_roundw; (case rel => exact ⟨j + 1, y, by omega, by go_num, by first | rfl | (rw [sB.out]; simp), by first | rfl | (rw [sB.out]; simp), by rw [sA.out, ← hr2.out, ← hy.out, Bool.eq_iff_iff]; simp; omega, hbr.trans (hb5.mono z2)⟩); (case measure => (simp [intOf]; omega)))
                · by_cases h3 : y < r
                  · cases rb <;> (go_wp2; go_roundw; (case rel => exact ⟨j + 1, y, by omega, by go_num, by first | rfl | (rw [sB.out]; simp), by first | rfl | (rw [sB.out]; simp), by rw [sA.out, ← hr2.out, ← hy.out, Bool.eq_iff_iff]; simp; omega, hbr.trans (hb5.mono z2)⟩); (case measure => (simp [intOf]; omega)))
                  · cases rb <;> (go_wp2; go_roundw; (case rel => exact ⟨j + 1, r, by omega, by go_num, by first | rfl | (rw [sB.out]; simp), by first | rfl | (rw [sB.out]; simp), by rw [sA.out, ← hr2.out, ← hy.out, Bool.eq_iff_iff]; simp; omega, hbr.trans (hb5.mono z2)⟩); (case measure => (simp [intOf]; omega)))
              · cases rb <;> (go_wp2; go_roundw; (case rel => exact ⟨j + 1, r, by omega, by go_num, by first | rfl | (rw [sB.out]; simp), by first | rfl | (rw [sB.out]; simp), by rw [sA.out, ← hr2.out, ← hy.out, Bool.eq_iff_iff]; simp; omega, hbr.trans (hb5.mono z2)⟩); (case measure => (simp [intOf]; omega)))
            · have hjp : ¬ ((j : Int) < (p : Int)) := by omega
              obtain rfl : j = p := by omega
              go_wp2
              go_ret2
              exact ⟨r, rfl, hr2.out, hbw.trans (hbr.mono hbw.size)⟩
        · rw [hi0, Bool.false_or, Bool.true_and, Bool.true_and]
          simp only [if_true, if_false, Bool.false_eq_true] at PL
          replace PL := Lib.hid PL
          have hip : (0 : Int) < (i : Int) := by omega
          have hik2 : ¬ (i : Int) = (k : Int) := by omega
          have hi29 : i ≤ 28 := by omega
          skip
          clear hik
          go_enter Tryz.func167, Tryz.ntmps167
          go_upto_region 15 with (first | (go_at_call 178; (with_reducible refine (PL.out _).mono ?_); rintro e_ w2 ⟨rfl, hb⟩; (have c0 := keepCell hb c0); (have c1 := keepCell hb c1); (have c2 := keepCell hb c2)) | (go_at_call 179; (with_reducible refine (PW.out _).mono ?_); rintro e w' ⟨rfl, rfl⟩))
          have hbw : Below w.heap.size w w2 := by have h_ := hb; exact (by repeat (first | exact Below.refl _ _ | refine below_alloc ?_ _ | refine below_step ?_ (by assumption) | refine Below.drew ?_ | refine Below.setCell ?_ (by first | exact Nat.le_refl _ | exact Nat.le_add_right _ _ | (simp <;> omega)) _ | refine below_drewN ?_ _))
          generalize hW1 : w2 = W1 at *
          clear hW1 hb
          go_wp2
          go_loopw [18, 19, 21] (fun vb vs vt wr => ∃ (j : Nat) (r : Int), j ≤ p ∧ vt = .int .i64 j ∧ vb = .int .i64 r ∧ vs = .bool ((List.range j).any FB) ∧ decide (0 ≤ r) = (List.range j).any FA ∧ Below W1.heap.size W1 wr) (fun _ _ vt _ => p + 1 - (intOf vt).toNat)
          case atStart => exact ⟨0, -1, by omega, rfl, rfl, rfl, rfl, Below.refl _ _⟩
          case round =>
            obtain ⟨j, r, hj, rfl, rfl, rfl, hr, hbr⟩ := hrel
            have z2 := hbr.size
            have e0 := keepCell hbr c0
            have e1 := keepCell hbr c1
            have e2 := keepCell hbr c2
            have hr2 := Lib.hid hr
            clear hr
            by_cases hjc : j < p
            · have hjp : (j : Int) < (p : Int) := by omega
              have HJ := Lib.hid (HI.out j (by omega))
              have hT := HT.out j (by omega)
              have sA := Lib.hid (M.any_or FA j)
              have sB := Lib.hid (M.any_or FB j)
              clear HI HT
              generalize (List.range j).any FA = ra at *
              generalize (List.range j).any FB = rb at *
              generalize FA j = fa at *
              generalize FB j = fb at *
              skip
              go_wp2_with fail
              with_reducible refine (HJ.out _).mono ?_
              rintro e_ w5 ⟨y, rfl, hy', hb5⟩
              have hy := Lib.hid hy'
              clear hy'
              by_cases h1 : 0 ≤ y
              · by_cases h2 : r < 0
                · cases rb <;> (go_wp2; go_roundw; (case rel => exact ⟨j + 1, y, by omega, by go_num, by first | rfl | (rw [sB.out]; simp), by first | rfl | (rw [sB.out]; simp), by rw [sA.out, ← hr2.out, ← hy.out, Bool.eq_iff_iff]; simp; omega, hbr.trans (hb5.mono z2)⟩); (case measure => (simp [intOf]; omega)))
                · by_cases h3 : y < r
                  · cases rb <;> (go_wp2; go_roundw; (case rel => exact ⟨j + 1, y, by omega, by go_num, by first | rfl | (rw [sB.out]; simp), by first | rfl | (rw [sB.out]; simp), by rw [sA.out, ← hr2.out, ← hy.out, Bool.eq_iff_iff]; simp; omega, hbr.trans (hb5.mono z2)⟩); (case measure => (simp [intOf]; omega)))
                  · cases rb <;> (go_wp2; go_roundw; (case rel => exact ⟨j + 1, r, by omega, by go_num, by first | rfl | (rw [sB.out]; simp), by first | rfl | (rw [sB.out]; simp), by rw [sA.out, ← hr2.out, ← hy.out, Bool.eq_iff_iff]; simp; omega, hbr.trans (hb5.mono z2)⟩); (case measure => (simp [intOf]; omega)))
              · cases rb <;> (go_wp2; go_roundw; (case rel => exact ⟨j + 1, r, by omega, by go_num, by first | rfl | (rw [sB.out]; simp), by first | rfl | (rw [sB.out]; simp), by rw [sA.out, ← hr2.out, ← hy.out, Bool.eq_iff_iff]; simp; omega, hbr.trans (hb5.mono z2)⟩); (case measure => (simp [intOf]; omega)))
            · have hjp : ¬ ((j : Int) < (p : Int)) := by omega
              obtain rfl : j = p := by omega
              go_wp2
              go_ret2
              exact ⟨r, rfl, hr2.out, hbw.trans (hbr.mono hbw.size)⟩
end Go.Proofs.YtgkjmjlkhnfbiaaGreat
