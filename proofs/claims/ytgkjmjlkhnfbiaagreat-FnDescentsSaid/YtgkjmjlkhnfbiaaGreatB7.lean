/-
  Contracts: whether a pair is possible and lifts, as the reference reckons it (printed by genr9.py).
-/
import Derived.Test.YtgkjmjlkhnfbiaaGreatB6
namespace Go.Proofs.YtgkjmjlkhnfbiaaGreat
set_option linter.unusedSimpArgs false
set_option linter.unusedVariables false
open Go.RowKit
theorem M.mulm {a b x y n : Int} (h1 : a % n = x % n) (h2 : b % n = y % n) : (a * b) % n = (x * y) % n := by rw [Int.mul_emod, h1, h2, ← Int.mul_emod]
theorem M.addm {a b x y n : Int} (h1 : a % n = x % n) (h2 : b % n = y % n) : (a + b) % n = (x + y) % n := by rw [Int.add_emod, h1, h2, ← Int.add_emod]
/-- a product of two residues, cut -/
theorem M.mm {a b x y n : Int} (n1 : 1 ≤ n) (n2 : n ≤ 1000000000) (a0 : 0 ≤ a) (a1 : a ≤ 1000000000) (b0 : 0 ≤ b) (b1 : b ≤ 1000000000) (ha : a % n = x % n) (hb : b % n = y % n) :
    (0 ≤ a * b ∧ a * b ≤ 1000000000000000000) ∧ ∃ r, (a * b).tmod n = r ∧ 0 ≤ r ∧ r ≤ 1000000000 ∧ r % n = (x * y) % n := by
  have h := M.mul_nn (x := a) (y := b) (m := 1000000000) (n := 1000000000) a0 a1 b0 b1
  refine ⟨⟨h.1, by omega⟩, (a * b) % n, Int.tmod_eq_emod_of_nonneg h.1, Int.emod_nonneg _ (by omega), ?_, ?_⟩
  · have := Int.emod_lt_of_pos (a * b) (show 0 < n by omega)
    omega
  · rw [Int.emod_emod]
    exact M.mulm ha hb
theorem M.id1 (D A C m e : Int) : D * (m * m * (m * m)) + A * (m * m * (e * e)) + C * (e * e * (e * e)) = M.qval D A C m e := by unfold M.qval; grind
theorem M.id2 (D A m e : Int) : 4 * (D * (m * m * m)) + 2 * (A * (m * (e * e))) = M.byM D A m e := by unfold M.byM; grind
theorem M.id3 (A C m e : Int) : 2 * (A * (m * m * e)) + 4 * (C * (e * e * e)) = M.byE A C m e := by unfold M.byE; grind
set_option maxRecDepth 100000 in
set_option maxHeartbeats 4000000 in
theorem loAt_c (D A C m e n : Int) (w : World) (n1 : 1 ≤ n) (n2 : n ≤ 1000000000) (m0 : 0 ≤ m) (m1 : m ≤ 1000000000) (e0 : 0 ≤ e) (e1 : e ≤ 1000000000) :
    Calls Tryz.prog 182 #[.agg #[.int .i64 D, .int .i64 A, .int .i64 C], .int .i64 m, .int .i64 e, .int .i64 n] w fun e' w' => e' = .returned (.tuple #[.int .i64 (M.qval D A C m e % n), .int .i64 (M.byM D A m e % n), .int .i64 (M.byE A C m e % n)]) ∧ Below w.heap.size w w' := by
  have hq : ∀ x : Int, ∃ d, 0 ≤ d ∧ d ≤ 1000000000 ∧ d % n = x % n ∧ x % n = d := fun x => ⟨x % n, Int.emod_nonneg x (by omega), by have := Int.emod_lt_of_pos x (show 0 < n by omega); omega, Int.emod_emod .., rfl⟩
  obtain ⟨d, d0, d1, dm, hd⟩ := hq D
  obtain ⟨a, a0, a1, am, ha⟩ := hq A
  obtain ⟨c, c0, c1, cm, hc⟩ := hq C
  have P1 := fun W => mdMod_c D n W n1 (by omega)
  have P2 := fun W => mdMod_c A n W n1 (by omega)
  have P3 := fun W => mdMod_c C n W n1 (by omega)
  rw [hd] at P1
  rw [ha] at P2
  rw [hc] at P3
  clear hd ha hc
  obtain ⟨t1, m2, g1, g2, g3, g4⟩ := M.mm n1 n2 m0 m1 m0 m1 rfl rfl
  obtain ⟨t2, e2, h1, h2, h3, h4⟩ := M.mm n1 n2 e0 e1 e0 e1 rfl rfl
  obtain ⟨t3, A1, i1, i2, i3, i4⟩ := M.mm n1 n2 g2 g3 g2 g3 g4 g4
  obtain ⟨t4, A2, j1, j2, j3, j4⟩ := M.mm n1 n2 d0 d1 i2 i3 dm i4
  obtain ⟨t5, B1, k1, k2, k3, k4⟩ := M.mm n1 n2 g2 g3 h2 h3 g4 h4
  obtain ⟨t6, B2, l1, l2, l3, l4⟩ := M.mm n1 n2 a0 a1 k2 k3 am k4
  obtain ⟨t7, C1, o1, o2, o3, o4⟩ := M.mm n1 n2 h2 h3 h2 h3 h4 h4
  obtain ⟨t8, C2, p1, p2, p3, p4⟩ := M.mm n1 n2 c0 c1 o2 o3 cm o4
  obtain ⟨t9, D1, q1, q2, q3, q4⟩ := M.mm n1 n2 g2 g3 m0 m1 g4 rfl
  obtain ⟨u1, D2, r1, r2, r3, r4⟩ := M.mm n1 n2 d0 d1 q2 q3 dm q4
  obtain ⟨u2, E1, s1, s2, s3, s4⟩ := M.mm n1 n2 m0 m1 h2 h3 rfl h4
  obtain ⟨u3, E2, v1, v2, v3, v4⟩ := M.mm n1 n2 a0 a1 s2 s3 am s4
  obtain ⟨u4, F1, w1, w2, w3, w4⟩ := M.mm n1 n2 g2 g3 e0 e1 g4 rfl
  obtain ⟨u5, F2, x1, x2, x3, x4⟩ := M.mm n1 n2 a0 a1 w2 w3 am w4
  obtain ⟨u6, G1, y1, y2, y3, y4⟩ := M.mm n1 n2 h2 h3 e0 e1 h4 rfl
  obtain ⟨u7, G2, z1, z2, z3, z4⟩ := M.mm n1 n2 c0 c1 y2 y3 cm y4
  have f1 : (A2 + B2 + C2).tmod n = M.qval D A C m e % n := by
    rw [Int.tmod_eq_emod_of_nonneg (by omega), M.addm (M.addm j4 l4) p4, M.id1]
  have f2 : (4 * D2 + 2 * E2).tmod n = M.byM D A m e % n := by
    rw [Int.tmod_eq_emod_of_nonneg (by omega), M.addm (M.mulm (a := 4) rfl r4) (M.mulm (a := 2) rfl v4), M.id2]
  have f3 : (2 * F2 + 4 * G2).tmod n = M.byE A C m e % n := by
    rw [Int.tmod_eq_emod_of_nonneg (by omega), M.addm (M.mulm (a := 2) rfl x4) (M.mulm (a := 4) rfl z4), M.id3]
  have hq2 : ∀ x : Int, 0 ≤ x % n ∧ x % n ≤ 1000000000 := fun x => ⟨Int.emod_nonneg x (by omega), by have := Int.emod_lt_of_pos x (show 0 < n by omega); omega⟩
  have b1 := hq2 (M.qval D A C m e)
  have b2 := hq2 (M.byM D A m e)
  have b3 := hq2 (M.byE A C m e)
  generalize M.qval D A C m e % n = V at *
  generalize M.byM D A m e % n = X at *
  generalize M.byE A C m e % n = Y at *
  have P1 := Lib.hid P1
  have P2 := Lib.hid P2
  have P3 := Lib.hid P3
  clear hq hq2 dm am cm g4 h4 i4 j4 k4 l4 o4 p4 q4 r4 s4 v4 w4 x4 y4 z4
  obtain ⟨n0, n0', n0''⟩ := box3 w D A C 35
  have hn0 : ¬ n = 0 := by omega
  go_enter Tryz.func182, Tryz.ntmps182
  go_upto_region 1 with fail
  refine Rg.walk [.is (.pointer (some ⟨w.heap.size, 0, none⟩)), .is (.int .i64 D), .is (.int .i64 n), .is (.int .i64 d), .is (.pointer (some ⟨w.heap.size, 1, none⟩)), .is (.int .i64 A), .is (.int .i64 n), .is (.int .i64 a), .is (.pointer (some ⟨w.heap.size, 2, none⟩)), .is (.int .i64 C), .is (.int .i64 n), .is (.int .i64 c), .is (.int .i64 d), .is (.int .i64 a), .is (.int .i64 c)] (by kernel_rfl) (by kernel_rfl) ⟨?_, ?_, ?_, ?_, ?_, ?_, ?_, ?_, ?_, ?_, ?_, ?_, ?_, ?_, ?_, trivial⟩ ?_
  · intro ac_ w_ hB hr
    have e4 : ac_.tmps[4]? = some (.pointer (some ⟨w.heap.size, 0, none⟩)) := hr 4 (by decide)
    exact Rg.pure1 rfl (by first | (go_simp; done) | (go_simp; exact Rg.wr (by omega) (by omega)))
  · intro ac_ w_ hB hr
    have e19 : ac_.tmps[19]? = some (.pointer (some ⟨w.heap.size, 0, none⟩)) := Rg.ev1 (hr 19 (by decide))
    have k0 := keepCell hB n0
    exact Rg.pure1 rfl (by first | (go_simp; done) | (go_simp; exact Rg.wr (by omega) (by omega)))
  · intro ac_ w_ hB hr
    have e3 : ac_.tmps[3]? = some (.int .i64 n) := hr 3 (by decide)
    exact Rg.pure1 rfl (by first | (go_simp; done) | (go_simp; exact Rg.wr (by omega) (by omega)))
  · intro ac_ w_ hB hr
    have e20 : ac_.tmps[20]? = some (.int .i64 D) := Rg.ev1 (hr 20 (by decide))
    have e21 : ac_.tmps[21]? = some (.int .i64 n) := Rg.ev1 (hr 21 (by decide))
    have ef : ∀ f, ac_.eval (.func f) = .func (.func f) #[] #[] := fun _ => rfl
    refine Rg.call1 rfl (by go_simp; exact ⟨rfl, rfl⟩) ?_
    refine (P1.out _).mono ?_
    rintro _ _ ⟨rfl, rfl⟩
    exact ⟨_, rfl, rfl, Below.refl _ _⟩
  · intro ac_ w_ hB hr
    have e4 : ac_.tmps[4]? = some (.pointer (some ⟨w.heap.size, 0, none⟩)) := hr 4 (by decide)
    exact Rg.pure1 rfl (by first | (go_simp; done) | (go_simp; exact Rg.wr (by omega) (by omega)))
  · intro ac_ w_ hB hr
    have e23 : ac_.tmps[23]? = some (.pointer (some ⟨w.heap.size, 1, none⟩)) := Rg.ev1 (hr 23 (by decide))
    have k0 := keepCell hB n0'
    exact Rg.pure1 rfl (by first | (go_simp; done) | (go_simp; exact Rg.wr (by omega) (by omega)))
  · intro ac_ w_ hB hr
    have e3 : ac_.tmps[3]? = some (.int .i64 n) := hr 3 (by decide)
    exact Rg.pure1 rfl (by first | (go_simp; done) | (go_simp; exact Rg.wr (by omega) (by omega)))
  · intro ac_ w_ hB hr
    have e24 : ac_.tmps[24]? = some (.int .i64 A) := Rg.ev1 (hr 24 (by decide))
    have e25 : ac_.tmps[25]? = some (.int .i64 n) := Rg.ev1 (hr 25 (by decide))
    have ef : ∀ f, ac_.eval (.func f) = .func (.func f) #[] #[] := fun _ => rfl
    refine Rg.call1 rfl (by go_simp; exact ⟨rfl, rfl⟩) ?_
    refine (P2.out _).mono ?_
    rintro _ _ ⟨rfl, rfl⟩
    exact ⟨_, rfl, rfl, Below.refl _ _⟩
  · intro ac_ w_ hB hr
    have e4 : ac_.tmps[4]? = some (.pointer (some ⟨w.heap.size, 0, none⟩)) := hr 4 (by decide)
    exact Rg.pure1 rfl (by first | (go_simp; done) | (go_simp; exact Rg.wr (by omega) (by omega)))
  · intro ac_ w_ hB hr
    have e27 : ac_.tmps[27]? = some (.pointer (some ⟨w.heap.size, 2, none⟩)) := Rg.ev1 (hr 27 (by decide))
    have k0 := keepCell hB n0''
    exact Rg.pure1 rfl (by first | (go_simp; done) | (go_simp; exact Rg.wr (by omega) (by omega)))
  · intro ac_ w_ hB hr
    have e3 : ac_.tmps[3]? = some (.int .i64 n) := hr 3 (by decide)
    exact Rg.pure1 rfl (by first | (go_simp; done) | (go_simp; exact Rg.wr (by omega) (by omega)))
  · intro ac_ w_ hB hr
    have e28 : ac_.tmps[28]? = some (.int .i64 C) := Rg.ev1 (hr 28 (by decide))
    have e29 : ac_.tmps[29]? = some (.int .i64 n) := Rg.ev1 (hr 29 (by decide))
    have ef : ∀ f, ac_.eval (.func f) = .func (.func f) #[] #[] := fun _ => rfl
    refine Rg.call1 rfl (by go_simp; exact ⟨rfl, rfl⟩) ?_
    refine (P3.out _).mono ?_
    rintro _ _ ⟨rfl, rfl⟩
    exact ⟨_, rfl, rfl, Below.refl _ _⟩
  · intro ac_ w_ hB hr
    have e22 : ac_.tmps[22]? = some (.int .i64 d) := Rg.ev1 (hr 22 (by decide))
    exact Rg.pure1 rfl (by first | (go_simp; done) | (go_simp; exact Rg.wr (by omega) (by omega)))
  · intro ac_ w_ hB hr
    have e26 : ac_.tmps[26]? = some (.int .i64 a) := Rg.ev1 (hr 26 (by decide))
    exact Rg.pure1 rfl (by first | (go_simp; done) | (go_simp; exact Rg.wr (by omega) (by omega)))
  · intro ac_ w_ hB hr
    have e30 : ac_.tmps[30]? = some (.int .i64 c) := Rg.ev1 (hr 30 (by decide))
    exact Rg.pure1 rfl (by first | (go_simp; done) | (go_simp; exact Rg.wr (by omega) (by omega)))
  · intro vals wz hB hv
    have v0 : vals 0 = .pointer (some ⟨w.heap.size, 0, none⟩) := hv 0 (by decide)
    have v1 : vals 1 = .int .i64 D := hv 1 (by decide)
    have v2 : vals 2 = .int .i64 n := hv 2 (by decide)
    have v3 : vals 3 = .int .i64 d := hv 3 (by decide)
    have v4 : vals 4 = .pointer (some ⟨w.heap.size, 1, none⟩) := hv 4 (by decide)
    have v5 : vals 5 = .int .i64 A := hv 5 (by decide)
    have v6 : vals 6 = .int .i64 n := hv 6 (by decide)
    have v7 : vals 7 = .int .i64 a := hv 7 (by decide)
    have v8 : vals 8 = .pointer (some ⟨w.heap.size, 2, none⟩) := hv 8 (by decide)
    have v9 : vals 9 = .int .i64 C := hv 9 (by decide)
    have v10 : vals 10 = .int .i64 n := hv 10 (by decide)
    have v11 : vals 11 = .int .i64 c := hv 11 (by decide)
    have v12 : vals 12 = .int .i64 d := hv 12 (by decide)
    have v13 : vals 13 = .int .i64 a := hv 13 (by decide)
    have v14 : vals 14 = .int .i64 c := hv 14 (by decide)
    simp only [Rg.fill, if_true, Act.put, List.setIfInBounds_toArray, List.set_cons_zero, List.set_cons_succ, Nat.zero_add, Nat.reduceAdd, v0, v1, v2, v3, v4, v5, v6, v7, v8, v9, v10, v11, v12, v13, v14]
    clear hv v0 v1 v2 v3 v4 v5 v6 v7 v8 v9 v10 v11 v12 v13 v14
    have hbq : Below w.heap.size w wz := by have h_ := hB; exact (by repeat (first | exact Below.refl _ _ | refine below_alloc ?_ _ | refine below_step ?_ (by assumption) | refine Below.drew ?_ | refine Below.setCell ?_ (by first | exact Nat.le_refl _ | exact Nat.le_add_right _ _ | (simp <;> omega)) _ | refine below_drewN ?_ _))
    clear hB n0 n0' n0'' P1 P2 P3
    go_upto_region 2 with fail
    refine Rg.walk [.is (.int .i64 m), .is (.int .i64 m), .is (.int .i64 (m * m)), .is (.int .i64 n), .is (.int .i64 m2), .is (.int .i64 e), .is (.int .i64 e), .is (.int .i64 (e * e)), .is (.int .i64 n), .is (.int .i64 e2), .is (.int .i64 m2), .is (.int .i64 e2)] (by kernel_rfl) (by kernel_rfl) ⟨?_, ?_, ?_, ?_, ?_, ?_, ?_, ?_, ?_, ?_, ?_, ?_, trivial⟩ ?_
    · intro ac_ w_ hB hr
      have e1 : ac_.tmps[1]? = some (.int .i64 m) := hr 1 (by decide)
      exact Rg.pure1 rfl (by first | (go_simp; done) | (go_simp; exact Rg.wr (by omega) (by omega)))
    · intro ac_ w_ hB hr
      have e1 : ac_.tmps[1]? = some (.int .i64 m) := hr 1 (by decide)
      exact Rg.pure1 rfl (by first | (go_simp; done) | (go_simp; exact Rg.wr (by omega) (by omega)))
    · intro ac_ w_ hB hr
      have e31 : ac_.tmps[31]? = some (.int .i64 m) := Rg.ev1 (hr 31 (by decide))
      have e32 : ac_.tmps[32]? = some (.int .i64 m) := Rg.ev1 (hr 32 (by decide))
      exact Rg.pure1 rfl (by first | (go_simp; done) | (go_simp; exact Rg.wr (by omega) (by omega)))
    · intro ac_ w_ hB hr
      have e3 : ac_.tmps[3]? = some (.int .i64 n) := hr 3 (by decide)
      exact Rg.pure1 rfl (by first | (go_simp; done) | (go_simp; exact Rg.wr (by omega) (by omega)))
    · intro ac_ w_ hB hr
      have e33 : ac_.tmps[33]? = some (.int .i64 (m * m)) := Rg.ev1 (hr 33 (by decide))
      have e34 : ac_.tmps[34]? = some (.int .i64 n) := Rg.ev1 (hr 34 (by decide))
      exact Rg.pure1 rfl (by first | (go_simp; done) | (go_simp; exact Rg.wr (by omega) (by omega)))
    · intro ac_ w_ hB hr
      have e2 : ac_.tmps[2]? = some (.int .i64 e) := hr 2 (by decide)
      exact Rg.pure1 rfl (by first | (go_simp; done) | (go_simp; exact Rg.wr (by omega) (by omega)))
    · intro ac_ w_ hB hr
      have e2 : ac_.tmps[2]? = some (.int .i64 e) := hr 2 (by decide)
      exact Rg.pure1 rfl (by first | (go_simp; done) | (go_simp; exact Rg.wr (by omega) (by omega)))
    · intro ac_ w_ hB hr
      have e36 : ac_.tmps[36]? = some (.int .i64 e) := Rg.ev1 (hr 36 (by decide))
      have e37 : ac_.tmps[37]? = some (.int .i64 e) := Rg.ev1 (hr 37 (by decide))
      exact Rg.pure1 rfl (by first | (go_simp; done) | (go_simp; exact Rg.wr (by omega) (by omega)))
    · intro ac_ w_ hB hr
      have e3 : ac_.tmps[3]? = some (.int .i64 n) := hr 3 (by decide)
      exact Rg.pure1 rfl (by first | (go_simp; done) | (go_simp; exact Rg.wr (by omega) (by omega)))
    · intro ac_ w_ hB hr
      have e38 : ac_.tmps[38]? = some (.int .i64 (e * e)) := Rg.ev1 (hr 38 (by decide))
      have e39 : ac_.tmps[39]? = some (.int .i64 n) := Rg.ev1 (hr 39 (by decide))
      exact Rg.pure1 rfl (by first | (go_simp; done) | (go_simp; exact Rg.wr (by omega) (by omega)))
    · intro ac_ w_ hB hr
      have e35 : ac_.tmps[35]? = some (.int .i64 m2) := Rg.ev1 (hr 35 (by decide))
      exact Rg.pure1 rfl (by first | (go_simp; done) | (go_simp; exact Rg.wr (by omega) (by omega)))
    · intro ac_ w_ hB hr
      have e40 : ac_.tmps[40]? = some (.int .i64 e2) := Rg.ev1 (hr 40 (by decide))
      exact Rg.pure1 rfl (by first | (go_simp; done) | (go_simp; exact Rg.wr (by omega) (by omega)))
    · intro vals wz2 hB2 hv
      have v0 : vals 0 = .int .i64 m := hv 0 (by decide)
      have v1 : vals 1 = .int .i64 m := hv 1 (by decide)
      have v2 : vals 2 = .int .i64 (m * m) := hv 2 (by decide)
      have v3 : vals 3 = .int .i64 n := hv 3 (by decide)
      have v4 : vals 4 = .int .i64 m2 := hv 4 (by decide)
      have v5 : vals 5 = .int .i64 e := hv 5 (by decide)
      have v6 : vals 6 = .int .i64 e := hv 6 (by decide)
      have v7 : vals 7 = .int .i64 (e * e) := hv 7 (by decide)
      have v8 : vals 8 = .int .i64 n := hv 8 (by decide)
      have v9 : vals 9 = .int .i64 e2 := hv 9 (by decide)
      have v10 : vals 10 = .int .i64 m2 := hv 10 (by decide)
      have v11 : vals 11 = .int .i64 e2 := hv 11 (by decide)
      simp only [Rg.fill, if_true, Act.put, List.setIfInBounds_toArray, List.set_cons_zero, List.set_cons_succ, Nat.zero_add, Nat.reduceAdd, v0, v1, v2, v3, v4, v5, v6, v7, v8, v9, v10, v11]
      clear hv v0 v1 v2 v3 v4 v5 v6 v7 v8 v9 v10 v11
      replace hbq := hbq.trans (hB2.mono hbq.size)
      clear hB2
      go_upto_region 3 with fail
      refine Rg.walk [.is (.int .i64 d), .is (.int .i64 m2), .is (.int .i64 m2), .is (.int .i64 (m2 * m2)), .is (.int .i64 n), .is (.int .i64 A1), .is (.int .i64 (d * A1)), .is (.int .i64 n), .is (.int .i64 A2), .is (.int .i64 a), .is (.int .i64 m2), .is (.int .i64 e2), .is (.int .i64 (m2 * e2)), .is (.int .i64 n), .is (.int .i64 B1), .is (.int .i64 (a * B1)), .is (.int .i64 n), .is (.int .i64 B2), .is (.int .i64 (A2 + B2)), .is (.int .i64 c), .is (.int .i64 e2), .is (.int .i64 e2), .is (.int .i64 (e2 * e2)), .is (.int .i64 n), .is (.int .i64 C1), .is (.int .i64 (c * C1)), .is (.int .i64 n), .is (.int .i64 C2), .is (.int .i64 ((A2 + B2) + C2)), .is (.int .i64 n), .is (.int .i64 V), .is (.int .i64 V)] (by kernel_rfl) (by kernel_rfl) ⟨?_, ?_, ?_, ?_, ?_, ?_, ?_, ?_, ?_, ?_, ?_, ?_, ?_, ?_, ?_, ?_, ?_, ?_, ?_, ?_, ?_, ?_, ?_, ?_, ?_, ?_, ?_, ?_, ?_, ?_, ?_, ?_, trivial⟩ ?_
      · intro ac_ w_ hB hr
        have e11 : ac_.tmps[11]? = some (.int .i64 d) := hr 11 (by decide)
        exact Rg.pure1 rfl (by first | (go_simp; done) | (go_simp; exact Rg.wr (by omega) (by omega)))
      · intro ac_ w_ hB hr
        have e14 : ac_.tmps[14]? = some (.int .i64 m2) := hr 14 (by decide)
        exact Rg.pure1 rfl (by first | (go_simp; done) | (go_simp; exact Rg.wr (by omega) (by omega)))
      · intro ac_ w_ hB hr
        have e14 : ac_.tmps[14]? = some (.int .i64 m2) := hr 14 (by decide)
        exact Rg.pure1 rfl (by first | (go_simp; done) | (go_simp; exact Rg.wr (by omega) (by omega)))
      · intro ac_ w_ hB hr
        have e42 : ac_.tmps[42]? = some (.int .i64 m2) := Rg.ev1 (hr 42 (by decide))
        have e43 : ac_.tmps[43]? = some (.int .i64 m2) := Rg.ev1 (hr 43 (by decide))
        exact Rg.pure1 rfl (by first | (go_simp; done) | (go_simp; exact Rg.wr (by omega) (by omega)))
      · intro ac_ w_ hB hr
        have e3 : ac_.tmps[3]? = some (.int .i64 n) := hr 3 (by decide)
        exact Rg.pure1 rfl (by first | (go_simp; done) | (go_simp; exact Rg.wr (by omega) (by omega)))
      · intro ac_ w_ hB hr
        have e44 : ac_.tmps[44]? = some (.int .i64 (m2 * m2)) := Rg.ev1 (hr 44 (by decide))
        have e45 : ac_.tmps[45]? = some (.int .i64 n) := Rg.ev1 (hr 45 (by decide))
        exact Rg.pure1 rfl (by first | (go_simp; done) | (go_simp; exact Rg.wr (by omega) (by omega)))
      · intro ac_ w_ hB hr
        have e41 : ac_.tmps[41]? = some (.int .i64 d) := Rg.ev1 (hr 41 (by decide))
        have e46 : ac_.tmps[46]? = some (.int .i64 A1) := Rg.ev1 (hr 46 (by decide))
        exact Rg.pure1 rfl (by first | (go_simp; done) | (go_simp; exact Rg.wr (by omega) (by omega)))
      · intro ac_ w_ hB hr
        have e3 : ac_.tmps[3]? = some (.int .i64 n) := hr 3 (by decide)
        exact Rg.pure1 rfl (by first | (go_simp; done) | (go_simp; exact Rg.wr (by omega) (by omega)))
      · intro ac_ w_ hB hr
        have e47 : ac_.tmps[47]? = some (.int .i64 (d * A1)) := Rg.ev1 (hr 47 (by decide))
        have e48 : ac_.tmps[48]? = some (.int .i64 n) := Rg.ev1 (hr 48 (by decide))
        exact Rg.pure1 rfl (by first | (go_simp; done) | (go_simp; exact Rg.wr (by omega) (by omega)))
      · intro ac_ w_ hB hr
        have e12 : ac_.tmps[12]? = some (.int .i64 a) := hr 12 (by decide)
        exact Rg.pure1 rfl (by first | (go_simp; done) | (go_simp; exact Rg.wr (by omega) (by omega)))
      · intro ac_ w_ hB hr
        have e14 : ac_.tmps[14]? = some (.int .i64 m2) := hr 14 (by decide)
        exact Rg.pure1 rfl (by first | (go_simp; done) | (go_simp; exact Rg.wr (by omega) (by omega)))
      · intro ac_ w_ hB hr
        have e15 : ac_.tmps[15]? = some (.int .i64 e2) := hr 15 (by decide)
        exact Rg.pure1 rfl (by first | (go_simp; done) | (go_simp; exact Rg.wr (by omega) (by omega)))
      · intro ac_ w_ hB hr
        have e51 : ac_.tmps[51]? = some (.int .i64 m2) := Rg.ev1 (hr 51 (by decide))
        have e52 : ac_.tmps[52]? = some (.int .i64 e2) := Rg.ev1 (hr 52 (by decide))
        exact Rg.pure1 rfl (by first | (go_simp; done) | (go_simp; exact Rg.wr (by omega) (by omega)))
      · intro ac_ w_ hB hr
        have e3 : ac_.tmps[3]? = some (.int .i64 n) := hr 3 (by decide)
        exact Rg.pure1 rfl (by first | (go_simp; done) | (go_simp; exact Rg.wr (by omega) (by omega)))
      · intro ac_ w_ hB hr
        have e53 : ac_.tmps[53]? = some (.int .i64 (m2 * e2)) := Rg.ev1 (hr 53 (by decide))
        have e54 : ac_.tmps[54]? = some (.int .i64 n) := Rg.ev1 (hr 54 (by decide))
        exact Rg.pure1 rfl (by first | (go_simp; done) | (go_simp; exact Rg.wr (by omega) (by omega)))
      · intro ac_ w_ hB hr
        have e50 : ac_.tmps[50]? = some (.int .i64 a) := Rg.ev1 (hr 50 (by decide))
        have e55 : ac_.tmps[55]? = some (.int .i64 B1) := Rg.ev1 (hr 55 (by decide))
        exact Rg.pure1 rfl (by first | (go_simp; done) | (go_simp; exact Rg.wr (by omega) (by omega)))
      · intro ac_ w_ hB hr
        have e3 : ac_.tmps[3]? = some (.int .i64 n) := hr 3 (by decide)
        exact Rg.pure1 rfl (by first | (go_simp; done) | (go_simp; exact Rg.wr (by omega) (by omega)))
      · intro ac_ w_ hB hr
        have e56 : ac_.tmps[56]? = some (.int .i64 (a * B1)) := Rg.ev1 (hr 56 (by decide))
        have e57 : ac_.tmps[57]? = some (.int .i64 n) := Rg.ev1 (hr 57 (by decide))
        exact Rg.pure1 rfl (by first | (go_simp; done) | (go_simp; exact Rg.wr (by omega) (by omega)))
      · intro ac_ w_ hB hr
        have e49 : ac_.tmps[49]? = some (.int .i64 A2) := Rg.ev1 (hr 49 (by decide))
        have e58 : ac_.tmps[58]? = some (.int .i64 B2) := Rg.ev1 (hr 58 (by decide))
        exact Rg.pure1 rfl (by first | (go_simp; done) | (go_simp; exact Rg.wr (by omega) (by omega)))
      · intro ac_ w_ hB hr
        have e13 : ac_.tmps[13]? = some (.int .i64 c) := hr 13 (by decide)
        exact Rg.pure1 rfl (by first | (go_simp; done) | (go_simp; exact Rg.wr (by omega) (by omega)))
      · intro ac_ w_ hB hr
        have e15 : ac_.tmps[15]? = some (.int .i64 e2) := hr 15 (by decide)
        exact Rg.pure1 rfl (by first | (go_simp; done) | (go_simp; exact Rg.wr (by omega) (by omega)))
      · intro ac_ w_ hB hr
        have e15 : ac_.tmps[15]? = some (.int .i64 e2) := hr 15 (by decide)
        exact Rg.pure1 rfl (by first | (go_simp; done) | (go_simp; exact Rg.wr (by omega) (by omega)))
      · intro ac_ w_ hB hr
        have e61 : ac_.tmps[61]? = some (.int .i64 e2) := Rg.ev1 (hr 61 (by decide))
        have e62 : ac_.tmps[62]? = some (.int .i64 e2) := Rg.ev1 (hr 62 (by decide))
        exact Rg.pure1 rfl (by first | (go_simp; done) | (go_simp; exact Rg.wr (by omega) (by omega)))
      · intro ac_ w_ hB hr
        have e3 : ac_.tmps[3]? = some (.int .i64 n) := hr 3 (by decide)
        exact Rg.pure1 rfl (by first | (go_simp; done) | (go_simp; exact Rg.wr (by omega) (by omega)))
      · intro ac_ w_ hB hr
        have e63 : ac_.tmps[63]? = some (.int .i64 (e2 * e2)) := Rg.ev1 (hr 63 (by decide))
        have e64 : ac_.tmps[64]? = some (.int .i64 n) := Rg.ev1 (hr 64 (by decide))
        exact Rg.pure1 rfl (by first | (go_simp; done) | (go_simp; exact Rg.wr (by omega) (by omega)))
      · intro ac_ w_ hB hr
        have e60 : ac_.tmps[60]? = some (.int .i64 c) := Rg.ev1 (hr 60 (by decide))
        have e65 : ac_.tmps[65]? = some (.int .i64 C1) := Rg.ev1 (hr 65 (by decide))
        exact Rg.pure1 rfl (by first | (go_simp; done) | (go_simp; exact Rg.wr (by omega) (by omega)))
      · intro ac_ w_ hB hr
        have e3 : ac_.tmps[3]? = some (.int .i64 n) := hr 3 (by decide)
        exact Rg.pure1 rfl (by first | (go_simp; done) | (go_simp; exact Rg.wr (by omega) (by omega)))
      · intro ac_ w_ hB hr
        have e66 : ac_.tmps[66]? = some (.int .i64 (c * C1)) := Rg.ev1 (hr 66 (by decide))
        have e67 : ac_.tmps[67]? = some (.int .i64 n) := Rg.ev1 (hr 67 (by decide))
        exact Rg.pure1 rfl (by first | (go_simp; done) | (go_simp; exact Rg.wr (by omega) (by omega)))
      · intro ac_ w_ hB hr
        have e59 : ac_.tmps[59]? = some (.int .i64 (A2 + B2)) := Rg.ev1 (hr 59 (by decide))
        have e68 : ac_.tmps[68]? = some (.int .i64 C2) := Rg.ev1 (hr 68 (by decide))
        exact Rg.pure1 rfl (by first | (go_simp; done) | (go_simp; exact Rg.wr (by omega) (by omega)))
      · intro ac_ w_ hB hr
        have e3 : ac_.tmps[3]? = some (.int .i64 n) := hr 3 (by decide)
        exact Rg.pure1 rfl (by first | (go_simp; done) | (go_simp; exact Rg.wr (by omega) (by omega)))
      · intro ac_ w_ hB hr
        have e69 : ac_.tmps[69]? = some (.int .i64 ((A2 + B2) + C2)) := Rg.ev1 (hr 69 (by decide))
        have e70 : ac_.tmps[70]? = some (.int .i64 n) := Rg.ev1 (hr 70 (by decide))
        exact Rg.pure1 rfl (by first | (go_simp; done) | (go_simp; exact Rg.wr (by omega) (by omega)))
      · intro ac_ w_ hB hr
        have e71 : ac_.tmps[71]? = some (.int .i64 V) := Rg.ev1 (hr 71 (by decide))
        exact Rg.pure1 rfl (by first | (go_simp; done) | (go_simp; exact Rg.wr (by omega) (by omega)))
      · intro vals wz3 hB3 hv
        have v0 : vals 0 = .int .i64 d := hv 0 (by decide)
        have v1 : vals 1 = .int .i64 m2 := hv 1 (by decide)
        have v2 : vals 2 = .int .i64 m2 := hv 2 (by decide)
        have v3 : vals 3 = .int .i64 (m2 * m2) := hv 3 (by decide)
        have v4 : vals 4 = .int .i64 n := hv 4 (by decide)
        have v5 : vals 5 = .int .i64 A1 := hv 5 (by decide)
        have v6 : vals 6 = .int .i64 (d * A1) := hv 6 (by decide)
        have v7 : vals 7 = .int .i64 n := hv 7 (by decide)
        have v8 : vals 8 = .int .i64 A2 := hv 8 (by decide)
        have v9 : vals 9 = .int .i64 a := hv 9 (by decide)
        have v10 : vals 10 = .int .i64 m2 := hv 10 (by decide)
        have v11 : vals 11 = .int .i64 e2 := hv 11 (by decide)
        have v12 : vals 12 = .int .i64 (m2 * e2) := hv 12 (by decide)
        have v13 : vals 13 = .int .i64 n := hv 13 (by decide)
        have v14 : vals 14 = .int .i64 B1 := hv 14 (by decide)
        have v15 : vals 15 = .int .i64 (a * B1) := hv 15 (by decide)
        have v16 : vals 16 = .int .i64 n := hv 16 (by decide)
        have v17 : vals 17 = .int .i64 B2 := hv 17 (by decide)
        have v18 : vals 18 = .int .i64 (A2 + B2) := hv 18 (by decide)
        have v19 : vals 19 = .int .i64 c := hv 19 (by decide)
        have v20 : vals 20 = .int .i64 e2 := hv 20 (by decide)
        have v21 : vals 21 = .int .i64 e2 := hv 21 (by decide)
        have v22 : vals 22 = .int .i64 (e2 * e2) := hv 22 (by decide)
        have v23 : vals 23 = .int .i64 n := hv 23 (by decide)
        have v24 : vals 24 = .int .i64 C1 := hv 24 (by decide)
        have v25 : vals 25 = .int .i64 (c * C1) := hv 25 (by decide)
        have v26 : vals 26 = .int .i64 n := hv 26 (by decide)
        have v27 : vals 27 = .int .i64 C2 := hv 27 (by decide)
        have v28 : vals 28 = .int .i64 ((A2 + B2) + C2) := hv 28 (by decide)
        have v29 : vals 29 = .int .i64 n := hv 29 (by decide)
        have v30 : vals 30 = .int .i64 V := hv 30 (by decide)
        have v31 : vals 31 = .int .i64 V := hv 31 (by decide)
        simp only [Rg.fill, if_true, Act.put, List.setIfInBounds_toArray, List.set_cons_zero, List.set_cons_succ, Nat.zero_add, Nat.reduceAdd, v0, v1, v2, v3, v4, v5, v6, v7, v8, v9, v10, v11, v12, v13, v14, v15, v16, v17, v18, v19, v20, v21, v22, v23, v24, v25, v26, v27, v28, v29, v30, v31]
        clear hv v0 v1 v2 v3 v4 v5 v6 v7 v8 v9 v10 v11 v12 v13 v14 v15 v16 v17 v18 v19 v20 v21 v22 v23 v24 v25 v26 v27 v28 v29 v30 v31
        replace hbq := hbq.trans (hB3.mono hbq.size)
        clear hB3
        go_upto_region 4 with fail
        refine Rg.walk [.is (.int .i64 d), .is (.int .i64 m2), .is (.int .i64 m), .is (.int .i64 (m2 * m)), .is (.int .i64 n), .is (.int .i64 D1), .is (.int .i64 (d * D1)), .is (.int .i64 n), .is (.int .i64 D2), .is (.int .i64 (4 * D2)), .is (.int .i64 a), .is (.int .i64 m), .is (.int .i64 e2), .is (.int .i64 (m * e2)), .is (.int .i64 n), .is (.int .i64 E1), .is (.int .i64 (a * E1)), .is (.int .i64 n), .is (.int .i64 E2), .is (.int .i64 (2 * E2)), .is (.int .i64 ((4 * D2) + (2 * E2))), .is (.int .i64 n), .is (.int .i64 X), .is (.int .i64 X)] (by kernel_rfl) (by kernel_rfl) ⟨?_, ?_, ?_, ?_, ?_, ?_, ?_, ?_, ?_, ?_, ?_, ?_, ?_, ?_, ?_, ?_, ?_, ?_, ?_, ?_, ?_, ?_, ?_, ?_, trivial⟩ ?_
        · intro ac_ w_ hB hr
          have e11 : ac_.tmps[11]? = some (.int .i64 d) := hr 11 (by decide)
          exact Rg.pure1 rfl (by first | (go_simp; done) | (go_simp; exact Rg.wr (by omega) (by omega)))
        · intro ac_ w_ hB hr
          have e14 : ac_.tmps[14]? = some (.int .i64 m2) := hr 14 (by decide)
          exact Rg.pure1 rfl (by first | (go_simp; done) | (go_simp; exact Rg.wr (by omega) (by omega)))
        · intro ac_ w_ hB hr
          have e1 : ac_.tmps[1]? = some (.int .i64 m) := hr 1 (by decide)
          exact Rg.pure1 rfl (by first | (go_simp; done) | (go_simp; exact Rg.wr (by omega) (by omega)))
        · intro ac_ w_ hB hr
          have e73 : ac_.tmps[73]? = some (.int .i64 m2) := Rg.ev1 (hr 73 (by decide))
          have e74 : ac_.tmps[74]? = some (.int .i64 m) := Rg.ev1 (hr 74 (by decide))
          exact Rg.pure1 rfl (by first | (go_simp; done) | (go_simp; exact Rg.wr (by omega) (by omega)))
        · intro ac_ w_ hB hr
          have e3 : ac_.tmps[3]? = some (.int .i64 n) := hr 3 (by decide)
          exact Rg.pure1 rfl (by first | (go_simp; done) | (go_simp; exact Rg.wr (by omega) (by omega)))
        · intro ac_ w_ hB hr
          have e75 : ac_.tmps[75]? = some (.int .i64 (m2 * m)) := Rg.ev1 (hr 75 (by decide))
          have e76 : ac_.tmps[76]? = some (.int .i64 n) := Rg.ev1 (hr 76 (by decide))
          exact Rg.pure1 rfl (by first | (go_simp; done) | (go_simp; exact Rg.wr (by omega) (by omega)))
        · intro ac_ w_ hB hr
          have e72 : ac_.tmps[72]? = some (.int .i64 d) := Rg.ev1 (hr 72 (by decide))
          have e77 : ac_.tmps[77]? = some (.int .i64 D1) := Rg.ev1 (hr 77 (by decide))
          exact Rg.pure1 rfl (by first | (go_simp; done) | (go_simp; exact Rg.wr (by omega) (by omega)))
        · intro ac_ w_ hB hr
          have e3 : ac_.tmps[3]? = some (.int .i64 n) := hr 3 (by decide)
          exact Rg.pure1 rfl (by first | (go_simp; done) | (go_simp; exact Rg.wr (by omega) (by omega)))
        · intro ac_ w_ hB hr
          have e78 : ac_.tmps[78]? = some (.int .i64 (d * D1)) := Rg.ev1 (hr 78 (by decide))
          have e79 : ac_.tmps[79]? = some (.int .i64 n) := Rg.ev1 (hr 79 (by decide))
          exact Rg.pure1 rfl (by first | (go_simp; done) | (go_simp; exact Rg.wr (by omega) (by omega)))
        · intro ac_ w_ hB hr
          have e80 : ac_.tmps[80]? = some (.int .i64 D2) := Rg.ev1 (hr 80 (by decide))
          have ec : ∀ v, ac_.eval (.const v) = v := fun _ => rfl
          exact Rg.pure1 rfl (by first | (go_simp; done) | (go_simp; exact Rg.wr (by omega) (by omega)))
        · intro ac_ w_ hB hr
          have e12 : ac_.tmps[12]? = some (.int .i64 a) := hr 12 (by decide)
          exact Rg.pure1 rfl (by first | (go_simp; done) | (go_simp; exact Rg.wr (by omega) (by omega)))
        · intro ac_ w_ hB hr
          have e1 : ac_.tmps[1]? = some (.int .i64 m) := hr 1 (by decide)
          exact Rg.pure1 rfl (by first | (go_simp; done) | (go_simp; exact Rg.wr (by omega) (by omega)))
        · intro ac_ w_ hB hr
          have e15 : ac_.tmps[15]? = some (.int .i64 e2) := hr 15 (by decide)
          exact Rg.pure1 rfl (by first | (go_simp; done) | (go_simp; exact Rg.wr (by omega) (by omega)))
        · intro ac_ w_ hB hr
          have e83 : ac_.tmps[83]? = some (.int .i64 m) := Rg.ev1 (hr 83 (by decide))
          have e84 : ac_.tmps[84]? = some (.int .i64 e2) := Rg.ev1 (hr 84 (by decide))
          exact Rg.pure1 rfl (by first | (go_simp; done) | (go_simp; exact Rg.wr (by omega) (by omega)))
        · intro ac_ w_ hB hr
          have e3 : ac_.tmps[3]? = some (.int .i64 n) := hr 3 (by decide)
          exact Rg.pure1 rfl (by first | (go_simp; done) | (go_simp; exact Rg.wr (by omega) (by omega)))
        · intro ac_ w_ hB hr
          have e85 : ac_.tmps[85]? = some (.int .i64 (m * e2)) := Rg.ev1 (hr 85 (by decide))
          have e86 : ac_.tmps[86]? = some (.int .i64 n) := Rg.ev1 (hr 86 (by decide))
          exact Rg.pure1 rfl (by first | (go_simp; done) | (go_simp; exact Rg.wr (by omega) (by omega)))
        · intro ac_ w_ hB hr
          have e82 : ac_.tmps[82]? = some (.int .i64 a) := Rg.ev1 (hr 82 (by decide))
          have e87 : ac_.tmps[87]? = some (.int .i64 E1) := Rg.ev1 (hr 87 (by decide))
          exact Rg.pure1 rfl (by first | (go_simp; done) | (go_simp; exact Rg.wr (by omega) (by omega)))
        · intro ac_ w_ hB hr
          have e3 : ac_.tmps[3]? = some (.int .i64 n) := hr 3 (by decide)
          exact Rg.pure1 rfl (by first | (go_simp; done) | (go_simp; exact Rg.wr (by omega) (by omega)))
        · intro ac_ w_ hB hr
          have e88 : ac_.tmps[88]? = some (.int .i64 (a * E1)) := Rg.ev1 (hr 88 (by decide))
          have e89 : ac_.tmps[89]? = some (.int .i64 n) := Rg.ev1 (hr 89 (by decide))
          exact Rg.pure1 rfl (by first | (go_simp; done) | (go_simp; exact Rg.wr (by omega) (by omega)))
        · intro ac_ w_ hB hr
          have e90 : ac_.tmps[90]? = some (.int .i64 E2) := Rg.ev1 (hr 90 (by decide))
          have ec : ∀ v, ac_.eval (.const v) = v := fun _ => rfl
          exact Rg.pure1 rfl (by first | (go_simp; done) | (go_simp; exact Rg.wr (by omega) (by omega)))
        · intro ac_ w_ hB hr
          have e81 : ac_.tmps[81]? = some (.int .i64 (4 * D2)) := Rg.ev1 (hr 81 (by decide))
          have e91 : ac_.tmps[91]? = some (.int .i64 (2 * E2)) := Rg.ev1 (hr 91 (by decide))
          exact Rg.pure1 rfl (by first | (go_simp; done) | (go_simp; exact Rg.wr (by omega) (by omega)))
        · intro ac_ w_ hB hr
          have e3 : ac_.tmps[3]? = some (.int .i64 n) := hr 3 (by decide)
          exact Rg.pure1 rfl (by first | (go_simp; done) | (go_simp; exact Rg.wr (by omega) (by omega)))
        · intro ac_ w_ hB hr
          have e92 : ac_.tmps[92]? = some (.int .i64 ((4 * D2) + (2 * E2))) := Rg.ev1 (hr 92 (by decide))
          have e93 : ac_.tmps[93]? = some (.int .i64 n) := Rg.ev1 (hr 93 (by decide))
          exact Rg.pure1 rfl (by first | (go_simp; done) | (go_simp; exact Rg.wr (by omega) (by omega)))
        · intro ac_ w_ hB hr
          have e94 : ac_.tmps[94]? = some (.int .i64 X) := Rg.ev1 (hr 94 (by decide))
          exact Rg.pure1 rfl (by first | (go_simp; done) | (go_simp; exact Rg.wr (by omega) (by omega)))
        · intro vals wz4 hB4 hv
          have v0 : vals 0 = .int .i64 d := hv 0 (by decide)
          have v1 : vals 1 = .int .i64 m2 := hv 1 (by decide)
          have v2 : vals 2 = .int .i64 m := hv 2 (by decide)
          have v3 : vals 3 = .int .i64 (m2 * m) := hv 3 (by decide)
          have v4 : vals 4 = .int .i64 n := hv 4 (by decide)
          have v5 : vals 5 = .int .i64 D1 := hv 5 (by decide)
          have v6 : vals 6 = .int .i64 (d * D1) := hv 6 (by decide)
          have v7 : vals 7 = .int .i64 n := hv 7 (by decide)
          have v8 : vals 8 = .int .i64 D2 := hv 8 (by decide)
          have v9 : vals 9 = .int .i64 (4 * D2) := hv 9 (by decide)
          have v10 : vals 10 = .int .i64 a := hv 10 (by decide)
          have v11 : vals 11 = .int .i64 m := hv 11 (by decide)
          have v12 : vals 12 = .int .i64 e2 := hv 12 (by decide)
          have v13 : vals 13 = .int .i64 (m * e2) := hv 13 (by decide)
          have v14 : vals 14 = .int .i64 n := hv 14 (by decide)
          have v15 : vals 15 = .int .i64 E1 := hv 15 (by decide)
          have v16 : vals 16 = .int .i64 (a * E1) := hv 16 (by decide)
          have v17 : vals 17 = .int .i64 n := hv 17 (by decide)
          have v18 : vals 18 = .int .i64 E2 := hv 18 (by decide)
          have v19 : vals 19 = .int .i64 (2 * E2) := hv 19 (by decide)
          have v20 : vals 20 = .int .i64 ((4 * D2) + (2 * E2)) := hv 20 (by decide)
          have v21 : vals 21 = .int .i64 n := hv 21 (by decide)
          have v22 : vals 22 = .int .i64 X := hv 22 (by decide)
          have v23 : vals 23 = .int .i64 X := hv 23 (by decide)
          simp only [Rg.fill, if_true, Act.put, List.setIfInBounds_toArray, List.set_cons_zero, List.set_cons_succ, Nat.zero_add, Nat.reduceAdd, v0, v1, v2, v3, v4, v5, v6, v7, v8, v9, v10, v11, v12, v13, v14, v15, v16, v17, v18, v19, v20, v21, v22, v23]
          clear hv v0 v1 v2 v3 v4 v5 v6 v7 v8 v9 v10 v11 v12 v13 v14 v15 v16 v17 v18 v19 v20 v21 v22 v23
          replace hbq := hbq.trans (hB4.mono hbq.size)
          clear hB4
          go_upto_region 5 with fail
          refine Rg.walk [.is (.int .i64 a), .is (.int .i64 m2), .is (.int .i64 e), .is (.int .i64 (m2 * e)), .is (.int .i64 n), .is (.int .i64 F1), .is (.int .i64 (a * F1)), .is (.int .i64 n), .is (.int .i64 F2), .is (.int .i64 (2 * F2)), .is (.int .i64 c), .is (.int .i64 e2), .is (.int .i64 e), .is (.int .i64 (e2 * e)), .is (.int .i64 n), .is (.int .i64 G1), .is (.int .i64 (c * G1)), .is (.int .i64 n), .is (.int .i64 G2), .is (.int .i64 (4 * G2)), .is (.int .i64 ((2 * F2) + (4 * G2))), .is (.int .i64 n), .is (.int .i64 Y), .is (.int .i64 Y)] (by kernel_rfl) (by kernel_rfl) ⟨?_, ?_, ?_, ?_, ?_, ?_, ?_, ?_, ?_, ?_, ?_, ?_, ?_, ?_, ?_, ?_, ?_, ?_, ?_, ?_, ?_, ?_, ?_, ?_, trivial⟩ ?_
          · intro ac_ w_ hB hr
            have e12 : ac_.tmps[12]? = some (.int .i64 a) := hr 12 (by decide)
            exact Rg.pure1 rfl (by first | (go_simp; done) | (go_simp; exact Rg.wr (by omega) (by omega)))
          · intro ac_ w_ hB hr
            have e14 : ac_.tmps[14]? = some (.int .i64 m2) := hr 14 (by decide)
            exact Rg.pure1 rfl (by first | (go_simp; done) | (go_simp; exact Rg.wr (by omega) (by omega)))
          · intro ac_ w_ hB hr
            have e2 : ac_.tmps[2]? = some (.int .i64 e) := hr 2 (by decide)
            exact Rg.pure1 rfl (by first | (go_simp; done) | (go_simp; exact Rg.wr (by omega) (by omega)))
          · intro ac_ w_ hB hr
            have e96 : ac_.tmps[96]? = some (.int .i64 m2) := Rg.ev1 (hr 96 (by decide))
            have e97 : ac_.tmps[97]? = some (.int .i64 e) := Rg.ev1 (hr 97 (by decide))
            exact Rg.pure1 rfl (by first | (go_simp; done) | (go_simp; exact Rg.wr (by omega) (by omega)))
          · intro ac_ w_ hB hr
            have e3 : ac_.tmps[3]? = some (.int .i64 n) := hr 3 (by decide)
            exact Rg.pure1 rfl (by first | (go_simp; done) | (go_simp; exact Rg.wr (by omega) (by omega)))
          · intro ac_ w_ hB hr
            have e98 : ac_.tmps[98]? = some (.int .i64 (m2 * e)) := Rg.ev1 (hr 98 (by decide))
            have e99 : ac_.tmps[99]? = some (.int .i64 n) := Rg.ev1 (hr 99 (by decide))
            exact Rg.pure1 rfl (by first | (go_simp; done) | (go_simp; exact Rg.wr (by omega) (by omega)))
          · intro ac_ w_ hB hr
            have e95 : ac_.tmps[95]? = some (.int .i64 a) := Rg.ev1 (hr 95 (by decide))
            have e100 : ac_.tmps[100]? = some (.int .i64 F1) := Rg.ev1 (hr 100 (by decide))
            exact Rg.pure1 rfl (by first | (go_simp; done) | (go_simp; exact Rg.wr (by omega) (by omega)))
          · intro ac_ w_ hB hr
            have e3 : ac_.tmps[3]? = some (.int .i64 n) := hr 3 (by decide)
            exact Rg.pure1 rfl (by first | (go_simp; done) | (go_simp; exact Rg.wr (by omega) (by omega)))
          · intro ac_ w_ hB hr
            have e101 : ac_.tmps[101]? = some (.int .i64 (a * F1)) := Rg.ev1 (hr 101 (by decide))
            have e102 : ac_.tmps[102]? = some (.int .i64 n) := Rg.ev1 (hr 102 (by decide))
            exact Rg.pure1 rfl (by first | (go_simp; done) | (go_simp; exact Rg.wr (by omega) (by omega)))
          · intro ac_ w_ hB hr
            have e103 : ac_.tmps[103]? = some (.int .i64 F2) := Rg.ev1 (hr 103 (by decide))
            have ec : ∀ v, ac_.eval (.const v) = v := fun _ => rfl
            exact Rg.pure1 rfl (by first | (go_simp; done) | (go_simp; exact Rg.wr (by omega) (by omega)))
          · intro ac_ w_ hB hr
            have e13 : ac_.tmps[13]? = some (.int .i64 c) := hr 13 (by decide)
            exact Rg.pure1 rfl (by first | (go_simp; done) | (go_simp; exact Rg.wr (by omega) (by omega)))
          · intro ac_ w_ hB hr
            have e15 : ac_.tmps[15]? = some (.int .i64 e2) := hr 15 (by decide)
            exact Rg.pure1 rfl (by first | (go_simp; done) | (go_simp; exact Rg.wr (by omega) (by omega)))
          · intro ac_ w_ hB hr
            have e2 : ac_.tmps[2]? = some (.int .i64 e) := hr 2 (by decide)
            exact Rg.pure1 rfl (by first | (go_simp; done) | (go_simp; exact Rg.wr (by omega) (by omega)))
          · intro ac_ w_ hB hr
            have e106 : ac_.tmps[106]? = some (.int .i64 e2) := Rg.ev1 (hr 106 (by decide))
            have e107 : ac_.tmps[107]? = some (.int .i64 e) := Rg.ev1 (hr 107 (by decide))
            exact Rg.pure1 rfl (by first | (go_simp; done) | (go_simp; exact Rg.wr (by omega) (by omega)))
          · intro ac_ w_ hB hr
            have e3 : ac_.tmps[3]? = some (.int .i64 n) := hr 3 (by decide)
            exact Rg.pure1 rfl (by first | (go_simp; done) | (go_simp; exact Rg.wr (by omega) (by omega)))
          · intro ac_ w_ hB hr
            have e108 : ac_.tmps[108]? = some (.int .i64 (e2 * e)) := Rg.ev1 (hr 108 (by decide))
            have e109 : ac_.tmps[109]? = some (.int .i64 n) := Rg.ev1 (hr 109 (by decide))
            exact Rg.pure1 rfl (by first | (go_simp; done) | (go_simp; exact Rg.wr (by omega) (by omega)))
          · intro ac_ w_ hB hr
            have e105 : ac_.tmps[105]? = some (.int .i64 c) := Rg.ev1 (hr 105 (by decide))
            have e110 : ac_.tmps[110]? = some (.int .i64 G1) := Rg.ev1 (hr 110 (by decide))
            exact Rg.pure1 rfl (by first | (go_simp; done) | (go_simp; exact Rg.wr (by omega) (by omega)))
          · intro ac_ w_ hB hr
            have e3 : ac_.tmps[3]? = some (.int .i64 n) := hr 3 (by decide)
            exact Rg.pure1 rfl (by first | (go_simp; done) | (go_simp; exact Rg.wr (by omega) (by omega)))
          · intro ac_ w_ hB hr
            have e111 : ac_.tmps[111]? = some (.int .i64 (c * G1)) := Rg.ev1 (hr 111 (by decide))
            have e112 : ac_.tmps[112]? = some (.int .i64 n) := Rg.ev1 (hr 112 (by decide))
            exact Rg.pure1 rfl (by first | (go_simp; done) | (go_simp; exact Rg.wr (by omega) (by omega)))
          · intro ac_ w_ hB hr
            have e113 : ac_.tmps[113]? = some (.int .i64 G2) := Rg.ev1 (hr 113 (by decide))
            have ec : ∀ v, ac_.eval (.const v) = v := fun _ => rfl
            exact Rg.pure1 rfl (by first | (go_simp; done) | (go_simp; exact Rg.wr (by omega) (by omega)))
          · intro ac_ w_ hB hr
            have e104 : ac_.tmps[104]? = some (.int .i64 (2 * F2)) := Rg.ev1 (hr 104 (by decide))
            have e114 : ac_.tmps[114]? = some (.int .i64 (4 * G2)) := Rg.ev1 (hr 114 (by decide))
            exact Rg.pure1 rfl (by first | (go_simp; done) | (go_simp; exact Rg.wr (by omega) (by omega)))
          · intro ac_ w_ hB hr
            have e3 : ac_.tmps[3]? = some (.int .i64 n) := hr 3 (by decide)
            exact Rg.pure1 rfl (by first | (go_simp; done) | (go_simp; exact Rg.wr (by omega) (by omega)))
          · intro ac_ w_ hB hr
            have e115 : ac_.tmps[115]? = some (.int .i64 ((2 * F2) + (4 * G2))) := Rg.ev1 (hr 115 (by decide))
            have e116 : ac_.tmps[116]? = some (.int .i64 n) := Rg.ev1 (hr 116 (by decide))
            exact Rg.pure1 rfl (by first | (go_simp; done) | (go_simp; exact Rg.wr (by omega) (by omega)))
          · intro ac_ w_ hB hr
            have e117 : ac_.tmps[117]? = some (.int .i64 Y) := Rg.ev1 (hr 117 (by decide))
            exact Rg.pure1 rfl (by first | (go_simp; done) | (go_simp; exact Rg.wr (by omega) (by omega)))
          · intro vals wz5 hB5 hv
            have v0 : vals 0 = .int .i64 a := hv 0 (by decide)
            have v1 : vals 1 = .int .i64 m2 := hv 1 (by decide)
            have v2 : vals 2 = .int .i64 e := hv 2 (by decide)
            have v3 : vals 3 = .int .i64 (m2 * e) := hv 3 (by decide)
            have v4 : vals 4 = .int .i64 n := hv 4 (by decide)
            have v5 : vals 5 = .int .i64 F1 := hv 5 (by decide)
            have v6 : vals 6 = .int .i64 (a * F1) := hv 6 (by decide)
            have v7 : vals 7 = .int .i64 n := hv 7 (by decide)
            have v8 : vals 8 = .int .i64 F2 := hv 8 (by decide)
            have v9 : vals 9 = .int .i64 (2 * F2) := hv 9 (by decide)
            have v10 : vals 10 = .int .i64 c := hv 10 (by decide)
            have v11 : vals 11 = .int .i64 e2 := hv 11 (by decide)
            have v12 : vals 12 = .int .i64 e := hv 12 (by decide)
            have v13 : vals 13 = .int .i64 (e2 * e) := hv 13 (by decide)
            have v14 : vals 14 = .int .i64 n := hv 14 (by decide)
            have v15 : vals 15 = .int .i64 G1 := hv 15 (by decide)
            have v16 : vals 16 = .int .i64 (c * G1) := hv 16 (by decide)
            have v17 : vals 17 = .int .i64 n := hv 17 (by decide)
            have v18 : vals 18 = .int .i64 G2 := hv 18 (by decide)
            have v19 : vals 19 = .int .i64 (4 * G2) := hv 19 (by decide)
            have v20 : vals 20 = .int .i64 ((2 * F2) + (4 * G2)) := hv 20 (by decide)
            have v21 : vals 21 = .int .i64 n := hv 21 (by decide)
            have v22 : vals 22 = .int .i64 Y := hv 22 (by decide)
            have v23 : vals 23 = .int .i64 Y := hv 23 (by decide)
            simp only [Rg.fill, if_true, Act.put, List.setIfInBounds_toArray, List.set_cons_zero, List.set_cons_succ, Nat.zero_add, Nat.reduceAdd, v0, v1, v2, v3, v4, v5, v6, v7, v8, v9, v10, v11, v12, v13, v14, v15, v16, v17, v18, v19, v20, v21, v22, v23]
            clear hv v0 v1 v2 v3 v4 v5 v6 v7 v8 v9 v10 v11 v12 v13 v14 v15 v16 v17 v18 v19 v20 v21 v22 v23
            replace hbq := hbq.trans (hB5.mono hbq.size)
            clear hB5
            go_wp2
            go_ret3
            exact ⟨rfl, hbq⟩
end Go.Proofs.YtgkjmjlkhnfbiaaGreat
