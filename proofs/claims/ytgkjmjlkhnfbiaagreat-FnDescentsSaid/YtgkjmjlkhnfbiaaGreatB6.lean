/-
  Joined texts: contracts and plain laws.
-/
import Derived.Test.YtgkjmjlkhnfbiaaGreatB4
import Derived.Test.YtgkjmjlkhnfbiaaGreatB5
import Derived.Test.YtgkjmjlkhnfbiaaGreatB2
namespace Go.Proofs.YtgkjmjlkhnfbiaaGreat
set_option linter.unusedSimpArgs false
set_option linter.unusedVariables false
open Go.RowKit
def M.prod (xs : List Int) : Int := xs.foldl (· * ·) 1
theorem M.prod_snoc (xs : List Int) (x : Int) : M.prod (xs ++ [x]) = M.prod xs * x := by simp [M.prod, List.foldl_append]
theorem times_c (b : Nat) (xs : List Int) (m : Nat) (n : Int) (w : World) (n1 : 1 ≤ n) (n2 : n ≤ 1000000000) (hm : m = xs.length) (h5 : xs.length ≤ 100)
    (hc : ∀ (j : Nat) (x : Int), xs[j]? = some x → w.cell? ⟨b, j, none⟩ = some (.int .i64 x)) :
    Calls Tryz.prog 151 #[.int .i64 n, .slice (some ⟨b, 0, none⟩) m m] w fun e w' => e = .returned (.int .i64 (M.prod xs % n)) ∧ w = w' := by
  subst hm
  have HC := Lib.hid hc
  clear hc
  have e1 : (1 : Int).tmod n = 1 % n := Int.tmod_eq_emod_of_nonneg (by omega)
  go_enter Tryz.func151, Tryz.ntmps151
  go_wp2
  go_loop [5, 7, 12] (fun vo _ vi => ∃ k : Nat, k ≤ xs.length ∧ vi = .int .i64 k ∧ vo = .int .i64 (M.prod (xs.take k) % n)) (fun _ _ vi => xs.length - (intOf vi).toNat)
  case atStart => exact ⟨0, by omega, rfl, by simp [M.prod]⟩
  case round =>
    obtain ⟨k, hk, rfl, rfl⟩ := hrel
    by_cases hlt : k < xs.length
    · have hx : xs[k]? = some xs[k] := List.getElem?_eq_getElem hlt
      have e0 := HC.out k _ hx
      have hst : M.prod (xs.take (k + 1)) = M.prod (xs.take k) * xs[k] := by
        rw [List.take_add_one, hx]
        exact M.prod_snoc _ _
      generalize xs[k] = x at *
      generalize M.prod (xs.take k) = y at *
      have T := fun W => modulo_c x n W n1 (by omega)
      have a0 := Int.emod_nonneg y (show n ≠ 0 by omega)
      have a1 := Int.emod_lt_of_pos y (show 0 < n by omega)
      have b0 := Int.emod_nonneg x (show n ≠ 0 by omega)
      have b1 := Int.emod_lt_of_pos x (show 0 < n by omega)
      have hm : y % n * (x % n) % n = y * x % n := (Int.mul_emod y x n).symm
      have hp := M.mul_nn (x := y % n) (y := x % n) (m := 1000000000) (n := 1000000000) a0 (by omega) b0 (by omega)
      have e2 : (y % n * (x % n)).tmod n = y * x % n := by rw [Int.tmod_eq_emod_of_nonneg hp.1]; exact hm
      have T := Lib.hid T
      have hst := Lib.hid hst
      clear hx hm
      go_wp2_with (go_at_call 169; (with_reducible refine (T.out _).mono ?_); rintro e w' ⟨rfl, rfl⟩)
      go_round
      case rel => exact ⟨k + 1, by omega, by go_num, by rw [hst.out]⟩
      case measure => simp [intOf]; omega
    · obtain rfl : k = xs.length := by omega
      have ht : xs.take xs.length = xs := List.take_length
      rw [ht]
      go_wp2
      go_ret
      exact ⟨rfl, rfl⟩
set_option maxRecDepth 100000 in
set_option maxHeartbeats 1000000 in
theorem valueModulo_c (D A C m e n : Int) (w : World) (n1 : 1 ≤ n) (n2 : n ≤ 1000000000) :
    Calls Tryz.prog 152 #[.agg #[.int .i64 D, .int .i64 A, .int .i64 C], .int .i64 m, .int .i64 e, .int .i64 n] w fun e' w' => e' = .returned (.int .i64 (M.qval D A C m e % n)) ∧ Below w.heap.size w w' := by
  have hp : ∀ x : Int, 0 ≤ x % n ∧ x % n ≤ 999999999 := fun x => ⟨Int.emod_nonneg x (by omega), by have := Int.emod_lt_of_pos x (show 0 < n by omega); omega⟩
  obtain ⟨p1, h1⟩ : ∃ p1, M.prod [D, m, m, m, m] % n = p1 := ⟨_, rfl⟩
  obtain ⟨p2, h2⟩ : ∃ p2, M.prod [A, m, m, e, e] % n = p2 := ⟨_, rfl⟩
  obtain ⟨p3, h3⟩ : ∃ p3, M.prod [C, e, e, e, e] % n = p3 := ⟨_, rfl⟩
  have q1 := hp (M.prod [D, m, m, m, m])
  have q2 := hp (M.prod [A, m, m, e, e])
  have q3 := hp (M.prod [C, e, e, e, e])
  rw [h1] at q1
  rw [h2] at q2
  rw [h3] at q3
  have hfin : M.qval D A C m e % n = (p1 + p2 + p3).tmod n := by
    rw [Int.tmod_eq_emod_of_nonneg (by omega), ← h1, ← h2, ← h3]
    have e1 : M.prod [D, m, m, m, m] = D * (m * m * m * m) := by simp [M.prod]; grind
    have e2 : M.prod [A, m, m, e, e] = A * (m * m * e * e) := by simp [M.prod]; grind
    have e3 : M.prod [C, e, e, e, e] = C * (e * e * e * e) := by simp [M.prod]; grind
    rw [e1, e2, e3]
    unfold M.qval
    simp [Int.add_emod]
  have qm : 0 ≤ (p1 + p2 + p3).tmod n ∧ (p1 + p2 + p3).tmod n ≤ 3000000000 := by
    rw [Int.tmod_eq_emod_of_nonneg (by omega)]
    exact ⟨Int.emod_nonneg _ (by omega), by have := Int.emod_lt_of_pos (p1 + p2 + p3) (show 0 < n by omega); omega⟩
  have hn0 : ¬ n = 0 := by omega
  rw [hfin]
  have H1 := Lib.hid h1
  have H2 := Lib.hid h2
  have H3 := Lib.hid h3
  clear h1 h2 h3 hfin hp
  go_enter Tryz.func152, Tryz.ntmps152
  go_upto_region 2 with fail
  obtain ⟨c0, c1, c2⟩ : (w.alloc (.cells #[.int .i64 D, .int .i64 A, .int .i64 C] 35)).cell? ⟨w.heap.size, 0, none⟩ = some (.int .i64 D) ∧ (w.alloc (.cells #[.int .i64 D, .int .i64 A, .int .i64 C] 35)).cell? ⟨w.heap.size, 1, none⟩ = some (.int .i64 A) ∧ (w.alloc (.cells #[.int .i64 D, .int .i64 A, .int .i64 C] 35)).cell? ⟨w.heap.size, 2, none⟩ = some (.int .i64 C) := ⟨by simp [go_sem], by simp [go_sem], by simp [go_sem]⟩
  refine Rg.walk [.is (.int .i64 n), .is (.pointer (some ⟨w.heap.size, 0, none⟩)), .is (.int .i64 D), .is (.int .i64 m), .is (.int .i64 m), .is (.int .i64 m), .is (.int .i64 m), .lit [D, m, m, m, m], .is (.int .i64 p1), .is (.int .i64 n), .is (.pointer (some ⟨w.heap.size, 1, none⟩)), .is (.int .i64 A), .is (.int .i64 m), .is (.int .i64 m), .is (.int .i64 e), .is (.int .i64 e), .lit [A, m, m, e, e], .is (.int .i64 p2), .is (.int .i64 (p1 + p2)), .is (.int .i64 n), .is (.pointer (some ⟨w.heap.size, 2, none⟩)), .is (.int .i64 C), .is (.int .i64 e), .is (.int .i64 e), .is (.int .i64 e), .is (.int .i64 e), .lit [C, e, e, e, e], .is (.int .i64 p3), .is (.int .i64 ((p1 + p2) + p3)), .is (.int .i64 n), .is (.int .i64 ((((p1 + p2) + p3)).tmod n)), .is (.int .i64 ((((p1 + p2) + p3)).tmod n))] (by kernel_rfl) (by kernel_rfl) ⟨?_, ?_, ?_, ?_, ?_, ?_, ?_, ?_, ?_, ?_, ?_, ?_, ?_, ?_, ?_, ?_, ?_, ?_, ?_, ?_, ?_, ?_, ?_, ?_, ?_, ?_, ?_, ?_, ?_, ?_, ?_, ?_, trivial⟩ ?_
  · intro a w_ hB hr
    have e9 : a.tmps[9]? = some (.int .i64 n) := hr 9 (by decide)
    exact Rg.pure1 rfl (by first | (go_simp; done) | (go_simp; exact Rg.wr (by omega) (by omega)))
  · intro a w_ hB hr
    have e4 : a.tmps[4]? = some (.pointer (some ⟨w.heap.size, 0, none⟩)) := hr 4 (by decide)
    exact Rg.pure1 rfl (by first | (go_simp; done) | (go_simp; exact Rg.wr (by omega) (by omega)))
  · intro a w_ hB hr
    have e12 : a.tmps[12]? = some (.pointer (some ⟨w.heap.size, 0, none⟩)) := Rg.ev1 (hr 12 (by decide))
    have k0 := keepCell hB c0
    have k1 := keepCell hB c1
    have k2 := keepCell hB c2
    exact Rg.pure1 rfl (by first | (go_simp; done) | (go_simp; exact Rg.wr (by omega) (by omega)))
  · intro a w_ hB hr
    have e1 : a.tmps[1]? = some (.int .i64 m) := hr 1 (by decide)
    exact Rg.pure1 rfl (by first | (go_simp; done) | (go_simp; exact Rg.wr (by omega) (by omega)))
  · intro a w_ hB hr
    have e1 : a.tmps[1]? = some (.int .i64 m) := hr 1 (by decide)
    exact Rg.pure1 rfl (by first | (go_simp; done) | (go_simp; exact Rg.wr (by omega) (by omega)))
  · intro a w_ hB hr
    have e1 : a.tmps[1]? = some (.int .i64 m) := hr 1 (by decide)
    exact Rg.pure1 rfl (by first | (go_simp; done) | (go_simp; exact Rg.wr (by omega) (by omega)))
  · intro a w_ hB hr
    have e1 : a.tmps[1]? = some (.int .i64 m) := hr 1 (by decide)
    exact Rg.pure1 rfl (by first | (go_simp; done) | (go_simp; exact Rg.wr (by omega) (by omega)))
  · intro a w_ hB hr
    have e13 : a.tmps[13]? = some (.int .i64 D) := Rg.ev1 (hr 13 (by decide))
    have e14 : a.tmps[14]? = some (.int .i64 m) := Rg.ev1 (hr 14 (by decide))
    have e15 : a.tmps[15]? = some (.int .i64 m) := Rg.ev1 (hr 15 (by decide))
    have e16 : a.tmps[16]? = some (.int .i64 m) := Rg.ev1 (hr 16 (by decide))
    have e17 : a.tmps[17]? = some (.int .i64 m) := Rg.ev1 (hr 17 (by decide))
    refine Rg.lay1 rfl (by first | (go_simp; done) | (go_simp; rfl)) ⟨w_.heap.size, rfl, by simp, lit_cells w_ 3 _⟩
  · intro a w_ hB hr
    have e11 : a.tmps[11]? = some (.int .i64 n) := Rg.ev1 (hr 11 (by decide))
    obtain ⟨_, g18, b18, rfl, l18, c18⟩ : ∃ v, a.tmps[18]? = some v ∧ Rg.LitOk v [D, m, m, m, m] w_ := hr 18 (by decide)
    have e18 := g18
    have ef : ∀ f, a.eval (.func f) = .func (.func f) #[] #[] := fun _ => rfl
    refine Rg.call1 rfl (by go_simp; exact ⟨rfl, rfl⟩) ?_
    refine (times_c b18 [D, m, m, m, m] 5 n _ n1 n2 rfl (by simp) c18).mono ?_
    rintro _ _ ⟨rfl, rfl⟩
    exact ⟨_, rfl, congrArg (Value.int .i64) H1.out, Below.refl _ _⟩
  · intro a w_ hB hr
    have e9 : a.tmps[9]? = some (.int .i64 n) := hr 9 (by decide)
    exact Rg.pure1 rfl (by first | (go_simp; done) | (go_simp; exact Rg.wr (by omega) (by omega)))
  · intro a w_ hB hr
    have e4 : a.tmps[4]? = some (.pointer (some ⟨w.heap.size, 0, none⟩)) := hr 4 (by decide)
    exact Rg.pure1 rfl (by first | (go_simp; done) | (go_simp; exact Rg.wr (by omega) (by omega)))
  · intro a w_ hB hr
    have e21 : a.tmps[21]? = some (.pointer (some ⟨w.heap.size, 1, none⟩)) := Rg.ev1 (hr 21 (by decide))
    have k0 := keepCell hB c0
    have k1 := keepCell hB c1
    have k2 := keepCell hB c2
    exact Rg.pure1 rfl (by first | (go_simp; done) | (go_simp; exact Rg.wr (by omega) (by omega)))
  · intro a w_ hB hr
    have e1 : a.tmps[1]? = some (.int .i64 m) := hr 1 (by decide)
    exact Rg.pure1 rfl (by first | (go_simp; done) | (go_simp; exact Rg.wr (by omega) (by omega)))
  · intro a w_ hB hr
    have e1 : a.tmps[1]? = some (.int .i64 m) := hr 1 (by decide)
    exact Rg.pure1 rfl (by first | (go_simp; done) | (go_simp; exact Rg.wr (by omega) (by omega)))
  · intro a w_ hB hr
    have e2 : a.tmps[2]? = some (.int .i64 e) := hr 2 (by decide)
    exact Rg.pure1 rfl (by first | (go_simp; done) | (go_simp; exact Rg.wr (by omega) (by omega)))
  · intro a w_ hB hr
    have e2 : a.tmps[2]? = some (.int .i64 e) := hr 2 (by decide)
    exact Rg.pure1 rfl (by first | (go_simp; done) | (go_simp; exact Rg.wr (by omega) (by omega)))
  · intro a w_ hB hr
    have e22 : a.tmps[22]? = some (.int .i64 A) := Rg.ev1 (hr 22 (by decide))
    have e23 : a.tmps[23]? = some (.int .i64 m) := Rg.ev1 (hr 23 (by decide))
    have e24 : a.tmps[24]? = some (.int .i64 m) := Rg.ev1 (hr 24 (by decide))
    have e25 : a.tmps[25]? = some (.int .i64 e) := Rg.ev1 (hr 25 (by decide))
    have e26 : a.tmps[26]? = some (.int .i64 e) := Rg.ev1 (hr 26 (by decide))
    refine Rg.lay1 rfl (by first | (go_simp; done) | (go_simp; rfl)) ⟨w_.heap.size, rfl, by simp, lit_cells w_ 3 _⟩
  · intro a w_ hB hr
    have e20 : a.tmps[20]? = some (.int .i64 n) := Rg.ev1 (hr 20 (by decide))
    obtain ⟨_, g27, b27, rfl, l27, c27⟩ : ∃ v, a.tmps[27]? = some v ∧ Rg.LitOk v [A, m, m, e, e] w_ := hr 27 (by decide)
    have e27 := g27
    have ef : ∀ f, a.eval (.func f) = .func (.func f) #[] #[] := fun _ => rfl
    refine Rg.call1 rfl (by go_simp; exact ⟨rfl, rfl⟩) ?_
    refine (times_c b27 [A, m, m, e, e] 5 n _ n1 n2 rfl (by simp) c27).mono ?_
    rintro _ _ ⟨rfl, rfl⟩
    exact ⟨_, rfl, congrArg (Value.int .i64) H2.out, Below.refl _ _⟩
  · intro a w_ hB hr
    have e19 : a.tmps[19]? = some (.int .i64 p1) := Rg.ev1 (hr 19 (by decide))
    have e28 : a.tmps[28]? = some (.int .i64 p2) := Rg.ev1 (hr 28 (by decide))
    exact Rg.pure1 rfl (by first | (go_simp; done) | (go_simp; exact Rg.wr (by omega) (by omega)))
  · intro a w_ hB hr
    have e9 : a.tmps[9]? = some (.int .i64 n) := hr 9 (by decide)
    exact Rg.pure1 rfl (by first | (go_simp; done) | (go_simp; exact Rg.wr (by omega) (by omega)))
  · intro a w_ hB hr
    have e4 : a.tmps[4]? = some (.pointer (some ⟨w.heap.size, 0, none⟩)) := hr 4 (by decide)
    exact Rg.pure1 rfl (by first | (go_simp; done) | (go_simp; exact Rg.wr (by omega) (by omega)))
  · intro a w_ hB hr
    have e31 : a.tmps[31]? = some (.pointer (some ⟨w.heap.size, 2, none⟩)) := Rg.ev1 (hr 31 (by decide))
    have k0 := keepCell hB c0
    have k1 := keepCell hB c1
    have k2 := keepCell hB c2
    exact Rg.pure1 rfl (by first | (go_simp; done) | (go_simp; exact Rg.wr (by omega) (by omega)))
  · intro a w_ hB hr
    have e2 : a.tmps[2]? = some (.int .i64 e) := hr 2 (by decide)
    exact Rg.pure1 rfl (by first | (go_simp; done) | (go_simp; exact Rg.wr (by omega) (by omega)))
  · intro a w_ hB hr
    have e2 : a.tmps[2]? = some (.int .i64 e) := hr 2 (by decide)
    exact Rg.pure1 rfl (by first | (go_simp; done) | (go_simp; exact Rg.wr (by omega) (by omega)))
  · intro a w_ hB hr
    have e2 : a.tmps[2]? = some (.int .i64 e) := hr 2 (by decide)
    exact Rg.pure1 rfl (by first | (go_simp; done) | (go_simp; exact Rg.wr (by omega) (by omega)))
  · intro a w_ hB hr
    have e2 : a.tmps[2]? = some (.int .i64 e) := hr 2 (by decide)
    exact Rg.pure1 rfl (by first | (go_simp; done) | (go_simp; exact Rg.wr (by omega) (by omega)))
  · intro a w_ hB hr
    have e32 : a.tmps[32]? = some (.int .i64 C) := Rg.ev1 (hr 32 (by decide))
    have e33 : a.tmps[33]? = some (.int .i64 e) := Rg.ev1 (hr 33 (by decide))
    have e34 : a.tmps[34]? = some (.int .i64 e) := Rg.ev1 (hr 34 (by decide))
    have e35 : a.tmps[35]? = some (.int .i64 e) := Rg.ev1 (hr 35 (by decide))
    have e36 : a.tmps[36]? = some (.int .i64 e) := Rg.ev1 (hr 36 (by decide))
    refine Rg.lay1 rfl (by first | (go_simp; done) | (go_simp; rfl)) ⟨w_.heap.size, rfl, by simp, lit_cells w_ 3 _⟩
  · intro a w_ hB hr
    have e30 : a.tmps[30]? = some (.int .i64 n) := Rg.ev1 (hr 30 (by decide))
    obtain ⟨_, g37, b37, rfl, l37, c37⟩ : ∃ v, a.tmps[37]? = some v ∧ Rg.LitOk v [C, e, e, e, e] w_ := hr 37 (by decide)
    have e37 := g37
    have ef : ∀ f, a.eval (.func f) = .func (.func f) #[] #[] := fun _ => rfl
    refine Rg.call1 rfl (by go_simp; exact ⟨rfl, rfl⟩) ?_
    refine (times_c b37 [C, e, e, e, e] 5 n _ n1 n2 rfl (by simp) c37).mono ?_
    rintro _ _ ⟨rfl, rfl⟩
    exact ⟨_, rfl, congrArg (Value.int .i64) H3.out, Below.refl _ _⟩
  · intro a w_ hB hr
    have e29 : a.tmps[29]? = some (.int .i64 (p1 + p2)) := Rg.ev1 (hr 29 (by decide))
    have e38 : a.tmps[38]? = some (.int .i64 p3) := Rg.ev1 (hr 38 (by decide))
    exact Rg.pure1 rfl (by first | (go_simp; done) | (go_simp; exact Rg.wr (by omega) (by omega)))
  · intro a w_ hB hr
    have e3 : a.tmps[3]? = some (.int .i64 n) := hr 3 (by decide)
    exact Rg.pure1 rfl (by first | (go_simp; done) | (go_simp; exact Rg.wr (by omega) (by omega)))
  · intro a w_ hB hr
    have e39 : a.tmps[39]? = some (.int .i64 ((p1 + p2) + p3)) := Rg.ev1 (hr 39 (by decide))
    have e40 : a.tmps[40]? = some (.int .i64 n) := Rg.ev1 (hr 40 (by decide))
    exact Rg.pure1 rfl (by first | (go_simp; done) | (go_simp; exact Rg.wr (by omega) (by omega)))
  · intro a w_ hB hr
    have e41 : a.tmps[41]? = some (.int .i64 ((((p1 + p2) + p3)).tmod n)) := Rg.ev1 (hr 41 (by decide))
    exact Rg.pure1 rfl (by first | (go_simp; done) | (go_simp; exact Rg.wr (by omega) (by omega)))
  · intro vals wz hB hv
    have v0 : vals 0 = .int .i64 n := hv 0 (by decide)
    have v1 : vals 1 = .pointer (some ⟨w.heap.size, 0, none⟩) := hv 1 (by decide)
    have v2 : vals 2 = .int .i64 D := hv 2 (by decide)
    have v3 : vals 3 = .int .i64 m := hv 3 (by decide)
    have v4 : vals 4 = .int .i64 m := hv 4 (by decide)
    have v5 : vals 5 = .int .i64 m := hv 5 (by decide)
    have v6 : vals 6 = .int .i64 m := hv 6 (by decide)
    obtain ⟨y7, v7, -, -⟩ : Rg.LitOk (vals 7) [D, m, m, m, m] wz := hv 7 (by decide)
    have v8 : vals 8 = .int .i64 p1 := hv 8 (by decide)
    have v9 : vals 9 = .int .i64 n := hv 9 (by decide)
    have v10 : vals 10 = .pointer (some ⟨w.heap.size, 1, none⟩) := hv 10 (by decide)
    have v11 : vals 11 = .int .i64 A := hv 11 (by decide)
    have v12 : vals 12 = .int .i64 m := hv 12 (by decide)
    have v13 : vals 13 = .int .i64 m := hv 13 (by decide)
    have v14 : vals 14 = .int .i64 e := hv 14 (by decide)
    have v15 : vals 15 = .int .i64 e := hv 15 (by decide)
    obtain ⟨y16, v16, -, -⟩ : Rg.LitOk (vals 16) [A, m, m, e, e] wz := hv 16 (by decide)
    have v17 : vals 17 = .int .i64 p2 := hv 17 (by decide)
    have v18 : vals 18 = .int .i64 (p1 + p2) := hv 18 (by decide)
    have v19 : vals 19 = .int .i64 n := hv 19 (by decide)
    have v20 : vals 20 = .pointer (some ⟨w.heap.size, 2, none⟩) := hv 20 (by decide)
    have v21 : vals 21 = .int .i64 C := hv 21 (by decide)
    have v22 : vals 22 = .int .i64 e := hv 22 (by decide)
    have v23 : vals 23 = .int .i64 e := hv 23 (by decide)
    have v24 : vals 24 = .int .i64 e := hv 24 (by decide)
    have v25 : vals 25 = .int .i64 e := hv 25 (by decide)
    obtain ⟨y26, v26, -, -⟩ : Rg.LitOk (vals 26) [C, e, e, e, e] wz := hv 26 (by decide)
    have v27 : vals 27 = .int .i64 p3 := hv 27 (by decide)
    have v28 : vals 28 = .int .i64 ((p1 + p2) + p3) := hv 28 (by decide)
    have v29 : vals 29 = .int .i64 n := hv 29 (by decide)
    have v30 : vals 30 = .int .i64 ((((p1 + p2) + p3)).tmod n) := hv 30 (by decide)
    have v31 : vals 31 = .int .i64 ((((p1 + p2) + p3)).tmod n) := hv 31 (by decide)
    simp only [Rg.fill, if_true, Act.put, List.setIfInBounds_toArray, List.set_cons_zero, List.set_cons_succ, Nat.zero_add, Nat.reduceAdd, v0, v1, v2, v3, v4, v5, v6, v7, v8, v9, v10, v11, v12, v13, v14, v15, v16, v17, v18, v19, v20, v21, v22, v23, v24, v25, v26, v27, v28, v29, v30, v31]
    clear hv v0 v1 v2 v3 v4 v5 v6 v7 v8 v9 v10 v11 v12 v13 v14 v15 v16 v17 v18 v19 v20 v21 v22 v23 v24 v25 v26 v27 v28 v29 v30 v31
    go_wp2
    go_ret
    exact ⟨rfl, by have h_ := hB; exact (by repeat (first | exact Below.refl _ _ | refine below_alloc ?_ _ | refine below_step ?_ (by assumption) | refine Below.drew ?_ | refine Below.setCell ?_ (by first | exact Nat.le_refl _ | exact Nat.le_add_right _ _ | (simp <;> omega)) _ | refine below_drewN ?_ _))⟩
end Go.Proofs.YtgkjmjlkhnfbiaaGreat

namespace Go.Proofs.YtgkjmjlkhnfbiaaGreat
set_option linter.unusedSimpArgs false
set_option linter.unusedVariables false
open Go.RowKit
def M.poss (D A C m e p : Int) (k : Nat) : Bool := M.sqm (M.qval D A C m e % M.ipow p k) p k
def M.byM (D A m e : Int) : Int := 4 * (D * (m * m * m)) + 2 * (A * (m * e * e))
def M.byE (A C m e : Int) : Int := 2 * (A * (m * m * e)) + 4 * (C * (e * e * e))
def M.lw (v x y p : Int) (k : Nat) : Int := if v = 0 then min (M.ofn x p k) (M.ofn y p k) else min (min (M.ofn x p k) (M.ofn y p k)) (M.valn v p / 2 + if p = 2 then 1 else 0)
def M.lift (D A C m e p : Int) (k : Nat) : Bool := M.poss D A C m e p k && decide (2 * M.lw (M.qval D A C m e % M.ipow p k) (M.byM D A m e % M.ipow p k) (M.byE A C m e % M.ipow p k) p k + 1 ≤ k)
theorem box3 (w : World) (D A C : Int) (T : TypeId) : (w.alloc (.cells #[.int .i64 D, .int .i64 A, .int .i64 C] T)).cell? ⟨w.heap.size, 0, none⟩ = some (.int .i64 D) ∧ (w.alloc (.cells #[.int .i64 D, .int .i64 A, .int .i64 C] T)).cell? ⟨w.heap.size, 1, none⟩ = some (.int .i64 A) ∧ (w.alloc (.cells #[.int .i64 D, .int .i64 A, .int .i64 C] T)).cell? ⟨w.heap.size, 2, none⟩ = some (.int .i64 C) := ⟨by simp [go_sem], by simp [go_sem], by simp [go_sem]⟩
set_option maxRecDepth 100000 in
set_option maxHeartbeats 1000000 in
theorem possible_c (D A C m e p : Int) (k : Nat) (w : World) (hp : 2 ≤ p) (hp2 : p ≤ 1000) (hk : M.ipow p k ≤ 1000000000) (hk2 : k ≤ 29) (hk1 : 1 ≤ k) :
    Calls Tryz.prog 148 #[.agg #[.int .i64 D, .int .i64 A, .int .i64 C], .int .i64 m, .int .i64 e, .int .i64 p, .int .i64 k] w fun e' w' => e' = .returned (.bool (M.poss D A C m e p k)) ∧ Below w.heap.size w w' := by
  have hn := M.ipow_pos (show 1 ≤ p by omega) k
  have P1 := fun W => intPowerB_c p k W (by omega) (by omega) (by omega)
  have P2 := fun W => valueModulo_c D A C m e (M.ipow p k) W hn (by omega)
  have P3 := fun W => squareModulo_c (M.qval D A C m e % M.ipow p k) p k W hp hp2 hk hk2 hk1
  rw [Int.emod_emod] at P3
  unfold M.poss
  generalize M.sqm (M.qval D A C m e % M.ipow p k) p k = s at *
  generalize M.qval D A C m e % M.ipow p k = x at *
  generalize M.ipow p k = n at *
  have P1 := Lib.hid P1
  have P2 := Lib.hid P2
  have P3 := Lib.hid P3
  obtain ⟨c0, c1, c2⟩ := box3 w D A C 35
  go_enter Tryz.func148, Tryz.ntmps148
  go_upto_region 1 with fail
  refine Rg.walk [.is (.agg #[.int .i64 D, .int .i64 A, .int .i64 C]), .is (.int .i64 m), .is (.int .i64 e), .is (.int .i64 p), .is (.int .i64 k), .is (.int .i64 n), .is (.int .i64 x), .is (.int .i64 p), .is (.int .i64 k), .is (.bool s), .is (.bool s)] (by kernel_rfl) (by kernel_rfl) ⟨?_, ?_, ?_, ?_, ?_, ?_, ?_, ?_, ?_, ?_, ?_, trivial⟩ ?_
  · intro a w_ hB hr
    have e5 : a.tmps[5]? = some (.pointer (some ⟨w.heap.size, 0, none⟩)) := hr 5 (by decide)
    have k0 := keepCell hB c0
    have k1 := keepCell hB c1
    have k2 := keepCell hB c2
    exact Rg.pure1 rfl (by first | (go_simp; done) | (go_simp; exact Rg.wr (by omega) (by omega)))
  · intro a w_ hB hr
    have e1 : a.tmps[1]? = some (.int .i64 m) := hr 1 (by decide)
    exact Rg.pure1 rfl (by first | (go_simp; done) | (go_simp; exact Rg.wr (by omega) (by omega)))
  · intro a w_ hB hr
    have e2 : a.tmps[2]? = some (.int .i64 e) := hr 2 (by decide)
    exact Rg.pure1 rfl (by first | (go_simp; done) | (go_simp; exact Rg.wr (by omega) (by omega)))
  · intro a w_ hB hr
    have e3 : a.tmps[3]? = some (.int .i64 p) := hr 3 (by decide)
    exact Rg.pure1 rfl (by first | (go_simp; done) | (go_simp; exact Rg.wr (by omega) (by omega)))
  · intro a w_ hB hr
    have e4 : a.tmps[4]? = some (.int .i64 k) := hr 4 (by decide)
    exact Rg.pure1 rfl (by first | (go_simp; done) | (go_simp; exact Rg.wr (by omega) (by omega)))
  · intro a w_ hB hr
    have e14 : a.tmps[14]? = some (.int .i64 p) := Rg.ev1 (hr 14 (by decide))
    have e15 : a.tmps[15]? = some (.int .i64 k) := Rg.ev1 (hr 15 (by decide))
    have ef : ∀ f, a.eval (.func f) = .func (.func f) #[] #[] := fun _ => rfl
    refine Rg.call1 rfl (by go_simp; exact ⟨rfl, rfl⟩) ?_
    refine (P1.out _).mono ?_
    rintro _ _ ⟨rfl, rfl⟩
    exact ⟨_, rfl, rfl, Below.refl _ _⟩
  · intro a w_ hB hr
    have e11 : a.tmps[11]? = some (.agg #[.int .i64 D, .int .i64 A, .int .i64 C]) := Rg.ev1 (hr 11 (by decide))
    have e12 : a.tmps[12]? = some (.int .i64 m) := Rg.ev1 (hr 12 (by decide))
    have e13 : a.tmps[13]? = some (.int .i64 e) := Rg.ev1 (hr 13 (by decide))
    have e16 : a.tmps[16]? = some (.int .i64 n) := Rg.ev1 (hr 16 (by decide))
    have ef : ∀ f, a.eval (.func f) = .func (.func f) #[] #[] := fun _ => rfl
    refine Rg.call1 rfl (by go_simp; exact ⟨rfl, rfl⟩) ?_
    refine (P2.out _).mono ?_
    rintro _ _ ⟨rfl, hb⟩
    exact ⟨_, rfl, rfl, hb⟩
  · intro a w_ hB hr
    have e3 : a.tmps[3]? = some (.int .i64 p) := hr 3 (by decide)
    exact Rg.pure1 rfl (by first | (go_simp; done) | (go_simp; exact Rg.wr (by omega) (by omega)))
  · intro a w_ hB hr
    have e4 : a.tmps[4]? = some (.int .i64 k) := hr 4 (by decide)
    exact Rg.pure1 rfl (by first | (go_simp; done) | (go_simp; exact Rg.wr (by omega) (by omega)))
  · intro a w_ hB hr
    have e17 : a.tmps[17]? = some (.int .i64 x) := Rg.ev1 (hr 17 (by decide))
    have e18 : a.tmps[18]? = some (.int .i64 p) := Rg.ev1 (hr 18 (by decide))
    have e19 : a.tmps[19]? = some (.int .i64 k) := Rg.ev1 (hr 19 (by decide))
    have ef : ∀ f, a.eval (.func f) = .func (.func f) #[] #[] := fun _ => rfl
    refine Rg.call1 rfl (by go_simp; exact ⟨rfl, rfl⟩) ?_
    refine (P3.out _).mono ?_
    rintro _ _ ⟨rfl, mq, rfl⟩
    exact ⟨_, rfl, rfl, below_drewN (Below.refl _ _) _⟩
  · intro a w_ hB hr
    have e20 : a.tmps[20]? = some (.bool s) := Rg.ev1 (hr 20 (by decide))
    exact Rg.pure1 rfl (by first | (go_simp; done) | (go_simp; exact Rg.wr (by omega) (by omega)))
  · intro vals wz hB hv
    have v0 : vals 0 = .agg #[.int .i64 D, .int .i64 A, .int .i64 C] := hv 0 (by decide)
    have v1 : vals 1 = .int .i64 m := hv 1 (by decide)
    have v2 : vals 2 = .int .i64 e := hv 2 (by decide)
    have v3 : vals 3 = .int .i64 p := hv 3 (by decide)
    have v4 : vals 4 = .int .i64 k := hv 4 (by decide)
    have v5 : vals 5 = .int .i64 n := hv 5 (by decide)
    have v6 : vals 6 = .int .i64 x := hv 6 (by decide)
    have v7 : vals 7 = .int .i64 p := hv 7 (by decide)
    have v8 : vals 8 = .int .i64 k := hv 8 (by decide)
    have v9 : vals 9 = .bool s := hv 9 (by decide)
    have v10 : vals 10 = .bool s := hv 10 (by decide)
    simp only [Rg.fill, if_true, Act.put, List.setIfInBounds_toArray, List.set_cons_zero, List.set_cons_succ, Nat.zero_add, Nat.reduceAdd, v0, v1, v2, v3, v4, v5, v6, v7, v8, v9, v10]
    clear hv v0 v1 v2 v3 v4 v5 v6 v7 v8 v9 v10
    go_wp2
    go_ret
    exact ⟨rfl, by have h_ := hB; exact (by repeat (first | exact Below.refl _ _ | refine below_alloc ?_ _ | refine below_step ?_ (by assumption) | refine Below.drew ?_ | refine Below.setCell ?_ (by first | exact Nat.le_refl _ | exact Nat.le_add_right _ _ | (simp <;> omega)) _ | refine below_drewN ?_ _))⟩
set_option maxRecDepth 100000 in
set_option maxHeartbeats 1000000 in
theorem capped_c (x n p : Int) (k : Nat) (bn bk bp : Nat) (w : World) (hx : 0 ≤ x) (hp : 2 ≤ p) (hn1 : 1 ≤ n) (hn2 : n ≤ 1000000000)
    (cn : w.cell? ⟨bn, 0, none⟩ = some (.int .i64 n)) (ck : w.cell? ⟨bk, 0, none⟩ = some (.int .i64 k)) (cp : w.cell? ⟨bp, 0, none⟩ = some (.int .i64 p)) :
    Calls Tryz.prog 150 #[.int .i64 x, .pointer (some ⟨bn, 0, none⟩), .pointer (some ⟨bk, 0, none⟩), .pointer (some ⟨bp, 0, none⟩)] w fun e' w' => e' = .returned (.int .i64 (M.ofn (x % n) p k)) ∧ Below w.heap.size w w' := by
  have e1 : x.tmod n = x % n := Int.tmod_eq_emod_of_nonneg hx
  have x0 := Int.emod_nonneg x (show n ≠ 0 by omega)
  have x1 := Int.emod_lt_of_pos x (show 0 < n by omega)
  have hn0 : ¬ n = 0 := by omega
  unfold M.ofn
  generalize x % n = y at *
  by_cases hy : y = 0
  · rw [if_pos hy]
    subst hy
    go_enter Tryz.func150, Tryz.ntmps150
    go_wp2
    go_ret
    exact ⟨rfl, Below.refl _ _⟩
  · rw [if_neg hy]
    have P := fun W => valuation_c y p W hy hp (by omega) (by omega)
    generalize M.valn y p = v at *
    have P := Lib.hid P
    go_enter Tryz.func150, Tryz.ntmps150
    go_upto_region 3 with fail
    refine Rg.walk [.is (.int .i64 x), .is (.int .i64 n), .is (.int .i64 y), .is (.int .i64 p), .is (.int .i64 v), .is (.int .i64 v)] (by kernel_rfl) (by kernel_rfl) ⟨?_, ?_, ?_, ?_, ?_, ?_, trivial⟩ ?_
    · intro a w_ hB hr
      have e0 : a.tmps[0]? = some (.int .i64 x) := hr 0 (by decide)
      exact Rg.pure1 rfl (by first | (go_simp; done) | (go_simp; exact Rg.wr (by omega) (by omega)))
    · intro a w_ hB hr
      have e1 : a.tmps[1]? = some (.pointer (some ⟨bn, 0, none⟩)) := hr 1 (by decide)
      have k0 := keepCell hB cn
      exact Rg.pure1 rfl (by first | (go_simp; done) | (go_simp; exact Rg.wr (by omega) (by omega)))
    · intro a w_ hB hr
      have e11 : a.tmps[11]? = some (.int .i64 x) := Rg.ev1 (hr 11 (by decide))
      have e12 : a.tmps[12]? = some (.int .i64 n) := Rg.ev1 (hr 12 (by decide))
      exact Rg.pure1 rfl (by first | (go_simp; done) | (go_simp; exact Rg.wr (by omega) (by omega)))
    · intro a w_ hB hr
      have e3 : a.tmps[3]? = some (.pointer (some ⟨bp, 0, none⟩)) := hr 3 (by decide)
      have k0 := keepCell hB cp
      exact Rg.pure1 rfl (by first | (go_simp; done) | (go_simp; exact Rg.wr (by omega) (by omega)))
    · intro a w_ hB hr
      have e13 : a.tmps[13]? = some (.int .i64 y) := Rg.ev1 (hr 13 (by decide))
      have e14 : a.tmps[14]? = some (.int .i64 p) := Rg.ev1 (hr 14 (by decide))
      have ef : ∀ f, a.eval (.func f) = .func (.func f) #[] #[] := fun _ => rfl
      refine Rg.call1 rfl (by go_simp; exact ⟨rfl, rfl⟩) ?_
      refine (P.out _).mono ?_
      rintro _ _ ⟨rfl, rfl⟩
      exact ⟨_, rfl, rfl, Below.refl _ _⟩
    · intro a w_ hB hr
      have e15 : a.tmps[15]? = some (.int .i64 v) := Rg.ev1 (hr 15 (by decide))
      exact Rg.pure1 rfl (by first | (go_simp; done) | (go_simp; exact Rg.wr (by omega) (by omega)))
    · intro vals wz hB hv
      have v0 : vals 0 = .int .i64 x := hv 0 (by decide)
      have v1 : vals 1 = .int .i64 n := hv 1 (by decide)
      have v2 : vals 2 = .int .i64 y := hv 2 (by decide)
      have v3 : vals 3 = .int .i64 p := hv 3 (by decide)
      have v4 : vals 4 = .int .i64 v := hv 4 (by decide)
      have v5 : vals 5 = .int .i64 v := hv 5 (by decide)
      simp only [Rg.fill, if_true, Act.put, List.setIfInBounds_toArray, List.set_cons_zero, List.set_cons_succ, Nat.zero_add, Nat.reduceAdd, v0, v1, v2, v3, v4, v5]
      clear hv v0 v1 v2 v3 v4 v5
      go_wp2
      go_ret
      exact ⟨rfl, by have h_ := hB; exact (by repeat (first | exact Below.refl _ _ | refine below_alloc ?_ _ | refine below_step ?_ (by assumption) | refine Below.drew ?_ | refine Below.setCell ?_ (by first | exact Nat.le_refl _ | exact Nat.le_add_right _ _ | (simp <;> omega)) _ | refine below_drewN ?_ _))⟩
end Go.Proofs.YtgkjmjlkhnfbiaaGreat
