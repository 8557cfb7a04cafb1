/-
  Joined texts: contracts and plain laws.
-/
import Derived.Test.YtgkjmjlkhnfbiaaGreatB4
import Derived.Test.YtgkjmjlkhnfbiaaGreatB3
import Derived.Orders
import Derived.Test.YtgkjmjlkhnfbiaaGreatB1
import Derived.Deep.DeepCutAuto
import Derived.WalkKit
namespace Go.Proofs.YtgkjmjlkhnfbiaaGreat
set_option linter.unusedSimpArgs false
set_option linter.unusedVariables false
open Go.RowKit
theorem intPowerB_c (p : Int) (k : Nat) (w : World) (p1 : 1 ≤ p) (hb : M.ipow p k ≤ 4000000000000000000) (hk : k ≤ 1000) :
    Calls Tryz.prog 149 #[.int .i64 p, .int .i64 k] w fun e w' => e = .returned (.int .i64 (M.ipow p k)) ∧ w = w' := by
  go_enter Tryz.func149, Tryz.ntmps149
  go_wp2
  go_loop [5, 7] (fun vo vi => ∃ j : Nat, j ≤ k ∧ vi = .int .i64 j ∧ vo = .int .i64 (M.ipow p j)) (fun _ vi => (k - (intOf vi).toNat))
  case atStart => exact ⟨0, by omega, rfl, rfl⟩
  case round =>
    obtain ⟨j, hj, rfl, rfl⟩ := hrel
    by_cases hlt : j < k
    · have h1 := M.ipow_pos p1 j
      have h2 := M.ipow_mono p1 (show j + 1 ≤ k from hlt)
      have h3 : M.ipow p j * p ≤ 4000000000000000000 := Int.le_trans h2 hb
      have h4 : 0 ≤ M.ipow p j * p := Int.mul_nonneg (by omega) (by omega)
      go_wp2
      go_round
      case rel => exact ⟨j + 1, by omega, by go_num, rfl⟩
      case measure => simp [intOf]; omega
    · obtain rfl : j = k := by omega
      go_wp2
      go_ret
      exact ⟨rfl, rfl⟩
theorem loPowerB_c (p : Int) (k : Nat) (w : World) (p1 : 1 ≤ p) (hb : M.ipow p k ≤ 4000000000000000000) (hk : k ≤ 1000) :
    Calls Tryz.prog 179 #[.int .i64 p, .int .i64 k] w fun e w' => e = .returned (.int .i64 (M.ipow p k)) ∧ w = w' := by
  go_enter Tryz.func179, Tryz.ntmps179
  go_wp2
  go_loop [1, 5] (fun vi vo => ∃ j : Nat, j ≤ k ∧ vi = .int .i64 ((k : Int) - j) ∧ vo = .int .i64 (M.ipow p j)) (fun vi _ => (intOf vi).toNat)
  case atStart => exact ⟨0, by omega, by simp, rfl⟩
  case round =>
    obtain ⟨j, hj, rfl, rfl⟩ := hrel
    by_cases hlt : j < k
    · have h1 := M.ipow_pos p1 j
      have h2 := M.ipow_mono p1 (show j + 1 ≤ k from hlt)
      have h3 : M.ipow p j * p ≤ 4000000000000000000 := Int.le_trans h2 hb
      have h4 : 0 ≤ M.ipow p j * p := Int.mul_nonneg (by omega) (by omega)
      have h5 : 0 < (k : Int) - (j : Int) := by omega
      go_wp2
      go_round
      case rel => exact ⟨j + 1, by omega, by congr 1; omega, rfl⟩
      case measure => simp [intOf]; omega
    · obtain rfl : j = k := by omega
      have h5 : ¬ (0 < (j : Int) - (j : Int)) := by omega
      go_wp2
      go_ret
      exact ⟨rfl, rfl⟩
theorem depth_c (p : Int) (d : Nat) (w : World) (p1 : 2 ≤ p) (p2 : p ≤ 1000) (h : M.IsDep p d) (hd : d ≤ 29) :
    Calls Tryz.prog 132 #[.int .i64 p] w fun e w' => e = .returned (.int .i64 d) ∧ w = w' := by
  have hi := fun j => h.iff (j := j) (by omega)
  go_enter Tryz.func132, Tryz.ntmps132
  go_wp2
  go_loop [3, 4] (fun vk vn => ∃ j : Nat, j ≤ d ∧ vk = .int .i64 j ∧ vn = .int .i64 (M.ipow p (j + 1))) (fun vk _ => (29 - (intOf vk).toNat))
  case atStart => exact ⟨0, by omega, rfl, by simp [M.ipow]⟩
  case round =>
    obtain ⟨j, hj, rfl, rfl⟩ := hrel
    have h1 := M.ipow_pos (show 1 ≤ p by omega) (j + 1)
    by_cases hlt : j < d
    · have h2 := (hi (j + 1)).2 hlt
      have h3 := M.mul_nn (x := M.ipow p (j + 1)) (y := p) (m := 1000000000) (n := 1000) (by omega) h2 (by omega) p2
      clear hi
      go_wp2
      go_round
      case rel => exact ⟨j + 1, by omega, by go_num, rfl⟩
      case measure => simp [intOf]; omega
    · obtain rfl : j = d := by omega
      have h2 : ¬ (M.ipow p (j + 1) ≤ 1000000000) := by have := h.2; omega
      clear hi
      go_wp2
      go_ret
      exact ⟨rfl, rfl⟩
theorem loDepth_c (p : Int) (d : Nat) (w : World) (p1 : 2 ≤ p) (p2 : p ≤ 1000) (h : M.IsDep p d) (hd : d ≤ 29) :
    Calls Tryz.prog 166 #[.int .i64 p] w fun e w' => e = .returned (.int .i64 d) ∧ w = w' := by
  have hi := fun j => h.iff (j := j) (by omega)
  have hq := fun x : Int => Int.le_ediv_iff_mul_le (a := x) (b := 1000000000) (c := p) (by omega)
  have hg0 : 0 ≤ 1000000000 / p := Int.ediv_nonneg (by omega) (by omega)
  go_enter Tryz.func166, Tryz.ntmps166
  go_wp2
  go_loop [3, 4] (fun vk vn => ∃ j : Nat, j ≤ d ∧ vk = .int .i64 j ∧ vn = .int .i64 (M.ipow p j)) (fun vk _ => (29 - (intOf vk).toNat))
  case atStart => exact ⟨0, by omega, rfl, by simp [M.ipow]⟩
  case round =>
    obtain ⟨j, hj, rfl, rfl⟩ := hrel
    have h1 := M.ipow_pos (show 1 ≤ p by omega) j
    by_cases hlt : j < d
    · have h2 := (hi (j + 1)).2 hlt
      have h2' : M.ipow p j ≤ 1000000000 / p := (hq _).2 h2
      have h2'' : M.ipow p j ≤ 1000000000 := (hi j).2 (by omega)
      have h3 := M.mul_nn (x := M.ipow p j) (y := p) (m := 1000000000) (n := 1000) (by omega) h2'' (by omega) p2
      clear hi hq
      go_wp2
      go_round
      case rel => exact ⟨j + 1, by omega, by go_num, rfl⟩
      case measure => simp [intOf]; omega
    · obtain rfl : j = d := by omega
      have h2 : ¬ (M.ipow p j ≤ 1000000000 / p) := by
        rw [hq]
        have := h.2
        simp only [M.ipow] at this
        omega
      clear hi hq
      go_wp2
      go_ret
      exact ⟨rfl, rfl⟩
theorem mdValuation_c (a p : Int) (w : World) (ha : a ≠ 0) (h1 : 2 ≤ p) (h2 : -4000000000000000000 ≤ a) (h3 : a ≤ 4000000000000000000) :
    Calls Tryz.prog 146 #[.int .i64 a, .int .i64 p] w fun e w' => e = .returned (.int .i64 (M.valn a p)) ∧ w = w' := by
  go_enter Tryz.func146, Tryz.ntmps146
  go_wp2
  go_loop [0, 5] (fun va vn => ∃ x n : Int, ∃ f : Nat, va = .int .i64 x ∧ vn = .int .i64 n ∧ x ≠ 0 ∧ x.natAbs ≤ 4000000000000000000 ∧ x.natAbs ≤ f ∧ f ≤ 4000000000000000000 ∧ 0 ≤ n ∧ n + f ≤ 4000000000000000000 ∧ n + M.valF p f x = M.valn a p) (fun va _ => (intOf va).natAbs)
  case atStart => exact ⟨a, 0, a.natAbs, rfl, rfl, ha, by omega, by omega, by omega, by omega, by omega, by simp [M.valn]⟩
  case round =>
    obtain ⟨x, n, f, rfl, rfl, hx, hx2, hf, hf2, hn, hnf, hv⟩ := hrel
    have Hv := Lib.hid hv
    clear hv
    by_cases hd : x % p = 0
    · have hlt := M.abs_div h1 hx hd
      have e1 := M.tmod_zero.2 hd
      have e2 := M.tdiv_exact (by omega) hd
      have hs := Lib.hid (M.valF_step h1 hx hf hd)
      have hd' := Lib.hid hd
      clear hd
      go_wp2
      go_round
      case rel => exact ⟨x / p, n + 1, f - 1, rfl, rfl, hlt.2, by omega, by omega, by omega, by omega, by omega, by rw [← Hv.out, hs.out]; omega⟩
      case measure => simp [intOf]; omega
    · have e1 : ¬ x.tmod p = 0 := fun h => hd (M.tmod_zero.1 h)
      have hs := Lib.hid (M.valF_stop (f := f) hd)
      go_wp2
      go_ret; exact ⟨ret_i (by rw [← Hv.out, hs.out]; omega), rfl⟩
theorem l1Least_c (a b : Int) (w : World) :
    Calls Tryz.prog 184 #[.int .i64 a, .int .i64 b] w fun e w' => e = .returned (.int .i64 (min a b)) ∧ w = w' := by
  by_cases h : a < b
  · have h2 : min a b = a := by omega
    rw [h2]
    go_enter Tryz.func184, Tryz.ntmps184
    go_wp2
    go_ret; exact ⟨rfl, rfl⟩
  · have h2 : min a b = b := by omega
    rw [h2]
    go_enter Tryz.func184, Tryz.ntmps184
    go_wp2
    go_ret; exact ⟨rfl, rfl⟩
theorem loOften_c (x p : Int) (k : Nat) (w : World) (hp : 2 ≤ p) (h0 : 0 ≤ x) (h1 : x < M.ipow p k) (h2 : x ≤ 1000000000) :
    Calls Tryz.prog 185 #[.int .i64 x, .int .i64 p, .int .i64 k] w fun e w' => e = .returned (.int .i64 (M.ofn x p k)) ∧ w = w' := by
  unfold M.ofn
  by_cases hx : x = 0
  · rw [if_pos hx]
    go_enter Tryz.func185, Tryz.ntmps185
    go_wp2
    go_ret; exact ⟨rfl, rfl⟩
  · rw [if_neg hx]
    have hv := (M.valn_res hp hx h0 h1).2.1
    have hm : min (k : Int) (M.valn x p) = M.valn x p := by omega
    have T := fun W => l1Least_c (k : Int) (M.valn x p) W
    rw [hm] at T
    have U := fun W => mdValuation_c x p W hx hp (by omega) (by omega)
    have T := Lib.hid T
    have U := Lib.hid U
    clear hm hv
    go_enter Tryz.func185, Tryz.ntmps185
    go_wp2_with (first | (go_at_call 146; (with_reducible refine (U.out _).mono ?_); rintro e w' ⟨rfl, rfl⟩) | (go_at_call 184; (with_reducible refine (T.out _).mono ?_); rintro e w' ⟨rfl, rfl⟩))
    go_ret; exact ⟨rfl, rfl⟩
set_option maxHeartbeats 1000000 in
theorem squareModulo_c (n p : Int) (k : Nat) (w : World) (hp : 2 ≤ p) (hp2 : p ≤ 1000) (hk : M.ipow p k ≤ 1000000000) (hk2 : k ≤ 29) (hk1 : 1 ≤ k) :
    Calls Tryz.prog 168 #[.int .i64 n, .int .i64 p, .int .i64 k] w fun e w' => e = .returned (.bool (M.sqm (n % M.ipow p k) p k)) ∧ ∃ m, w' = w.drewN m := by
  have hq1 := M.ipow_pos (show 1 ≤ p by omega) k
  have P1 := fun W => intPowerB_c p k W (by omega) (by omega) (by omega)
  have P2 := fun W => modulo_c n (M.ipow p k) W hq1 (by omega)
  have x0 := Int.emod_nonneg n (show M.ipow p k ≠ 0 by omega)
  have x1 := Int.emod_lt_of_pos n (show 0 < M.ipow p k by omega)
  generalize hx : n % M.ipow p k = x at *
  have P1 := Lib.hid P1
  have P2 := Lib.hid P2
  clear hx
  unfold M.sqm
  by_cases hx : x = 0
  · rw [if_pos hx]
    subst hx
    go_enter Tryz.func168, Tryz.ntmps168
    go_wp2_with (first | (go_at_call 149; (with_reducible refine (P1.out _).mono ?_); rintro e w' ⟨rfl, rfl⟩) | (go_at_call 169; (with_reducible refine (P2.out _).mono ?_); rintro e w' ⟨rfl, rfl⟩))
    go_ret; exact ⟨rfl, 0, rfl⟩
  rw [if_neg hx]
  obtain ⟨v0, v1, v2, v3, v4, v5, v6⟩ := M.valn_res hp hx x0 x1
  have P3 := fun W => valuation_c x p W hx hp (by omega) (by omega)
  generalize hvv : M.valn x p = v at *
  obtain ⟨v', rfl⟩ : ∃ v' : Nat, v = v' := ⟨v.toNat, by omega⟩
  rw [Int.toNat_natCast] at *
  have P4 := fun W => intPowerB_c p v' W (by omega) (by omega) (by omega)
  have P5 := fun W => symbol_c (x / M.ipow p v') p W (by omega) (by omega)
  have hd : x.tdiv (M.ipow p v') = x / M.ipow p v' := Int.tdiv_eq_ediv_of_nonneg x0
  have P3 := Lib.hid P3
  have P4 := Lib.hid P4
  clear hvv
  generalize x / M.ipow p v' = u at *
  generalize hQ : M.ipow p v' = Q at *
  have hQ2 := Lib.hid hQ
  clear hQ
  by_cases c1 : (v' : Int) % 2 = 1
  · rw [if_pos c1]
    have e1 : (v' : Int).tmod 2 = 1 := by rw [Int.tmod_eq_emod_of_nonneg v0]; omega
    clear P5
    go_enter Tryz.func168, Tryz.ntmps168
    go_wp2_with (first | (go_at_call 149; (with_reducible refine (P1.out _).mono ?_); rintro e w' ⟨rfl, rfl⟩) | (go_at_call 169; (with_reducible refine (P2.out _).mono ?_); rintro e w' ⟨rfl, rfl⟩) | (go_at_call 135; (with_reducible refine (P3.out _).mono ?_); rintro e w' ⟨rfl, rfl⟩) | (go_at_call 149; (with_reducible refine (P4.out _).mono ?_); rintro e w' ⟨rfl, rfl⟩))
    go_ret; exact ⟨rfl, 0, rfl⟩
  rw [if_neg c1]
  have e1 : ¬ (v' : Int).tmod 2 = 1 := by rw [Int.tmod_eq_emod_of_nonneg v0]; omega
  by_cases c2 : 2 < p
  · rw [if_pos c2]
    generalize M.symb u p = s at *
    have P5 := Lib.hid P5
    go_enter Tryz.func168, Tryz.ntmps168
    go_wp2_with (first | (go_at_call 149; (with_reducible refine (P1.out _).mono ?_); rintro e w' ⟨rfl, rfl⟩) | (go_at_call 169; (with_reducible refine (P2.out _).mono ?_); rintro e w' ⟨rfl, rfl⟩) | (go_at_call 135; (with_reducible refine (P3.out _).mono ?_); rintro e w' ⟨rfl, rfl⟩) | (go_at_call 149; (with_reducible refine (P4.out _).mono ?_); rintro e w' ⟨rfl, rfl⟩) | (go_at_call 180; refine (P5.out _).mono ?_; rintro e w' ⟨rfl, mq, rfl⟩))
    go_ret; exact ⟨ret_b (by simp), mq, rfl⟩
  rw [if_neg c2]
  clear P5
  by_cases c3 : (k : Int) - (v' : Int) = 1
  · rw [if_pos c3]
    go_enter Tryz.func168, Tryz.ntmps168
    go_wp2_with (first | (go_at_call 149; (with_reducible refine (P1.out _).mono ?_); rintro e w' ⟨rfl, rfl⟩) | (go_at_call 169; (with_reducible refine (P2.out _).mono ?_); rintro e w' ⟨rfl, rfl⟩) | (go_at_call 135; (with_reducible refine (P3.out _).mono ?_); rintro e w' ⟨rfl, rfl⟩) | (go_at_call 149; (with_reducible refine (P4.out _).mono ?_); rintro e w' ⟨rfl, rfl⟩))
    go_ret; exact ⟨rfl, 0, rfl⟩
  rw [if_neg c3]
  by_cases c4 : (k : Int) - (v' : Int) = 2
  · rw [if_pos c4]
    have e2 : u.tmod 4 = u % 4 := Int.tmod_eq_emod_of_nonneg v5
    go_enter Tryz.func168, Tryz.ntmps168
    go_wp2_with (first | (go_at_call 149; (with_reducible refine (P1.out _).mono ?_); rintro e w' ⟨rfl, rfl⟩) | (go_at_call 169; (with_reducible refine (P2.out _).mono ?_); rintro e w' ⟨rfl, rfl⟩) | (go_at_call 135; (with_reducible refine (P3.out _).mono ?_); rintro e w' ⟨rfl, rfl⟩) | (go_at_call 149; (with_reducible refine (P4.out _).mono ?_); rintro e w' ⟨rfl, rfl⟩))
    go_ret; exact ⟨ret_b (by simp), 0, rfl⟩
  · rw [if_neg c4]
    have e2 : u.tmod 8 = u % 8 := Int.tmod_eq_emod_of_nonneg v5
    go_enter Tryz.func168, Tryz.ntmps168
    go_wp2_with (first | (go_at_call 149; (with_reducible refine (P1.out _).mono ?_); rintro e w' ⟨rfl, rfl⟩) | (go_at_call 169; (with_reducible refine (P2.out _).mono ?_); rintro e w' ⟨rfl, rfl⟩) | (go_at_call 135; (with_reducible refine (P3.out _).mono ?_); rintro e w' ⟨rfl, rfl⟩) | (go_at_call 149; (with_reducible refine (P4.out _).mono ?_); rintro e w' ⟨rfl, rfl⟩))
    go_ret; exact ⟨ret_b (by simp), 0, rfl⟩
set_option maxHeartbeats 1000000 in
theorem loSquare_c (x p : Int) (k : Nat) (w : World) (hpr : M.prime p = true) (hp : 2 ≤ p) (hp2 : p ≤ 997) (x0 : 0 ≤ x) (x1 : x < M.ipow p k) (hk : M.ipow p k ≤ 1000000000) (hk2 : k ≤ 29) :
    Calls Tryz.prog 183 #[.int .i64 x, .int .i64 p, .int .i64 k] w fun e w' => e = .returned (.bool (M.sqm x p k)) ∧ w = w' := by
  have P1 := fun W => loOften_c x p k W hp x0 x1 (by omega)
  unfold M.sqm
  unfold M.ofn at P1
  by_cases hx : x = 0
  · rw [if_pos hx]
    subst hx
    simp only [if_true] at P1
    have P1 := Lib.hid P1
    go_enter Tryz.func183, Tryz.ntmps183
    go_wp2_with (first | (go_at_call 185; (with_reducible refine (P1.out _).mono ?_); rintro e w' ⟨rfl, rfl⟩))
    go_ret; exact ⟨rfl, rfl⟩
  rw [if_neg hx]
  simp only [if_neg hx] at P1
  obtain ⟨v0, v1, v2, v3, v4, v5, v6⟩ := M.valn_res hp hx x0 x1
  generalize hvv : M.valn x p = v at *
  obtain ⟨v', rfl⟩ : ∃ v' : Nat, v = v' := ⟨v.toNat, by omega⟩
  rw [Int.toNat_natCast] at *
  have P4 := fun W => loPowerB_c p v' W (by omega) (by omega) (by omega)
  have hd : x.tdiv (M.ipow p v') = x / M.ipow p v' := Int.tdiv_eq_ediv_of_nonneg x0
  have P1 := Lib.hid P1
  have P4 := Lib.hid P4
  have hne : ¬ (v' : Int) = (k : Int) := by omega
  clear hvv
  generalize x / M.ipow p v' = u at *
  generalize hQ : M.ipow p v' = Q at *
  have hQ2 := Lib.hid hQ
  clear hQ
  by_cases c1 : (v' : Int) % 2 = 1
  · rw [if_pos c1]
    have e1 : ¬ (v' : Int).tmod 2 = 0 := by rw [Int.tmod_eq_emod_of_nonneg v0]; omega
    go_enter Tryz.func183, Tryz.ntmps183
    go_wp2_with (first | (go_at_call 185; (with_reducible refine (P1.out _).mono ?_); rintro e w' ⟨rfl, rfl⟩) | (go_at_call 179; (with_reducible refine (P4.out _).mono ?_); rintro e w' ⟨rfl, rfl⟩))
    go_ret; exact ⟨rfl, rfl⟩
  rw [if_neg c1]
  have e1 : (v' : Int).tmod 2 = 0 := by rw [Int.tmod_eq_emod_of_nonneg v0]; omega
  by_cases c2 : 2 < p
  · rw [if_pos c2]
    have P5 := fun W => mdSymbol_c u p W hpr (by omega) hp2
    generalize M.symb u p = s at *
    have P5 := Lib.hid P5
    go_enter Tryz.func183, Tryz.ntmps183
    go_wp2_with (first | (go_at_call 185; (with_reducible refine (P1.out _).mono ?_); rintro e w' ⟨rfl, rfl⟩) | (go_at_call 179; (with_reducible refine (P4.out _).mono ?_); rintro e w' ⟨rfl, rfl⟩) | (go_at_call 188; (with_reducible refine (P5.out _).mono ?_); rintro e w' ⟨rfl, rfl⟩))
    go_ret; exact ⟨ret_b (by simp), rfl⟩
  rw [if_neg c2]
  obtain rfl : p = 2 := by omega
  have fin : ∀ (j : Nat) (m : Int), min (3 : Int) ((k : Int) - v') = j → M.ipow 2 j = m → 1 ≤ m → m ≤ 8 → ∀ w : World, Calls Tryz.prog 183 #[.int .i64 x, .int .i64 2, .int .i64 k] w fun e w' => e = .returned (.bool (u % m == 1)) ∧ w = w' := by
    intro j m hj hm m1 m8 w
    have P6 := fun W => l1Least_c 3 ((k : Int) - v') W
    rw [hj] at P6
    have P7 := fun W => loPowerB_c 2 j W (by omega) (by omega) (by omega)
    rw [hm] at P7
    have e2 : u.tmod m = u % m := Int.tmod_eq_emod_of_nonneg v5
    have P6 := Lib.hid P6
    have P7 := Lib.hid P7
    clear hj hm
    go_enter Tryz.func183, Tryz.ntmps183
    go_wp2_with (first | (go_at_call 185; (with_reducible refine (P1.out _).mono ?_); rintro e w' ⟨rfl, rfl⟩) | (go_at_call 179; (with_reducible refine (P4.out _).mono ?_); rintro e w' ⟨rfl, rfl⟩) | (go_at_call 184; (with_reducible refine (P6.out _).mono ?_); rintro e w' ⟨rfl, rfl⟩) | (go_at_call 179; (with_reducible refine (P7.out _).mono ?_); rintro e w' ⟨rfl, rfl⟩))
    go_ret; exact ⟨ret_b (by simp), rfl⟩
  by_cases c3 : (k : Int) - (v' : Int) = 1
  · rw [if_pos c3]
    refine (fin 1 2 (by omega) rfl (by omega) (by omega) w).mono ?_
    rintro e w' ⟨rfl, rfl⟩
    exact ⟨ret_b (by simp; omega), rfl⟩
  rw [if_neg c3]
  by_cases c4 : (k : Int) - (v' : Int) = 2
  · rw [if_pos c4]
    exact fin 2 4 (by omega) rfl (by omega) (by omega) w
  · rw [if_neg c4]
    exact fin 3 8 (by omega) rfl (by omega) (by omega) w
end Go.Proofs.YtgkjmjlkhnfbiaaGreat

namespace Go.Proofs.YtgkjmjlkhnfbiaaGreat
set_option linter.unusedSimpArgs false
set_option linter.unusedVariables false
open Go
namespace Rg
variable {P : Program} {Q : Exit → Act → World → Prop} {md : Region.Mode}
/-- the operations that have come up, their values laid -/
def fill (l : Nat → Bool) (vals : Nat → Value) : List Oper → Nat → Act → Act
  | [], _, a => a
  | o :: os, k, a => fill l vals os (k + 1) (if l k then a.put o.dst (vals k) else a)
/-- two operations lay their values in different slots -/
def sep (o x : Oper) : Bool := match o.dst with | some d => x.dst != some d | none => true
/-- no two lay their values in one slot -/
def apart : List Oper → Bool
  | [] => true
  | o :: os => os.all (sep o) && apart os
theorem fill_congr {l l' : Nat → Bool} {v v' : Nat → Value} : ∀ (os : List Oper) (k : Nat) (a : Act), (∀ j, k ≤ j → j < k + os.length → l j = l' j) → (∀ j, k ≤ j → l j = true → v j = v' j) → fill l v os k a = fill l' v' os k a
  | [], _, _, _, _ => rfl
  | o :: os, k, a, h1, h2 => by
    unfold fill
    rw [← h1 k (Nat.le_refl _) (by simp)]
    cases hl : l k
    · simp only [Bool.false_eq_true, if_false]
      exact fill_congr os (k + 1) a (fun j hj hj2 => h1 j (by omega) (by simp; omega)) (fun j hj => h2 j (by omega))
    · simp only [if_true]
      rw [h2 k (Nat.le_refl _) hl]
      exact fill_congr os (k + 1) _ (fun j hj hj2 => h1 j (by omega) (by simp; omega)) (fun j hj => h2 j (by omega))
theorem fill_put {l : Nat → Bool} {v : Nat → Value} {d : Option Tmp} {u : Value} : ∀ (os : List Oper) (k : Nat) (a : Act), (∀ x ∈ os, ∀ t, d = some t → x.dst ≠ some t) → (fill l v os k a).put d u = fill l v os k (a.put d u)
  | [], _, _, _ => rfl
  | o :: os, k, a, h => by
    unfold fill
    rw [fill_put os (k + 1) _ (fun x hx => h x (List.mem_cons_of_mem _ hx))]
    congr 1
    split
    · exact (Act.put_comm a u (v k) (h o (List.mem_cons_self ..))).symm
    · rfl
theorem fill_add {l : Nat → Bool} {v : Nat → Value} {u : Value} : ∀ (os : List Oper) (k i : Nat) (o : Oper) (a : Act), apart os = true → os[i]? = some o → l (k + i) = false →
    (fill l v os k a).put o.dst u = fill (fun j => if j = k + i then true else l j) (fun j => if j = k + i then u else v j) os k a
  | [], _, _, _, _, _, h, _ => by simp at h
  | x :: os, k, 0, o, a, ha, h, hl => by
    simp only [List.getElem?_cons_zero, Option.some.injEq] at h
    subst h
    rw [apart, Bool.and_eq_true] at ha
    have hs : ∀ y ∈ os, ∀ t, x.dst = some t → y.dst ≠ some t := fun y hy t ht => by
      have := List.all_eq_true.1 ha.1 y hy
      rw [sep, ht] at this
      simpa using this
    unfold fill
    rw [Nat.add_zero] at hl ⊢
    rw [fill_put os (k + 1) _ hs, if_neg (by simp [hl])]
    have e : (if (if k = k then true else l k) = true then a.put x.dst (if k = k then u else v k) else a) = a.put x.dst u := by simp
    show _ = fill _ _ os (k + 1) (if (if k = k then true else l k) = true then a.put x.dst (if k = k then u else v k) else a)
    rw [e]
    exact fill_congr os (k + 1) _ (fun j hj _ => by rw [if_neg (by omega)]) (fun j hj _ => by rw [if_neg (by omega)])
  | x :: os, k, i + 1, o, a, ha, h, hl => by
    rw [apart, Bool.and_eq_true] at ha
    rw [show k + (i + 1) = k + 1 + i from by omega] at hl ⊢
    unfold fill
    rw [fill_add os (k + 1) i o _ ha.2 (by simpa using h) hl]
    congr 1
    rw [if_neg (show ¬ k = k + 1 + i by omega), if_neg (show ¬ k = k + 1 + i by omega)]
theorem put_size (a : Act) (d : Option Tmp) (v : Value) : (a.put d v).tmps.size = a.tmps.size := by
  cases d <;> simp [Act.put]
theorem put_get {a : Act} {d : Option Tmp} {v : Value} {t : Nat} (h : d ≠ some t) : (a.put d v).tmps[t]? = a.tmps[t]? := by
  cases d with
  | none => rfl
  | some d => simp only [Act.put]; rw [Array.getElem?_setIfInBounds_ne (by intro e; exact h (by rw [e]))]
theorem put_get_self {a : Act} {v : Value} {t : Nat} (h : t < a.tmps.size) : (a.put (some t) v).tmps[t]? = some v := by
  simp [Act.put, h]
theorem fill_size {l : Nat → Bool} {v : Nat → Value} : ∀ (os : List Oper) (k : Nat) (a : Act), (fill l v os k a).tmps.size = a.tmps.size
  | [], _, _ => rfl
  | o :: os, k, a => by
    unfold fill
    rw [fill_size os (k + 1)]
    split
    · exact put_size a _ _
    · rfl
theorem fill_other {l : Nat → Bool} {v : Nat → Value} {t : Nat} : ∀ (os : List Oper) (k : Nat) (a : Act), (∀ i o, os[i]? = some o → l (k + i) = true → o.dst ≠ some t) → (fill l v os k a).tmps[t]? = a.tmps[t]?
  | [], _, _, _ => rfl
  | o :: os, k, a, h => by
    unfold fill
    rw [fill_other os (k + 1) _ (fun i x hx hl => h (i + 1) x (by simpa using hx) (by rw [show k + (i + 1) = k + 1 + i from by omega]; exact hl))]
    split
    · rename_i hk
      exact put_get (h 0 o rfl hk)
    · rfl
theorem fill_at {l : Nat → Bool} {v : Nat → Value} {t : Nat} : ∀ (os : List Oper) (k i : Nat) (o : Oper) (a : Act), apart os = true → os[i]? = some o → l (k + i) = true → o.dst = some t → t < a.tmps.size → (fill l v os k a).tmps[t]? = some (v (k + i))
  | [], _, _, _, _, _, h, _, _, _ => by simp at h
  | x :: os, k, 0, o, a, ha, h, hl, hd, ht => by
    simp only [List.getElem?_cons_zero, Option.some.injEq] at h
    subst h
    rw [apart, Bool.and_eq_true] at ha
    unfold fill
    rw [Nat.add_zero] at hl ⊢
    rw [fill_other os (k + 1) _ (fun i y hy _ => by
      have := List.all_eq_true.1 ha.1 y (List.mem_of_getElem? hy)
      rw [sep, hd] at this
      simpa using this), if_pos hl, hd]
    exact put_get_self ht
  | x :: os, k, i + 1, o, a, ha, h, hl, hd, ht => by
    rw [apart, Bool.and_eq_true] at ha
    rw [show k + (i + 1) = k + 1 + i from by omega] at hl ⊢
    unfold fill
    refine fill_at os (k + 1) i o _ ha.2 (by simpa using h) hl hd ?_
    split
    · rw [put_size]; exact ht
    · exact ht
/-- how many have not come up -/
def left (l : Nat → Bool) : Nat → Nat
  | 0 => 0
  | n + 1 => left l n + if l n then 0 else 1
theorem left_same {l l' : Nat → Bool} : ∀ n : Nat, (∀ j, j < n → l j = l' j) → left l n = left l' n
  | 0, _ => rfl
  | n + 1, h => by unfold left; rw [left_same n (fun j hj => h j (by omega)), h n (by omega)]
theorem left_set {l l' : Nat → Bool} {i : Nat} (h0 : l i = false) (h1 : l' i = true) (h2 : ∀ j, j ≠ i → l' j = l j) : ∀ n : Nat, i < n → left l' n + 1 = left l n
  | 0, h => by omega
  | n + 1, h => by
    unfold left
    rcases Nat.lt_or_ge i n with q | q
    · have := left_set h0 h1 h2 n q
      rw [h2 n (by omega)]
      omega
    · obtain rfl : i = n := by omega
      rw [left_same i (l := l') (l' := l) (fun j hj => h2 j (by omega)), h0, h1]
      simp
theorem left_zero {l : Nat → Bool} : ∀ n : Nat, left l n = 0 → ∀ j, j < n → l j = true
  | 0, _, j, hj => by omega
  | n + 1, h, j, hj => by
    unfold left at h
    cases hn : l n
    · rw [hn] at h; simp at h
    · rcases Nat.lt_or_ge j n with q | q
      · exact left_zero n (by omega) j q
      · obtain rfl : j = n := by omega
        exact hn
/-- what a slot holds where an operation looks at it -/
def rd (md : Region.Mode) (ops : Array Oper) (a0 : Act) (vals : Nat → Value) (o : Oper) (t : Nat) : Option Value :=
  match o.after.toList.find? (fun e => Region.binds md e && ((ops[e.on]?).bind (·.dst)) == some t) with
  | some e => some (vals e.on)
  | none => a0.tmps[t]?
/-- whoever writes what an operation looks at comes ahead of it or behind it -/
def reads1 (md : Region.Mode) (ops : Array Oper) (i : Nat) (o : Oper) (t : Nat) : Bool :=
  o.after.toList.any (fun e => Region.binds md e && ((ops[e.on]?).bind (·.dst)) == some t) ||
  (List.range ops.size).all fun j => match ops[j]? with
    | some x => x.dst != some t || j == i || x.after.toList.any (fun e => Region.binds md e && e.on == i)
    | none => true
def okReads (md : Region.Mode) (ops : Array Oper) : Bool := (List.range ops.size).all fun i => match ops[i]? with
  | some o => (o.looksAt ops).all (reads1 md ops i o)
  | none => true
def okOps (md : Region.Mode) (ops : Array Oper) (n : Nat) : Bool :=
  apart ops.toList && okReads md ops && ((List.range ops.size).all fun i => match ops[i]? with
    | some o => o.after.toList.all (fun e => !Region.binds md e || decide (e.on < i)) && (match o.dst with | some d => decide (d < n) | none => true)
    | none => true)
section
variable (P) (Q) (md) (ops : Array Oper) (S : World → Prop) (V : Nat → Value → World → Prop) (a0 : Act)
/-- what is owed for an operation -/
def Step (i : Nat) (o : Oper) (a : Act) (w : World) : Prop :=
  if Region.wanted o (yielded ops a.tmps) = true then o.wp P a w (fun a' w' => ∃ v, a' = a.put o.dst v ∧ V i v w' ∧ S w' ∧ ∀ j u, V j u w → V j u w') Q else V i undef w
def Req (i : Nat) (o : Oper) : Prop := ∀ (a : Act) (w : World) (vals : Nat → Value), S w → (∀ e ∈ o.after, Region.binds md e = true → V e.on (vals e.on) w) → (∀ t ∈ o.looksAt ops, a.tmps[t]? = rd md ops a0 vals o t) → Step P Q ops S V i o a w
def Reqs : List Oper → Nat → Prop
  | [], _ => True
  | o :: os, k => Req P Q md ops S V a0 k o ∧ Reqs os (k + 1)
theorem Reqs.at {os : List Oper} {k : Nat} (h : Reqs P Q md ops S V a0 os k) : ∀ {i : Nat} {o : Oper}, os[i]? = some o → Req P Q md ops S V a0 (k + i) o := by
  induction os generalizing k with
  | nil => intro i o hi; simp at hi
  | cons x os ih =>
    intro i o hi
    cases i with
    | zero =>
      simp only [List.getElem?_cons_zero, Option.some.injEq] at hi
      subst hi
      exact h.1
    | succ i =>
      have := ih h.2 (i := i) (o := o) (by simpa using hi)
      rw [show k + (i + 1) = k + 1 + i from by omega]
      exact this
/-- what holds between two operations -/
def Inv (L : Array Bool) (a : Act) (w : World) : Prop :=
  L.size = ops.size ∧ S w ∧ (∀ i o, ops[i]? = some o → L.getD i false = true → ∀ e ∈ o.after, Region.binds md e = true → L.getD e.on false = true) ∧
  ∃ vals : Nat → Value, a = fill (fun j => L.getD j false) vals ops.toList 0 a0 ∧ ∀ i, i < ops.size → L.getD i false = true → V i (vals i) w
end
theorem wpAny_of {ops : Array Oper} {S : World → Prop} {V : Nat → Value → World → Prop} {a0 : Act} (hok : okOps md ops a0.tmps.size = true)
    (hR : Reqs P Q md ops S V a0 ops.toList 0) (hF : ∀ (vals : Nat → Value) (w : World), S w → (∀ i, i < ops.size → V i (vals i) w) → Q .normal (fill (fun _ => true) vals ops.toList 0 a0) w) :
    ∀ (fuel : Nat) (L : Array Bool) (a : Act) (w : World), left (fun j => L.getD j false) ops.size ≤ fuel → Inv md ops S V a0 L a w → wpAny P md ops Q fuel L a w := by
  rw [okOps, Bool.and_eq_true, Bool.and_eq_true] at hok
  obtain ⟨⟨hap, hrd⟩, hac⟩ := hok
  have hac' : ∀ i o, ops[i]? = some o → (∀ e ∈ o.after, Region.binds md e = true → e.on < i) ∧ ∀ d, o.dst = some d → d < a0.tmps.size := fun i o hi => by
    have hlt : i < ops.size := (Array.getElem?_eq_some_iff.1 hi).1
    have := List.all_eq_true.1 hac i (List.mem_range.2 hlt)
    rw [hi] at this
    simp only [Bool.and_eq_true, List.all_eq_true, Bool.or_eq_true, Bool.not_eq_true', decide_eq_true_eq] at this
    refine ⟨fun e he hb => ?_, fun d hd => ?_⟩
    · rcases this.1 e (Array.mem_toList_iff.2 he) with q | q
      · rw [hb] at q; cases q
      · exact q
    · have := this.2
      rw [hd] at this
      simpa using this
  have htl : ∀ i, ops.toList[i]? = ops[i]? := fun i => Array.getElem?_toList
  -- where nothing is ready all have come up
  have hall : ∀ L : Array Bool, L.size = ops.size → Region.ready md ops L = [] → ∀ i, i < ops.size → L.getD i false = true := by
    intro L hL hr i
    induction i using Nat.strongRecOn with
    | ind i ih =>
      intro hi
      cases hl : L.getD i false
      · exfalso
        have hm : i ∈ Region.ready md ops L := by
          unfold Region.ready
          rw [List.mem_filter]
          refine ⟨List.mem_range.2 hi, ?_⟩
          have hg : L.getD i true = false := by
            rw [Array.getD_eq_getD_getElem?, Array.getElem?_eq_getElem (by omega)] at hl ⊢
            exact hl
          rw [hg, Array.getElem?_eq_getElem hi]
          simp only [Bool.not_false, Bool.true_and, Option.map_some, Option.getD_some]
          rw [Array.all_eq_true_iff_forall_mem]
          intro e he
          cases hb : Region.binds md e
          · rfl
          · have hlt := (hac' i _ (Array.getElem?_eq_getElem hi)).1 e he hb
            simp [ih e.on hlt (by omega)]
        rw [hr] at hm
        cases hm
      · rfl
  have hfin : ∀ (L : Array Bool) (a : Act) (w : World), Inv md ops S V a0 L a w → Region.ready md ops L = [] → Q .normal a w := by
    rintro L a w ⟨hL, hS, -, vals, rfl, hv⟩ hr
    have h := hall L hL hr
    rw [fill_congr (l' := fun _ => true) (v' := vals) ops.toList 0 a0 (fun j _ hj => h j (by simpa using hj)) (fun _ _ _ => rfl)]
    exact hF vals w hS fun i hi => hv i hi (h i hi)
  intro fuel
  induction fuel with
  | zero =>
    intro L a w hl hI
    have hz := left_zero _ (Nat.le_zero.1 hl)
    have hr : Region.ready md ops L = [] := by
      unfold Region.ready
      rw [List.filter_eq_nil_iff]
      intro i hi
      have hi := List.mem_range.1 hi
      have h1 := hz i hi
      have hg : L.getD i true = true := by
        have hsz := hI.1
        simp only [Array.getD_eq_getD_getElem?] at h1 ⊢
        rw [Array.getElem?_eq_getElem (by omega)] at h1 ⊢
        exact h1
      rw [hg]
      simp
    exact ⟨hr, hfin L a w hI hr⟩
  | succ fuel ih =>
    intro L a w hl hI
    refine ⟨hfin L a w hI, fun i hi => ?_⟩
    obtain ⟨hL, hS, hdc, vals, rfl, hv⟩ := hI
    obtain ⟨hun, o, ho, haf⟩ := mem_ready.1 hi
    have hilt : i < ops.size := (Array.getElem?_eq_some_iff.1 ho).1
    have hun' : L.getD i false = false := by
      simp only [Array.getD_eq_getD_getElem?] at hun ⊢
      rw [Array.getElem?_eq_getElem (by omega)] at hun ⊢
      exact hun
    have hq := Reqs.at P Q md ops S V a0 hR (i := i) (o := o) (by rw [htl]; exact ho)
    rw [Nat.zero_add] at hq
    have hst := hq (fill (fun j => L.getD j false) vals ops.toList 0 a0) w vals hS
      (fun e he hb => hv e.on (by have := (hac' i o ho).1 e he hb; omega) (haf e he hb))
      (fun t ht => by
        unfold rd
        have hr1 : reads1 md ops i o t = true := by
          have := List.all_eq_true.1 hrd i (List.mem_range.2 hilt)
          rw [ho] at this
          exact List.all_eq_true.1 this t ht
        cases hf : o.after.toList.find? (fun e => Region.binds md e && ((ops[e.on]?).bind (·.dst)) == some t) with
        | some e =>
          have h1 := List.find?_some hf
          have h2 := List.mem_of_find?_eq_some hf
          rw [Bool.and_eq_true, beq_iff_eq] at h1
          obtain ⟨x, hx, hxd⟩ := Option.bind_eq_some_iff.1 h1.2
          have h3 := haf e (Array.mem_toList_iff.1 h2) h1.1
          have := fill_at (l := fun j => L.getD j false) (v := vals) ops.toList 0 e.on x a0 hap (by rw [htl]; exact hx) (by simpa using h3) hxd ((hac' e.on x hx).2 t hxd)
          rw [Nat.zero_add] at this
          exact this
        | none =>
          refine fill_other ops.toList 0 a0 fun j x hx hlj hxd => ?_
          rw [Nat.zero_add] at hlj
          rw [htl] at hx
          have hjlt : j < ops.size := (Array.getElem?_eq_some_iff.1 hx).1
          rw [reads1, Bool.or_eq_true] at hr1
          rcases hr1 with q | q
          · obtain ⟨e, he, hp⟩ := List.any_eq_true.1 q
            have := List.find?_eq_none.1 hf e he
            exact this hp
          · have := List.all_eq_true.1 q j (List.mem_range.2 hjlt)
            rw [hx] at this
            simp only [Bool.or_eq_true, bne_iff_ne, ne_eq, beq_iff_eq, List.any_eq_true, Bool.and_eq_true] at this
            rcases this with (q1 | q1) | ⟨e, he, hb, hon⟩
            · exact q1 hxd
            · subst q1
              rw [hun'] at hlj
              cases hlj
            · have := hdc j x hx hlj e (Array.mem_toList_iff.1 he) hb
              rw [hon, hun'] at this
              cases this)
    have hnext : ∀ (v : Value) (w' : World), V i v w' → S w' → (∀ j u, V j u w → V j u w') → wpAny P md ops Q fuel (L.setIfInBounds i true) ((fill (fun j => L.getD j false) vals ops.toList 0 a0).put o.dst v) w' := by
      intro v w' h1 h2 h3
      have e1 : ∀ j, (L.setIfInBounds i true).getD j false = if j = i then true else L.getD j false := fun j => by
        simp only [Array.getD_eq_getD_getElem?]
        by_cases hji : j = i
        · subst hji
          rw [Array.getElem?_setIfInBounds_self_of_lt (by omega)]
          simp
        · rw [Array.getElem?_setIfInBounds_ne (fun e => hji e.symm), if_neg hji]
      refine ih _ _ _ ?_ ⟨by simpa using hL, h2, ?_, fun j => if j = i then v else vals j, ?_, ?_⟩
      · have := left_set (l := fun j => L.getD j false) (l' := fun j => (L.setIfInBounds i true).getD j false) hun' (by rw [e1, if_pos rfl]) (fun j hj => by rw [e1, if_neg hj]) ops.size hilt
        omega
      · intro j x hx hlj e he hb
        rw [e1] at hlj ⊢
        split
        · rfl
        · split at hlj
          · rename_i hji
            subst hji
            rw [ho] at hx
            cases hx
            exact haf e he hb
          · exact hdc j x hx hlj e he hb
      · rw [fill_add ops.toList 0 i o a0 hap (by rw [htl]; exact ho) (by simpa using hun')]
        rw [Nat.zero_add]
        exact fill_congr _ _ _ (fun j _ _ => (e1 j).symm) (fun _ _ _ => rfl)
      · intro j hj hlj
        rw [e1] at hlj
        show V j (if j = i then v else vals j) w'
        split
        · rename_i hji
          rw [hji]
          exact h1
        · rename_i hji
          rw [if_neg hji] at hlj
          exact h3 _ _ (hv j hj hlj)
    unfold wpOp
    rw [ho]
    unfold Step at hst
    dsimp only
    split at hst
    · rename_i hw
      rw [if_pos hw]
      refine Or.inl (Oper.wp_mono ?_ hst)
      rintro a' w' ⟨v, rfl, h1, h2, h3⟩
      exact hnext v w' h1 h2 h3
    · rename_i hw
      rw [if_neg hw]
      exact hnext undef w hst hS fun _ _ h => h
/-- **THE BEGINNING** -/
theorem region {id : Nat} {ops : Array Oper} {a0 : Act} {w : World} (S : World → Prop) (V : Nat → Value → World → Prop) (hm : P.follows .mixedOrders = true) (hok : okOps .any ops a0.tmps.size = true)
    (hS : S { w with drawn := w.drawn + 1 }) (hR : Reqs P Q .any ops S V a0 ops.toList 0)
    (hF : ∀ (vals : Nat → Value) (w : World), S w → (∀ i, i < ops.size → V i (vals i) w) → Q .normal (fill (fun _ => true) vals ops.toList 0 a0) w) : (Code.region id ops true).wp P Q a0 w := by
  have rep : ∀ j, (Array.replicate ops.size false).getD j false = false := fun j => by
    rw [Array.getD_eq_getD_getElem?, Array.getElem?_replicate]
    split <;> rfl
  refine wp_region_any hm (wpAny_of hok hR hF _ _ _ _ ?_ ⟨by simp, hS, ?_, fun _ => undef, ?_, ?_⟩)
  · have : ∀ (l : Nat → Bool) n, left l n ≤ n := fun l n => by
      induction n with
      | zero => exact Nat.le_refl _
      | succ n ih => unfold left; split <;> omega
    exact this _ _
  · intro i o hi hl
    rw [rep] at hl
    cases hl
  · have : ∀ (v : Nat → Value) (os : List Oper) (k : Nat) (a : Act), fill (fun _ => false) v os k a = a := fun v os => by
      induction os with
      | nil => intro k a; rfl
      | cons x os ih => intro k a; unfold fill; simp [ih]
    refine (this _ ops.toList 0 a0).symm.trans (fill_congr _ _ _ (fun j _ hj => (rep j).symm) (fun _ _ _ => rfl))
  · intro i hi hl
    rw [rep] at hl
    cases hl
end Rg
end Go.Proofs.YtgkjmjlkhnfbiaaGreat

namespace Go.Proofs.YtgkjmjlkhnfbiaaGreat
set_option linter.unusedSimpArgs false
set_option linter.unusedVariables false
open Go Go.RowKit
namespace Rg
/-- what is told of a value: it is just this one; a slice of these numbers in a block of its own; a number of which this holds -/
inductive Val where
  | is (v : Value)
  | lit (xs : List Int)
  | num (p : Int → Prop)
  | such (p : Value → Prop)
  | at (p : Value → World → Prop)
  | new (B : Nat) (T : TypeId) (xs : Array Value)
/-- a slice of these numbers that can be read -/
def LitOk (v : Value) (xs : List Int) (w : World) : Prop := ∃ b, v = .slice (some ⟨b, 0, none⟩) xs.length xs.length ∧ b < w.heap.size ∧ ∀ (j : Nat) (x : Int), xs[j]? = some x → w.cell? ⟨b, j, none⟩ = some (.int .i64 x)
def Val.ok : Val → Value → World → Prop
  | .is x, v, _ => v = x
  | .lit xs, v, w => LitOk v xs w
  | .num p, v, _ => ∃ x, v = .int .i64 x ∧ p x
  | .such p, v, _ => p v
  | .at p, v, w => ∀ w', Below w.heap.size w w' → p v w'
  | .new B T xs, v, w => ∃ g, B ≤ g ∧ v = .pointer (some ⟨g, 0, none⟩) ∧ w.heap[g]? = some (.cells xs T (0, 0))
theorem Val.keep {w w' : World} (hb : Below w.heap.size w w') : ∀ (T : Val) (v : Value), T.ok v w → T.ok v w'
  | .is _, _, h => h
  | .lit xs, _, ⟨b, h1, h2, h3⟩ => ⟨b, h1, Nat.lt_of_lt_of_le h2 hb.size, fun j x hx => (hb.cell (p := ⟨b, j, none⟩) h2).trans (h3 j x hx)⟩
  | .num _, _, h => h
  | .such _, _, h => h
  | .at _, _, h => fun w'' h2 => h w'' (hb.trans (h2.mono hb.size))
  | .new _ _ _, _, ⟨g, hB, e, h⟩ => ⟨g, hB, e, (hb.block g (Array.getElem?_eq_some_iff.1 h).1).trans h⟩
def tbl (T : List Val) (i : Nat) : Val := T.getD i (.is undef)
variable {P : Program} {Q : Exit → Act → World → Prop}
/-- what an operation may know of a slot that it looks at -/
def Look (ops : Array Oper) (a0 : Act) (T : List Val) (o : Oper) (a : Act) (w : World) (t : Nat) : Prop :=
  match o.after.toList.find? (fun e => Region.binds .any e && ((ops[e.on]?).bind (·.dst)) == some t) with
  | some e => ∃ v, a.tmps[t]? = some v ∧ (tbl T e.on).ok v w
  | none => a.tmps[t]? = a0.tmps[t]?
/-- an operation does its part -/
def Does (P : Program) (ops : Array Oper) (Q : Exit → Act → World → Prop) (V : Val) (o : Oper) (a : Act) (w : World) : Prop :=
  if Region.wanted o (yielded ops a.tmps) = true then o.wp P a w (fun a' w' => ∃ v, a' = a.put o.dst v ∧ V.ok v w' ∧ Below w.heap.size w w') Q else V.ok undef w
def Owed (P : Program) (ops : Array Oper) (Q : Exit → Act → World → Prop) (a0 : Act) (T : List Val) (w1 : World) (i : Nat) (o : Oper) : Prop :=
  ∀ (a : Act) (w : World), Below w1.heap.size w1 w → (∀ t ∈ o.looksAt ops, Look ops a0 T o a w t) → Does P ops Q (tbl T i) o a w
def AllOwed (P : Program) (ops : Array Oper) (Q : Exit → Act → World → Prop) (a0 : Act) (T : List Val) (w1 : World) : List Oper → Nat → Prop
  | [], _ => True
  | o :: os, k => Owed P ops Q a0 T w1 k o ∧ AllOwed P ops Q a0 T w1 os (k + 1)
theorem reqs_of {ops : Array Oper} {a0 : Act} {T : List Val} {w1 : World} : ∀ (os : List Oper) (k : Nat), AllOwed P ops Q a0 T w1 os k → Reqs P Q .any ops (fun w => Below w1.heap.size w1 w) (fun i v w => (tbl T i).ok v w) a0 os k
  | [], _, _ => trivial
  | o :: os, k, h => by
    refine ⟨fun a w vals hS hv hr => ?_, reqs_of os (k + 1) h.2⟩
    have h1 := h.1 a w hS (fun t ht => by
      have := hr t ht
      unfold rd at this
      unfold Look
      split
      · rename_i e he
        rw [he] at this
        have h2 := List.find?_some he
        rw [Bool.and_eq_true] at h2
        exact ⟨_, this, hv e (Array.mem_toList_iff.1 (List.mem_of_find?_eq_some he)) h2.1⟩
      · rename_i he
        rw [he] at this
        exact this)
    unfold Does at h1
    unfold Step
    split
    · rename_i hw
      rw [if_pos hw] at h1
      refine Oper.wp_mono ?_ h1
      rintro a' w' ⟨v, e1, e2, e3⟩
      exact ⟨v, e1, e2, hS.trans (e3.mono hS.size), fun j u hu => Val.keep e3 _ _ hu⟩
    · rename_i hw
      rw [if_neg hw] at h1
      exact h1
/-- **THE RULE** -/
theorem walk {id : Nat} {ops : Array Oper} {a0 : Act} {w : World} (T : List Val) (hm : P.follows .mixedOrders = true) (hok : okOps .any ops a0.tmps.size = true)
    (hR : AllOwed P ops Q a0 T w ops.toList 0)
    (hF : ∀ (vals : Nat → Value) (w' : World), Below w.heap.size w w' → (∀ i, i < ops.size → (tbl T i).ok (vals i) w') → Q .normal (fill (fun _ => true) vals ops.toList 0 a0) w') : (Code.region id ops true).wp P Q a0 w :=
  region (fun w' => Below w.heap.size w w') (fun i v w' => (tbl T i).ok v w') hm hok ((Below.refl _ w).drew) (reqs_of _ _ hR) hF
theorem ev {a : Act} {t : Nat} {v : Value} (h : a.tmps[t]? = some v) : a.eval (.tmp t) = v := by
  show a.tmps.getD t undef = v
  rw [Array.getD_eq_getD_getElem?, h]
  rfl
theorem ev1 {a : Act} {t : Nat} {x : Value} {w : World} (h : ∃ v, a.tmps[t]? = some v ∧ (Val.is x).ok v w) : a.tmps[t]? = some x := by
  obtain ⟨v, h1, rfl⟩ := h
  exact h1
/-- an operation that yields a value and turns nothing -/
theorem pure1 {ops : Array Oper} {o : Oper} {a : Act} {w : World} {x : Value} (hw : Region.wanted o (yielded ops a.tmps) = true) (h : (execOp a.eval o).run P w = .ok (.value x) w) : Does P ops Q (.is x) o a w := by
  unfold Does
  rw [if_pos hw]
  unfold Oper.wp
  rw [h]
  exact ⟨x, rfl, rfl, Below.refl _ _⟩
/-- one that is not wanted -/
theorem skip1 {ops : Array Oper} {o : Oper} {a : Act} {w : World} (hw : Region.wanted o (yielded ops a.tmps) = false) : Does P ops Q (.is undef) o a w := by
  unfold Does
  rw [if_neg (by rw [hw]; exact Bool.false_ne_true)]
  exact rfl
theorem yld {ops : Array Oper} {a : Act} {j t : Nat} {b : Bool} (h1 : (ops[j]?).bind (·.dst) = some t) (h2 : a.tmps[t]? = some (.bool b)) : yielded ops a.tmps j = some b := by
  unfold yielded
  rw [h1]
  show (match a.tmps[t]? with | some (.bool b) => some b | _ => none) = some b
  rw [h2]
theorem wantedT {o : Oper} {y : Nat → Option Bool} {j : Nat} {b : Bool} (hg : o.guard = some (j, b)) (hy : y j = some b) : Region.wanted o y = true := by
  unfold Region.wanted
  rw [hg]
  show (y j == some b) = true
  rw [hy]
  cases b <;> rfl
theorem wantedF {o : Oper} {y : Nat → Option Bool} {j : Nat} {b : Bool} (hg : o.guard = some (j, !b)) (hy : y j = some b) : Region.wanted o y = false := by
  unfold Region.wanted
  rw [hg]
  show (y j == some (!b)) = false
  rw [hy]
  cases b <;> rfl
theorem wr {x : Int} (h1 : -9223372036854775808 ≤ x) (h2 : x ≤ 9223372036854775807) : IntKind.i64.wrap x = x := by rw [IntKind.wrap_i64]; omega
/-- an operation that lays a block -/
theorem lay1 {ops : Array Oper} {o : Oper} {a : Act} {w : World} {x : Value} {V : Val} {ob : Obj} (hw : Region.wanted o (yielded ops a.tmps) = true) (h : (execOp a.eval o).run P w = .ok (.value x) (w.alloc ob)) (hV : V.ok x (w.alloc ob)) : Does P ops Q V o a w := by
  unfold Does
  rw [if_pos hw]
  unfold Oper.wp
  rw [h]
  exact ⟨x, rfl, hV, (Below.refl _ _).alloc (Nat.le_refl _) ob⟩
/-- a call -/
theorem call1 {ops : Array Oper} {o : Oper} {a : Act} {w : World} {V : Val} {f : FuncId} {args : Array Value} (hw : Region.wanted o (yielded ops a.tmps) = true) (h : (execOp a.eval o).run P w = .ok (.enter f args) w)
    (hc : Calls P f args w fun e w' => ∃ v, e = .returned v ∧ V.ok v w' ∧ Below w.heap.size w w') : Does P ops Q V o a w := by
  unfold Does
  rw [if_pos hw]
  unfold Oper.wp
  rw [h]
  refine Calls.mono hc ?_
  rintro e w' ⟨v, rfl, h1, h2⟩
  exact ⟨v, rfl, h1, h2⟩
theorem callIs {ops : Array Oper} {o : Oper} {a : Act} {w : World} {v : Value} {f : FuncId} {args : Array Value} (hw : Region.wanted o (yielded ops a.tmps) = true) (h : (execOp a.eval o).run P w = .ok (.enter f args) w)
    (hc : Calls P f args w fun e w' => e = .returned v ∧ Below w.heap.size w w') : Does P ops Q (.is v) o a w :=
  call1 hw h (hc.mono fun _ _ ⟨e, b⟩ => ⟨v, e, rfl, b⟩)
theorem ef (a : Act) : ∀ f, a.eval (.func f) = .func (.func f) #[] #[] := fun _ => rfl
theorem ec (a : Act) : ∀ v, a.eval (.const v) = v := fun _ => rfl
theorem wo {x : Int} (h : -9223372036854775808 ≤ x ∧ x ≤ 9223372036854775807) : IntKind.i64.wrap x = x := wr h.1 h.2
end Rg
end Go.Proofs.YtgkjmjlkhnfbiaaGreat
