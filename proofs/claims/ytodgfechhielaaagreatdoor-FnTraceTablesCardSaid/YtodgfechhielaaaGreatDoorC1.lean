/-
  Contracts of the small functions.
-/
import Derived.Test.YtodgfechhielaaaGreatDoorProg
import Derived.Test.YtodgfechhielaaaGreatDoorPlain1
import Derived.WalkKit
import Derived.Lib.Hide
namespace Go.Proofs.YtodgfechhielaaaGreatDoor
set_option linter.unusedSimpArgs false
set_option linter.unusedVariables false
open Go.RowKit

theorem ret_i {a b : Int} (h : a = b) : Ending.returned (.int .i64 a) = .returned (.int .i64 b) := by rw [h]
theorem ret_b {a b : Bool} (h : a = b) : Ending.returned (.bool a) = .returned (.bool b) := by rw [h]

theorem l1In_c (n lo hi : Int) (w : World) :
    Calls Tryz.prog 49 #[.int .i64 n, .int .i64 lo, .int .i64 hi] w fun e w' => e = .returned (.bool (M.ins n lo hi)) ∧ w = w' := by
  unfold M.ins
  by_cases h1 : lo ≤ n <;> by_cases h2 : n ≤ hi <;>
  (go_enter Tryz.func49, Tryz.ntmps49
   go_wp2
   go_ret; exact ⟨by simp [h1, h2], rfl⟩)

theorem inside_c (n lo hi : Int) (w : World) :
    Calls Tryz.prog 30 #[.int .i64 n, .int .i64 lo, .int .i64 hi] w fun e w' => e = .returned (.bool (M.ins n lo hi)) ∧ w = w' := by
  unfold M.ins
  by_cases h1 : lo ≤ n <;> by_cases h2 : n ≤ hi <;>
  (go_enter Tryz.func30, Tryz.ntmps30
   go_wp2
   go_ret; exact ⟨by simp [h1, h2], rfl⟩)

theorem isPrime_c (n : Int) (w : World) (h1 : 2 ≤ n) (h2 : n ≤ 997) :
    Calls Tryz.prog 59 #[.int .i64 n] w fun e w' => e = .returned (.bool (M.prime n)) ∧ w = w' := by
  go_enter Tryz.func59, Tryz.ntmps59
  go_wp2
  go_loop [3] (fun d => ∃ k : Nat, 2 ≤ k ∧ k ≤ 32 ∧ d = .int .i64 k ∧ ∀ e : Int, 2 ≤ e → e < k → ¬ n % e = 0) (fun d => 32 - (intOf d).toNat)
  case atStart => exact ⟨2, by omega, by omega, rfl, fun e h k => by omega⟩
  case round =>
    obtain ⟨k, hk2, hk, rfl, hall⟩ := hrel
    have Hall := Lib.hid hall
    clear hall
    have hb := M.mul_nn (x := k) (y := k) (m := 32) (n := 32) (by omega) (by omega) (by omega) (by omega)
    by_cases c1 : (k : Int) * k ≤ n
    · have hk32 : (k : Int) < 32 := M.sq_lt (by omega) (by omega)
      by_cases c2 : n % (k : Int) = 0
      · go_wp2
        go_ret; exact ⟨ret_b (M.prime_no (by omega) c1 c2).symm, rfl⟩
      · go_wp2
        go_round
        case rel => exact ⟨k + 1, by omega, by omega, by go_num, fun e h h' => if q : e = k then by rw [q]; exact c2 else Hall.out e h (by omega)⟩
        case measure => simp [intOf]; omega
    · go_wp2
      go_ret; exact ⟨ret_b (M.prime_yes h1 (by omega) (by omega) Hall.out).symm, rfl⟩

theorem mdPrime_c (n : Int) (w : World) :
    Calls Tryz.prog 81 #[.int .i64 n] w fun e w' => e = .returned (.bool (M.ins n 2 997 && M.prime n)) ∧ w = w' := by
  by_cases hin : M.ins n 2 997 = true
  · obtain ⟨h1, h2⟩ := M.ins_t hin
    go_enter Tryz.func81, Tryz.ntmps81
    go_wp2_with (go_at_call 49; refine (l1In_c _ _ _ _).mono ?_; rintro e w' ⟨rfl, rfl⟩)
    go_loop [3] (fun d => ∃ k : Nat, 2 ≤ k ∧ k ≤ 32 ∧ d = .int .i64 k ∧ ∀ e : Int, 2 ≤ e → e < k → ¬ n % e = 0) (fun d => 32 - (intOf d).toNat)
    case atStart => exact ⟨2, by omega, by omega, rfl, fun e h k => by omega⟩
    case round =>
      obtain ⟨k, hk2, hk, rfl, hall⟩ := hrel
      have Hall := Lib.hid hall
      have Hin := Lib.hid hin
      clear hall hin
      have hb := M.mul_nn (x := k) (y := k) (m := 32) (n := 32) (by omega) (by omega) (by omega) (by omega)
      by_cases c1 : (k : Int) * k ≤ n
      · have hk32 : (k : Int) < 32 := M.sq_lt (by omega) (by omega)
        by_cases c2 : n % (k : Int) = 0
        · go_wp2
          go_ret; exact ⟨ret_b (by rw [Hin.out, M.prime_no (by omega) c1 c2]; rfl), rfl⟩
        · go_wp2
          go_round
          case rel => exact ⟨k + 1, by omega, by omega, by go_num, fun e h h' => if q : e = k then by rw [q]; exact c2 else Hall.out e h (by omega)⟩
          case measure => simp [intOf]; omega
      · go_wp2
        go_ret; exact ⟨ret_b (by rw [Hin.out, M.prime_yes h1 (by omega) (by omega) Hall.out]; rfl), rfl⟩
  · have hin' : M.ins n 2 997 = false := by simpa using hin
    go_enter Tryz.func81, Tryz.ntmps81
    go_wp2_with (go_at_call 49; refine (l1In_c _ _ _ _).mono ?_; rintro e w' ⟨rfl, rfl⟩)
    go_ret; exact ⟨ret_b (by rw [hin']; rfl), rfl⟩

theorem traceBound_c (n : Int) (w : World) (h1 : 0 ≤ n) (h2 : n ≤ 1000) :
    Calls Tryz.prog 38 #[.int .i64 n] w fun e w' => e = .returned (.int .i64 (M.root (4 * n))) ∧ w = w' := by
  go_enter Tryz.func38, Tryz.ntmps38
  go_wp2
  go_loop [3] (fun d => ∃ k : Nat, k ≤ 64 ∧ d = .int .i64 k ∧ (k : Int) * k ≤ 4 * n) (fun d => 64 - (intOf d).toNat)
  case atStart => exact ⟨0, by omega, rfl, by simp; omega⟩
  case round =>
    obtain ⟨k, hk, rfl, hall⟩ := hrel
    have hb := M.mul_nn (x := (k : Int) + 1) (y := (k : Int) + 1) (m := 65) (n := 65) (by omega) (by omega) (by omega) (by omega)
    by_cases c1 : ((k : Int) + 1) * ((k : Int) + 1) ≤ 4 * n
    · have hk32 : (k : Int) + 1 < 65 := M.sq_lt (by omega) (by omega)
      go_wp2
      go_round
      case rel => exact ⟨k + 1, by omega, by go_num, by push_cast; exact c1⟩
      case measure => simp [intOf]; omega
    · go_wp2
      go_ret; exact ⟨ret_i (M.root_eq ⟨by omega, hall, by omega⟩), rfl⟩

theorem frRoot_c (n : Int) (w : World) (h1 : 0 ≤ n) (h2 : n ≤ 4000000000000000000) :
    Calls Tryz.prog 40 #[.int .i64 n] w fun e w' => e = .returned (.int .i64 (M.root n)) ∧ w = w' := by
  go_enter Tryz.func40, Tryz.ntmps40
  go_wp2
  go_loop [3, 4] (fun l h => ∃ a b : Int, 0 ≤ a ∧ a < b ∧ b ≤ 2000000001 ∧ l = .int .i64 a ∧ h = .int .i64 b ∧ a * a ≤ n ∧ n < b * b) (fun l h => (intOf h - intOf l).toNat)
  case atStart => exact ⟨0, 2000000001, by omega, by omega, by omega, rfl, rfl, by simp; omega, by simp; omega⟩
  case round =>
    obtain ⟨a, b, ha, hab, hb, rfl, rfl, ha2, hb2⟩ := hrel
    by_cases c1 : 1 < b - a
    · have hm1 : a < (a + b) / 2 := by omega
      have hm2 : (a + b) / 2 < b := by omega
      have hbm := M.mul_nn (x := (a + b) / 2) (y := (a + b) / 2) (m := 2000000001) (n := 2000000001) (by omega) (by omega) (by omega) (by omega)
      by_cases c2 : (a + b) / 2 * ((a + b) / 2) ≤ n
      · go_wp2
        go_round
        case rel => exact ⟨(a + b) / 2, b, by omega, by omega, by omega, rfl, rfl, c2, hb2⟩
        case measure => simp [intOf]; omega
      · go_wp2
        go_round
        case rel => exact ⟨a, (a + b) / 2, by omega, by omega, by omega, rfl, rfl, ha2, by omega⟩
        case measure => simp [intOf]; omega
    · go_wp2
      go_ret; exact ⟨ret_i (M.root_eq ⟨by omega, ha2, by rw [show (a : Int) + 1 = b from by omega]; exact hb2⟩), rfl⟩

theorem implTraceBound_c (p : Int) (w : World) :
    Calls Tryz.prog 24 #[.int .i64 p] w fun e w' => e = .returned (.tuple #[.int .i64 (if M.ins p 2 997 && M.prime p then M.root (4 * p) else 0), .bool (M.ins p 2 997 && M.prime p)]) ∧ w = w' := by
  cases hi : M.ins p 2 997
  · go_enter Tryz.func24, Tryz.ntmps24
    go_wp2_with (go_at_call 30; refine (inside_c _ _ _ _).mono ?_; rintro e w' ⟨rfl, rfl⟩)
    go_ret2
    exact ⟨by simp, rfl⟩
  · obtain ⟨h1, h2⟩ := M.ins_t hi
    cases hp : M.prime p
    · go_enter Tryz.func24, Tryz.ntmps24
      go_wp2_with (first | (go_at_call 30; refine (inside_c _ _ _ _).mono ?_; rintro e w' ⟨rfl, rfl⟩) | (go_at_call 59; refine (isPrime_c _ _ (by omega) (by omega)).mono ?_; rintro e w' ⟨rfl, rfl⟩))
      go_ret2
      exact ⟨by simp, rfl⟩
    · go_enter Tryz.func24, Tryz.ntmps24
      go_wp2_with (first | (go_at_call 30; refine (inside_c _ _ _ _).mono ?_; rintro e w' ⟨rfl, rfl⟩) | (go_at_call 59; refine (isPrime_c _ _ (by omega) (by omega)).mono ?_; rintro e w' ⟨rfl, rfl⟩) | (go_at_call 38; refine (traceBound_c _ _ (by omega) (by omega)).mono ?_; rintro e w' ⟨rfl, rfl⟩))
      go_ret2
      exact ⟨by simp, rfl⟩

end Go.Proofs.YtodgfechhielaaaGreatDoor
