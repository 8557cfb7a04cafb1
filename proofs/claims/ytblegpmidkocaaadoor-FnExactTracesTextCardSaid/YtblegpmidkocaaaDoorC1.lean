/-
  Contracts of the small functions.
-/
import Derived.Test.YtblegpmidkocaaaDoorProg
import Derived.Test.YtblegpmidkocaaaDoorPlain1
import Derived.WalkKit
import Derived.Lib.Hide
namespace Go.Proofs.YtblegpmidkocaaaDoor
set_option linter.unusedSimpArgs false
set_option linter.unusedVariables false
open Go.RowKit

theorem ret_i {a b : Int} (h : a = b) : Ending.returned (.int .i64 a) = .returned (.int .i64 b) := by rw [h]
theorem ret_b {a b : Bool} (h : a = b) : Ending.returned (.bool a) = .returned (.bool b) := by rw [h]

theorem l1In_c (n lo hi : Int) (w : World) :
    Calls Tryd.prog 19 #[.int .i64 n, .int .i64 lo, .int .i64 hi] w fun e w' => e = .returned (.bool (M.ins n lo hi)) ∧ w = w' := by
  unfold M.ins
  by_cases h1 : lo ≤ n <;> by_cases h2 : n ≤ hi <;>
  (go_enter Tryd.func19, Tryd.ntmps19
   go_wp2
   go_ret; exact ⟨by simp [h1, h2], rfl⟩)

theorem inside_c (n lo hi : Int) (w : World) :
    Calls Tryd.prog 13 #[.int .i64 n, .int .i64 lo, .int .i64 hi] w fun e w' => e = .returned (.bool (M.ins n lo hi)) ∧ w = w' := by
  unfold M.ins
  by_cases h1 : lo ≤ n <;> by_cases h2 : n ≤ hi <;>
  (go_enter Tryd.func13, Tryd.ntmps13
   go_wp2
   go_ret; exact ⟨by simp [h1, h2], rfl⟩)

theorem isPrime_c (n : Int) (w : World) (h1 : 2 ≤ n) (h2 : n ≤ 997) :
    Calls Tryd.prog 34 #[.int .i64 n] w fun e w' => e = .returned (.bool (M.prime n)) ∧ w = w' := by
  go_enter Tryd.func34, Tryd.ntmps34
  go_wp2
  go_loop [3] (fun d => ∃ k : Nat, 2 ≤ k ∧ k ≤ 32 ∧ d = .int .i64 k ∧ ∀ e : Int, 2 ≤ e → e < k → ¬ n % e = 0) (fun d => 32 - (intOf d).toNat)
  case atStart => exact ⟨2, by omega, by omega, rfl, fun e h k => by omega⟩
  case round =>
    obtain ⟨k, hk2, hk, rfl, hall⟩ := hrel
    have Hall := Lib.hid hall
    clear hall
    have hb := M.mul_nn (x := k) (y := k) (m := 32) (n := 32) (by omega) (by omega) (by omega) (by omega)
    by_cases c1 : (k : Int) * k ≤ n
    · have hk32 : (k : Int) < 32 := M.sq_lt (by omega) (by omega)
      by_cases c2 : n % (k : Int) = 0
      · go_wp2
        go_ret; exact ⟨ret_b (M.prime_no (by omega) c1 c2).symm, rfl⟩
      · go_wp2
        go_round
        case rel => exact ⟨k + 1, by omega, by omega, by go_num, fun e h h' => if q : e = k then by rw [q]; exact c2 else Hall.out e h (by omega)⟩
        case measure => simp [intOf]; omega
    · go_wp2
      go_ret; exact ⟨ret_b (M.prime_yes h1 (by omega) (by omega) Hall.out).symm, rfl⟩

theorem mdPrime_c (n : Int) (w : World) :
    Calls Tryd.prog 30 #[.int .i64 n] w fun e w' => e = .returned (.bool (M.ins n 2 997 && M.prime n)) ∧ w = w' := by
  by_cases hin : M.ins n 2 997 = true
  · obtain ⟨h1, h2⟩ := M.ins_t hin
    go_enter Tryd.func30, Tryd.ntmps30
    go_wp2_with (go_at_call 19; refine (l1In_c _ _ _ _).mono ?_; rintro e w' ⟨rfl, rfl⟩)
    go_loop [3] (fun d => ∃ k : Nat, 2 ≤ k ∧ k ≤ 32 ∧ d = .int .i64 k ∧ ∀ e : Int, 2 ≤ e → e < k → ¬ n % e = 0) (fun d => 32 - (intOf d).toNat)
    case atStart => exact ⟨2, by omega, by omega, rfl, fun e h k => by omega⟩
    case round =>
      obtain ⟨k, hk2, hk, rfl, hall⟩ := hrel
      have Hall := Lib.hid hall
      have Hin := Lib.hid hin
      clear hall hin
      have hb := M.mul_nn (x := k) (y := k) (m := 32) (n := 32) (by omega) (by omega) (by omega) (by omega)
      by_cases c1 : (k : Int) * k ≤ n
      · have hk32 : (k : Int) < 32 := M.sq_lt (by omega) (by omega)
        by_cases c2 : n % (k : Int) = 0
        · go_wp2
          go_ret; exact ⟨ret_b (by rw [Hin.out, M.prime_no (by omega) c1 c2]; rfl), rfl⟩
        · go_wp2
          go_round
          case rel => exact ⟨k + 1, by omega, by omega, by go_num, fun e h h' => if q : e = k then by rw [q]; exact c2 else Hall.out e h (by omega)⟩
          case measure => simp [intOf]; omega
      · go_wp2
        go_ret; exact ⟨ret_b (by rw [Hin.out, M.prime_yes h1 (by omega) (by omega) Hall.out]; rfl), rfl⟩
  · have hin' : M.ins n 2 997 = false := by simpa using hin
    go_enter Tryd.func30, Tryd.ntmps30
    go_wp2_with (go_at_call 19; refine (l1In_c _ _ _ _).mono ?_; rintro e w' ⟨rfl, rfl⟩)
    go_ret; exact ⟨ret_b (by rw [hin']; rfl), rfl⟩

end Go.Proofs.YtblegpmidkocaaaDoor
