/-
  Contracts: residues.
-/
import Derived.Test.YtpemckpnlemkfaaProg
import Derived.Test.YtpemckpnlemkfaaPlain1
import Derived.Test.YtpemckpnlemkfaaPlain2
import Derived.Test.YtpemckpnlemkfaaC1
import Derived.WalkKit
import Derived.Deep.QuietTactic
import Derived.BigQuiet
import Derived.Lib.Hide
namespace Go.Proofs.Ytpemckpnlemkfaa
set_option linter.unusedSimpArgs false
set_option linter.unusedVariables false
open Go.RowKit

/-- a contract that leaves the world alone, as a quiet region asks it -/
theorem quiet {P : Program} {f : FuncId} {args : Array Value} {w : World} {n : Nat} {v : Value}
    (h : Calls P f args (w.drewN n) fun e w' => e = .returned v ∧ w.drewN n = w') : Calls P f args (w.drewN n) fun e w'' => e = .returned v ∧ ∃ m, w'' = w.drewN m :=
  h.mono fun _ _ ⟨he, hm⟩ => ⟨he, n, hm.symm⟩

theorem gcd_c (a b : Int) (w : World) (h1 : -9000000000000000000 ≤ a) (h2 : a ≤ 9000000000000000000) (h3 : -9000000000000000000 ≤ b) (h4 : b ≤ 9000000000000000000) :
    Calls Try.prog 67 #[.int .i64 a, .int .i64 b] w fun e w' => e = .returned (.int .i64 (M.gcd a b)) ∧ ∃ m, w' = w.drewN m := by
  go_enter Try.func67, Try.ntmps67
  go_wp2
  go_loopw [0, 1] (fun va vb wr => ∃ x y : Int, va = .int .i64 x ∧ vb = .int .i64 y ∧ -9000000000000000000 ≤ x ∧ x ≤ 9000000000000000000 ∧ -9000000000000000000 ≤ y ∧ y ≤ 9000000000000000000 ∧ M.gcd x y = M.gcd a b ∧ ∃ m, wr = w.drewN m) (fun _ vb _ => (intOf vb).natAbs)
  case atStart => exact ⟨a, b, rfl, rfl, h1, h2, h3, h4, rfl, 0, rfl⟩
  case round =>
    obtain ⟨x, y, rfl, rfl, x1, x2, y1, y2, hg, m, rfl⟩ := hrel
    have Hg := Lib.hid hg
    clear hg
    by_cases hy : y = 0
    · subst hy
      by_cases hx : 0 ≤ x
      · go_wp2
        all_goals (go_ret; exact ⟨ret_i (by rw [← Hg.out]; simp only [M.gcd, Int.gcd_zero_right]; omega), _, rfl⟩)
      · go_wp2
        all_goals (go_ret; exact ⟨ret_i (by rw [← Hg.out]; simp only [M.gcd, Int.gcd_zero_right]; omega), _, rfl⟩)
    · have ht := Int.natAbs_tmod x y
      have hm : x.natAbs % y.natAbs < y.natAbs := Nat.mod_lt _ (by omega)
      have ht := Lib.hid (show (x.tmod y).natAbs < y.natAbs by omega)
      have ht1 : -9000000000000000000 ≤ x.tmod y := by omega
      have ht2 : x.tmod y ≤ 9000000000000000000 := by omega
      by_cases hp : 0 ≤ x ∧ 1 ≤ y
      · obtain ⟨p1, p2⟩ := hp
        have e1 := Lib.hid (Int.tmod_eq_emod_of_nonneg (b := y) p1)
        have hb := M.mod_bd (a := x) p2
        go_wp2
        go_quiet (fail)
        go_wp2
        go_roundw
        case rel => exact ⟨y, x % y, rfl, rfl, y1, y2, by omega, by omega, by rw [← Hg.out, ← e1.out]; unfold M.gcd; rw [M.gcd_step], _, World.drewN_drewN _ _ _⟩
        case measure => simp [intOf]; omega
      · go_wp2
        go_quiet (fail)
        go_wp2
        go_roundw
        case rel => exact ⟨y, x.tmod y, rfl, rfl, y1, y2, ht1, ht2, by rw [← Hg.out]; unfold M.gcd; rw [M.gcd_step], _, World.drewN_drewN _ _ _⟩
        case measure => have := ht.out; simp [intOf]; omega

theorem bgCommon_c (a b : Int) (w : World) (h1 : 0 ≤ a) (h2 : a ≤ 9000000000000000000) (h3 : 0 ≤ b) (h4 : b ≤ 9000000000000000000) :
    Calls Try.prog 84 #[.int .i64 a, .int .i64 b] w fun e w' => e = .returned (.int .i64 (M.gcd a b)) ∧ w = w' := by
  go_enter Try.func84, Try.ntmps84
  go_wp2
  go_loop [0, 1] (fun va vb => ∃ x y : Int, va = .int .i64 x ∧ vb = .int .i64 y ∧ 0 ≤ x ∧ x ≤ 9000000000000000000 ∧ 0 ≤ y ∧ y ≤ 9000000000000000000 ∧ M.gcd x y = M.gcd a b) (fun _ vb => (intOf vb).toNat)
  case atStart => exact ⟨a, b, rfl, rfl, h1, h2, h3, h4, rfl⟩
  case round =>
    obtain ⟨x, y, rfl, rfl, x1, x2, y1, y2, hg⟩ := hrel
    have Hg := Lib.hid hg
    clear hg
    by_cases hy : 0 < y
    · have hb := M.mod_bd (a := x) (p := y) (by omega)
      have e1 := Lib.hid (Int.tmod_eq_emod_of_nonneg (b := y) x1)
      go_wp2
      go_round
      case rel => exact ⟨y, x % y, rfl, rfl, y1, y2, by omega, by omega, by rw [← Hg.out, ← e1.out]; unfold M.gcd; rw [M.gcd_step]⟩
      case measure => simp [intOf]; omega
    · obtain rfl : y = 0 := by omega
      go_wp2
      go_ret; exact ⟨ret_i (by rw [← Hg.out]; simp only [M.gcd, Int.gcd_zero_right]; omega), rfl⟩

theorem l1Most_c (a b : Int) (w : World) :
    Calls Try.prog 82 #[.int .i64 a, .int .i64 b] w fun e w' => e = .returned (.int .i64 (max a b)) ∧ w = w' := by
  by_cases h : b < a
  · go_enter Try.func82, Try.ntmps82
    go_wp2
    go_ret; exact ⟨ret_i (by omega), rfl⟩
  · go_enter Try.func82, Try.ntmps82
    go_wp2
    go_ret; exact ⟨ret_i (by omega), rfl⟩

theorem l1Abs_c (a : Int) (w : World) (h1 : -9223372036854775807 ≤ a) (h2 : a ≤ 9223372036854775807) :
    Calls Try.prog 58 #[.int .i64 a] w fun e w' => e = .returned (.int .i64 (a.natAbs : Int)) ∧ w = w' := by
  go_enter Try.func58, Try.ntmps58
  go_wp2_with (go_at_call 82; refine (l1Most_c _ _ _).mono ?_; rintro e w' ⟨rfl, rfl⟩)
  go_ret; exact ⟨ret_i (by omega), rfl⟩

end Go.Proofs.Ytpemckpnlemkfaa
