/-
  Contracts: residues.
-/
import Derived.Test.YtodgfechhielaaaGreatDoorProg
import Derived.Test.YtodgfechhielaaaGreatDoorPlain1
import Derived.Test.YtodgfechhielaaaGreatDoorPlain2
import Derived.Test.YtodgfechhielaaaGreatDoorC1
import Derived.WalkKit
import Derived.Deep.QuietTactic
import Derived.BigQuiet
import Derived.Lib.Hide
namespace Go.Proofs.YtodgfechhielaaaGreatDoor
set_option linter.unusedSimpArgs false
set_option linter.unusedVariables false
open Go.RowKit

/-- a contract that leaves the world alone, as a quiet region asks it -/
theorem quiet {P : Program} {f : FuncId} {args : Array Value} {w : World} {n : Nat} {v : Value}
    (h : Calls P f args (w.drewN n) fun e w' => e = .returned v ∧ w.drewN n = w') : Calls P f args (w.drewN n) fun e w'' => e = .returned v ∧ ∃ m, w'' = w.drewN m :=
  h.mono fun _ _ ⟨he, hm⟩ => ⟨he, n, hm.symm⟩

theorem modulo_c (a m : Int) (w : World) (h1 : 1 ≤ m) (h2 : m ≤ 4000000000000000000) :
    Calls Tryz.prog 89 #[.int .i64 a, .int .i64 m] w fun e w' => e = .returned (.int .i64 (a % m)) ∧ w = w' := by
  have hb := M.tmod_bd (a := a) h1
  have hb2 := M.mod_bd (a := a) h1
  have he := Lib.hid (M.tmod_emod (a := a) (m := m))
  go_enter Tryz.func89, Tryz.ntmps89
  by_cases h : 0 ≤ a
  · go_wp2
    go_ret; exact ⟨ret_i (by simp), rfl⟩
  · go_wp2
    go_ret; exact ⟨ret_i he.out, rfl⟩

theorem mdMod_c (a m : Int) (w : World) (h1 : 1 ≤ m) (h2 : m ≤ 4000000000000000000) :
    Calls Tryz.prog 82 #[.int .i64 a, .int .i64 m] w fun e w' => e = .returned (.int .i64 (a % m)) ∧ w = w' := by
  have hb := M.tmod_bd (a := a) h1
  have hb2 := M.mod_bd (a := a) h1
  have he := Lib.hid (M.tmod_emod (a := a) (m := m))
  go_enter Tryz.func82, Tryz.ntmps82
  by_cases h : 0 ≤ a
  · go_wp2
    go_ret; exact ⟨ret_i (by simp), rfl⟩
  · go_wp2
    go_ret; exact ⟨ret_i he.out, rfl⟩

theorem power_c (a n p : Int) (w : World) (h1 : 1 ≤ p) (h2 : p ≤ 3000000000) (hn : 0 ≤ n) (hnn : n ≤ 4000000000000000000) :
    Calls Tryz.prog 88 #[.int .i64 a, .int .i64 n, .int .i64 p] w fun e w' => e = .returned (.int .i64 (M.powm a n p)) ∧ ∃ m, w' = w.drewN m := by
  go_enter Tryz.func88, Tryz.ntmps88
  go_wp2
  go_quiet ((go_at_call 89; exact quiet (modulo_c _ _ _ (by omega) (by omega))))
  go_wp2
  go_loop [1, 7, 8] (fun vn vo vb => ∃ n' o b : Int, vn = .int .i64 n' ∧ vo = .int .i64 o ∧ vb = .int .i64 b ∧ 0 ≤ n' ∧ n' ≤ 4000000000000000000 ∧ 0 ≤ o ∧ o < p ∧ 0 ≤ b ∧ b < p ∧ o * b ^ n'.toNat % p = M.powm a n p) (fun vn _ _ => (intOf vn).toNat)
  case atStart =>
    have b1 := M.mod_bd (a := a) h1
    have b2 := M.mod_bd (a := 1) h1
    exact ⟨n, 1 % p, a % p, rfl, rfl, rfl, hn, hnn, b2.1, b2.2, b1.1, b1.2, by rw [M.mul_mod_left, Int.one_mul, M.pow_mod_base]; rfl⟩
  case round =>
    obtain ⟨n', o, b, rfl, rfl, rfl, hn', hn2', ho1, ho2, hb1, hb2, hr⟩ := hrel
    have Hr := Lib.hid hr
    clear hr
    have m1 := M.mul_nn (x := o) (y := b) (m := 3000000000) (n := 3000000000) ho1 (by omega) hb1 (by omega)
    have m2 := M.mul_nn (x := b) (y := b) (m := 3000000000) (n := 3000000000) hb1 (by omega) hb1 (by omega)
    have m3 := M.mod_bd (a := o * b) h1
    have m4 := M.mod_bd (a := b * b) h1
    by_cases hp : 0 < n'
    · by_cases h2 : n' % 2 = 1
      · go_wp2
        go_round
        case rel => exact ⟨n' / 2, o * b % p, b * b % p, rfl, rfl, rfl, by omega, by omega, m3.1, m3.2, m4.1, m4.2, M.pow_step_odd hp h2 Hr.out⟩
        case measure => simp [intOf]; omega
      · go_wp2
        go_round
        case rel => exact ⟨n' / 2, o, b * b % p, rfl, rfl, rfl, by omega, by omega, ho1, ho2, m4.1, m4.2, M.pow_step_even hp h2 Hr.out⟩
        case measure => simp [intOf]; omega
    · obtain rfl : n' = 0 := by omega
      go_wp2
      go_ret
      exact ⟨ret_i (by rw [← Hr.out]; simp; exact (Int.emod_eq_of_lt ho1 ho2).symm), _, rfl⟩

theorem mdPower_c (a n p : Int) (w : World) (h1 : 1 ≤ p) (h2 : p ≤ 3000000000) (hn : 0 ≤ n) (hnn : n ≤ 4000000000000000000) :
    Calls Tryz.prog 90 #[.int .i64 a, .int .i64 n, .int .i64 p] w fun e w' => e = .returned (.int .i64 (M.powm a n p)) ∧ w = w' := by
  go_enter Tryz.func90, Tryz.ntmps90
  go_wp2_with (go_at_call 82; refine (mdMod_c _ _ _ (by omega) (by omega)).mono ?_; rintro e w' ⟨rfl, rfl⟩)
  go_loop [1, 7, 8] (fun vn vo vb => ∃ n' o b : Int, vn = .int .i64 n' ∧ vo = .int .i64 o ∧ vb = .int .i64 b ∧ 0 ≤ n' ∧ n' ≤ 4000000000000000000 ∧ 0 ≤ o ∧ o ≤ p ∧ 0 ≤ b ∧ b < p ∧ o * b ^ n'.toNat % p = M.powm a n p) (fun vn _ _ => (intOf vn).toNat)
  case atStart =>
    have b1 := M.mod_bd (a := a) h1
    exact ⟨n, 1, a % p, rfl, rfl, rfl, hn, hnn, by omega, by omega, b1.1, b1.2, by rw [Int.one_mul, M.pow_mod_base]; rfl⟩
  case round =>
    obtain ⟨n', o, b, rfl, rfl, rfl, hn', hn2', ho1, ho2, hb1, hb2, hr⟩ := hrel
    have Hr := Lib.hid hr
    clear hr
    have m1 := M.mul_nn (x := o) (y := b) (m := 3000000000) (n := 3000000000) ho1 (by omega) hb1 (by omega)
    have m2 := M.mul_nn (x := b) (y := b) (m := 3000000000) (n := 3000000000) hb1 (by omega) hb1 (by omega)
    have m3 := M.mod_bd (a := o * b) h1
    have m4 := M.mod_bd (a := b * b) h1
    by_cases hp : 0 < n'
    · by_cases h2 : n' % 2 = 1
      · go_wp2
        go_round
        case rel => exact ⟨n' / 2, o * b % p, b * b % p, rfl, rfl, rfl, by omega, by omega, m3.1, by omega, m4.1, m4.2, M.pow_step_odd hp h2 Hr.out⟩
        case measure => simp [intOf]; omega
      · go_wp2
        go_round
        case rel => exact ⟨n' / 2, o, b * b % p, rfl, rfl, rfl, by omega, by omega, ho1, ho2, m4.1, m4.2, M.pow_step_even hp h2 Hr.out⟩
        case measure => simp [intOf]; omega
    · obtain rfl : n' = 0 := by omega
      go_wp2
      go_ret
      exact ⟨ret_i (by rw [← Hr.out]; simp), rfl⟩

theorem gcd_c (a b : Int) (w : World) (h1 : -9000000000000000000 ≤ a) (h2 : a ≤ 9000000000000000000) (h3 : -9000000000000000000 ≤ b) (h4 : b ≤ 9000000000000000000) :
    Calls Tryz.prog 67 #[.int .i64 a, .int .i64 b] w fun e w' => e = .returned (.int .i64 (M.gcd a b)) ∧ ∃ m, w' = w.drewN m := by
  go_enter Tryz.func67, Tryz.ntmps67
  go_wp2
  go_loopw [0, 1] (fun va vb wr => ∃ x y : Int, va = .int .i64 x ∧ vb = .int .i64 y ∧ -9000000000000000000 ≤ x ∧ x ≤ 9000000000000000000 ∧ -9000000000000000000 ≤ y ∧ y ≤ 9000000000000000000 ∧ M.gcd x y = M.gcd a b ∧ ∃ m, wr = w.drewN m) (fun _ vb _ => (intOf vb).natAbs)
  case atStart => exact ⟨a, b, rfl, rfl, h1, h2, h3, h4, rfl, 0, rfl⟩
  case round =>
    obtain ⟨x, y, rfl, rfl, x1, x2, y1, y2, hg, m, rfl⟩ := hrel
    have Hg := Lib.hid hg
    clear hg
    by_cases hy : y = 0
    · subst hy
      by_cases hx : 0 ≤ x
      · go_wp2
        all_goals (go_ret; exact ⟨ret_i (by rw [← Hg.out]; simp only [M.gcd, Int.gcd_zero_right]; omega), _, rfl⟩)
      · go_wp2
        all_goals (go_ret; exact ⟨ret_i (by rw [← Hg.out]; simp only [M.gcd, Int.gcd_zero_right]; omega), _, rfl⟩)
    · have ht := Int.natAbs_tmod x y
      have hm : x.natAbs % y.natAbs < y.natAbs := Nat.mod_lt _ (by omega)
      have ht := Lib.hid (show (x.tmod y).natAbs < y.natAbs by omega)
      have ht1 : -9000000000000000000 ≤ x.tmod y := by omega
      have ht2 : x.tmod y ≤ 9000000000000000000 := by omega
      by_cases hp : 0 ≤ x ∧ 1 ≤ y
      · obtain ⟨p1, p2⟩ := hp
        have e1 := Lib.hid (Int.tmod_eq_emod_of_nonneg (b := y) p1)
        have hb := M.mod_bd (a := x) p2
        go_wp2
        go_quiet (fail)
        go_wp2
        go_roundw
        case rel => exact ⟨y, x % y, rfl, rfl, y1, y2, by omega, by omega, by rw [← Hg.out, ← e1.out]; unfold M.gcd; rw [M.gcd_step], _, World.drewN_drewN _ _ _⟩
        case measure => simp [intOf]; omega
      · go_wp2
        go_quiet (fail)
        go_wp2
        go_roundw
        case rel => exact ⟨y, x.tmod y, rfl, rfl, y1, y2, ht1, ht2, by rw [← Hg.out]; unfold M.gcd; rw [M.gcd_step], _, World.drewN_drewN _ _ _⟩
        case measure => have := ht.out; simp [intOf]; omega

theorem bgCommon_c (a b : Int) (w : World) (h1 : 0 ≤ a) (h2 : a ≤ 9000000000000000000) (h3 : 0 ≤ b) (h4 : b ≤ 9000000000000000000) :
    Calls Tryz.prog 69 #[.int .i64 a, .int .i64 b] w fun e w' => e = .returned (.int .i64 (M.gcd a b)) ∧ w = w' := by
  go_enter Tryz.func69, Tryz.ntmps69
  go_wp2
  go_loop [0, 1] (fun va vb => ∃ x y : Int, va = .int .i64 x ∧ vb = .int .i64 y ∧ 0 ≤ x ∧ x ≤ 9000000000000000000 ∧ 0 ≤ y ∧ y ≤ 9000000000000000000 ∧ M.gcd x y = M.gcd a b) (fun _ vb => (intOf vb).toNat)
  case atStart => exact ⟨a, b, rfl, rfl, h1, h2, h3, h4, rfl⟩
  case round =>
    obtain ⟨x, y, rfl, rfl, x1, x2, y1, y2, hg⟩ := hrel
    have Hg := Lib.hid hg
    clear hg
    by_cases hy : 0 < y
    · have hb := M.mod_bd (a := x) (p := y) (by omega)
      have e1 := Lib.hid (Int.tmod_eq_emod_of_nonneg (b := y) x1)
      go_wp2
      go_round
      case rel => exact ⟨y, x % y, rfl, rfl, y1, y2, by omega, by omega, by rw [← Hg.out, ← e1.out]; unfold M.gcd; rw [M.gcd_step]⟩
      case measure => simp [intOf]; omega
    · obtain rfl : y = 0 := by omega
      go_wp2
      go_ret; exact ⟨ret_i (by rw [← Hg.out]; simp only [M.gcd, Int.gcd_zero_right]; omega), rfl⟩

theorem l1Most_c (a b : Int) (w : World) :
    Calls Tryz.prog 66 #[.int .i64 a, .int .i64 b] w fun e w' => e = .returned (.int .i64 (max a b)) ∧ w = w' := by
  by_cases h : b < a
  · go_enter Tryz.func66, Tryz.ntmps66
    go_wp2
    go_ret; exact ⟨ret_i (by omega), rfl⟩
  · go_enter Tryz.func66, Tryz.ntmps66
    go_wp2
    go_ret; exact ⟨ret_i (by omega), rfl⟩

theorem l1Abs_c (a : Int) (w : World) (h1 : -9223372036854775807 ≤ a) (h2 : a ≤ 9223372036854775807) :
    Calls Tryz.prog 39 #[.int .i64 a] w fun e w' => e = .returned (.int .i64 (a.natAbs : Int)) ∧ w = w' := by
  go_enter Tryz.func39, Tryz.ntmps39
  go_wp2_with (go_at_call 66; refine (l1Most_c _ _ _).mono ?_; rintro e w' ⟨rfl, rfl⟩)
  go_ret; exact ⟨ret_i (by omega), rfl⟩

theorem mdSymbol_c (a p : Int) (w : World) (hp : M.prime p = true) (h1 : 3 ≤ p) (h2 : p ≤ 997) :
    Calls Tryz.prog 83 #[.int .i64 a, .int .i64 p] w fun e w' => e = .returned (.int .i64 (M.symb a p)) ∧ w = w' := by
  have hs := Lib.hid (M.symb_alt (M.prime_iff.1 hp) h1 h2 a)
  clear hp
  by_cases c : M.powm a ((p - 1) / 2) p = p - 1
  · have c' := Lib.hid c
    have c2 : (M.powm a ((p - 1) / 2) p == p - 1) = true := by simpa using c
    clear c
    go_enter Tryz.func83, Tryz.ntmps83
    go_wp2_with (go_at_call 90; refine (mdPower_c _ _ _ _ (by omega) (by omega) (by omega) (by omega)).mono ?_; rintro e w' ⟨rfl, rfl⟩)
    go_ret; exact ⟨ret_i (by rw [hs.out, if_pos c'.out]), rfl⟩
  · have c2 : (M.powm a ((p - 1) / 2) p == p - 1) = false := by simpa using c
    go_enter Tryz.func83, Tryz.ntmps83
    go_wp2_with (go_at_call 90; refine (mdPower_c _ _ _ _ (by omega) (by omega) (by omega) (by omega)).mono ?_; rintro e w' ⟨rfl, rfl⟩)
    go_ret; exact ⟨ret_i (by rw [hs.out, if_neg c]), rfl⟩

theorem symbol_c (a p : Int) (w : World) (h1 : 1 ≤ p) (h2 : p ≤ 3000000000) :
    Calls Tryz.prog 79 #[.int .i64 a, .int .i64 p] w fun e w' => e = .returned (.int .i64 (M.symb a p)) ∧ ∃ m, w' = w.drewN m := by
  by_cases c1 : M.powm a ((p - 1) / 2) p = 0
  · go_enter Tryz.func79, Tryz.ntmps79
    go_wp2_with (go_at_call 88; refine (power_c _ _ _ _ h1 h2 (by omega) (by omega)).mono ?_; rintro e w' ⟨rfl, mq, rfl⟩)
    go_ret; exact ⟨ret_i (M.symb0 c1).symm, _, rfl⟩
  · by_cases c2 : M.powm a ((p - 1) / 2) p = 1
    · go_enter Tryz.func79, Tryz.ntmps79
      go_wp2_with (go_at_call 88; refine (power_c _ _ _ _ h1 h2 (by omega) (by omega)).mono ?_; rintro e w' ⟨rfl, mq, rfl⟩)
      go_ret; exact ⟨ret_i (M.symb1 c2).symm, _, rfl⟩
    · go_enter Tryz.func79, Tryz.ntmps79
      go_wp2_with (go_at_call 88; refine (power_c _ _ _ _ h1 h2 (by omega) (by omega)).mono ?_; rintro e w' ⟨rfl, mq, rfl⟩)
      go_ret; exact ⟨ret_i (M.symbm c1 c2).symm, _, rfl⟩

end Go.Proofs.YtodgfechhielaaaGreatDoor
