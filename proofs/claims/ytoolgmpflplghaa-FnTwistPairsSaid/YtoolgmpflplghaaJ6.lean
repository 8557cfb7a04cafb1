/-
  Plain law and small contracts for the law on twists.
-/
import Derived.Test.YtoolgmpflplghaaJ5
import Derived.Test.YtoolgmpflplghaaPlain11
import Derived.Test.YtoolgmpflplghaaC8
import Derived.Test.YtoolgmpflplghaaC9
import Derived.Test.YtoolgmpflplghaaD4
import Derived.Test.YtoolgmpflplghaaD9
import Derived.Test.YtoolgmpflplghaaS1
namespace Go.Proofs.Ytoolgmpflplghaa
set_option linter.unusedSimpArgs false
set_option linter.unusedVariables false
open Go.RowKit

theorem tdiv_cancel {a k : Int} (hk : k ≠ 0) : (a * k).tdiv k = a := Int.mul_tdiv_cancel a hk
theorem twc_t {a b d : Int} (h : twcOk a b d = true) : M.good a b = true ∧ M.tw d = true ∧ M.good (a * d * d) (b * d * d * d) = true := by
  unfold twcOk at h
  simp only [Bool.and_eq_true] at h
  exact ⟨h.1.1, h.1.2, h.2⟩
theorem tw_back {a b d : Int} (h : twcOk a b d = true) : utOk (a * d * d) (b * d * d * d) d = true ∧ (a * d * d).tdiv (d * d) = a ∧ (b * d * d * d).tdiv (d * d * d) = b := by
  obtain ⟨h1, h2, h3⟩ := twc_t h
  obtain ⟨h0, -⟩ := M.tw_iff.1 h2
  have e1 : a * d * d = a * (d * d) := by grind
  have e2 : b * d * d * d = b * (d * d * d) := by grind
  have n1 : d * d ≠ 0 := Int.mul_ne_zero h0 h0
  have n2 : d * d * d ≠ 0 := Int.mul_ne_zero n1 h0
  refine ⟨?_, by rw [e1]; exact tdiv_cancel n1, by rw [e2]; exact tdiv_cancel n2⟩
  unfold utOk
  rw [h3, h2, e1, e2, Int.mul_tmod_left, Int.mul_tmod_left]
  rfl
theorem part_scale {n m k : Int} (hk : 0 < k) (hm : m ≠ 0) : partN (n * k) (m * k) = partN n m ∧ partD (n * k) (m * k) = partD n m := by
  have hg : M.gcd (n * k) (m * k) = M.gcd n m * k := by
    unfold M.gcd
    rw [Int.gcd_mul_right]
    push_cast
    rw [Int.natAbs_of_nonneg (by omega)]
  have t1 : (n * k).tdiv (M.gcd n m * k) = n.tdiv (M.gcd n m) := Int.mul_tdiv_mul_of_pos_left n (M.gcd n m) hk
  have t2 : (m * k).tdiv (M.gcd n m * k) = m.tdiv (M.gcd n m) := Int.mul_tdiv_mul_of_pos_left m (M.gcd n m) hk
  by_cases hn : m < 0
  · have hn' : m * k < 0 := Int.mul_neg_of_neg_of_pos hn hk
    rw [partN_neg hn', partD_neg hn', partN_neg hn, partD_neg hn, hg, t1, t2]
    exact ⟨rfl, rfl⟩
  · have hn' : 0 ≤ m * k := Int.mul_nonneg (by omega) (by omega)
    rw [partN_pos (by omega), partD_pos (by omega), partN_pos (by omega), partD_pos (by omega), hg, t1, t2]
    exact ⟨rfl, rfl⟩
theorem tw_inv {a b d : Int} (h : twcOk a b d = true) : sameInv a b (a * d * d) (b * d * d * d) = true := by
  obtain ⟨h1, h2, h3⟩ := twc_t h
  obtain ⟨h0, -⟩ := M.tw_iff.1 h2
  have hk : 0 < d * d * d * (d * d * d) := by
    have n : d * d * d ≠ 0 := Int.mul_ne_zero (Int.mul_ne_zero h0 h0) h0
    rcases Int.lt_or_gt_of_ne n with h | h
    · exact Int.mul_pos_of_neg_of_neg h h
    · exact Int.mul_pos h h
  have e1 : 6912 * (a * d * d) * (a * d * d) * (a * d * d) = 6912 * a * a * a * (d * d * d * (d * d * d)) := by grind
  have e2 : M.disc (a * d * d) (b * d * d * d) = M.disc a b * (d * d * d * (d * d * d)) := by unfold M.disc; grind
  have hp := part_scale (n := 6912 * a * a * a) hk (M.good_disc h1)
  unfold sameInv
  rw [e1, e2, hp.1, hp.2]
  simp
theorem tw_mem {a b d : Int} (h : twcOk a b d = true) : d ∈ M.tws a b ∧ (1 : Int) ∈ M.tws a b := by
  obtain ⟨h1, h2, h3⟩ := twc_t h
  obtain ⟨h0, d1, d2, -⟩ := M.tw_iff.1 h2
  constructor
  · refine M.mem_sel.2 ⟨by omega, ?_⟩
    simp [M.twp, M.twOk, h2, h3]
  · refine M.mem_sel.2 ⟨by omega, ?_⟩
    have : M.tw 1 = true := by decide
    simp [M.twp, M.twOk, this, h1]
theorem tw_cnt {a b d p : Int} (h : tcOk a b d p = true) : tsOk d p = true ∧ (M.symb d p = 1 → M.count a b p = M.count (a * d * d) (b * d * d * d) p) ∧ (M.symb d p = -1 → M.count a b p + M.count (a * d * d) (b * d * d * d) p = 2 * p + 2) ∧ 5 ≤ p ∧ p ≤ 199 := by
  unfold tcOk fitOk at h
  simp only [Bool.and_eq_true, decide_eq_true_eq] at h
  obtain ⟨⟨⟨⟨⟨hg, hp⟩, hle⟩, ht⟩, hd⟩, hG⟩ := h
  have b1 := M.goodp_bd hp
  have hP := M.prime_iff.1 b1.2.2
  have hd' : ¬ d % p = 0 := fun k => hd (M.tmod_zero.2 k)
  have hs := M.tw_psum (a := a) (b := b) hP (by omega) (by omega) hd'
  refine ⟨?_, fun h1 => ?_, fun h1 => ?_, b1.1, hle⟩
  · unfold tsOk
    rw [ht, b1.2.2, decide_eq_true hd]
    simp [M.ins]
    omega
  · rw [M.count_psum, M.count_psum, hs, h1]
    omega
  · rw [M.count_psum, M.count_psum, hs, h1]
    omega
theorem ut_back {a b d : Int} (h : utOk a b d = true) : twcOk (a.tdiv (d * d)) (b.tdiv (d * d * d)) d = true ∧ a.tdiv (d * d) * d * d = a ∧ b.tdiv (d * d * d) * d * d * d = b := by
  unfold utOk at h
  simp only [Bool.and_eq_true, decide_eq_true_eq] at h
  obtain ⟨⟨⟨hg, ht⟩, h1⟩, h2⟩ := h
  obtain ⟨h0, -⟩ := M.tw_iff.1 ht
  have e1 : a.tdiv (d * d) * (d * d) = a := by have := Int.tmod_add_tdiv_mul a (d * d); omega
  have e2 : b.tdiv (d * d * d) * (d * d * d) = b := by have := Int.tmod_add_tdiv_mul b (d * d * d); omega
  have hG := ut_good hg h0 h1 h2
  generalize a.tdiv (d * d) = x at *
  generalize b.tdiv (d * d * d) = y at *
  have e1' : x * d * d = a := by rw [← e1]; grind
  have e2' : y * d * d * d = b := by rw [← e2]; grind
  refine ⟨?_, e1', e2'⟩
  unfold twcOk
  rw [e1', e2', hG, ht, hg]
  rfl

def bigB (n m : Nat) : Bool := decide ((1048576 : Int) < n) || decide (1048576 - (n : Int) < m)
theorem big_c (v u : Value) (n m : Nat) (w : World) (hv : Bytes w w.heap.size v n) (hu : Bytes w w.heap.size u m) :
    Calls Try.prog 10 #[v, u] w fun e w' => e = .returned (.bool (bigB n m)) ∧ w = w' := by
  obtain ⟨A, c, rfl, hn, -⟩ := hv
  obtain ⟨A', c', rfl, hm, -⟩ := hu
  by_cases h1 : (1048576 : Int) < n
  · go_enter Try.func10, Try.ntmps10
    go_wp2
    go_ret
    exact ⟨ret_b (by simp [bigB, h1]), rfl⟩
  · by_cases h2 : 1048576 - (n : Int) < m
    all_goals
      go_enter Try.func10, Try.ntmps10
      go_wp2
      go_ret
      exact ⟨ret_b (by simp [bigB, h1, h2]), rfl⟩
theorem implIsCurve_c (a b : Int) (w : World) :
    Calls Try.prog 22 #[.agg #[.int .i64 a, .int .i64 b]] w fun e w' => e = .returned (.bool (M.good a b)) ∧ Below w.heap.size w w' := by
  go_enter Try.func22, Try.ntmps22
  go_wp2_with fail
  refine (isCurve_c a b _).mono ?_; rintro e w1 ⟨rfl, hb1⟩
  go_wp2
  go_ret
  exact ⟨rfl, (by repeat (first | exact Below.refl _ _ | refine below_alloc ?_ _ | refine below_step ?_ (by assumption) | refine Below.drew ?_ | refine Below.setCell ?_ (by first | exact Nat.le_refl _ | exact Nat.le_add_right _ _ | (simp <;> omega)) _ | refine below_drewN ?_ _))⟩
theorem pIn_c (v : Value) (xs : List Int) (d : Int) (hi : Nat) (w : World) (hx : SeenI w hi v xs) (hd : d ∈ xs) :
    Calls Try.prog 21 #[v, .int .i64 d] w fun e w' => e = .returned (.bool true) ∧ w = w' := by
  obtain ⟨A, cap, rfl, hm, hv⟩ := hx
  have Hd := Lib.hid hd
  clear hd
  go_enter Try.func21, Try.ntmps21
  go_wp2
  go_loop [9] (fun vi => ∃ k : Nat, k ≤ xs.length ∧ vi = .int .i64 k ∧ ∀ j x, j < k → xs[j]? = some x → x ≠ d) (fun vi => xs.length - (intOf vi).toNat)
  case atStart => exact ⟨0, by omega, rfl, fun j x h => by omega⟩
  case round =>
    obtain ⟨k, hk, rfl, hall⟩ := hrel
    have Hall := Lib.hid hall
    clear hall
    by_cases hlt : k < xs.length
    · obtain ⟨g, x, rfl, hg, hx, hcell⟩ := hv k hlt
      clear hv
      by_cases hxd : x = d
      · have hb : (x == d) = true := by simpa using hxd
        go_wp2
        go_ret
        exact ⟨rfl, rfl⟩
      · have hb : (x == d) = false := by simpa using hxd
        go_wp2
        go_round
        case rel => exact ⟨k + 1, by omega, by go_num, fun j y hj hy => by
          rcases Nat.lt_or_ge j k with hh | hh
          · exact Hall.out j y hh hy
          · obtain rfl : j = k := by omega
            obtain rfl := Option.some.inj (hx.out.symm.trans hy)
            exact hxd⟩
        case measure => simp [intOf]; omega
    · exfalso
      obtain ⟨j, hj⟩ := List.getElem?_of_mem Hd.out
      exact Hall.out j d (by have := (List.getElem?_eq_some_iff.1 hj).1; omega) hj rfl
theorem sameInts_c (v u : Value) (xs : List Int) (h1 h2 : Nat) (w : World) (hx : SeenI w h1 v xs) (hy : SeenI w h2 u xs) :
    Calls Try.prog 20 #[v, u] w fun e w' => e = .returned (.bool true) ∧ Below w.heap.size w w' := by
  obtain ⟨A, cap, rfl, hm, hv⟩ := hx
  obtain ⟨A', cap', rfl, -, hv'⟩ := hy
  go_enter Try.func20, Try.ntmps20
  go_wp2
  go_loopw [13] (fun vi wr => ∃ k : Nat, k ≤ xs.length ∧ vi = .int .i64 k ∧ Below w.heap.size w wr ∧ (∀ p, wr.cell? p = w.cell? p)) (fun vi _ => xs.length - (intOf vi).toNat)
  case atStart => exact ⟨0, by omega, rfl, Below.refl _ _, fun _ => rfl⟩
  case round =>
    obtain ⟨k, hk, rfl, hbr, hc⟩ := hrel
    have Hc := Lib.hid hc
    clear hc
    by_cases hlt : k < xs.length
    · obtain ⟨g, x, rfl, hg, hx, hcell⟩ := hv k hlt
      obtain ⟨g', x', rfl, hg', hx', hcell'⟩ := hv' k hlt
      obtain rfl := Option.some.inj (hx.out.symm.trans hx'.out)
      have q0 := (Hc.out _).trans hcell
      have q1 := (Hc.out _).trans hcell'
      clear hv hv' hcell hcell'
      go_wp2
      go_quiet (fail)
      go_wp2
      go_roundw
      case rel => exact ⟨k + 1, by omega, by go_num, below_drewN hbr _, fun p => Hc.out p⟩
      case measure => simp [intOf]; omega
    · obtain rfl : k = xs.length := by omega
      clear hv hv'
      go_wp2
      go_ret
      exact ⟨rfl, hbr⟩
end Go.Proofs.Ytoolgmpflplghaa
