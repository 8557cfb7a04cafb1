/-
  Contracts: powers, counts over larger fields, lists of good primes.
-/
import Derived.Test.YtodgfechhielaaaGreatDoorPlain5
import Derived.Test.YtodgfechhielaaaGreatDoorC12
import Derived.Test.YtodgfechhielaaaGreatDoorS1
namespace Go.Proofs.YtodgfechhielaaaGreatDoor
set_option linter.unusedSimpArgs false
set_option linter.unusedVariables false
open Go.RowKit

def cntOver (t p k : Int) : Int := M.ipow p k.toNat + 1 - trp t p k
theorem trp_bd {t p k : Int} (h1 : -1000 ≤ t) (h2 : t ≤ 1000) (h3 : 0 ≤ p) (h4 : p ≤ 1000) (k1 : 1 ≤ k) (k2 : k ≤ 4) : -8000000000000 ≤ trp t p k ∧ trp t p k ≤ 8000000000000 := by
  have := M.tpw_bd4 h1 h2 h3 h4 (k := (k - 1).toNat) (by omega)
  exact this.2.2

theorem goodUpTo_c (a b n : Int) (w : World) (h : M.inCurve a b = true) (n1 : 5 ≤ n) (n2 : n ≤ 1000) :
    Calls Tryz.prog 31 #[.agg #[.int .i64 a, .int .i64 b], .int .i64 n] w fun e w' => ∃ v, e = .returned v ∧ OwnI w' w.heap.size v (M.goods a b n) ∧ Below w.heap.size w w' := by
  go_enter Tryz.func31, Tryz.ntmps31
  go_wp2
  go_loopw [5, 6] (fun v x wr => ∃ k : Nat, (k : Int) ≤ n - 4 ∧ x = .int .i64 ((5 : Int) + k) ∧ OwnI wr (w.heap.size + 1) v (M.sel (M.goodp a b) 5 k) ∧ Below (w.heap.size + 1) (w.alloc (.cells #[.int .i64 a, .int .i64 b] 24)) wr) (fun _ x _ => (n + 1 - intOf x).toNat)
  case atStart => exact ⟨0, by omega, rfl, OwnI.nil _ _, Below.refl _ _⟩
  case round =>
    obtain ⟨k, hk, rfl, hown, hb⟩ := hrel
    have c0 : wr.cell? ⟨w.heap.size, 0, none⟩ = some (.int .i64 a) := (hb.cell (Nat.lt_succ_self _)).trans (box_cell _ _ _ _)
    have c1 : wr.cell? ⟨w.heap.size, 1, none⟩ = some (.int .i64 b) := (hb.cell (Nat.lt_succ_self _)).trans (box_cell _ _ _ _)
    have hz0 : w.heap.size + 1 ≤ wr.heap.size := by have := hb.size; simpa using this
    have hlen := M.sel_le (M.goodp a b) 5 k
    by_cases hlt : (k : Int) < n - 4
    · cases hr : M.goodp a b (5 + k)
      · go_wp2_with (first | (go_at_call 58; refine (isGood_c a b (5 + k) _ h).mono ?_; rintro e w1 ⟨rfl, hb1⟩; have hz := hb1.size))
        go_roundw
        case rel => exact ⟨k + 1, by omega, by go_num, by rw [M.sel_no hr]; exact hown.below hb1, hb.trans (hb1.mono hz0)⟩
        case measure => simp [intOf]; omega
      · go_wp2_with (first | (go_at_call 58; refine (isGood_c a b (5 + k) _ h).mono ?_; rintro e w1 ⟨rfl, hb1⟩; have hz := hb1.size) | (at_builtin; refine push_int (w.heap.size + 1) (5 + k) _ _ rfl _ _ rfl rfl rfl (hown.below hb1) (hb.trans (hb1.mono hz0)) (by omega) (by omega) ?_; rintro v2 w2 hown2 hb2))
        go_roundw
        case rel => exact ⟨k + 1, by omega, by go_num, by rw [M.sel_yes hr]; exact hown2, hb2⟩
        case measure => simp [intOf]; omega
    · have hkn : (n - 4).toNat = k := by omega
      have hkn := Lib.hid hkn
      go_wp2
      go_ret
      exact ⟨_, rfl, by unfold M.goods; rw [hkn.out]; exact hown.base (by omega), ((Below.refl _ _).alloc (Nat.le_refl _) _).trans (hb.mono (by omega))⟩

theorem trPrimes_c (a b n : Int) (w : World) (h : M.good a b = true) (n1 : 5 ≤ n) (n2 : n ≤ 1000) :
    Calls Tryz.prog 34 #[.agg #[.int .i64 a, .int .i64 b], .int .i64 n] w fun e w' => ∃ v, e = .returned v ∧ OwnI w' w.heap.size v (M.goods a b n) ∧ Below w.heap.size w w' := by
  go_enter Tryz.func34, Tryz.ntmps34
  go_wp2
  go_loopw [5, 6] (fun v x wr => ∃ k : Nat, (k : Int) ≤ n - 4 ∧ x = .int .i64 ((5 : Int) + k) ∧ OwnI wr (w.heap.size + 1) v (M.sel (M.goodp a b) 5 k) ∧ Below (w.heap.size + 1) (w.alloc (.cells #[.int .i64 a, .int .i64 b] 24)) wr) (fun _ x _ => (n + 1 - intOf x).toNat)
  case atStart => exact ⟨0, by omega, rfl, OwnI.nil _ _, Below.refl _ _⟩
  case round =>
    obtain ⟨k, hk, rfl, hown, hb⟩ := hrel
    have c0 : wr.cell? ⟨w.heap.size, 0, none⟩ = some (.int .i64 a) := (hb.cell (Nat.lt_succ_self _)).trans (box_cell _ _ _ _)
    have c1 : wr.cell? ⟨w.heap.size, 1, none⟩ = some (.int .i64 b) := (hb.cell (Nat.lt_succ_self _)).trans (box_cell _ _ _ _)
    have hz0 : w.heap.size + 1 ≤ wr.heap.size := by have := hb.size; simpa using this
    have hlen := M.sel_le (M.goodp a b) 5 k
    by_cases hlt : (k : Int) < n - 4
    · cases hr : M.goodp a b (5 + k)
      · go_wp2_with (first | (go_at_call 63; refine (fmGood_c a b (5 + k) _).mono ?_; rintro e w1 ⟨rfl, hb1⟩; have hz := hb1.size))
        go_roundw
        case rel => exact ⟨k + 1, by omega, by go_num, by rw [M.sel_no hr]; exact hown.below hb1, hb.trans (hb1.mono hz0)⟩
        case measure => simp [intOf]; omega
      · go_wp2_with (first | (go_at_call 63; refine (fmGood_c a b (5 + k) _).mono ?_; rintro e w1 ⟨rfl, hb1⟩; have hz := hb1.size) | (at_builtin; refine push_int (w.heap.size + 1) (5 + k) _ _ rfl _ _ rfl rfl rfl (hown.below hb1) (hb.trans (hb1.mono hz0)) (by omega) (by omega) ?_; rintro v2 w2 hown2 hb2))
        go_roundw
        case rel => exact ⟨k + 1, by omega, by go_num, by rw [M.sel_yes hr]; exact hown2, hb2⟩
        case measure => simp [intOf]; omega
    · have hkn : (n - 4).toNat = k := by omega
      have hkn := Lib.hid hkn
      go_wp2
      go_ret
      exact ⟨_, rfl, by unfold M.goods; rw [hkn.out]; exact hown.base (by omega), ((Below.refl _ _).alloc (Nat.le_refl _) _).trans (hb.mono (by omega))⟩
end Go.Proofs.YtodgfechhielaaaGreatDoor
