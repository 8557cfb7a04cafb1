/-
  Contracts: counts and traces.
-/
import Derived.Test.YtodgfechhielaaaGreatDoorC9
namespace Go.Proofs.YtodgfechhielaaaGreatDoor
set_option linter.unusedSimpArgs false
set_option linter.unusedVariables false
open Go.RowKit

theorem rightSide_c (a b p x : Int) (w : World) (h : M.inCurve a b = true) (p1 : 1 ≤ p) (p2 : p ≤ 1000) (x1 : 0 ≤ x) (x2 : x ≤ 1000) :
    Calls Tryz.prog 80 #[.agg #[.int .i64 a, .int .i64 b], .int .i64 p, .int .i64 x] w fun e w' => e = .returned (.int .i64 (M.rhs a b p x)) ∧ Below w.heap.size w w' := by
  obtain ⟨g1, g2, g3, g4⟩ := M.inCurve_bd h
  have b1 := M.mul_nn (x := x) (y := x) (m := 1000) (n := 1000) (by omega) (by omega) (by omega) (by omega)
  have m1 := M.mod_bd (a := x * x) p1
  have b2 := M.mul_nn (x := x * x % p) (y := x) (m := 1000) (n := 1000) (by omega) (by omega) (by omega) (by omega)
  have b3 := M.mul_bd (x := a) (y := x) (m := 1000) (n := 1000) (by omega) (by omega) (by omega) (by omega)
  have t1 := Int.tmod_eq_emod_of_nonneg (a := x * x) (b := p) b1.1
  have w1 := IntWalk.i64_in (x * x) (by omega)
  have w2 := IntWalk.i64_in (x * x % p) (by omega)
  have w3 := IntWalk.i64_in (x * x % p * x) (by omega)
  have w4 := IntWalk.i64_in (a * x) (by omega)
  have w5 := IntWalk.i64_in (x * x % p * x + a * x) (by omega)
  have w6 := IntWalk.i64_in (x * x % p * x + a * x + b) (by omega)
  have hp0 : ¬ p = 0 := by omega
  go_enter Tryz.func80, Tryz.ntmps80
  go_wp2
  first | go_region_held3 (fun W => W.cell? ⟨w.heap.size, 0, none⟩ = some (.int .i64 a) ∧ W.cell? ⟨w.heap.size, 1, none⟩ = some (.int .i64 b)) (first | exact ⟨keepCell (by assumption) (by assumption), keepCell (by assumption) (by assumption)⟩ | (go_split_ands; exact ⟨keepCell (by assumption) (by assumption), keepCell (by assumption) (by assumption)⟩) | go_keep) ((go_at_call 89; refine (modulo_c _ _ _ (by omega) (by omega)).mono ?_; rintro e w' ⟨rfl, rfl⟩)) | fail
  clear w1 w2 w3 w4 w5 w6 t1
  go_wp2
  go_ret
  exact ⟨ret_i (M.rhs_alt a b p x), (by repeat (first | exact Below.refl _ _ | refine below_alloc ?_ _ | refine below_step ?_ (by assumption) | refine Below.drew ?_ | refine Below.setCell ?_ (by first | exact Nat.le_refl _ | exact Nat.le_add_right _ _ | (simp <;> omega)) _ | refine below_drewN ?_ _))⟩

theorem fmValue_c (a b p x : Int) (w : World) (h : M.inCurve a b = true) (p1 : 1 ≤ p) (p2 : p ≤ 1000) (x1 : 0 ≤ x) (x2 : x ≤ 1000) :
    Calls Tryz.prog 84 #[.agg #[.int .i64 a, .int .i64 b], .int .i64 p, .int .i64 x] w fun e w' => e = .returned (.int .i64 (M.rhs a b p x)) ∧ Below w.heap.size w w' := by
  obtain ⟨g1, g2, g3, g4⟩ := M.inCurve_bd h
  have b1 := M.mul_nn (x := x) (y := x) (m := 1000) (n := 1000) (by omega) (by omega) (by omega) (by omega)
  have b2 := M.mul_nn (x := x * x) (y := x) (m := 1000000) (n := 1000) (by omega) (by omega) (by omega) (by omega)
  have b3 := M.mul_bd (x := a) (y := x) (m := 1000) (n := 1000) (by omega) (by omega) (by omega) (by omega)
  go_enter Tryz.func84, Tryz.ntmps84
  go_wp2_with (go_at_call 82; refine (mdMod_c _ _ _ (by omega) (by omega)).mono ?_; rintro e w' ⟨rfl, rfl⟩)
  go_ret
  exact ⟨rfl, (by repeat (first | exact Below.refl _ _ | refine below_alloc ?_ _ | refine below_step ?_ (by assumption) | refine Below.drew ?_ | refine Below.setCell ?_ (by first | exact Nat.le_refl _ | exact Nat.le_add_right _ _ | (simp <;> omega)) _ | refine below_drewN ?_ _))⟩

theorem countPoints_c (a b p : Int) (w : World) (h : M.inCurve a b = true) (p1 : 1 ≤ p) (p2 : p ≤ 1000) :
    Calls Tryz.prog 62 #[.agg #[.int .i64 a, .int .i64 b], .int .i64 p] w fun e w' => e = .returned (.int .i64 (M.count a b p)) ∧ Below w.heap.size w w' := by
  go_enter Tryz.func62, Tryz.ntmps62
  go_wp2
  go_loopw [5, 8] (fun vc vi wr => ∃ k : Nat, (k : Int) ≤ p ∧ vi = .int .i64 k ∧ vc = .int .i64 (1 + k + M.sumTo (M.chi a b p) k) ∧ Below (w.heap.size + 1) (w.alloc (.cells #[.int .i64 a, .int .i64 b] 24)) wr) (fun _ vi _ => (p - intOf vi).toNat)
  case atStart => exact ⟨0, by omega, rfl, by simp [M.sumTo], Below.refl _ _⟩
  case round =>
    obtain ⟨k, hk, rfl, rfl, hb⟩ := hrel
    have c0 : wr.cell? ⟨w.heap.size, 0, none⟩ = some (.int .i64 a) := (hb.cell (Nat.lt_succ_self _)).trans (box_cell _ _ _ _)
    have c1 : wr.cell? ⟨w.heap.size, 1, none⟩ = some (.int .i64 b) := (hb.cell (Nat.lt_succ_self _)).trans (box_cell _ _ _ _)
    have hz0 : w.heap.size + 1 ≤ wr.heap.size := by have := hb.size; simpa using this
    have hs := M.sumTo_bd (f := M.chi a b p) (fun x => M.symb_bd _ _) k
    have hc := M.symb_bd (M.rhs a b p k) p
    by_cases hlt : (k : Int) < p
    · go_wp2_with (first | (go_at_call 80; refine (rightSide_c a b p k _ h p1 p2 (by omega) (by omega)).mono ?_; rintro e w1 ⟨rfl, hb1⟩) | (go_at_call 79; refine (symbol_c _ _ _ (by omega) (by omega)).mono ?_; rintro e w' ⟨rfl, mq, rfl⟩))
      go_roundw
      case rel => exact ⟨k + 1, by omega, by go_num, by simp only [M.sumTo, M.chi]; congr 1; push_cast; omega, (hb.trans (hb1.mono hz0)).trans (below_drewN (Below.refl _ _) _ |>.mono (by have := hb1.size; omega))⟩
      case measure => simp [intOf]; omega
    · obtain rfl : (k : Int) = p := by omega
      go_wp2
      go_ret
      exact ⟨ret_i (by simp only [M.count, Int.toNat_natCast]; omega), ((Below.refl _ _).alloc (Nat.le_refl _) _).trans (hb.mono (by omega))⟩

theorem fmCount_c (a b p : Int) (w : World) (h : M.inCurve a b = true) (hp : M.prime p = true) (p1 : 3 ≤ p) (p2 : p ≤ 997) :
    Calls Tryz.prog 64 #[.agg #[.int .i64 a, .int .i64 b], .int .i64 p] w fun e w' => e = .returned (.int .i64 (M.count a b p)) ∧ Below w.heap.size w w' := by
  go_enter Tryz.func64, Tryz.ntmps64
  go_wp2
  go_loopw [5, 6] (fun vc vi wr => ∃ k : Nat, (k : Int) ≤ p ∧ vi = .int .i64 k ∧ vc = .int .i64 (p + 1 + M.sumTo (M.chi a b p) k) ∧ Below (w.heap.size + 1) (w.alloc (.cells #[.int .i64 a, .int .i64 b] 24)) wr) (fun _ vi _ => (p - intOf vi).toNat)
  case atStart => exact ⟨0, by omega, rfl, by simp [M.sumTo], Below.refl _ _⟩
  case round =>
    obtain ⟨k, hk, rfl, rfl, hb⟩ := hrel
    have c0 : wr.cell? ⟨w.heap.size, 0, none⟩ = some (.int .i64 a) := (hb.cell (Nat.lt_succ_self _)).trans (box_cell _ _ _ _)
    have c1 : wr.cell? ⟨w.heap.size, 1, none⟩ = some (.int .i64 b) := (hb.cell (Nat.lt_succ_self _)).trans (box_cell _ _ _ _)
    have hz0 : w.heap.size + 1 ≤ wr.heap.size := by have := hb.size; simpa using this
    have hs := M.sumTo_bd (f := M.chi a b p) (fun x => M.symb_bd _ _) k
    have hc := M.symb_bd (M.rhs a b p k) p
    by_cases hlt : (k : Int) < p
    · go_wp2_with (first | (go_at_call 84; refine (fmValue_c a b p k _ h (by omega) (by omega) (by omega) (by omega)).mono ?_; rintro e w1 ⟨rfl, hb1⟩) | (go_at_call 83; refine (mdSymbol_c _ _ _ hp p1 p2).mono ?_; rintro e w' ⟨rfl, rfl⟩))
      go_roundw
      case rel => exact ⟨k + 1, by omega, by go_num, by simp only [M.sumTo, M.chi]; congr 1; omega, hb.trans (hb1.mono hz0)⟩
      case measure => simp [intOf]; omega
    · obtain rfl : (k : Int) = p := by omega
      go_wp2
      go_ret
      exact ⟨ret_i (by simp only [M.count, Int.toNat_natCast]), ((Below.refl _ _).alloc (Nat.le_refl _) _).trans (hb.mono (by omega))⟩

theorem isGood_c (a b p : Int) (w : World) (h : M.inCurve a b = true) :
    Calls Tryz.prog 58 #[.agg #[.int .i64 a, .int .i64 b], .int .i64 p] w fun e w' => e = .returned (.bool (M.goodp a b p)) ∧ Below w.heap.size w w' := by
  unfold M.goodp
  cases h1 : M.ins p 5 997
  · go_enter Tryz.func58, Tryz.ntmps58
    go_wp2_with (go_at_call 30; refine (inside_c _ _ _ _).mono ?_; rintro e w' ⟨rfl, rfl⟩)
    go_ret; exact ⟨ret_b (by simp), (by repeat (first | exact Below.refl _ _ | refine below_alloc ?_ _ | refine below_step ?_ (by assumption) | refine Below.drew ?_ | refine Below.setCell ?_ (by first | exact Nat.le_refl _ | exact Nat.le_add_right _ _ | (simp <;> omega)) _ | refine below_drewN ?_ _))⟩
  · obtain ⟨p1, p2⟩ := M.ins_t h1
    cases h2 : M.prime p
    · go_enter Tryz.func58, Tryz.ntmps58
      go_wp2_with (first | (go_at_call 30; refine (inside_c _ _ _ _).mono ?_; rintro e w' ⟨rfl, rfl⟩) | (go_at_call 59; refine (isPrime_c _ _ (by omega) (by omega)).mono ?_; rintro e w' ⟨rfl, rfl⟩))
      go_ret; exact ⟨ret_b (by simp), (by repeat (first | exact Below.refl _ _ | refine below_alloc ?_ _ | refine below_step ?_ (by assumption) | refine Below.drew ?_ | refine Below.setCell ?_ (by first | exact Nat.le_refl _ | exact Nat.le_add_right _ _ | (simp <;> omega)) _ | refine below_drewN ?_ _))⟩
    · by_cases h3 : M.disc a b % p = 0
      · have e3 := M.tmod_zero.2 h3
        go_enter Tryz.func58, Tryz.ntmps58
        go_wp2_with (first | (go_at_call 30; refine (inside_c _ _ _ _).mono ?_; rintro e w' ⟨rfl, rfl⟩) | (go_at_call 59; refine (isPrime_c _ _ (by omega) (by omega)).mono ?_; rintro e w' ⟨rfl, rfl⟩) | (go_at_call 61; refine (core_c _ _ _ h).mono ?_; rintro e w' ⟨rfl, hb⟩; have hz_ := hb.size; (try simp only [World.size_alloc, heap_drew, World.heap_drewN, size_setCell] at hz_); have hs0_ : w.heap.size < w'.heap.size := (by omega); have hk0_ := fun o => (bcell hb).1 (w.heap.size) o (by (try simp only [World.size_alloc, heap_drew, World.heap_drewN, size_setCell]); omega); have hl0_ := fun o => (bcell hb).2.1 (w.heap.size) o (by (try simp only [World.size_alloc, heap_drew, World.heap_drewN, size_setCell]); omega)))
        go_ret; exact ⟨ret_b (by simp [h3]), (by repeat (first | exact Below.refl _ _ | refine below_alloc ?_ _ | refine below_step ?_ (by assumption) | refine Below.drew ?_ | refine Below.setCell ?_ (by first | exact Nat.le_refl _ | exact Nat.le_add_right _ _ | (simp <;> omega)) _ | refine below_drewN ?_ _))⟩
      · have e3 : ((M.disc a b).tmod p == 0) = false := by simpa using fun h => h3 (M.tmod_zero.1 h)
        have e4 : ((M.disc a b).tmod p != 0) = true := by simpa using fun h => h3 (M.tmod_zero.1 h)
        go_enter Tryz.func58, Tryz.ntmps58
        go_wp2_with (first | (go_at_call 30; refine (inside_c _ _ _ _).mono ?_; rintro e w' ⟨rfl, rfl⟩) | (go_at_call 59; refine (isPrime_c _ _ (by omega) (by omega)).mono ?_; rintro e w' ⟨rfl, rfl⟩) | (go_at_call 61; refine (core_c _ _ _ h).mono ?_; rintro e w' ⟨rfl, hb⟩; have hz_ := hb.size; (try simp only [World.size_alloc, heap_drew, World.heap_drewN, size_setCell] at hz_); have hs0_ : w.heap.size < w'.heap.size := (by omega); have hk0_ := fun o => (bcell hb).1 (w.heap.size) o (by (try simp only [World.size_alloc, heap_drew, World.heap_drewN, size_setCell]); omega); have hl0_ := fun o => (bcell hb).2.1 (w.heap.size) o (by (try simp only [World.size_alloc, heap_drew, World.heap_drewN, size_setCell]); omega)))
        go_ret; exact ⟨ret_b (by simp [h3]), (by repeat (first | exact Below.refl _ _ | refine below_alloc ?_ _ | refine below_step ?_ (by assumption) | refine Below.drew ?_ | refine Below.setCell ?_ (by first | exact Nat.le_refl _ | exact Nat.le_add_right _ _ | (simp <;> omega)) _ | refine below_drewN ?_ _))⟩
end Go.Proofs.YtodgfechhielaaaGreatDoor
