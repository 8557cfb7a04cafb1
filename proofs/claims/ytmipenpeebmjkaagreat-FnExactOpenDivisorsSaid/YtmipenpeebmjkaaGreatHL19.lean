/-
  The walk of the law OpenDivisors.
-/
import Derived.Test.YtmipenpeebmjkaaGreatHR44
import Derived.Test.YtmipenpeebmjkaaGreatB20
namespace Go.Proofs.YtmipenpeebmjkaaGreat
set_option linter.unusedSimpArgs false
set_option linter.unusedVariables false
open Go.RowKit
theorem M.odL_len (a b : Int) (dual : Bool) (n : Int) : (M.odL a b dual n).length ≤ 1000000 := by
  cases h : M.odO a b dual n
  · rw [M.od_f h]; exact Nat.zero_le _
  · have h1 := h
    unfold M.odO at h1
    simp only [Bool.and_eq_true] at h1
    unfold M.odL
    rw [h, M.opt_t]
    exact Nat.le_trans (List.length_filter_le _ _) (M.slm_len (M.tcb_t h1.1.1) dual)
set_option maxRecDepth 100000 in
theorem law_OpenDivisors (a b : Int) (_ : M.I64 a) (_ : M.I64 b) (dual : Bool) (n : Int) (_ : M.I64 n) (w : World) :
    Calls Tryz.prog 4 #[.agg #[.int .i64 a, .int .i64 b], .bool dual, .int .i64 n] w fun e w' => e = .returned (.bool true) ∧ Below w.heap.size w w' := by
  have e1 := fun w => specOpenDivisors_c a b dual n w
  have e2 := fun w => implOpenDivisors_c a b dual n w
  have hl : (M.odL a b dual n).length ≤ 1000000 := (M.odL_len a b dual n)
  generalize (M.odL a b dual n) = xs at e1 e2 hl
  generalize (M.odO a b dual n) = ok at e1 e2
  have E1 := Lib.hid e1
  have E2 := Lib.hid e2
  clear e1 e2
  go_enter Tryz.func4, Tryz.ntmps4
  go_wp2_with fail
  refine (toTwoCurve_c a b _).mono ?_; rintro e w1 ⟨rfl, hb1⟩
  have c1 : ∀ j, w1.cell? ⟨w.heap.size, j, none⟩ = (#[Value.int .i64 a, Value.int .i64 b])[j]? := fun j => (hb1.cell (by simp)).trans (box_cell _ _ _ _)
  have c10 := c1 0
  have c11 := c1 1
  have z1 : w.heap.size < w1.heap.size := by have := hb1.size; simp at this; omega
  have B1 : Below w.heap.size w w1 := (by repeat (first | exact Below.refl _ _ | refine below_alloc ?_ _ | refine below_step ?_ (by assumption) | refine Below.drew ?_ | refine Below.setCell ?_ (by first | exact Nat.le_refl _ | exact Nat.le_add_right _ _ | (simp <;> omega)) _ | refine below_drewN ?_ _))
  clear hb1
  go_wp2_with fail
  refine (E1.out _).mono ?_; rintro e w2 ⟨v0, rfl, hown0, hb2⟩
  have B2 := below_step B1 hb2
  have z2 := hb2.size
  have c20 := keepCell hb2 c10
  have c21 := keepCell hb2 c11
  have s2 := hown0.seen
  go_wp2_with fail
  refine (toTwoCurve_c a b _).mono ?_; rintro e w3 ⟨rfl, hb3⟩
  have B3 := below_step B2 hb3
  have z3 := hb3.size
  have c30 := keepCell hb3 c20
  have c31 := keepCell hb3 c21
  have s3 := s2.below (hb3.mono (by omega))
  go_wp2_with fail
  refine (E2.out _).mono ?_; rintro e w4 ⟨v1, rfl, hown1, hb4⟩
  have B4 := below_step B3 hb4
  have z4 := hb4.size
  have c40 := keepCell hb4 c30
  have c41 := keepCell hb4 c31
  have s4 := s3.below (hb4.mono (by omega))
  have o4 := hown1
  go_wp2_with fail
  refine (eqIntS_c _ _ _ _ _ _ _ o4.seen s4).mono ?_; rintro e w5 ⟨rfl, hb5⟩
  have B5 := below_step B4 hb5
  have z5 := hb5.size
  have c50 := keepCell hb5 c40
  have c51 := keepCell hb5 c41
  have s5 := s4.below (hb5.mono (by omega))
  have o5 := o4.below hb5
  have hd : decide (xs = xs) = true := by simp
  go_wp2_with fail
  refine (markIntS_c _ _ _ _ _ o5 (by omega) (by omega)).mono ?_; rintro e w6 ⟨rfl, o6, hg⟩
  have hb6 : Below w3.heap.size w5 w6 := grown_below hg (by omega) (fun k hk => (o5.lt k hk).1)
  have B6 : Below w.heap.size w w6 := B5.trans (hb6.mono (by omega))
  have z6 := hb6.size
  have s6 := s5.below (hb6.mono (by omega))
  have c60 := (hb6.cell (p := ⟨w.heap.size, 0, none⟩) (by show w.heap.size < _; omega)).trans c50
  have c61 := (hb6.cell (p := ⟨w.heap.size, 1, none⟩) (by show w.heap.size < _; omega)).trans c51
  have hn0 : (0 : Int) ≤ xs.length := by omega
  go_wp2_with fail
  refine (heldIntS_c _ _ _ _ _ o6 (by omega) (by omega)).mono ?_; rintro e w7 ⟨rfl, hb7⟩
  have B7 := below_step B6 hb7
  have z7 := hb7.size
  have c70 := keepCell hb7 c60
  have c71 := keepCell hb7 c61
  have s7 := s6.below (hb7.mono (by omega))
  have o7 := o6.below hb7
  go_wp2_with fail
  refine (toTwoCurve_c a b _).mono ?_; rintro e w8 ⟨rfl, hb8⟩
  have B8 := below_step B7 hb8
  have z8 := hb8.size
  have c80 := keepCell hb8 c70
  have c81 := keepCell hb8 c71
  have s8 := s7.below (hb8.mono (by omega))
  have o8 := o7.below hb8
  go_wp2_with fail
  refine (E2.out _).mono ?_; rintro e w9 ⟨v2, rfl, hown2, hb9⟩
  have B9 := below_step B8 hb9
  have z9 := hb9.size
  have c90 := keepCell hb9 c80
  have c91 := keepCell hb9 c81
  have s9 := s8.below (hb9.mono (by omega))
  have o9 := o8.below hb9
  go_wp2_with fail
  refine (eqIntS_c _ _ _ _ _ _ _ hown2.seen s9).mono ?_; rintro e w10 ⟨rfl, hb10⟩
  have B10 := below_step B9 hb10
  have z10 := hb10.size
  have c100 := keepCell hb10 c90
  have c101 := keepCell hb10 c91
  have s10 := s9.below (hb10.mono (by omega))
  have o10 := o9.below hb10
  go_wp2_with fail
  refine (heldIntS_c _ _ _ _ _ o10 (by omega) (by omega)).mono ?_; rintro e w11 ⟨rfl, hb11⟩
  have B11 := below_step B10 hb11
  have z11 := hb11.size
  have c110 := keepCell hb11 c100
  have c111 := keepCell hb11 c101
  have s11 := s10.below (hb11.mono (by omega))
  have o11 := o10.below hb11
  go_wp2_with fail
  go_ret
  exact ⟨by simp, B11⟩
end Go.Proofs.YtmipenpeebmjkaaGreat
