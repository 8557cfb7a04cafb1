/-
  The walk of the law on the twist between two curves.
-/
import Derived.Test.YtpemckpnlemkfaaF3
import Derived.Test.YtpemckpnlemkfaaL1
namespace Go.Proofs.Ytpemckpnlemkfaa
set_option linter.unusedSimpArgs false
set_option linter.unusedVariables false
open Go.RowKit Go.Shelf

theorem law_TwistBetween (a b : Int) (_ : M.I64 a) (_ : M.I64 b) (c d : Int) (_ : M.I64 c) (_ : M.I64 d) (w : World) :
    Calls Try.prog 5 #[.agg #[.int .i64 a, .int .i64 b], .agg #[.int .i64 c, .int .i64 d]] w fun e w' => e = .returned (.bool true) ∧ Below w.heap.size w w' := by
  have e1 := fun w => specTwistBetween_c a b c d w
  have e2 := fun w => implTwistBetween_c a b c d w
  generalize M.btV a b c d = X at e1 e2
  generalize M.btOk a b c d = Y at e1 e2
  have E1 := Lib.hid e1
  have E2 := Lib.hid e2
  clear e1 e2
  go_enter Try.func5, Try.ntmps5
  go_wp2
  first | go_region_held3 (fun W => W.cell? ⟨w.heap.size, 0, none⟩ = some (.int .i64 a) ∧ W.cell? ⟨w.heap.size, 1, none⟩ = some (.int .i64 b) ∧ W.cell? ⟨w.heap.size + 1, 0, none⟩ = some (.int .i64 c) ∧ W.cell? ⟨w.heap.size + 1, 1, none⟩ = some (.int .i64 d)) (first | exact ⟨keepCell (by assumption) (by assumption), keepCell (by assumption) (by assumption), keepCell (by assumption) (by assumption), keepCell (by assumption) (by assumption)⟩ | (go_split_ands; exact ⟨keepCell (by assumption) (by assumption), keepCell (by assumption) (by assumption), keepCell (by assumption) (by assumption), keepCell (by assumption) (by assumption)⟩) | go_keep) ((first | (go_at_call 17; refine (toCurve_c _ _ _).mono ?_; rintro e w' ⟨rfl, hb⟩) | (go_at_call 21; refine (E1.out _).mono ?_; rintro e w' ⟨rfl, hb⟩))) | fail
  go_wp2
  first | go_region_held3 (fun W => W.cell? ⟨w.heap.size, 0, none⟩ = some (.int .i64 a) ∧ W.cell? ⟨w.heap.size, 1, none⟩ = some (.int .i64 b) ∧ W.cell? ⟨w.heap.size + 1, 0, none⟩ = some (.int .i64 c) ∧ W.cell? ⟨w.heap.size + 1, 1, none⟩ = some (.int .i64 d)) (first | exact ⟨keepCell (by assumption) (by assumption), keepCell (by assumption) (by assumption), keepCell (by assumption) (by assumption), keepCell (by assumption) (by assumption)⟩ | (go_split_ands; exact ⟨keepCell (by assumption) (by assumption), keepCell (by assumption) (by assumption), keepCell (by assumption) (by assumption), keepCell (by assumption) (by assumption)⟩) | go_keep) ((first | (go_at_call 17; refine (toCurve_c _ _ _).mono ?_; rintro e w' ⟨rfl, hb⟩) | (go_at_call 22; refine (E2.out _).mono ?_; rintro e w' ⟨rfl, hb⟩))) | fail
  go_wp2
  all_goals (go_ret; exact ⟨by simp, (by repeat (first | exact Below.refl _ _ | refine below_alloc ?_ _ | refine below_step ?_ (by assumption) | refine Below.drew ?_ | refine Below.setCell ?_ (by first | exact Nat.le_refl _ | exact Nat.le_add_right _ _ | (simp <;> omega)) _ | refine below_drewN ?_ _))⟩)
end Go.Proofs.Ytpemckpnlemkfaa
