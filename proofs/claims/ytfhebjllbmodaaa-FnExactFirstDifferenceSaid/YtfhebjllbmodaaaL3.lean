/-
  The walks of the laws on counts over larger fields and on different traces.
-/
import Derived.Test.YtfhebjllbmodaaaD3
import Derived.Test.YtfhebjllbmodaaaL1
namespace Go.Proofs.Ytfhebjllbmodaaa
set_option linter.unusedSimpArgs false
set_option linter.unusedVariables false
open Go.RowKit

theorem law_CountOver (a b : Int) (_ : M.I64 a) (_ : M.I64 b) (p : Int) (_ : M.I64 p) (k : Int) (_ : M.I64 k) (w : World) :
    Calls Try.prog 3 #[.agg #[.int .i64 a, .int .i64 b], .int .i64 p, .int .i64 k] w fun e w' => e = .returned (.bool true) ∧ Below w.heap.size w w' := by
  have e1 := fun w => specCountOver_c a b p k w
  have e2 := fun w => implCountOver_c a b p k w
  generalize M.pick (tfOk a b p k) (cntOver (M.trace a b p) p k) = x at e1 e2
  generalize tfOk a b p k = y at e1 e2
  have E1 := Lib.hid e1
  have E2 := Lib.hid e2
  clear e1 e2
  go_enter Try.func3, Try.ntmps3
  go_wp2_with (first | (go_at_call 7; refine (toCurve_c _ _ _).mono ?_; rintro e w' ⟨rfl, hb⟩; have hz_ := hb.size; (try simp only [World.size_alloc, heap_drew, World.heap_drewN, size_setCell] at hz_); have hs0_ : w.heap.size < w'.heap.size := (by omega); have hk0_ := fun o => (bcell hb).1 (w.heap.size) o (by (try simp only [World.size_alloc, heap_drew, World.heap_drewN, size_setCell]); omega); have hl0_ := fun o => (bcell hb).2.1 (w.heap.size) o (by (try simp only [World.size_alloc, heap_drew, World.heap_drewN, size_setCell]); omega)) | (go_at_call 6; refine (E1.out _).mono ?_; rintro e w' ⟨rfl, hb⟩; have hz_ := hb.size; (try simp only [World.size_alloc, heap_drew, World.heap_drewN, size_setCell] at hz_); have hs0_ : w.heap.size < w'.heap.size := (by omega); have hk0_ := fun o => (bcell hb).1 (w.heap.size) o (by (try simp only [World.size_alloc, heap_drew, World.heap_drewN, size_setCell]); omega); have hl0_ := fun o => (bcell hb).2.1 (w.heap.size) o (by (try simp only [World.size_alloc, heap_drew, World.heap_drewN, size_setCell]); omega)) | (go_at_call 8; refine (E2.out _).mono ?_; rintro e w' ⟨rfl, hb⟩; have hz_ := hb.size; (try simp only [World.size_alloc, heap_drew, World.heap_drewN, size_setCell] at hz_); have hs0_ : w.heap.size < w'.heap.size := (by omega); have hk0_ := fun o => (bcell hb).1 (w.heap.size) o (by (try simp only [World.size_alloc, heap_drew, World.heap_drewN, size_setCell]); omega); have hl0_ := fun o => (bcell hb).2.1 (w.heap.size) o (by (try simp only [World.size_alloc, heap_drew, World.heap_drewN, size_setCell]); omega)))
  all_goals (go_ret; exact ⟨by simp, (by repeat (first | exact Below.refl _ _ | refine below_alloc ?_ _ | refine below_step ?_ (by assumption) | refine Below.drew ?_ | refine Below.setCell ?_ (by first | exact Nat.le_refl _ | exact Nat.le_add_right _ _ | (simp <;> omega)) _ | refine below_drewN ?_ _))⟩)

theorem law_HaveSameTraces (a b : Int) (_ : M.I64 a) (_ : M.I64 b) (c d : Int) (_ : M.I64 c) (_ : M.I64 d) (n : Int) (_ : M.I64 n) (w : World) :
    Calls Try.prog 5 #[.agg #[.int .i64 a, .int .i64 b], .agg #[.int .i64 c, .int .i64 d], .int .i64 n] w fun e w' => e = .returned (.bool true) ∧ Below w.heap.size w w' := by
  have e1 := fun w => specHaveSameTraces_c a b c d n w
  have e2 := fun w => implHaveSameTraces_c a b c d n w
  generalize (hsOk a b c d n && !fdB a b c d n) = x at e1 e2
  generalize hsOk a b c d n = y at e1 e2
  have E1 := Lib.hid e1
  have E2 := Lib.hid e2
  clear e1 e2
  go_enter Try.func5, Try.ntmps5
  go_wp2
  first | go_region_held3 (fun W => W.cell? ⟨w.heap.size, 0, none⟩ = some (.int .i64 a) ∧ W.cell? ⟨w.heap.size, 1, none⟩ = some (.int .i64 b) ∧ W.cell? ⟨w.heap.size + 1, 0, none⟩ = some (.int .i64 c) ∧ W.cell? ⟨w.heap.size + 1, 1, none⟩ = some (.int .i64 d)) (first | exact ⟨keepCell (by assumption) (by assumption), keepCell (by assumption) (by assumption), keepCell (by assumption) (by assumption), keepCell (by assumption) (by assumption)⟩ | (go_split_ands; exact ⟨keepCell (by assumption) (by assumption), keepCell (by assumption) (by assumption), keepCell (by assumption) (by assumption), keepCell (by assumption) (by assumption)⟩) | go_keep) ((first | (go_at_call 7; refine (toCurve_c _ _ _).mono ?_; rintro e w' ⟨rfl, hb⟩) | (go_at_call 11; refine (E1.out _).mono ?_; rintro e w' ⟨rfl, hb⟩))) | fail
  go_wp2
  first | go_region_held3 (fun W => W.cell? ⟨w.heap.size, 0, none⟩ = some (.int .i64 a) ∧ W.cell? ⟨w.heap.size, 1, none⟩ = some (.int .i64 b) ∧ W.cell? ⟨w.heap.size + 1, 0, none⟩ = some (.int .i64 c) ∧ W.cell? ⟨w.heap.size + 1, 1, none⟩ = some (.int .i64 d)) (first | exact ⟨keepCell (by assumption) (by assumption), keepCell (by assumption) (by assumption), keepCell (by assumption) (by assumption), keepCell (by assumption) (by assumption)⟩ | (go_split_ands; exact ⟨keepCell (by assumption) (by assumption), keepCell (by assumption) (by assumption), keepCell (by assumption) (by assumption), keepCell (by assumption) (by assumption)⟩) | go_keep) ((first | (go_at_call 7; refine (toCurve_c _ _ _).mono ?_; rintro e w' ⟨rfl, hb⟩) | (go_at_call 12; refine (E2.out _).mono ?_; rintro e w' ⟨rfl, hb⟩))) | fail
  go_wp2
  all_goals (go_ret; exact ⟨by simp, (by repeat (first | exact Below.refl _ _ | refine below_alloc ?_ _ | refine below_step ?_ (by assumption) | refine Below.drew ?_ | refine Below.setCell ?_ (by first | exact Nat.le_refl _ | exact Nat.le_add_right _ _ | (simp <;> omega)) _ | refine below_drewN ?_ _))⟩)

theorem law_FirstDifference (a b : Int) (_ : M.I64 a) (_ : M.I64 b) (c d : Int) (_ : M.I64 c) (_ : M.I64 d) (n : Int) (_ : M.I64 n) (w : World) :
    Calls Try.prog 4 #[.agg #[.int .i64 a, .int .i64 b], .agg #[.int .i64 c, .int .i64 d], .int .i64 n] w fun e w' => e = .returned (.bool true) ∧ Below w.heap.size w w' := by
  have e1 := fun w => specFirstDifference_c a b c d n w
  have e2 := fun w => implFirstDifference_c a b c d n w
  generalize M.pick (fdOk a b c d n) (fdV a b c d n) = x at e1 e2
  generalize fdOk a b c d n = y at e1 e2
  have E1 := Lib.hid e1
  have E2 := Lib.hid e2
  clear e1 e2
  go_enter Try.func4, Try.ntmps4
  go_wp2
  first | go_region_held3 (fun W => W.cell? ⟨w.heap.size, 0, none⟩ = some (.int .i64 a) ∧ W.cell? ⟨w.heap.size, 1, none⟩ = some (.int .i64 b) ∧ W.cell? ⟨w.heap.size + 1, 0, none⟩ = some (.int .i64 c) ∧ W.cell? ⟨w.heap.size + 1, 1, none⟩ = some (.int .i64 d)) (first | exact ⟨keepCell (by assumption) (by assumption), keepCell (by assumption) (by assumption), keepCell (by assumption) (by assumption), keepCell (by assumption) (by assumption)⟩ | (go_split_ands; exact ⟨keepCell (by assumption) (by assumption), keepCell (by assumption) (by assumption), keepCell (by assumption) (by assumption), keepCell (by assumption) (by assumption)⟩) | go_keep) ((first | (go_at_call 7; refine (toCurve_c _ _ _).mono ?_; rintro e w' ⟨rfl, hb⟩) | (go_at_call 9; refine (E1.out _).mono ?_; rintro e w' ⟨rfl, hb⟩))) | fail
  go_wp2
  first | go_region_held3 (fun W => W.cell? ⟨w.heap.size, 0, none⟩ = some (.int .i64 a) ∧ W.cell? ⟨w.heap.size, 1, none⟩ = some (.int .i64 b) ∧ W.cell? ⟨w.heap.size + 1, 0, none⟩ = some (.int .i64 c) ∧ W.cell? ⟨w.heap.size + 1, 1, none⟩ = some (.int .i64 d)) (first | exact ⟨keepCell (by assumption) (by assumption), keepCell (by assumption) (by assumption), keepCell (by assumption) (by assumption), keepCell (by assumption) (by assumption)⟩ | (go_split_ands; exact ⟨keepCell (by assumption) (by assumption), keepCell (by assumption) (by assumption), keepCell (by assumption) (by assumption), keepCell (by assumption) (by assumption)⟩) | go_keep) ((first | (go_at_call 7; refine (toCurve_c _ _ _).mono ?_; rintro e w' ⟨rfl, hb⟩) | (go_at_call 10; refine (E2.out _).mono ?_; rintro e w' ⟨rfl, hb⟩))) | fail
  go_wp2
  all_goals (go_ret; exact ⟨by simp, (by repeat (first | exact Below.refl _ _ | refine below_alloc ?_ _ | refine below_step ?_ (by assumption) | refine Below.drew ?_ | refine Below.setCell ?_ (by first | exact Nat.le_refl _ | exact Nat.le_add_right _ _ | (simp <;> omega)) _ | refine below_drewN ?_ _))⟩)
end Go.Proofs.Ytfhebjllbmodaaa
