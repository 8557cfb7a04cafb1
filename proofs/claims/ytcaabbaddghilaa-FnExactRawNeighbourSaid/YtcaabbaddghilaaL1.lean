/-
  The walks of the laws on twists.
-/
import Derived.Test.YtcaabbaddghilaaC9
namespace Go.Proofs.Ytcaabbaddghilaa
set_option linter.unusedSimpArgs false
set_option linter.unusedVariables false
open Go.RowKit

theorem toCurve_c (a b : Int) (w : World) :
    Calls Try.prog 20 #[.agg #[.int .i64 a, .int .i64 b]] w fun e w' => e = .returned (.agg #[.int .i64 a, .int .i64 b]) ∧ Below w.heap.size w w' := by
  go_enter Try.func20, Try.ntmps20
  go_wp2
  exact bodyPost_ret (v := .agg #[.int .i64 a, .int .i64 b]) (by simp [results, Try.results20, go_sem, *]) rfl (⟨rfl, (by repeat (first | exact Below.refl _ _ | refine below_alloc ?_ _ | refine below_step ?_ (by assumption) | refine Below.drew ?_ | refine Below.setCell ?_ (by first | exact Nat.le_refl _ | exact Nat.le_add_right _ _ | (simp <;> omega)) _ | refine below_drewN ?_ _))⟩)

theorem eqCurve_c (a b c d : Int) (w : World) :
    Calls Try.prog 28 #[.agg #[.int .i64 a, .int .i64 b], .agg #[.int .i64 c, .int .i64 d]] w fun e w' => e = .returned (.bool (a == c && b == d)) ∧ Below w.heap.size w w' := by
  by_cases h1 : a = c <;> by_cases h2 : b = d
  all_goals
    go_enter Try.func28, Try.ntmps28
    go_wp2
    go_ret; exact ⟨ret_b (by simp [h1, h2]), (by repeat (first | exact Below.refl _ _ | refine below_alloc ?_ _ | refine below_step ?_ (by assumption) | refine Below.drew ?_ | refine Below.setCell ?_ (by first | exact Nat.le_refl _ | exact Nat.le_add_right _ _ | (simp <;> omega)) _ | refine below_drewN ?_ _))⟩

theorem law_HaveSameInvariant (a b : Int) (_ : M.I64 a) (_ : M.I64 b) (c d : Int) (_ : M.I64 c) (_ : M.I64 d) (w : World) :
    Calls Try.prog 6 #[.agg #[.int .i64 a, .int .i64 b], .agg #[.int .i64 c, .int .i64 d]] w fun e w' => e = .returned (.bool true) ∧ Below w.heap.size w w' := by
  generalize hX : (M.good a b && M.good c d && sameInv a b c d) = X
  generalize hY : (M.good a b && M.good c d) = Y
  have e1 := fun w => specHaveSameInvariant_c a b c d w
  have e2 := fun w => implHaveSameInvariant_c a b c d w
  rw [hX, hY] at e1 e2
  have E1 := Lib.hid e1
  have E2 := Lib.hid e2
  clear e1 e2 hX hY
  go_enter Try.func6, Try.ntmps6
  go_wp2
  go_region_held3 (fun W => W.cell? ⟨w.heap.size, 0, none⟩ = some (.int .i64 a) ∧ W.cell? ⟨w.heap.size, 1, none⟩ = some (.int .i64 b) ∧ W.cell? ⟨w.heap.size + 1, 0, none⟩ = some (.int .i64 c) ∧ W.cell? ⟨w.heap.size + 1, 1, none⟩ = some (.int .i64 d)) (first | exact ⟨keepCell (by assumption) (by assumption), keepCell (by assumption) (by assumption), keepCell (by assumption) (by assumption), keepCell (by assumption) (by assumption)⟩ | (go_split_ands; exact ⟨keepCell (by assumption) (by assumption), keepCell (by assumption) (by assumption), keepCell (by assumption) (by assumption), keepCell (by assumption) (by assumption)⟩) | go_keep) ((first | (go_at_call 20; refine (toCurve_c _ _ _).mono ?_; rintro e w' ⟨rfl, hb⟩) | (go_at_call 22; refine (E1.out _).mono ?_; rintro e w' ⟨rfl, hb⟩)))
  go_wp2
  go_region_held3 (fun W => W.cell? ⟨w.heap.size, 0, none⟩ = some (.int .i64 a) ∧ W.cell? ⟨w.heap.size, 1, none⟩ = some (.int .i64 b) ∧ W.cell? ⟨w.heap.size + 1, 0, none⟩ = some (.int .i64 c) ∧ W.cell? ⟨w.heap.size + 1, 1, none⟩ = some (.int .i64 d)) (first | exact ⟨keepCell (by assumption) (by assumption), keepCell (by assumption) (by assumption), keepCell (by assumption) (by assumption), keepCell (by assumption) (by assumption)⟩ | (go_split_ands; exact ⟨keepCell (by assumption) (by assumption), keepCell (by assumption) (by assumption), keepCell (by assumption) (by assumption), keepCell (by assumption) (by assumption)⟩) | go_keep) ((first | (go_at_call 20; refine (toCurve_c _ _ _).mono ?_; rintro e w' ⟨rfl, hb⟩) | (go_at_call 23; refine (E2.out _).mono ?_; rintro e w' ⟨rfl, hb⟩)))
  go_wp2
  all_goals (go_ret; exact ⟨by simp, (by repeat (first | exact Below.refl _ _ | refine below_alloc ?_ _ | refine below_step ?_ (by assumption) | refine Below.drew ?_ | refine Below.setCell ?_ (by first | exact Nat.le_refl _ | exact Nat.le_add_right _ _ | (simp <;> omega)) _ | refine below_drewN ?_ _))⟩)

theorem law_IsTwistNumber (d : Int) (_ : M.I64 d) (w : World) :
    Calls Try.prog 4 #[.int .i64 d] w fun e w' => e = .returned (.bool true) ∧ Below w.heap.size w w' := by
  go_enter Try.func4, Try.ntmps4
  go_wp2_with (first | (go_at_call 17; refine (specIsTwistNumber_c _ _).mono ?_; rintro e w' ⟨rfl, hb⟩; have hz_ := hb.size; (try simp only [World.size_alloc, heap_drew, World.heap_drewN, size_setCell] at hz_)) | (go_at_call 18; refine (implIsTwistNumber_c _ _).mono ?_; rintro e w' ⟨rfl, hb⟩; have hz_ := hb.size; (try simp only [World.size_alloc, heap_drew, World.heap_drewN, size_setCell] at hz_)))
  all_goals (go_ret; exact ⟨by simp, (by repeat (first | exact Below.refl _ _ | refine below_alloc ?_ _ | refine below_step ?_ (by assumption) | refine Below.drew ?_ | refine Below.setCell ?_ (by first | exact Nat.le_refl _ | exact Nat.le_add_right _ _ | (simp <;> omega)) _ | refine below_drewN ?_ _))⟩)

theorem law_ProductOfTwists (d : Int) (_ : M.I64 d) (e : Int) (_ : M.I64 e) (w : World) :
    Calls Try.prog 7 #[.int .i64 d, .int .i64 e] w fun e w' => e = .returned (.bool true) ∧ Below w.heap.size w w' := by
  generalize hx : (if prodOk d e then prodTw d e else 0) = x
  generalize hy : prodOk d e = y
  have e1 := fun w => specProductOfTwists_c d e w
  have e2 := fun w => implProductOfTwists_c d e w
  rw [hx, hy] at e1 e2
  have E1 := Lib.hid e1
  have E2 := Lib.hid e2
  clear e1 e2 hx hy
  go_enter Try.func7, Try.ntmps7
  go_wp2_with (first | (go_at_call 24; refine (E1.out _).mono ?_; rintro e w' ⟨rfl, hb⟩; have hz_ := hb.size; (try simp only [World.size_alloc, heap_drew, World.heap_drewN, size_setCell] at hz_)) | (go_at_call 25; refine (E2.out _).mono ?_; rintro e w' ⟨rfl, hb⟩; have hz_ := hb.size; (try simp only [World.size_alloc, heap_drew, World.heap_drewN, size_setCell] at hz_)))
  all_goals (go_ret; exact ⟨by simp, (by repeat (first | exact Below.refl _ _ | refine below_alloc ?_ _ | refine below_step ?_ (by assumption) | refine Below.drew ?_ | refine Below.setCell ?_ (by first | exact Nat.le_refl _ | exact Nat.le_add_right _ _ | (simp <;> omega)) _ | refine below_drewN ?_ _))⟩)

theorem law_TwistSymbol (d : Int) (_ : M.I64 d) (p : Int) (_ : M.I64 p) (w : World) :
    Calls Try.prog 13 #[.int .i64 d, .int .i64 p] w fun e w' => e = .returned (.bool true) ∧ Below w.heap.size w w' := by
  generalize hx : M.pick (tsOk d p) (M.symb d p) = x
  generalize hy : tsOk d p = y
  have e1 := fun w => specTwistSymbol_c d p w
  have e2 := fun w => implTwistSymbol_c d p w
  rw [hx, hy] at e1 e2
  have E1 := Lib.hid e1
  have E2 := Lib.hid e2
  clear e1 e2 hx hy
  go_enter Try.func13, Try.ntmps13
  go_wp2_with (first | (go_at_call 37; refine (E1.out _).mono ?_; rintro e w' ⟨rfl, hb⟩; have hz_ := hb.size; (try simp only [World.size_alloc, heap_drew, World.heap_drewN, size_setCell] at hz_)) | (go_at_call 38; refine (E2.out _).mono ?_; rintro e w' ⟨rfl, hb⟩; have hz_ := hb.size; (try simp only [World.size_alloc, heap_drew, World.heap_drewN, size_setCell] at hz_)))
  all_goals (go_ret; exact ⟨by simp, (by repeat (first | exact Below.refl _ _ | refine below_alloc ?_ _ | refine below_step ?_ (by assumption) | refine Below.drew ?_ | refine Below.setCell ?_ (by first | exact Nat.le_refl _ | exact Nat.le_add_right _ _ | (simp <;> omega)) _ | refine below_drewN ?_ _))⟩)

theorem law_TwistCurve (a b : Int) (_ : M.I64 a) (_ : M.I64 b) (d : Int) (_ : M.I64 d) (w : World) :
    Calls Try.prog 10 #[.agg #[.int .i64 a, .int .i64 b], .int .i64 d] w fun e w' => e = .returned (.bool true) ∧ Below w.heap.size w w' := by
  have e1 := fun w => specTwistCurve_c a b d w
  have e2 := fun w => implTwistCurve_c a b d w
  unfold cvOk at e1 e2
  generalize (if twcOk a b d = true then a * d * d else 0) = x at e1 e2
  generalize (if twcOk a b d = true then b * d * d * d else 0) = y at e1 e2
  generalize twcOk a b d = z at e1 e2
  have E1 := Lib.hid e1
  have E2 := Lib.hid e2
  clear e1 e2
  go_enter Try.func10, Try.ntmps10
  go_wp2_with (go_at_call 20; refine (toCurve_c _ _ _).mono ?_; rintro e w1 ⟨rfl, hb1⟩; have hz_ := hb1.size; (try simp only [World.size_alloc, heap_drew, World.heap_drewN, size_setCell] at hz_); have hs0_ : w.heap.size < w1.heap.size := (by omega); have hk0_ := fun o => (bcell hb1).1 (w.heap.size) o (by (try simp only [World.size_alloc, heap_drew, World.heap_drewN, size_setCell]); omega); have hl0_ := fun o => (bcell hb1).2.1 (w.heap.size) o (by (try simp only [World.size_alloc, heap_drew, World.heap_drewN, size_setCell]); omega))
  go_wp2_with (go_at_call 31; refine (E1.out _).mono ?_; rintro e w2 ⟨rfl, hb2⟩; have hz_ := hb2.size; (try simp only [World.size_alloc, heap_drew, World.heap_drewN, size_setCell] at hz_); have hs0_ : w.heap.size < w2.heap.size := (by omega); have hk0_ := fun o => (bcell hb2).1 (w.heap.size) o (by (try simp only [World.size_alloc, heap_drew, World.heap_drewN, size_setCell]); omega); have hl0_ := fun o => (bcell hb2).2.1 (w.heap.size) o (by (try simp only [World.size_alloc, heap_drew, World.heap_drewN, size_setCell]); omega))
  go_wp2_with (go_at_call 20; refine (toCurve_c _ _ _).mono ?_; rintro e w3 ⟨rfl, hb3⟩; have hz_ := hb3.size; (try simp only [World.size_alloc, heap_drew, World.heap_drewN, size_setCell] at hz_); have hs0_ : w.heap.size < w3.heap.size := (by omega); have hk0_ := fun o => (bcell hb3).1 (w.heap.size) o (by (try simp only [World.size_alloc, heap_drew, World.heap_drewN, size_setCell]); omega); have hl0_ := fun o => (bcell hb3).2.1 (w.heap.size) o (by (try simp only [World.size_alloc, heap_drew, World.heap_drewN, size_setCell]); omega); have hs1_ : w2.heap.size < w3.heap.size := (by omega); have hk1_ := fun o => (bcell hb3).1 (w2.heap.size) o (by (try simp only [World.size_alloc, heap_drew, World.heap_drewN, size_setCell]); omega); have hl1_ := fun o => (bcell hb3).2.1 (w2.heap.size) o (by (try simp only [World.size_alloc, heap_drew, World.heap_drewN, size_setCell]); omega))
  go_wp2_with (go_at_call 32; refine (E2.out _).mono ?_; rintro e w4 ⟨rfl, hb4⟩; have hz_ := hb4.size; (try simp only [World.size_alloc, heap_drew, World.heap_drewN, size_setCell] at hz_); have hs0_ : w.heap.size < w4.heap.size := (by omega); have hk0_ := fun o => (bcell hb4).1 (w.heap.size) o (by (try simp only [World.size_alloc, heap_drew, World.heap_drewN, size_setCell]); omega); have hl0_ := fun o => (bcell hb4).2.1 (w.heap.size) o (by (try simp only [World.size_alloc, heap_drew, World.heap_drewN, size_setCell]); omega); have hs1_ : w2.heap.size < w4.heap.size := (by omega); have hk1_ := fun o => (bcell hb4).1 (w2.heap.size) o (by (try simp only [World.size_alloc, heap_drew, World.heap_drewN, size_setCell]); omega); have hl1_ := fun o => (bcell hb4).2.1 (w2.heap.size) o (by (try simp only [World.size_alloc, heap_drew, World.heap_drewN, size_setCell]); omega))
  go_wp2_with (go_at_call 28; refine (eqCurve_c _ _ _ _ _).mono ?_; rintro e w5 ⟨rfl, hb5⟩; have hz_ := hb5.size; (try simp only [World.size_alloc, heap_drew, World.heap_drewN, size_setCell] at hz_); have hs0_ : w.heap.size < w5.heap.size := (by omega); have hk0_ := fun o => (bcell hb5).1 (w.heap.size) o (by (try simp only [World.size_alloc, heap_drew, World.heap_drewN, size_setCell]); omega); have hl0_ := fun o => (bcell hb5).2.1 (w.heap.size) o (by (try simp only [World.size_alloc, heap_drew, World.heap_drewN, size_setCell]); omega); have hs1_ : w2.heap.size < w5.heap.size := (by omega); have hk1_ := fun o => (bcell hb5).1 (w2.heap.size) o (by (try simp only [World.size_alloc, heap_drew, World.heap_drewN, size_setCell]); omega); have hl1_ := fun o => (bcell hb5).2.1 (w2.heap.size) o (by (try simp only [World.size_alloc, heap_drew, World.heap_drewN, size_setCell]); omega); have hs2_ : w4.heap.size < w5.heap.size := (by omega); have hk2_ := fun o => (bcell hb5).1 (w4.heap.size) o (by (try simp only [World.size_alloc, heap_drew, World.heap_drewN, size_setCell]); omega); have hl2_ := fun o => (bcell hb5).2.1 (w4.heap.size) o (by (try simp only [World.size_alloc, heap_drew, World.heap_drewN, size_setCell]); omega))
  all_goals (go_ret; exact ⟨by simp, (by repeat (first | exact Below.refl _ _ | refine below_alloc ?_ _ | refine below_step ?_ (by assumption) | refine Below.drew ?_ | refine Below.setCell ?_ (by first | exact Nat.le_refl _ | exact Nat.le_add_right _ _ | (simp <;> omega)) _ | refine below_drewN ?_ _))⟩)

theorem law_UntwistCurve (a b : Int) (_ : M.I64 a) (_ : M.I64 b) (d : Int) (_ : M.I64 d) (w : World) :
    Calls Try.prog 8 #[.agg #[.int .i64 a, .int .i64 b], .int .i64 d] w fun e w' => e = .returned (.bool true) ∧ Below w.heap.size w w' := by
  have e1 := fun w => specUntwistCurve_c a b d w
  have e2 := fun w => implUntwistCurve_c a b d w
  unfold cvOk at e1 e2
  generalize (if utOk a b d = true then a.tdiv (d * d) else 0) = x at e1 e2
  generalize (if utOk a b d = true then b.tdiv (d * d * d) else 0) = y at e1 e2
  generalize utOk a b d = z at e1 e2
  have E1 := Lib.hid e1
  have E2 := Lib.hid e2
  clear e1 e2
  go_enter Try.func8, Try.ntmps8
  go_wp2_with (go_at_call 20; refine (toCurve_c _ _ _).mono ?_; rintro e w1 ⟨rfl, hb1⟩; have hz_ := hb1.size; (try simp only [World.size_alloc, heap_drew, World.heap_drewN, size_setCell] at hz_); have hs0_ : w.heap.size < w1.heap.size := (by omega); have hk0_ := fun o => (bcell hb1).1 (w.heap.size) o (by (try simp only [World.size_alloc, heap_drew, World.heap_drewN, size_setCell]); omega); have hl0_ := fun o => (bcell hb1).2.1 (w.heap.size) o (by (try simp only [World.size_alloc, heap_drew, World.heap_drewN, size_setCell]); omega))
  go_wp2_with (go_at_call 26; refine (E1.out _).mono ?_; rintro e w2 ⟨rfl, hb2⟩; have hz_ := hb2.size; (try simp only [World.size_alloc, heap_drew, World.heap_drewN, size_setCell] at hz_); have hs0_ : w.heap.size < w2.heap.size := (by omega); have hk0_ := fun o => (bcell hb2).1 (w.heap.size) o (by (try simp only [World.size_alloc, heap_drew, World.heap_drewN, size_setCell]); omega); have hl0_ := fun o => (bcell hb2).2.1 (w.heap.size) o (by (try simp only [World.size_alloc, heap_drew, World.heap_drewN, size_setCell]); omega))
  go_wp2_with (go_at_call 20; refine (toCurve_c _ _ _).mono ?_; rintro e w3 ⟨rfl, hb3⟩; have hz_ := hb3.size; (try simp only [World.size_alloc, heap_drew, World.heap_drewN, size_setCell] at hz_); have hs0_ : w.heap.size < w3.heap.size := (by omega); have hk0_ := fun o => (bcell hb3).1 (w.heap.size) o (by (try simp only [World.size_alloc, heap_drew, World.heap_drewN, size_setCell]); omega); have hl0_ := fun o => (bcell hb3).2.1 (w.heap.size) o (by (try simp only [World.size_alloc, heap_drew, World.heap_drewN, size_setCell]); omega); have hs1_ : w2.heap.size < w3.heap.size := (by omega); have hk1_ := fun o => (bcell hb3).1 (w2.heap.size) o (by (try simp only [World.size_alloc, heap_drew, World.heap_drewN, size_setCell]); omega); have hl1_ := fun o => (bcell hb3).2.1 (w2.heap.size) o (by (try simp only [World.size_alloc, heap_drew, World.heap_drewN, size_setCell]); omega))
  go_wp2_with (go_at_call 27; refine (E2.out _).mono ?_; rintro e w4 ⟨rfl, hb4⟩; have hz_ := hb4.size; (try simp only [World.size_alloc, heap_drew, World.heap_drewN, size_setCell] at hz_); have hs0_ : w.heap.size < w4.heap.size := (by omega); have hk0_ := fun o => (bcell hb4).1 (w.heap.size) o (by (try simp only [World.size_alloc, heap_drew, World.heap_drewN, size_setCell]); omega); have hl0_ := fun o => (bcell hb4).2.1 (w.heap.size) o (by (try simp only [World.size_alloc, heap_drew, World.heap_drewN, size_setCell]); omega); have hs1_ : w2.heap.size < w4.heap.size := (by omega); have hk1_ := fun o => (bcell hb4).1 (w2.heap.size) o (by (try simp only [World.size_alloc, heap_drew, World.heap_drewN, size_setCell]); omega); have hl1_ := fun o => (bcell hb4).2.1 (w2.heap.size) o (by (try simp only [World.size_alloc, heap_drew, World.heap_drewN, size_setCell]); omega))
  go_wp2_with (go_at_call 28; refine (eqCurve_c _ _ _ _ _).mono ?_; rintro e w5 ⟨rfl, hb5⟩; have hz_ := hb5.size; (try simp only [World.size_alloc, heap_drew, World.heap_drewN, size_setCell] at hz_); have hs0_ : w.heap.size < w5.heap.size := (by omega); have hk0_ := fun o => (bcell hb5).1 (w.heap.size) o (by (try simp only [World.size_alloc, heap_drew, World.heap_drewN, size_setCell]); omega); have hl0_ := fun o => (bcell hb5).2.1 (w.heap.size) o (by (try simp only [World.size_alloc, heap_drew, World.heap_drewN, size_setCell]); omega); have hs1_ : w2.heap.size < w5.heap.size := (by omega); have hk1_ := fun o => (bcell hb5).1 (w2.heap.size) o (by (try simp only [World.size_alloc, heap_drew, World.heap_drewN, size_setCell]); omega); have hl1_ := fun o => (bcell hb5).2.1 (w2.heap.size) o (by (try simp only [World.size_alloc, heap_drew, World.heap_drewN, size_setCell]); omega); have hs2_ : w4.heap.size < w5.heap.size := (by omega); have hk2_ := fun o => (bcell hb5).1 (w4.heap.size) o (by (try simp only [World.size_alloc, heap_drew, World.heap_drewN, size_setCell]); omega); have hl2_ := fun o => (bcell hb5).2.1 (w4.heap.size) o (by (try simp only [World.size_alloc, heap_drew, World.heap_drewN, size_setCell]); omega))
  all_goals (go_ret; exact ⟨by simp, (by repeat (first | exact Below.refl _ _ | refine below_alloc ?_ _ | refine below_step ?_ (by assumption) | refine Below.drew ?_ | refine Below.setCell ?_ (by first | exact Nat.le_refl _ | exact Nat.le_add_right _ _ | (simp <;> omega)) _ | refine below_drewN ?_ _))⟩)
end Go.Proofs.Ytcaabbaddghilaa
