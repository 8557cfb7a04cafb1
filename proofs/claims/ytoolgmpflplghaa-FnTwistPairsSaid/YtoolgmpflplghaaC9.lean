/-
  Contracts: the twist's symbol; counts and traces.
-/
import Derived.Test.YtoolgmpflplghaaC8
namespace Go.Proofs.Ytoolgmpflplghaa
set_option linter.unusedSimpArgs false
set_option linter.unusedVariables false
open Go.RowKit

noncomputable def tsOk (d p : Int) : Bool := M.tw d && (M.ins p 3 997 && M.prime p) && decide (¬ d.tmod p = 0)

theorem implTwistSymbol_c (d p : Int) (w : World) :
    Calls Try.prog 26 #[.int .i64 d, .int .i64 p] w fun e w' => e = .returned (.tuple #[.int .i64 (M.pick (tsOk d p) (M.symb d p)), .bool (tsOk d p)]) ∧ Below w.heap.size w w' := by
  unfold tsOk
  cases h1 : M.tw d
  · go_enter Try.func26, Try.ntmps26
    go_wp2_with (go_at_call 60; refine (isTwist_c _ _).mono ?_; rintro e w' ⟨rfl, hb⟩; have hz_ := hb.size; (try simp only [World.size_alloc, heap_drew, World.heap_drewN, size_setCell] at hz_))
    go_ret2; exact ⟨by simp [M.pick_t, M.pick_f], (by repeat (first | exact Below.refl _ _ | refine below_alloc ?_ _ | refine below_step ?_ (by assumption) | refine Below.drew ?_ | refine Below.setCell ?_ (by first | exact Nat.le_refl _ | exact Nat.le_add_right _ _ | (simp <;> omega)) _ | refine below_drewN ?_ _))⟩
  · cases h2 : (M.ins p 3 997 && M.prime p)
    · go_enter Try.func26, Try.ntmps26
      go_wp2_with (first | (go_at_call 60; refine (isTwist_c _ _).mono ?_; rintro e w' ⟨rfl, hb⟩; have hz_ := hb.size; (try simp only [World.size_alloc, heap_drew, World.heap_drewN, size_setCell] at hz_)) | (go_at_call 74; refine (oddPrime_c _ _).mono ?_; rintro e w' ⟨rfl, rfl⟩))
      go_ret2; exact ⟨by simp [M.pick_t, M.pick_f], (by repeat (first | exact Below.refl _ _ | refine below_alloc ?_ _ | refine below_step ?_ (by assumption) | refine Below.drew ?_ | refine Below.setCell ?_ (by first | exact Nat.le_refl _ | exact Nat.le_add_right _ _ | (simp <;> omega)) _ | refine below_drewN ?_ _))⟩
    · obtain ⟨p1, p2⟩ := M.ins_t (Bool.and_eq_true_iff.1 h2).1
      by_cases h3 : d.tmod p = 0
      · go_enter Try.func26, Try.ntmps26
        go_wp2_with (first | (go_at_call 60; refine (isTwist_c _ _).mono ?_; rintro e w' ⟨rfl, hb⟩; have hz_ := hb.size; (try simp only [World.size_alloc, heap_drew, World.heap_drewN, size_setCell] at hz_)) | (go_at_call 74; refine (oddPrime_c _ _).mono ?_; rintro e w' ⟨rfl, rfl⟩))
        go_ret2; exact ⟨by simp [M.pick_t, M.pick_f, h3], (by repeat (first | exact Below.refl _ _ | refine below_alloc ?_ _ | refine below_step ?_ (by assumption) | refine Below.drew ?_ | refine Below.setCell ?_ (by first | exact Nat.le_refl _ | exact Nat.le_add_right _ _ | (simp <;> omega)) _ | refine below_drewN ?_ _))⟩
      · go_enter Try.func26, Try.ntmps26
        go_wp2_with (first | (go_at_call 60; refine (isTwist_c _ _).mono ?_; rintro e w' ⟨rfl, hb⟩; have hz_ := hb.size; (try simp only [World.size_alloc, heap_drew, World.heap_drewN, size_setCell] at hz_)) | (go_at_call 74; refine (oddPrime_c _ _).mono ?_; rintro e w' ⟨rfl, rfl⟩) | (go_at_call 75; refine (symbol_c _ _ _ (by omega) (by omega)).mono ?_; rintro e w' ⟨rfl, mq, rfl⟩))
        go_ret2; exact ⟨by simp [M.pick_t, M.pick_f, h3], (by repeat (first | exact Below.refl _ _ | refine below_alloc ?_ _ | refine below_step ?_ (by assumption) | refine Below.drew ?_ | refine Below.setCell ?_ (by first | exact Nat.le_refl _ | exact Nat.le_add_right _ _ | (simp <;> omega)) _ | refine below_drewN ?_ _))⟩

theorem specTwistSymbol_c (d p : Int) (w : World) :
    Calls Try.prog 27 #[.int .i64 d, .int .i64 p] w fun e w' => e = .returned (.tuple #[.int .i64 (M.pick (tsOk d p) (M.symb d p)), .bool (tsOk d p)]) ∧ Below w.heap.size w w' := by
  unfold tsOk
  cases h1 : M.tw d
  · go_enter Try.func27, Try.ntmps27
    go_wp2_with (go_at_call 62; refine (twGood_c _ _).mono ?_; rintro e w' ⟨rfl, rfl⟩)
    go_ret2; exact ⟨by simp [M.pick_t, M.pick_f], (by repeat (first | exact Below.refl _ _ | refine below_alloc ?_ _ | refine below_step ?_ (by assumption) | refine Below.drew ?_ | refine Below.setCell ?_ (by first | exact Nat.le_refl _ | exact Nat.le_add_right _ _ | (simp <;> omega)) _ | refine below_drewN ?_ _))⟩
  · cases h2 : (M.ins p 2 997 && M.prime p)
    · have h2' : (M.ins p 3 997 && M.prime p) = false := by
        cases h4 : M.prime p
        · simp
        · rw [h4] at h2
          simp only [Bool.and_true, M.ins_not] at h2 ⊢
          omega
      go_enter Try.func27, Try.ntmps27
      go_wp2_with (first | (go_at_call 62; refine (twGood_c _ _).mono ?_; rintro e w' ⟨rfl, rfl⟩) | (go_at_call 76; refine (mdPrime_c _ _).mono ?_; rintro e w' ⟨rfl, rfl⟩))
      go_ret2; exact ⟨by simp [M.pick_t, M.pick_f, h2'], (by repeat (first | exact Below.refl _ _ | refine below_alloc ?_ _ | refine below_step ?_ (by assumption) | refine Below.drew ?_ | refine Below.setCell ?_ (by first | exact Nat.le_refl _ | exact Nat.le_add_right _ _ | (simp <;> omega)) _ | refine below_drewN ?_ _))⟩
    · obtain ⟨p1, p2⟩ := M.ins_t (Bool.and_eq_true_iff.1 h2).1
      have hp := (Bool.and_eq_true_iff.1 h2).2
      have hq := (Bool.and_eq_true_iff.1 h2).1
      by_cases hp3 : p < 3
      · have h2' : (M.ins p 3 997) = false := M.ins_not.2 (by omega)
        go_enter Try.func27, Try.ntmps27
        go_wp2_with (first | (go_at_call 62; refine (twGood_c _ _).mono ?_; rintro e w' ⟨rfl, rfl⟩) | (go_at_call 76; refine (mdPrime_c _ _).mono ?_; rintro e w' ⟨rfl, rfl⟩))
        go_ret2; exact ⟨by simp [M.pick_t, M.pick_f, h2'], (by repeat (first | exact Below.refl _ _ | refine below_alloc ?_ _ | refine below_step ?_ (by assumption) | refine Below.drew ?_ | refine Below.setCell ?_ (by first | exact Nat.le_refl _ | exact Nat.le_add_right _ _ | (simp <;> omega)) _ | refine below_drewN ?_ _))⟩
      · have h2' : (M.ins p 3 997) = true := M.ins_iff.2 (by omega)
        by_cases h3 : d.tmod p = 0
        · go_enter Try.func27, Try.ntmps27
          go_wp2_with (first | (go_at_call 62; refine (twGood_c _ _).mono ?_; rintro e w' ⟨rfl, rfl⟩) | (go_at_call 76; refine (mdPrime_c _ _).mono ?_; rintro e w' ⟨rfl, rfl⟩))
          go_ret2; exact ⟨by simp [M.pick_t, M.pick_f, h3], (by repeat (first | exact Below.refl _ _ | refine below_alloc ?_ _ | refine below_step ?_ (by assumption) | refine Below.drew ?_ | refine Below.setCell ?_ (by first | exact Nat.le_refl _ | exact Nat.le_add_right _ _ | (simp <;> omega)) _ | refine below_drewN ?_ _))⟩
        · have h3b : (d.tmod p == 0) = false := by simpa using h3
          have h3c : decide (p < 3) = false := by simpa using hp3
          go_enter Try.func27, Try.ntmps27
          go_wp2_with (first | (go_at_call 62; refine (twGood_c _ _).mono ?_; rintro e w' ⟨rfl, rfl⟩) | (go_at_call 76; refine (mdPrime_c _ _).mono ?_; rintro e w' ⟨rfl, rfl⟩) | (go_at_call 77; refine (mdSymbol_c _ _ _ hp (by omega) p2).mono ?_; rintro e w' ⟨rfl, rfl⟩))
          go_ret2; exact ⟨by simp [M.pick_t, M.pick_f, h3, h2', hp, hq], (by repeat (first | exact Below.refl _ _ | refine below_alloc ?_ _ | refine below_step ?_ (by assumption) | refine Below.drew ?_ | refine Below.setCell ?_ (by first | exact Nat.le_refl _ | exact Nat.le_add_right _ _ | (simp <;> omega)) _ | refine below_drewN ?_ _))⟩
end Go.Proofs.Ytoolgmpflplghaa
