/-
  Contracts: fractions.
-/
import Derived.Test.YtodgfechhielaaaGreatDoorD4
import Derived.BigQuiet
namespace Go.Proofs.YtodgfechhielaaaGreatDoor
set_option linter.unusedSimpArgs false
set_option linter.unusedVariables false
open Go.RowKit

noncomputable def frOk (n d : Int) : Bool := M.ins d 1 1000000000 && M.ins n (-1000000000) 1000000000 && (M.gcd n d == 1)

theorem isFraction_c (n d : Int) (w : World) :
    Calls Tryz.prog 68 #[.agg #[.int .i64 n, .int .i64 d]] w fun e w' => e = .returned (.bool (frOk n d)) ∧ Below w.heap.size w w' := by
  unfold frOk
  cases h1 : M.ins d 1 1000000000
  · go_enter Tryz.func68, Tryz.ntmps68
    go_wp2_with (go_at_call 30; refine (inside_c _ _ _ _).mono ?_; rintro e w' ⟨rfl, rfl⟩)
    go_ret; exact ⟨ret_b (by simp), (by repeat (first | exact Below.refl _ _ | refine below_alloc ?_ _ | refine below_step ?_ (by assumption) | refine Below.drew ?_ | refine Below.setCell ?_ (by first | exact Nat.le_refl _ | exact Nat.le_add_right _ _ | (simp <;> omega)) _ | refine below_drewN ?_ _))⟩
  · obtain ⟨d1, d2⟩ := M.ins_t h1
    cases h2 : M.ins n (-1000000000) 1000000000
    · go_enter Tryz.func68, Tryz.ntmps68
      go_wp2_with (go_at_call 30; refine (inside_c _ _ _ _).mono ?_; rintro e w' ⟨rfl, rfl⟩)
      go_ret; exact ⟨ret_b (by simp), (by repeat (first | exact Below.refl _ _ | refine below_alloc ?_ _ | refine below_step ?_ (by assumption) | refine Below.drew ?_ | refine Below.setCell ?_ (by first | exact Nat.le_refl _ | exact Nat.le_add_right _ _ | (simp <;> omega)) _ | refine below_drewN ?_ _))⟩
    · obtain ⟨n1, n2⟩ := M.ins_t h2
      go_enter Tryz.func68, Tryz.ntmps68
      go_wp2_with (first | (go_at_call 30; refine (inside_c _ _ _ _).mono ?_; rintro e w' ⟨rfl, rfl⟩) | (go_at_call 67; refine (gcd_c _ _ _ (by omega) (by omega) (by omega) (by omega)).mono ?_; rintro e w' ⟨rfl, mq, rfl⟩))
      go_ret; exact ⟨ret_b (by simp), (by repeat (first | exact Below.refl _ _ | refine below_alloc ?_ _ | refine below_step ?_ (by assumption) | refine Below.drew ?_ | refine Below.setCell ?_ (by first | exact Nat.le_refl _ | exact Nat.le_add_right _ _ | (simp <;> omega)) _ | refine below_drewN ?_ _))⟩

theorem quiet_l {P : Program} {f : FuncId} {args : Array Value} {w : World} {n : Nat} {v : Value} (h : Calls P f args (w.drewN n) fun e w' => e = .returned v ∧ w.drewN n = w') :
    Calls P f args (w.drewN n) fun e w'' => e = .returned v ∧ ∃ m, w'' = w.drewN m := h.mono fun _ _ ⟨he, hm⟩ => ⟨he, n, hm.symm⟩
theorem quiet_al {P : Program} {f : FuncId} {args : Array Value} {w : World} {a n : Nat} {v : Value} (h : Calls P f args (w.drewN (a + n)) fun e w' => e = .returned v ∧ w.drewN (a + n) = w') :
    Calls P f args (w.drewN (a + n)) fun e w'' => e = .returned v ∧ ∃ m, w'' = w.drewN (a + m) := h.mono fun _ _ ⟨he, hm⟩ => ⟨he, n, hm.symm⟩

theorem frGood_c (n d : Int) (w : World) :
    Calls Tryz.prog 70 #[.agg #[.int .i64 n, .int .i64 d]] w fun e w' => e = .returned (.bool (frOk n d)) ∧ Below w.heap.size w w' := by
  unfold frOk
  have E1 := fun w => l1In_c d 1 1000000000 w
  have E2 := fun w => l1In_c n (-1000000000) 1000000000 w
  have hgg : M.gcd n.natAbs d.natAbs = M.gcd n d := by simp [M.gcd, Int.gcd]
  cases h1 : M.ins d 1 1000000000 <;> simp only [h1] at E1 <;> have E1 := Lib.hid E1
  · have E2 := Lib.hid E2
    go_enter Tryz.func70, Tryz.ntmps70
    go_wp2
    go_quiet ((go_at_call 49; first | (with_reducible exact quiet_l (E1.out _)) | (with_reducible exact quiet_al (E1.out _)) | (with_reducible exact quiet_l (E2.out _)) | (with_reducible exact quiet_al (E2.out _))))
    go_wp2
    go_ret; exact ⟨ret_b (by simp), (by repeat (first | exact Below.refl _ _ | refine below_alloc ?_ _ | refine below_step ?_ (by assumption) | refine Below.drew ?_ | refine Below.setCell ?_ (by first | exact Nat.le_refl _ | exact Nat.le_add_right _ _ | (simp <;> omega)) _ | refine below_drewN ?_ _))⟩
  · obtain ⟨d1, d2⟩ := M.ins_t h1
    cases h2 : M.ins n (-1000000000) 1000000000 <;> simp only [h2] at E2 <;> have E2 := Lib.hid E2
    · go_enter Tryz.func70, Tryz.ntmps70
      go_wp2
      go_quiet ((go_at_call 49; first | (with_reducible exact quiet_l (E1.out _)) | (with_reducible exact quiet_al (E1.out _)) | (with_reducible exact quiet_l (E2.out _)) | (with_reducible exact quiet_al (E2.out _))))
      go_wp2
      go_ret; exact ⟨ret_b (by simp), (by repeat (first | exact Below.refl _ _ | refine below_alloc ?_ _ | refine below_step ?_ (by assumption) | refine Below.drew ?_ | refine Below.setCell ?_ (by first | exact Nat.le_refl _ | exact Nat.le_add_right _ _ | (simp <;> omega)) _ | refine below_drewN ?_ _))⟩
    · obtain ⟨n1, n2⟩ := M.ins_t h2
      have hd : (d.natAbs : Int) = d := by omega
      rw [hd] at hgg
      have hgg := Lib.hid hgg
      go_enter Tryz.func70, Tryz.ntmps70
      go_wp2
      go_quiet ((first | (go_at_call 49; first | (with_reducible exact quiet_l (E1.out _)) | (with_reducible exact quiet_al (E1.out _)) | (with_reducible exact quiet_l (E2.out _)) | (with_reducible exact quiet_al (E2.out _))) | (go_at_call 39; first | exact quiet_l (l1Abs_c _ _ (by omega) (by omega)) | exact quiet_al (l1Abs_c _ _ (by omega) (by omega))) | (go_at_call 69; first | exact quiet_l (bgCommon_c _ _ _ (by omega) (by omega) (by omega) (by omega)) | exact quiet_al (bgCommon_c _ _ _ (by omega) (by omega) (by omega) (by omega)))))
      go_wp2
      go_ret; exact ⟨ret_b (by simp [hgg.out]), (by repeat (first | exact Below.refl _ _ | refine below_alloc ?_ _ | refine below_step ?_ (by assumption) | refine Below.drew ?_ | refine Below.setCell ?_ (by first | exact Nat.le_refl _ | exact Nat.le_add_right _ _ | (simp <;> omega)) _ | refine below_drewN ?_ _))⟩
end Go.Proofs.YtodgfechhielaaaGreatDoor
