/-
  Contracts: numbers compared.
-/
import Derived.Test.YtpemckpnlemkfaaE2
import Derived.Sort.Grow
import Derived.Lib.Small
namespace Go.Proofs.Ytpemckpnlemkfaa
set_option linter.unusedSimpArgs false
set_option linter.unusedVariables false
open Go.RowKit

/-- a world behind draws and new blocks -/
def GrowOf (W w' : World) : Prop := ∃ (q : Nat) (os : Array Obj), w' = Sort.grow (W.drewN q) os
theorem GrowOf.refl (W : World) : GrowOf W W := ⟨0, #[], by rw [Sort.grow_empty]; rfl⟩
theorem GrowOf.alloc {W w' : World} (h : GrowOf W w') (o : Obj) : GrowOf W (w'.alloc o) := by
  obtain ⟨q, os, rfl⟩ := h
  exact ⟨q, os ++ #[o], by rw [Sort.alloc_eq_grow, Sort.grow_grow]⟩
theorem GrowOf.drewN {W w' : World} (h : GrowOf W w') (n : Nat) : GrowOf W (w'.drewN n) := by
  obtain ⟨q, os, rfl⟩ := h
  refine ⟨q + n, os, ?_⟩
  rw [← World.drewN_drewN]
  rfl
theorem GrowOf.drew {W w' : World} (h : GrowOf W w') : GrowOf W w'.drew := h.drewN 1

theorem isNaN_c (x : Int) (w : World) : Calls Try.prog 87 #[.int .i64 x] w fun e w' => e = .returned (.bool false) ∧ w = w' := by
  go_enter Try.func87, Try.ntmps87
  go_wp2
  go_ret; exact ⟨by simp, rfl⟩

theorem cmpI_c (x y : Int) (w : World) : Calls Try.prog 79 #[.int .i64 x, .int .i64 y] w fun e w' => e = .returned (.int .i64 (Lib.compareInt x y)) ∧ w = w' := by
  unfold Lib.compareInt
  by_cases h1 : x < y
  · go_enter Try.func79, Try.ntmps79
    go_wp2_with (go_at_call 87; refine (isNaN_c _ _).mono ?_; rintro e w' ⟨rfl, rfl⟩)
    go_ret; exact ⟨by simp [h1], rfl⟩
  · by_cases h2 : y < x
    all_goals
      go_enter Try.func79, Try.ntmps79
      go_wp2_with (go_at_call 87; refine (isNaN_c _ _).mono ?_; rintro e w' ⟨rfl, rfl⟩)
      go_ret; exact ⟨by simp [h1, h2], rfl⟩

def M.or2 (r s : Int) : Int := if r ≠ 0 then r else s
theorem or2_c (r s : Int) (b cap : Nat) (w : World) (c0 : w.cell? ⟨b, 0, none⟩ = some (.int .i64 r)) (c1 : w.cell? ⟨b, 1, none⟩ = some (.int .i64 s)) :
    Calls Try.prog 78 #[.slice (some ⟨b, 0, none⟩) 2 cap] w fun e w' => e = .returned (.int .i64 (M.or2 r s)) ∧ w = w' := by
  go_enter Try.func78, Try.ntmps78
  go_wp2
  go_loop [5, 8] (fun _ vi => ∃ k : Nat, k ≤ 2 ∧ vi = .int .i64 k ∧ (0 < k → r = 0) ∧ (1 < k → s = 0)) (fun _ vi => 2 - (intOf vi).toNat)
  case atStart => exact ⟨0, by omega, rfl, by omega, by omega⟩
  case round =>
    obtain ⟨k, hk, rfl, hr, hs⟩ := hrel
    have Hr := Lib.hid hr
    have Hs := Lib.hid hs
    clear hr hs
    rcases (show k = 0 ∨ k = 1 ∨ k = 2 by omega) with rfl | rfl | rfl
    · cases hq : (r != 0)
      · have h0 : Hid (r = 0) := Lib.hid (by simpa using hq)
        go_wp2
        go_round
        case rel => exact ⟨1, by omega, by go_num, fun _ => h0.out, by omega⟩
        case measure => simp [intOf]
      · have h0 : Hid (M.or2 r s = r) := Lib.hid (if_pos (by simpa using hq))
        go_wp2
        go_ret; exact ⟨by rw [h0.out]; rfl, rfl⟩
    · have h0 : Hid (r = 0) := Lib.hid (Hr.out (by omega))
      cases hq : (s != 0)
      · have h1 : Hid (s = 0) := Lib.hid (by simpa using hq)
        go_wp2
        go_round
        case rel => exact ⟨2, by omega, by go_num, fun _ => h0.out, fun _ => h1.out⟩
        case measure => simp [intOf]
      · have h2 : Hid (M.or2 r s = s) := Lib.hid (if_neg (by simp [h0.out]))
        go_wp2
        go_ret; exact ⟨by rw [h2.out]; rfl, rfl⟩
    · have h0 : Hid (r = 0) := Lib.hid (Hr.out (by omega))
      have h1 : Hid (s = 0) := Lib.hid (Hs.out (by omega))
      have h2 : Hid (M.or2 r s = 0) := Lib.hid (by unfold M.or2; rw [if_neg (by simp [h0.out]), h1.out])
      go_wp2
      go_ret; exact ⟨by rw [h2.out]; rfl, rfl⟩

def M.ccmp (c d : Int × Int) : Int := M.or2 (Lib.compareInt c.1 d.1) (Lib.compareInt c.2 d.2)
theorem M.ccmp_lt (c d : Int × Int) : decide (M.ccmp c d < 0) = M.clt c d := by
  unfold M.ccmp M.or2 Lib.compareInt M.clt
  by_cases h1 : c.1 < d.1
  · simp [h1]
  · by_cases h2 : d.1 < c.1
    · have : ¬ c.1 = d.1 := by omega
      simp [h1, h2, this]
    · have : c.1 = d.1 := by omega
      by_cases h3 : c.2 < d.2
      · simp [this, h3]
      · by_cases h4 : d.2 < c.2 <;> simp [this, h3, h4]

end Go.Proofs.Ytpemckpnlemkfaa
