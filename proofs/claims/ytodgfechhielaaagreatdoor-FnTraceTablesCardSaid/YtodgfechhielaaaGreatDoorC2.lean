/-
  Contracts: curves.
-/
import Derived.Test.YtodgfechhielaaaGreatDoorProg
import Derived.Test.YtodgfechhielaaaGreatDoorPlain1
import Derived.Test.YtodgfechhielaaaGreatDoorC1
import Derived.Test.YtodgfechhielaaaGreatDoorC4
import Derived.WalkKit
import Derived.Deep.RegionHeld3
import Derived.Deep.QuietTactic
import Derived.BigQuiet
import Derived.Lib.Hide
namespace Go.Proofs.YtodgfechhielaaaGreatDoor
set_option linter.unusedSimpArgs false
set_option linter.unusedVariables false
open Go.RowKit

theorem bcell {W w1 : World} (hb : Below W.heap.size W w1) : (∀ b o, b < W.heap.size → w1.cell? ⟨b, o, none⟩ = W.cell? ⟨b, o, none⟩) ∧ (∀ b o, b < W.heap.size → w1.frozen? ⟨b, o, none⟩ = W.frozen? ⟨b, o, none⟩) ∧ W.heap.size ≤ w1.heap.size :=
  ⟨fun b o h => hb.cell (p := ⟨b, o, none⟩) h, fun b o h => hb.frozen (p := ⟨b, o, none⟩) h, hb.size⟩
theorem heap_drew (w : World) : w.drew.heap = w.heap := rfl
theorem size_setCell (w : World) (a : Addr) (v : Value) : (w.setCell a v).heap.size = w.heap.size := by simp [World.setCell]
theorem below_alloc {w W : World} (h : Below w.heap.size w W) (o : Obj) : Below w.heap.size w (W.alloc o) := h.alloc h.size o
theorem below_step {w W w' : World} (h : Below w.heap.size w W) (hb : Below W.heap.size W w') : Below w.heap.size w w' := h.trans (hb.mono h.size)
theorem below_drewN {w W : World} (h : Below w.heap.size w W) (n : Nat) : Below w.heap.size w (W.drewN n) := by
  induction n with
  | zero => exact h
  | succ n ih => exact ih.drew

theorem core_c (a b : Int) (w : World) (h : M.inCurve a b = true) :
    Calls Tryz.prog 61 #[.agg #[.int .i64 a, .int .i64 b]] w fun e w' => e = .returned (.int .i64 (M.disc a b)) ∧ Below w.heap.size w w' := by
  obtain ⟨h1, h1', h2, h2'⟩ := M.inCurve_bd h
  have b1 := M.mul_bd (x := 4 * a) (y := a) (m := 4000) (n := 1000) (by omega) (by omega) (by omega) (by omega)
  have b2 := M.mul_bd (x := 4 * a * a) (y := a) (m := 4000000) (n := 1000) (by omega) (by omega) (by omega) (by omega)
  have b3 := M.mul_bd (x := 27 * b) (y := b) (m := 270000) (n := 10000) (by omega) (by omega) (by omega) (by omega)
  go_enter Tryz.func61, Tryz.ntmps61
  go_wp2
  go_ret
  exact ⟨rfl, (by repeat (first | exact Below.refl _ _ | refine below_alloc ?_ _ | refine below_step ?_ (by assumption) | refine Below.drew ?_ | refine Below.setCell ?_ (by first | exact Nat.le_refl _ | exact Nat.le_add_right _ _ | (simp <;> omega)) _ | refine below_drewN ?_ _))⟩

theorem ecDisc_c (a b : Int) (w : World) (h : M.inCurve a b = true) :
    Calls Tryz.prog 78 #[.agg #[.int .i64 a, .int .i64 b]] w fun e w' => e = .returned (.int .i64 (M.disc a b)) ∧ Below w.heap.size w w' := by
  obtain ⟨h1, h1', h2, h2'⟩ := M.inCurve_bd h
  have b1 := M.mul_bd (x := 4 * a) (y := a) (m := 4000) (n := 1000) (by omega) (by omega) (by omega) (by omega)
  have b2 := M.mul_bd (x := 4 * a * a) (y := a) (m := 4000000) (n := 1000) (by omega) (by omega) (by omega) (by omega)
  have b3 := M.mul_bd (x := 27 * b) (y := b) (m := 270000) (n := 10000) (by omega) (by omega) (by omega) (by omega)
  go_enter Tryz.func78, Tryz.ntmps78
  go_wp2
  go_ret
  exact ⟨rfl, (by repeat (first | exact Below.refl _ _ | refine below_alloc ?_ _ | refine below_step ?_ (by assumption) | refine Below.drew ?_ | refine Below.setCell ?_ (by first | exact Nat.le_refl _ | exact Nat.le_add_right _ _ | (simp <;> omega)) _ | refine below_drewN ?_ _))⟩

theorem isCurve_c (a b : Int) (w : World) :
    Calls Tryz.prog 29 #[.agg #[.int .i64 a, .int .i64 b]] w fun e w' => e = .returned (.bool (M.good a b)) ∧ Below w.heap.size w w' := by
  cases h1 : M.ins a (-1000) 1000
  · go_enter Tryz.func29, Tryz.ntmps29
    go_wp2_with (go_at_call 30; refine (inside_c _ _ _ _).mono ?_; rintro e w' ⟨rfl, rfl⟩)
    go_ret; exact ⟨ret_b (by simp [M.good, M.inCurve, h1]), (by repeat (first | exact Below.refl _ _ | refine below_alloc ?_ _ | refine below_step ?_ (by assumption) | refine Below.drew ?_ | refine Below.setCell ?_ (by first | exact Nat.le_refl _ | exact Nat.le_add_right _ _ | (simp <;> omega)) _ | refine below_drewN ?_ _))⟩
  · cases h2 : M.ins b (-10000) 10000
    · go_enter Tryz.func29, Tryz.ntmps29
      go_wp2_with (go_at_call 30; refine (inside_c _ _ _ _).mono ?_; rintro e w' ⟨rfl, rfl⟩)
      go_ret; exact ⟨ret_b (by simp [M.good, M.inCurve, h2]), (by repeat (first | exact Below.refl _ _ | refine below_alloc ?_ _ | refine below_step ?_ (by assumption) | refine Below.drew ?_ | refine Below.setCell ?_ (by first | exact Nat.le_refl _ | exact Nat.le_add_right _ _ | (simp <;> omega)) _ | refine below_drewN ?_ _))⟩
    · go_enter Tryz.func29, Tryz.ntmps29
      go_wp2_with (first | (go_at_call 30; refine (inside_c _ _ _ _).mono ?_; rintro e w' ⟨rfl, rfl⟩) | (go_at_call 61; refine (core_c _ _ _ (by simp [M.inCurve, h1, h2])).mono ?_; rintro e w' ⟨rfl, hb⟩; obtain ⟨hc_, hf_, hz_⟩ := bcell hb; (try simp only [World.size_alloc, heap_drew, World.heap_drewN, size_setCell] at hz_)))
      go_ret; exact ⟨ret_b (by simp [M.good, M.inCurve, h1, h2]), (by repeat (first | exact Below.refl _ _ | refine below_alloc ?_ _ | refine below_step ?_ (by assumption) | refine Below.drew ?_ | refine Below.setCell ?_ (by first | exact Nat.le_refl _ | exact Nat.le_add_right _ _ | (simp <;> omega)) _ | refine below_drewN ?_ _))⟩

theorem ecGood_c (a b : Int) (w : World) :
    Calls Tryz.prog 55 #[.agg #[.int .i64 a, .int .i64 b]] w fun e w' => e = .returned (.bool (M.good a b)) ∧ Below w.heap.size w w' := by
  cases h1 : M.ins a (-1000) 1000
  · go_enter Tryz.func55, Tryz.ntmps55
    go_wp2_with (go_at_call 49; refine (l1In_c _ _ _ _).mono ?_; rintro e w' ⟨rfl, rfl⟩)
    go_ret; exact ⟨ret_b (by simp [M.good, M.inCurve, h1]), (by repeat (first | exact Below.refl _ _ | refine below_alloc ?_ _ | refine below_step ?_ (by assumption) | refine Below.drew ?_ | refine Below.setCell ?_ (by first | exact Nat.le_refl _ | exact Nat.le_add_right _ _ | (simp <;> omega)) _ | refine below_drewN ?_ _))⟩
  · cases h2 : M.ins b (-10000) 10000
    · go_enter Tryz.func55, Tryz.ntmps55
      go_wp2_with (go_at_call 49; refine (l1In_c _ _ _ _).mono ?_; rintro e w' ⟨rfl, rfl⟩)
      go_ret; exact ⟨ret_b (by simp [M.good, M.inCurve, h2]), (by repeat (first | exact Below.refl _ _ | refine below_alloc ?_ _ | refine below_step ?_ (by assumption) | refine Below.drew ?_ | refine Below.setCell ?_ (by first | exact Nat.le_refl _ | exact Nat.le_add_right _ _ | (simp <;> omega)) _ | refine below_drewN ?_ _))⟩
    · go_enter Tryz.func55, Tryz.ntmps55
      go_wp2_with (first | (go_at_call 49; refine (l1In_c _ _ _ _).mono ?_; rintro e w' ⟨rfl, rfl⟩) | (go_at_call 78; refine (ecDisc_c _ _ _ (by simp [M.inCurve, h1, h2])).mono ?_; rintro e w' ⟨rfl, hb⟩; obtain ⟨hc_, hf_, hz_⟩ := bcell hb; (try simp only [World.size_alloc, heap_drew, World.heap_drewN, size_setCell] at hz_)))
      go_ret; exact ⟨ret_b (by simp [M.good, M.inCurve, h1, h2]), (by repeat (first | exact Below.refl _ _ | refine below_alloc ?_ _ | refine below_step ?_ (by assumption) | refine Below.drew ?_ | refine Below.setCell ?_ (by first | exact Nat.le_refl _ | exact Nat.le_add_right _ _ | (simp <;> omega)) _ | refine below_drewN ?_ _))⟩

theorem box_cell (w : World) (cs : Array Value) (T : TypeId) (j : Nat) : (w.alloc (.cells cs T)).cell? ⟨w.heap.size, j, none⟩ = cs[j]? := by
  rw [World.cell?_alloc_at _ _ _ _ rfl]
/-- a curve, or nothing -/
def cv (a b : Int) : Value := .agg #[.int .i64 a, .int .i64 b]
theorem gcd_pos {a b : Int} (h : b ≠ 0) : 0 < M.gcd a b := by
  unfold M.gcd
  have : 0 < Int.gcd a b := Int.gcd_pos_of_ne_zero_right _ h
  omega
/-- a fraction's parts, the denominator made positive -/
def partN (a b : Int) : Int := if b < 0 then -a.tdiv (M.gcd a b) else a.tdiv (M.gcd a b)
def partD (a b : Int) : Int := if b < 0 then -b.tdiv (M.gcd a b) else b.tdiv (M.gcd a b)

theorem partN_neg {a b : Int} (h : b < 0) : partN a b = -a.tdiv (M.gcd a b) := if_pos h
theorem partN_pos {a b : Int} (h : 0 ≤ b) : partN a b = a.tdiv (M.gcd a b) := if_neg (by omega)
theorem partD_neg {a b : Int} (h : b < 0) : partD a b = -b.tdiv (M.gcd a b) := if_pos h
theorem partD_pos {a b : Int} (h : 0 ≤ b) : partD a b = b.tdiv (M.gcd a b) := if_neg (by omega)
theorem tdiv_bd {a d m : Int} (h1 : -m ≤ a) (h2 : a ≤ m) (hd : d ≠ 0) : -m ≤ a.tdiv d ∧ a.tdiv d ≤ m := by
  have : (a.tdiv d).natAbs ≤ a.natAbs := by rw [Int.natAbs_tdiv]; exact Nat.div_le_self _ _
  omega
theorem gcd_le {a b : Int} (h : b ≠ 0) : M.gcd a b ≤ b.natAbs := by
  unfold M.gcd
  have := Nat.le_of_dvd (by omega) (Nat.gcd_dvd_right a.natAbs b.natAbs)
  simp only [Int.gcd]
  omega

theorem keepCell {W w' : World} (hb : Below W.heap.size W w') {p : Addr} {v : Value} (h : W.cell? p = some v) : w'.cell? p = some v :=
  (hb.cell (World.block_lt_of_cell? W _ h)).trans h

theorem keepFrz {W w' : World} (hb : Below W.heap.size W w') {p : Addr} (h : p.block < W.heap.size) (hf : W.frozen? p = false) : w'.frozen? p = false :=
  (hb.frozen h).trans hf
theorem keepSz {W w' : World} (hb : Below W.heap.size W w') {n : Nat} (h : n < W.heap.size) : n < w'.heap.size := Nat.lt_of_lt_of_le h hb.size

theorem disc_bd {a b : Int} (h : M.inCurve a b = true) : -10000000000 ≤ M.disc a b ∧ M.disc a b ≤ 10000000000 := by
  obtain ⟨h1, h1', h2, h2'⟩ := M.inCurve_bd h
  have b1 := M.mul_bd (x := 4 * a) (y := a) (m := 4000) (n := 1000) (by omega) (by omega) (by omega) (by omega)
  have b2 := M.mul_bd (x := 4 * a * a) (y := a) (m := 4000000) (n := 1000) (by omega) (by omega) (by omega) (by omega)
  have b3 := M.mul_bd (x := 27 * b) (y := b) (m := 270000) (n := 10000) (by omega) (by omega) (by omega) (by omega)
  unfold M.disc
  omega

end Go.Proofs.YtodgfechhielaaaGreatDoor
