/-
  Contracts: reckoning with fractions.
-/
import Derived.Test.YtpemckpnlemkfaaD6
namespace Go.Proofs.Ytpemckpnlemkfaa
set_option linter.unusedSimpArgs false
set_option linter.unusedVariables false
open Go.RowKit

namespace M
noncomputable def fmk (n d : Int) : Option (Int × Int) := if frq n d then some (partN n d, partD n d) else none
def fN (r : Option (Int × Int)) : Int := (r.getD (0, 0)).1
def fD (r : Option (Int × Int)) : Int := (r.getD (0, 0)).2
theorem fN_some (p : Int × Int) : fN (some p) = p.1 := rfl
theorem fD_some (p : Int × Int) : fD (some p) = p.2 := rfl
theorem fmk_eq (n d : Int) : (.tuple #[.agg #[.int .i64 (M.pick (frq (n) (d)) (partN (n) (d))), .int .i64 (M.pick (frq (n) (d)) (partD (n) (d)))], .bool (frq (n) (d))] : Value) = .tuple #[.agg #[.int .i64 (fN (fmk n d)), .int .i64 (fD (fmk n d))], .bool (fmk n d).isSome] := by
  unfold fmk
  cases h : frq n d <;> simp [M.pick_f, M.pick_t, fN, fD]
noncomputable def fadd (p q : Int × Int) : Option (Int × Int) := fmk (p.1 * q.2 + q.1 * p.2) (p.2 * q.2)
noncomputable def fsub (p q : Int × Int) : Option (Int × Int) := fmk (p.1 * q.2 - q.1 * p.2) (p.2 * q.2)
noncomputable def fmul (p q : Int × Int) : Option (Int × Int) := fmk (p.1 * q.1) (p.2 * q.2)
noncomputable def fdiv (p q : Int × Int) : Option (Int × Int) := if q.1 = 0 then none else fmk (p.1 * q.2) (p.2 * q.1)
theorem frOk_bd {n d : Int} (h : frOk n d = true) : -1000000000 ≤ n ∧ n ≤ 1000000000 ∧ 1 ≤ d ∧ d ≤ 1000000000 := by
  unfold frOk at h
  simp only [Bool.and_eq_true] at h
  have h1 := M.ins_t h.1.1
  have h2 := M.ins_t h.1.2
  omega
theorem fmk_ok {n d : Int} {p : Int × Int} (h : fmk n d = some p) : frOk p.1 p.2 = true := by
  unfold fmk at h
  split at h
  · rename_i hq
    cases h
    exact hq
  · cases h
theorem frOk_01 : frOk 0 1 = true := by unfold frOk; simp [M.ins, M.gcd]
theorem gcd_one (n : Int) : M.gcd n 1 = 1 := by simp [M.gcd]
theorem frOk_whole {n : Int} (h1 : -1000000000 ≤ n) (h2 : n ≤ 1000000000) : frOk n 1 = true := by
  unfold frOk
  rw [gcd_one]
  simp [M.ins, h1, h2]
theorem fmk_whole {n : Int} (h1 : -1000000000 ≤ n) (h2 : n ≤ 1000000000) : fmk n 1 = some (n, 1) := by
  have e1 : partN n 1 = n := by rw [partN_pos (by omega), gcd_one]; simp
  have e2 : partD n 1 = 1 := by rw [partD_pos (by omega), gcd_one]; simp
  unfold fmk frq
  rw [e1, e2, frOk_whole h1 h2]
  rfl
end M

theorem frMake_o (n d : Int) (w : World) (h1 : -4000000000000000000 ≤ n) (h2 : n ≤ 4000000000000000000) (h3 : -4000000000000000000 ≤ d) (h4 : d ≤ 4000000000000000000) (h0 : d ≠ 0) :
    Calls Try.prog 66 #[.int .i64 n, .int .i64 d] w fun e w' => e = .returned (.tuple #[.agg #[.int .i64 (M.fN (M.fmk n d)), .int .i64 (M.fD (M.fmk n d))], .bool (M.fmk n d).isSome]) ∧ Below w.heap.size w w' := by
  rw [← M.fmk_eq]
  exact frMake_c n d w h1 h2 h3 h4 h0
theorem makeFraction_o (n d : Int) (w : World) (h1 : -4000000000000000000 ≤ n) (h2 : n ≤ 4000000000000000000) (h3 : -4000000000000000000 ≤ d) (h4 : d ≤ 4000000000000000000) (h0 : d ≠ 0) :
    Calls Try.prog 71 #[.int .i64 n, .int .i64 d] w fun e w' => e = .returned (.tuple #[.agg #[.int .i64 (M.fN (M.fmk n d)), .int .i64 (M.fD (M.fmk n d))], .bool (M.fmk n d).isSome]) ∧ Below w.heap.size w w' := by
  rw [← M.fmk_eq]
  exact makeFraction_c n d w h1 h2 h3 h4 h0

theorem frInt_c (n : Int) (w : World) :
    Calls Try.prog 38 #[.int .i64 n] w fun e w' => e = .returned (.agg #[.int .i64 n, .int .i64 1]) ∧ Below w.heap.size w w' := by
  go_enter Try.func38, Try.ntmps38
  go_wp2
  exact bodyPost_ret (v := .agg #[.int .i64 n, .int .i64 1]) (by simp [results, Try.results38, go_sem, *]) rfl (⟨rfl, (by repeat (first | exact Below.refl _ _ | refine below_alloc ?_ _ | refine below_step ?_ (by assumption) | refine Below.drew ?_ | refine Below.setCell ?_ (by first | exact Nat.le_refl _ | exact Nat.le_add_right _ _ | (simp <;> omega)) _ | refine below_drewN ?_ _))⟩)

theorem frMul_c (a b c d : Int) (w : World) (h1 : frOk a b = true) (h2 : frOk c d = true) :
    Calls Try.prog 43 #[.agg #[.int .i64 a, .int .i64 b], .agg #[.int .i64 c, .int .i64 d]] w fun e w' => e = .returned (.tuple #[.agg #[.int .i64 (M.fN (M.fmul (a, b) (c, d))), .int .i64 (M.fD (M.fmul (a, b) (c, d)))], .bool (M.fmul (a, b) (c, d)).isSome]) ∧ Below w.heap.size w w' := by
  obtain ⟨a1, a2, b1, b2⟩ := M.frOk_bd h1
  obtain ⟨c1, c2, d1, d2⟩ := M.frOk_bd h2
  have m1 := M.mul_bd (x := a) (y := c) (m := 1000000000) (n := 1000000000) (by omega) (by omega) (by omega) (by omega)
  have m2 := M.mul_bd (x := b) (y := d) (m := 1000000000) (n := 1000000000) (by omega) (by omega) (by omega) (by omega)
  have m3 : 0 < b * d := Int.mul_pos (by omega) (by omega)
  have H := fun w => frMake_o (a * c) (b * d) w (by omega) (by omega) (by omega) (by omega) (by omega)
  change ∀ w, Calls Try.prog 66 _ w (fun e w' => e = .returned (.tuple #[.agg #[.int .i64 (M.fN (M.fmul (a, b) (c, d))), .int .i64 (M.fD (M.fmul (a, b) (c, d)))], .bool (M.fmul (a, b) (c, d)).isSome]) ∧ _) at H
  generalize M.fmul (a, b) (c, d) = r at *
  have H := Lib.hid H
  clear m3
  go_enter Try.func43, Try.ntmps43
  go_wp2_with fail
  refine (H.out _).mono ?_; rintro e w' ⟨rfl, hb⟩
  have hz_ := hb.size; (try simp only [World.size_alloc, heap_drew, World.heap_drewN, size_setCell] at hz_); have hs0_ : w.heap.size < w'.heap.size := (by omega); have hk0_ := fun o => (bcell hb).1 (w.heap.size) o (by (try simp only [World.size_alloc, heap_drew, World.heap_drewN, size_setCell]); omega); have hl0_ := fun o => (bcell hb).2.1 (w.heap.size) o (by (try simp only [World.size_alloc, heap_drew, World.heap_drewN, size_setCell]); omega); have hs1_ : w.heap.size + 1 < w'.heap.size := (by omega); have hk1_ := fun o => (bcell hb).1 (w.heap.size + 1) o (by (try simp only [World.size_alloc, heap_drew, World.heap_drewN, size_setCell]); omega); have hl1_ := fun o => (bcell hb).2.1 (w.heap.size + 1) o (by (try simp only [World.size_alloc, heap_drew, World.heap_drewN, size_setCell]); omega); have hs2_ : w.heap.size + 2 < w'.heap.size := (by omega); have hk2_ := fun o => (bcell hb).1 (w.heap.size + 2) o (by (try simp only [World.size_alloc, heap_drew, World.heap_drewN, size_setCell]); omega); have hl2_ := fun o => (bcell hb).2.1 (w.heap.size + 2) o (by (try simp only [World.size_alloc, heap_drew, World.heap_drewN, size_setCell]); omega)
  go_wp2
  exact bodyPost_ret (v := .tuple #[.agg #[.int .i64 (M.fN r), .int .i64 (M.fD r)], .bool r.isSome]) (by simp [results, Try.results43, go_sem, *]) rfl (⟨rfl, (by repeat (first | exact Below.refl _ _ | refine below_alloc ?_ _ | refine below_step ?_ (by assumption) | refine Below.drew ?_ | refine Below.setCell ?_ (by first | exact Nat.le_refl _ | exact Nat.le_add_right _ _ | (simp <;> omega)) _ | refine below_drewN ?_ _))⟩)

theorem frAdd_c (a b c d : Int) (w : World) (h1 : frOk a b = true) (h2 : frOk c d = true) :
    Calls Try.prog 42 #[.agg #[.int .i64 a, .int .i64 b], .agg #[.int .i64 c, .int .i64 d]] w fun e w' => e = .returned (.tuple #[.agg #[.int .i64 (M.fN (M.fadd (a, b) (c, d))), .int .i64 (M.fD (M.fadd (a, b) (c, d)))], .bool (M.fadd (a, b) (c, d)).isSome]) ∧ Below w.heap.size w w' := by
  obtain ⟨a1, a2, b1, b2⟩ := M.frOk_bd h1
  obtain ⟨c1, c2, d1, d2⟩ := M.frOk_bd h2
  have m1 := M.mul_bd (x := a) (y := d) (m := 1000000000) (n := 1000000000) (by omega) (by omega) (by omega) (by omega)
  have m2 := M.mul_bd (x := b) (y := d) (m := 1000000000) (n := 1000000000) (by omega) (by omega) (by omega) (by omega)
  have m4 := M.mul_bd (x := c) (y := b) (m := 1000000000) (n := 1000000000) (by omega) (by omega) (by omega) (by omega)
  have m3 : 0 < b * d := Int.mul_pos (by omega) (by omega)
  have H := fun w => frMake_o (a * d + c * b) (b * d) w (by omega) (by omega) (by omega) (by omega) (by omega)
  change ∀ w, Calls Try.prog 66 _ w (fun e w' => e = .returned (.tuple #[.agg #[.int .i64 (M.fN (M.fadd (a, b) (c, d))), .int .i64 (M.fD (M.fadd (a, b) (c, d)))], .bool (M.fadd (a, b) (c, d)).isSome]) ∧ _) at H
  generalize M.fadd (a, b) (c, d) = r at *
  have H := Lib.hid H
  clear m3
  go_enter Try.func42, Try.ntmps42
  go_wp2_with fail
  refine (H.out _).mono ?_; rintro e w' ⟨rfl, hb⟩
  have hz_ := hb.size; (try simp only [World.size_alloc, heap_drew, World.heap_drewN, size_setCell] at hz_); have hs0_ : w.heap.size < w'.heap.size := (by omega); have hk0_ := fun o => (bcell hb).1 (w.heap.size) o (by (try simp only [World.size_alloc, heap_drew, World.heap_drewN, size_setCell]); omega); have hl0_ := fun o => (bcell hb).2.1 (w.heap.size) o (by (try simp only [World.size_alloc, heap_drew, World.heap_drewN, size_setCell]); omega); have hs1_ : w.heap.size + 1 < w'.heap.size := (by omega); have hk1_ := fun o => (bcell hb).1 (w.heap.size + 1) o (by (try simp only [World.size_alloc, heap_drew, World.heap_drewN, size_setCell]); omega); have hl1_ := fun o => (bcell hb).2.1 (w.heap.size + 1) o (by (try simp only [World.size_alloc, heap_drew, World.heap_drewN, size_setCell]); omega); have hs2_ : w.heap.size + 2 < w'.heap.size := (by omega); have hk2_ := fun o => (bcell hb).1 (w.heap.size + 2) o (by (try simp only [World.size_alloc, heap_drew, World.heap_drewN, size_setCell]); omega); have hl2_ := fun o => (bcell hb).2.1 (w.heap.size + 2) o (by (try simp only [World.size_alloc, heap_drew, World.heap_drewN, size_setCell]); omega)
  go_wp2
  exact bodyPost_ret (v := .tuple #[.agg #[.int .i64 (M.fN r), .int .i64 (M.fD r)], .bool r.isSome]) (by simp [results, Try.results42, go_sem, *]) rfl (⟨rfl, (by repeat (first | exact Below.refl _ _ | refine below_alloc ?_ _ | refine below_step ?_ (by assumption) | refine Below.drew ?_ | refine Below.setCell ?_ (by first | exact Nat.le_refl _ | exact Nat.le_add_right _ _ | (simp <;> omega)) _ | refine below_drewN ?_ _))⟩)

theorem frSub_c (a b c d : Int) (w : World) (h1 : frOk a b = true) (h2 : frOk c d = true) :
    Calls Try.prog 40 #[.agg #[.int .i64 a, .int .i64 b], .agg #[.int .i64 c, .int .i64 d]] w fun e w' => e = .returned (.tuple #[.agg #[.int .i64 (M.fN (M.fsub (a, b) (c, d))), .int .i64 (M.fD (M.fsub (a, b) (c, d)))], .bool (M.fsub (a, b) (c, d)).isSome]) ∧ Below w.heap.size w w' := by
  obtain ⟨a1, a2, b1, b2⟩ := M.frOk_bd h1
  obtain ⟨c1, c2, d1, d2⟩ := M.frOk_bd h2
  have m1 := M.mul_bd (x := a) (y := d) (m := 1000000000) (n := 1000000000) (by omega) (by omega) (by omega) (by omega)
  have m2 := M.mul_bd (x := b) (y := d) (m := 1000000000) (n := 1000000000) (by omega) (by omega) (by omega) (by omega)
  have m4 := M.mul_bd (x := c) (y := b) (m := 1000000000) (n := 1000000000) (by omega) (by omega) (by omega) (by omega)
  have m3 : 0 < b * d := Int.mul_pos (by omega) (by omega)
  have H := fun w => frMake_o (a * d - c * b) (b * d) w (by omega) (by omega) (by omega) (by omega) (by omega)
  change ∀ w, Calls Try.prog 66 _ w (fun e w' => e = .returned (.tuple #[.agg #[.int .i64 (M.fN (M.fsub (a, b) (c, d))), .int .i64 (M.fD (M.fsub (a, b) (c, d)))], .bool (M.fsub (a, b) (c, d)).isSome]) ∧ _) at H
  generalize M.fsub (a, b) (c, d) = r at *
  have H := Lib.hid H
  clear m3
  go_enter Try.func40, Try.ntmps40
  go_wp2_with fail
  refine (H.out _).mono ?_; rintro e w' ⟨rfl, hb⟩
  have hz_ := hb.size; (try simp only [World.size_alloc, heap_drew, World.heap_drewN, size_setCell] at hz_); have hs0_ : w.heap.size < w'.heap.size := (by omega); have hk0_ := fun o => (bcell hb).1 (w.heap.size) o (by (try simp only [World.size_alloc, heap_drew, World.heap_drewN, size_setCell]); omega); have hl0_ := fun o => (bcell hb).2.1 (w.heap.size) o (by (try simp only [World.size_alloc, heap_drew, World.heap_drewN, size_setCell]); omega); have hs1_ : w.heap.size + 1 < w'.heap.size := (by omega); have hk1_ := fun o => (bcell hb).1 (w.heap.size + 1) o (by (try simp only [World.size_alloc, heap_drew, World.heap_drewN, size_setCell]); omega); have hl1_ := fun o => (bcell hb).2.1 (w.heap.size + 1) o (by (try simp only [World.size_alloc, heap_drew, World.heap_drewN, size_setCell]); omega); have hs2_ : w.heap.size + 2 < w'.heap.size := (by omega); have hk2_ := fun o => (bcell hb).1 (w.heap.size + 2) o (by (try simp only [World.size_alloc, heap_drew, World.heap_drewN, size_setCell]); omega); have hl2_ := fun o => (bcell hb).2.1 (w.heap.size + 2) o (by (try simp only [World.size_alloc, heap_drew, World.heap_drewN, size_setCell]); omega)
  go_wp2
  exact bodyPost_ret (v := .tuple #[.agg #[.int .i64 (M.fN r), .int .i64 (M.fD r)], .bool r.isSome]) (by simp [results, Try.results40, go_sem, *]) rfl (⟨rfl, (by repeat (first | exact Below.refl _ _ | refine below_alloc ?_ _ | refine below_step ?_ (by assumption) | refine Below.drew ?_ | refine Below.setCell ?_ (by first | exact Nat.le_refl _ | exact Nat.le_add_right _ _ | (simp <;> omega)) _ | refine below_drewN ?_ _))⟩)

theorem frDiv_c (a b c d : Int) (w : World) (h1 : frOk a b = true) (h2 : frOk c d = true) :
    Calls Try.prog 41 #[.agg #[.int .i64 a, .int .i64 b], .agg #[.int .i64 c, .int .i64 d]] w fun e w' => e = .returned (.tuple #[.agg #[.int .i64 (M.fN (M.fdiv (a, b) (c, d))), .int .i64 (M.fD (M.fdiv (a, b) (c, d)))], .bool (M.fdiv (a, b) (c, d)).isSome]) ∧ Below w.heap.size w w' := by
  obtain ⟨a1, a2, b1, b2⟩ := M.frOk_bd h1
  obtain ⟨c1, c2, d1, d2⟩ := M.frOk_bd h2
  have m1 := M.mul_bd (x := a) (y := d) (m := 1000000000) (n := 1000000000) (by omega) (by omega) (by omega) (by omega)
  have m2 := M.mul_bd (x := b) (y := c) (m := 1000000000) (n := 1000000000) (by omega) (by omega) (by omega) (by omega)
  by_cases hc : c = 0
  · have hn : M.fdiv (a, b) (c, d) = none := if_pos hc
    rw [hn]
    subst hc
    go_enter Try.func41, Try.ntmps41
    go_wp2
    exact bodyPost_ret (v := .tuple #[.agg #[.int .i64 0, .int .i64 0], .bool false]) (by simp [results, Try.results41, go_sem, *]) rfl (⟨rfl, (by repeat (first | exact Below.refl _ _ | refine below_alloc ?_ _ | refine below_step ?_ (by assumption) | refine Below.drew ?_ | refine Below.setCell ?_ (by first | exact Nat.le_refl _ | exact Nat.le_add_right _ _ | (simp <;> omega)) _ | refine below_drewN ?_ _))⟩)
  · have hn : M.fdiv (a, b) (c, d) = M.fmk (a * d) (b * c) := if_neg hc
    have m3 : b * c ≠ 0 := by intro h; rcases Int.mul_eq_zero.1 h with h | h <;> omega
    have H := fun w => frMake_o (a * d) (b * c) w (by omega) (by omega) (by omega) (by omega) (by omega)
    rw [← hn] at H
    change ∀ w, Calls Try.prog 66 _ w (fun e w' => e = .returned (.tuple #[.agg #[.int .i64 (M.fN (M.fdiv (a, b) (c, d))), .int .i64 (M.fD (M.fdiv (a, b) (c, d)))], .bool (M.fdiv (a, b) (c, d)).isSome]) ∧ _) at H
    clear hn
    generalize M.fdiv (a, b) (c, d) = r at *
    have H := Lib.hid H
    clear m3
    go_enter Try.func41, Try.ntmps41
    go_wp2_with fail
    refine (H.out _).mono ?_; rintro e w' ⟨rfl, hb⟩
    have hz_ := hb.size; (try simp only [World.size_alloc, heap_drew, World.heap_drewN, size_setCell] at hz_); have hs0_ : w.heap.size < w'.heap.size := (by omega); have hk0_ := fun o => (bcell hb).1 (w.heap.size) o (by (try simp only [World.size_alloc, heap_drew, World.heap_drewN, size_setCell]); omega); have hl0_ := fun o => (bcell hb).2.1 (w.heap.size) o (by (try simp only [World.size_alloc, heap_drew, World.heap_drewN, size_setCell]); omega); have hs1_ : w.heap.size + 1 < w'.heap.size := (by omega); have hk1_ := fun o => (bcell hb).1 (w.heap.size + 1) o (by (try simp only [World.size_alloc, heap_drew, World.heap_drewN, size_setCell]); omega); have hl1_ := fun o => (bcell hb).2.1 (w.heap.size + 1) o (by (try simp only [World.size_alloc, heap_drew, World.heap_drewN, size_setCell]); omega); have hs2_ : w.heap.size + 2 < w'.heap.size := (by omega); have hk2_ := fun o => (bcell hb).1 (w.heap.size + 2) o (by (try simp only [World.size_alloc, heap_drew, World.heap_drewN, size_setCell]); omega); have hl2_ := fun o => (bcell hb).2.1 (w.heap.size + 2) o (by (try simp only [World.size_alloc, heap_drew, World.heap_drewN, size_setCell]); omega)
    go_wp2
    exact bodyPost_ret (v := .tuple #[.agg #[.int .i64 (M.fN r), .int .i64 (M.fD r)], .bool r.isSome]) (by simp [results, Try.results41, go_sem, *]) rfl (⟨rfl, (by repeat (first | exact Below.refl _ _ | refine below_alloc ?_ _ | refine below_step ?_ (by assumption) | refine Below.drew ?_ | refine Below.setCell ?_ (by first | exact Nat.le_refl _ | exact Nat.le_add_right _ _ | (simp <;> omega)) _ | refine below_drewN ?_ _))⟩)

theorem ProductOf_c (a b c d : Int) (w : World) (h1 : frOk a b = true) (h2 : frOk c d = true) :
    Calls Try.prog 69 #[.agg #[.int .i64 a, .int .i64 b], .agg #[.int .i64 c, .int .i64 d]] w fun e w' => e = .returned (.tuple #[.agg #[.int .i64 (M.fN (M.fmul (a, b) (c, d))), .int .i64 (M.fD (M.fmul (a, b) (c, d)))], .bool (M.fmul (a, b) (c, d)).isSome]) ∧ Below w.heap.size w w' := by
  obtain ⟨a1, a2, b1, b2⟩ := M.frOk_bd h1
  obtain ⟨c1, c2, d1, d2⟩ := M.frOk_bd h2
  have m1 := M.mul_bd (x := a) (y := c) (m := 1000000000) (n := 1000000000) (by omega) (by omega) (by omega) (by omega)
  have m2 := M.mul_bd (x := b) (y := d) (m := 1000000000) (n := 1000000000) (by omega) (by omega) (by omega) (by omega)
  have m3 : 0 < b * d := Int.mul_pos (by omega) (by omega)
  have H := fun w => makeFraction_o (a * c) (b * d) w (by omega) (by omega) (by omega) (by omega) (by omega)
  change ∀ w, Calls Try.prog 71 _ w (fun e w' => e = .returned (.tuple #[.agg #[.int .i64 (M.fN (M.fmul (a, b) (c, d))), .int .i64 (M.fD (M.fmul (a, b) (c, d)))], .bool (M.fmul (a, b) (c, d)).isSome]) ∧ _) at H
  generalize M.fmul (a, b) (c, d) = r at *
  have H := Lib.hid H
  clear m3
  have G1 := fun w => isFraction_c a b w
  have G2 := fun w => isFraction_c c d w
  rw [h1] at G1
  rw [h2] at G2
  have G1 := Lib.hid G1
  have G2 := Lib.hid G2
  clear h1 h2
  go_enter Try.func69, Try.ntmps69
  go_wp2_with fail
  refine (G1.out _).mono ?_; rintro e w' ⟨rfl, hb1⟩
  have hz_ := hb1.size; (try simp only [World.size_alloc, heap_drew, World.heap_drewN, size_setCell] at hz_); have hs0_ : w.heap.size < w'.heap.size := (by omega); have hk0_ := fun o => (bcell hb1).1 (w.heap.size) o (by (try simp only [World.size_alloc, heap_drew, World.heap_drewN, size_setCell]); omega); have hl0_ := fun o => (bcell hb1).2.1 (w.heap.size) o (by (try simp only [World.size_alloc, heap_drew, World.heap_drewN, size_setCell]); omega); have hs1_ : w.heap.size + 1 < w'.heap.size := (by omega); have hk1_ := fun o => (bcell hb1).1 (w.heap.size + 1) o (by (try simp only [World.size_alloc, heap_drew, World.heap_drewN, size_setCell]); omega); have hl1_ := fun o => (bcell hb1).2.1 (w.heap.size + 1) o (by (try simp only [World.size_alloc, heap_drew, World.heap_drewN, size_setCell]); omega); have hs2_ : w.heap.size + 2 < w'.heap.size := (by omega); have hk2_ := fun o => (bcell hb1).1 (w.heap.size + 2) o (by (try simp only [World.size_alloc, heap_drew, World.heap_drewN, size_setCell]); omega); have hl2_ := fun o => (bcell hb1).2.1 (w.heap.size + 2) o (by (try simp only [World.size_alloc, heap_drew, World.heap_drewN, size_setCell]); omega)
  go_wp2_with fail
  refine (G2.out _).mono ?_; rintro e w'' ⟨rfl, hb2⟩
  have hz_ := hb2.size; (try simp only [World.size_alloc, heap_drew, World.heap_drewN, size_setCell] at hz_); have hs0_ : w.heap.size < w''.heap.size := (by omega); have hk0_ := fun o => (bcell hb2).1 (w.heap.size) o (by (try simp only [World.size_alloc, heap_drew, World.heap_drewN, size_setCell]); omega); have hl0_ := fun o => (bcell hb2).2.1 (w.heap.size) o (by (try simp only [World.size_alloc, heap_drew, World.heap_drewN, size_setCell]); omega); have hs1_ : w.heap.size + 1 < w''.heap.size := (by omega); have hk1_ := fun o => (bcell hb2).1 (w.heap.size + 1) o (by (try simp only [World.size_alloc, heap_drew, World.heap_drewN, size_setCell]); omega); have hl1_ := fun o => (bcell hb2).2.1 (w.heap.size + 1) o (by (try simp only [World.size_alloc, heap_drew, World.heap_drewN, size_setCell]); omega); have hs2_ : w.heap.size + 2 < w''.heap.size := (by omega); have hk2_ := fun o => (bcell hb2).1 (w.heap.size + 2) o (by (try simp only [World.size_alloc, heap_drew, World.heap_drewN, size_setCell]); omega); have hl2_ := fun o => (bcell hb2).2.1 (w.heap.size + 2) o (by (try simp only [World.size_alloc, heap_drew, World.heap_drewN, size_setCell]); omega)
  go_wp2_with fail
  refine (H.out _).mono ?_; rintro e w3 ⟨rfl, hb3⟩
  have hz_ := hb3.size; (try simp only [World.size_alloc, heap_drew, World.heap_drewN, size_setCell] at hz_); have hs0_ : w.heap.size < w3.heap.size := (by omega); have hk0_ := fun o => (bcell hb3).1 (w.heap.size) o (by (try simp only [World.size_alloc, heap_drew, World.heap_drewN, size_setCell]); omega); have hl0_ := fun o => (bcell hb3).2.1 (w.heap.size) o (by (try simp only [World.size_alloc, heap_drew, World.heap_drewN, size_setCell]); omega); have hs1_ : w.heap.size + 1 < w3.heap.size := (by omega); have hk1_ := fun o => (bcell hb3).1 (w.heap.size + 1) o (by (try simp only [World.size_alloc, heap_drew, World.heap_drewN, size_setCell]); omega); have hl1_ := fun o => (bcell hb3).2.1 (w.heap.size + 1) o (by (try simp only [World.size_alloc, heap_drew, World.heap_drewN, size_setCell]); omega); have hs2_ : w.heap.size + 2 < w3.heap.size := (by omega); have hk2_ := fun o => (bcell hb3).1 (w.heap.size + 2) o (by (try simp only [World.size_alloc, heap_drew, World.heap_drewN, size_setCell]); omega); have hl2_ := fun o => (bcell hb3).2.1 (w.heap.size + 2) o (by (try simp only [World.size_alloc, heap_drew, World.heap_drewN, size_setCell]); omega)
  go_wp2
  exact bodyPost_ret (v := .tuple #[.agg #[.int .i64 (M.fN r), .int .i64 (M.fD r)], .bool r.isSome]) (by simp [results, Try.results69, go_sem, *]) rfl (⟨rfl, (by repeat (first | exact Below.refl _ _ | refine below_alloc ?_ _ | refine below_step ?_ (by assumption) | refine Below.drew ?_ | refine Below.setCell ?_ (by first | exact Nat.le_refl _ | exact Nat.le_add_right _ _ | (simp <;> omega)) _ | refine below_drewN ?_ _))⟩)

theorem SumOf_c (a b c d : Int) (w : World) (h1 : frOk a b = true) (h2 : frOk c d = true) :
    Calls Try.prog 70 #[.agg #[.int .i64 a, .int .i64 b], .agg #[.int .i64 c, .int .i64 d]] w fun e w' => e = .returned (.tuple #[.agg #[.int .i64 (M.fN (M.fadd (a, b) (c, d))), .int .i64 (M.fD (M.fadd (a, b) (c, d)))], .bool (M.fadd (a, b) (c, d)).isSome]) ∧ Below w.heap.size w w' := by
  obtain ⟨a1, a2, b1, b2⟩ := M.frOk_bd h1
  obtain ⟨c1, c2, d1, d2⟩ := M.frOk_bd h2
  have m1 := M.mul_bd (x := a) (y := d) (m := 1000000000) (n := 1000000000) (by omega) (by omega) (by omega) (by omega)
  have m2 := M.mul_bd (x := b) (y := d) (m := 1000000000) (n := 1000000000) (by omega) (by omega) (by omega) (by omega)
  have m4 := M.mul_bd (x := c) (y := b) (m := 1000000000) (n := 1000000000) (by omega) (by omega) (by omega) (by omega)
  have m3 : 0 < b * d := Int.mul_pos (by omega) (by omega)
  have H := fun w => makeFraction_o (a * d + c * b) (b * d) w (by omega) (by omega) (by omega) (by omega) (by omega)
  change ∀ w, Calls Try.prog 71 _ w (fun e w' => e = .returned (.tuple #[.agg #[.int .i64 (M.fN (M.fadd (a, b) (c, d))), .int .i64 (M.fD (M.fadd (a, b) (c, d)))], .bool (M.fadd (a, b) (c, d)).isSome]) ∧ _) at H
  generalize M.fadd (a, b) (c, d) = r at *
  have H := Lib.hid H
  clear m3
  have G1 := fun w => isFraction_c a b w
  have G2 := fun w => isFraction_c c d w
  rw [h1] at G1
  rw [h2] at G2
  have G1 := Lib.hid G1
  have G2 := Lib.hid G2
  clear h1 h2
  go_enter Try.func70, Try.ntmps70
  go_wp2_with fail
  refine (G1.out _).mono ?_; rintro e w' ⟨rfl, hb1⟩
  have hz_ := hb1.size; (try simp only [World.size_alloc, heap_drew, World.heap_drewN, size_setCell] at hz_); have hs0_ : w.heap.size < w'.heap.size := (by omega); have hk0_ := fun o => (bcell hb1).1 (w.heap.size) o (by (try simp only [World.size_alloc, heap_drew, World.heap_drewN, size_setCell]); omega); have hl0_ := fun o => (bcell hb1).2.1 (w.heap.size) o (by (try simp only [World.size_alloc, heap_drew, World.heap_drewN, size_setCell]); omega); have hs1_ : w.heap.size + 1 < w'.heap.size := (by omega); have hk1_ := fun o => (bcell hb1).1 (w.heap.size + 1) o (by (try simp only [World.size_alloc, heap_drew, World.heap_drewN, size_setCell]); omega); have hl1_ := fun o => (bcell hb1).2.1 (w.heap.size + 1) o (by (try simp only [World.size_alloc, heap_drew, World.heap_drewN, size_setCell]); omega); have hs2_ : w.heap.size + 2 < w'.heap.size := (by omega); have hk2_ := fun o => (bcell hb1).1 (w.heap.size + 2) o (by (try simp only [World.size_alloc, heap_drew, World.heap_drewN, size_setCell]); omega); have hl2_ := fun o => (bcell hb1).2.1 (w.heap.size + 2) o (by (try simp only [World.size_alloc, heap_drew, World.heap_drewN, size_setCell]); omega)
  go_wp2_with fail
  refine (G2.out _).mono ?_; rintro e w'' ⟨rfl, hb2⟩
  have hz_ := hb2.size; (try simp only [World.size_alloc, heap_drew, World.heap_drewN, size_setCell] at hz_); have hs0_ : w.heap.size < w''.heap.size := (by omega); have hk0_ := fun o => (bcell hb2).1 (w.heap.size) o (by (try simp only [World.size_alloc, heap_drew, World.heap_drewN, size_setCell]); omega); have hl0_ := fun o => (bcell hb2).2.1 (w.heap.size) o (by (try simp only [World.size_alloc, heap_drew, World.heap_drewN, size_setCell]); omega); have hs1_ : w.heap.size + 1 < w''.heap.size := (by omega); have hk1_ := fun o => (bcell hb2).1 (w.heap.size + 1) o (by (try simp only [World.size_alloc, heap_drew, World.heap_drewN, size_setCell]); omega); have hl1_ := fun o => (bcell hb2).2.1 (w.heap.size + 1) o (by (try simp only [World.size_alloc, heap_drew, World.heap_drewN, size_setCell]); omega); have hs2_ : w.heap.size + 2 < w''.heap.size := (by omega); have hk2_ := fun o => (bcell hb2).1 (w.heap.size + 2) o (by (try simp only [World.size_alloc, heap_drew, World.heap_drewN, size_setCell]); omega); have hl2_ := fun o => (bcell hb2).2.1 (w.heap.size + 2) o (by (try simp only [World.size_alloc, heap_drew, World.heap_drewN, size_setCell]); omega)
  go_wp2_with fail
  refine (H.out _).mono ?_; rintro e w3 ⟨rfl, hb3⟩
  have hz_ := hb3.size; (try simp only [World.size_alloc, heap_drew, World.heap_drewN, size_setCell] at hz_); have hs0_ : w.heap.size < w3.heap.size := (by omega); have hk0_ := fun o => (bcell hb3).1 (w.heap.size) o (by (try simp only [World.size_alloc, heap_drew, World.heap_drewN, size_setCell]); omega); have hl0_ := fun o => (bcell hb3).2.1 (w.heap.size) o (by (try simp only [World.size_alloc, heap_drew, World.heap_drewN, size_setCell]); omega); have hs1_ : w.heap.size + 1 < w3.heap.size := (by omega); have hk1_ := fun o => (bcell hb3).1 (w.heap.size + 1) o (by (try simp only [World.size_alloc, heap_drew, World.heap_drewN, size_setCell]); omega); have hl1_ := fun o => (bcell hb3).2.1 (w.heap.size + 1) o (by (try simp only [World.size_alloc, heap_drew, World.heap_drewN, size_setCell]); omega); have hs2_ : w.heap.size + 2 < w3.heap.size := (by omega); have hk2_ := fun o => (bcell hb3).1 (w.heap.size + 2) o (by (try simp only [World.size_alloc, heap_drew, World.heap_drewN, size_setCell]); omega); have hl2_ := fun o => (bcell hb3).2.1 (w.heap.size + 2) o (by (try simp only [World.size_alloc, heap_drew, World.heap_drewN, size_setCell]); omega)
  go_wp2
  exact bodyPost_ret (v := .tuple #[.agg #[.int .i64 (M.fN r), .int .i64 (M.fD r)], .bool r.isSome]) (by simp [results, Try.results70, go_sem, *]) rfl (⟨rfl, (by repeat (first | exact Below.refl _ _ | refine below_alloc ?_ _ | refine below_step ?_ (by assumption) | refine Below.drew ?_ | refine Below.setCell ?_ (by first | exact Nat.le_refl _ | exact Nat.le_add_right _ _ | (simp <;> omega)) _ | refine below_drewN ?_ _))⟩)

theorem DifferenceOf_c (a b c d : Int) (w : World) (h1 : frOk a b = true) (h2 : frOk c d = true) :
    Calls Try.prog 72 #[.agg #[.int .i64 a, .int .i64 b], .agg #[.int .i64 c, .int .i64 d]] w fun e w' => e = .returned (.tuple #[.agg #[.int .i64 (M.fN (M.fsub (a, b) (c, d))), .int .i64 (M.fD (M.fsub (a, b) (c, d)))], .bool (M.fsub (a, b) (c, d)).isSome]) ∧ Below w.heap.size w w' := by
  obtain ⟨a1, a2, b1, b2⟩ := M.frOk_bd h1
  obtain ⟨c1, c2, d1, d2⟩ := M.frOk_bd h2
  have m1 := M.mul_bd (x := a) (y := d) (m := 1000000000) (n := 1000000000) (by omega) (by omega) (by omega) (by omega)
  have m2 := M.mul_bd (x := b) (y := d) (m := 1000000000) (n := 1000000000) (by omega) (by omega) (by omega) (by omega)
  have m4 := M.mul_bd (x := c) (y := b) (m := 1000000000) (n := 1000000000) (by omega) (by omega) (by omega) (by omega)
  have m3 : 0 < b * d := Int.mul_pos (by omega) (by omega)
  have H := fun w => makeFraction_o (a * d - c * b) (b * d) w (by omega) (by omega) (by omega) (by omega) (by omega)
  change ∀ w, Calls Try.prog 71 _ w (fun e w' => e = .returned (.tuple #[.agg #[.int .i64 (M.fN (M.fsub (a, b) (c, d))), .int .i64 (M.fD (M.fsub (a, b) (c, d)))], .bool (M.fsub (a, b) (c, d)).isSome]) ∧ _) at H
  generalize M.fsub (a, b) (c, d) = r at *
  have H := Lib.hid H
  clear m3
  have G1 := fun w => isFraction_c a b w
  have G2 := fun w => isFraction_c c d w
  rw [h1] at G1
  rw [h2] at G2
  have G1 := Lib.hid G1
  have G2 := Lib.hid G2
  clear h1 h2
  go_enter Try.func72, Try.ntmps72
  go_wp2_with fail
  refine (G1.out _).mono ?_; rintro e w' ⟨rfl, hb1⟩
  have hz_ := hb1.size; (try simp only [World.size_alloc, heap_drew, World.heap_drewN, size_setCell] at hz_); have hs0_ : w.heap.size < w'.heap.size := (by omega); have hk0_ := fun o => (bcell hb1).1 (w.heap.size) o (by (try simp only [World.size_alloc, heap_drew, World.heap_drewN, size_setCell]); omega); have hl0_ := fun o => (bcell hb1).2.1 (w.heap.size) o (by (try simp only [World.size_alloc, heap_drew, World.heap_drewN, size_setCell]); omega); have hs1_ : w.heap.size + 1 < w'.heap.size := (by omega); have hk1_ := fun o => (bcell hb1).1 (w.heap.size + 1) o (by (try simp only [World.size_alloc, heap_drew, World.heap_drewN, size_setCell]); omega); have hl1_ := fun o => (bcell hb1).2.1 (w.heap.size + 1) o (by (try simp only [World.size_alloc, heap_drew, World.heap_drewN, size_setCell]); omega); have hs2_ : w.heap.size + 2 < w'.heap.size := (by omega); have hk2_ := fun o => (bcell hb1).1 (w.heap.size + 2) o (by (try simp only [World.size_alloc, heap_drew, World.heap_drewN, size_setCell]); omega); have hl2_ := fun o => (bcell hb1).2.1 (w.heap.size + 2) o (by (try simp only [World.size_alloc, heap_drew, World.heap_drewN, size_setCell]); omega)
  go_wp2_with fail
  refine (G2.out _).mono ?_; rintro e w'' ⟨rfl, hb2⟩
  have hz_ := hb2.size; (try simp only [World.size_alloc, heap_drew, World.heap_drewN, size_setCell] at hz_); have hs0_ : w.heap.size < w''.heap.size := (by omega); have hk0_ := fun o => (bcell hb2).1 (w.heap.size) o (by (try simp only [World.size_alloc, heap_drew, World.heap_drewN, size_setCell]); omega); have hl0_ := fun o => (bcell hb2).2.1 (w.heap.size) o (by (try simp only [World.size_alloc, heap_drew, World.heap_drewN, size_setCell]); omega); have hs1_ : w.heap.size + 1 < w''.heap.size := (by omega); have hk1_ := fun o => (bcell hb2).1 (w.heap.size + 1) o (by (try simp only [World.size_alloc, heap_drew, World.heap_drewN, size_setCell]); omega); have hl1_ := fun o => (bcell hb2).2.1 (w.heap.size + 1) o (by (try simp only [World.size_alloc, heap_drew, World.heap_drewN, size_setCell]); omega); have hs2_ : w.heap.size + 2 < w''.heap.size := (by omega); have hk2_ := fun o => (bcell hb2).1 (w.heap.size + 2) o (by (try simp only [World.size_alloc, heap_drew, World.heap_drewN, size_setCell]); omega); have hl2_ := fun o => (bcell hb2).2.1 (w.heap.size + 2) o (by (try simp only [World.size_alloc, heap_drew, World.heap_drewN, size_setCell]); omega)
  go_wp2_with fail
  refine (H.out _).mono ?_; rintro e w3 ⟨rfl, hb3⟩
  have hz_ := hb3.size; (try simp only [World.size_alloc, heap_drew, World.heap_drewN, size_setCell] at hz_); have hs0_ : w.heap.size < w3.heap.size := (by omega); have hk0_ := fun o => (bcell hb3).1 (w.heap.size) o (by (try simp only [World.size_alloc, heap_drew, World.heap_drewN, size_setCell]); omega); have hl0_ := fun o => (bcell hb3).2.1 (w.heap.size) o (by (try simp only [World.size_alloc, heap_drew, World.heap_drewN, size_setCell]); omega); have hs1_ : w.heap.size + 1 < w3.heap.size := (by omega); have hk1_ := fun o => (bcell hb3).1 (w.heap.size + 1) o (by (try simp only [World.size_alloc, heap_drew, World.heap_drewN, size_setCell]); omega); have hl1_ := fun o => (bcell hb3).2.1 (w.heap.size + 1) o (by (try simp only [World.size_alloc, heap_drew, World.heap_drewN, size_setCell]); omega); have hs2_ : w.heap.size + 2 < w3.heap.size := (by omega); have hk2_ := fun o => (bcell hb3).1 (w.heap.size + 2) o (by (try simp only [World.size_alloc, heap_drew, World.heap_drewN, size_setCell]); omega); have hl2_ := fun o => (bcell hb3).2.1 (w.heap.size + 2) o (by (try simp only [World.size_alloc, heap_drew, World.heap_drewN, size_setCell]); omega)
  go_wp2
  exact bodyPost_ret (v := .tuple #[.agg #[.int .i64 (M.fN r), .int .i64 (M.fD r)], .bool r.isSome]) (by simp [results, Try.results72, go_sem, *]) rfl (⟨rfl, (by repeat (first | exact Below.refl _ _ | refine below_alloc ?_ _ | refine below_step ?_ (by assumption) | refine Below.drew ?_ | refine Below.setCell ?_ (by first | exact Nat.le_refl _ | exact Nat.le_add_right _ _ | (simp <;> omega)) _ | refine below_drewN ?_ _))⟩)

theorem QuotientOf_c (a b c d : Int) (w : World) (h1 : frOk a b = true) (h2 : frOk c d = true) :
    Calls Try.prog 73 #[.agg #[.int .i64 a, .int .i64 b], .agg #[.int .i64 c, .int .i64 d]] w fun e w' => e = .returned (.tuple #[.agg #[.int .i64 (M.fN (M.fdiv (a, b) (c, d))), .int .i64 (M.fD (M.fdiv (a, b) (c, d)))], .bool (M.fdiv (a, b) (c, d)).isSome]) ∧ Below w.heap.size w w' := by
  obtain ⟨a1, a2, b1, b2⟩ := M.frOk_bd h1
  obtain ⟨c1, c2, d1, d2⟩ := M.frOk_bd h2
  have m1 := M.mul_bd (x := a) (y := d) (m := 1000000000) (n := 1000000000) (by omega) (by omega) (by omega) (by omega)
  have m2 := M.mul_bd (x := b) (y := c) (m := 1000000000) (n := 1000000000) (by omega) (by omega) (by omega) (by omega)
  by_cases hc : c = 0
  · have hn : M.fdiv (a, b) (c, d) = none := if_pos hc
    rw [hn]
    subst hc
    have G1 := fun w => isFraction_c a b w
    have G2 := fun w => isFraction_c 0 d w
    rw [h1] at G1
    rw [h2] at G2
    have G1 := Lib.hid G1
    have G2 := Lib.hid G2
    clear h1 h2
    go_enter Try.func73, Try.ntmps73
    go_wp2_with fail
    refine (G1.out _).mono ?_; rintro e w' ⟨rfl, hb1⟩
    have hz_ := hb1.size; (try simp only [World.size_alloc, heap_drew, World.heap_drewN, size_setCell] at hz_); have hs0_ : w.heap.size < w'.heap.size := (by omega); have hk0_ := fun o => (bcell hb1).1 (w.heap.size) o (by (try simp only [World.size_alloc, heap_drew, World.heap_drewN, size_setCell]); omega); have hl0_ := fun o => (bcell hb1).2.1 (w.heap.size) o (by (try simp only [World.size_alloc, heap_drew, World.heap_drewN, size_setCell]); omega); have hs1_ : w.heap.size + 1 < w'.heap.size := (by omega); have hk1_ := fun o => (bcell hb1).1 (w.heap.size + 1) o (by (try simp only [World.size_alloc, heap_drew, World.heap_drewN, size_setCell]); omega); have hl1_ := fun o => (bcell hb1).2.1 (w.heap.size + 1) o (by (try simp only [World.size_alloc, heap_drew, World.heap_drewN, size_setCell]); omega); have hs2_ : w.heap.size + 2 < w'.heap.size := (by omega); have hk2_ := fun o => (bcell hb1).1 (w.heap.size + 2) o (by (try simp only [World.size_alloc, heap_drew, World.heap_drewN, size_setCell]); omega); have hl2_ := fun o => (bcell hb1).2.1 (w.heap.size + 2) o (by (try simp only [World.size_alloc, heap_drew, World.heap_drewN, size_setCell]); omega)
    go_wp2_with fail
    refine (G2.out _).mono ?_; rintro e w'' ⟨rfl, hb2⟩
    have hz_ := hb2.size; (try simp only [World.size_alloc, heap_drew, World.heap_drewN, size_setCell] at hz_); have hs0_ : w.heap.size < w''.heap.size := (by omega); have hk0_ := fun o => (bcell hb2).1 (w.heap.size) o (by (try simp only [World.size_alloc, heap_drew, World.heap_drewN, size_setCell]); omega); have hl0_ := fun o => (bcell hb2).2.1 (w.heap.size) o (by (try simp only [World.size_alloc, heap_drew, World.heap_drewN, size_setCell]); omega); have hs1_ : w.heap.size + 1 < w''.heap.size := (by omega); have hk1_ := fun o => (bcell hb2).1 (w.heap.size + 1) o (by (try simp only [World.size_alloc, heap_drew, World.heap_drewN, size_setCell]); omega); have hl1_ := fun o => (bcell hb2).2.1 (w.heap.size + 1) o (by (try simp only [World.size_alloc, heap_drew, World.heap_drewN, size_setCell]); omega); have hs2_ : w.heap.size + 2 < w''.heap.size := (by omega); have hk2_ := fun o => (bcell hb2).1 (w.heap.size + 2) o (by (try simp only [World.size_alloc, heap_drew, World.heap_drewN, size_setCell]); omega); have hl2_ := fun o => (bcell hb2).2.1 (w.heap.size + 2) o (by (try simp only [World.size_alloc, heap_drew, World.heap_drewN, size_setCell]); omega)
    go_wp2
    exact bodyPost_ret (v := .tuple #[.agg #[.int .i64 0, .int .i64 0], .bool false]) (by simp [results, Try.results73, go_sem, *]) rfl (⟨rfl, (by repeat (first | exact Below.refl _ _ | refine below_alloc ?_ _ | refine below_step ?_ (by assumption) | refine Below.drew ?_ | refine Below.setCell ?_ (by first | exact Nat.le_refl _ | exact Nat.le_add_right _ _ | (simp <;> omega)) _ | refine below_drewN ?_ _))⟩)
  · have hn : M.fdiv (a, b) (c, d) = M.fmk (a * d) (b * c) := if_neg hc
    have m3 : b * c ≠ 0 := by intro h; rcases Int.mul_eq_zero.1 h with h | h <;> omega
    have H := fun w => makeFraction_o (a * d) (b * c) w (by omega) (by omega) (by omega) (by omega) (by omega)
    rw [← hn] at H
    change ∀ w, Calls Try.prog 71 _ w (fun e w' => e = .returned (.tuple #[.agg #[.int .i64 (M.fN (M.fdiv (a, b) (c, d))), .int .i64 (M.fD (M.fdiv (a, b) (c, d)))], .bool (M.fdiv (a, b) (c, d)).isSome]) ∧ _) at H
    clear hn
    generalize M.fdiv (a, b) (c, d) = r at *
    have H := Lib.hid H
    clear m3
    have G1 := fun w => isFraction_c a b w
    have G2 := fun w => isFraction_c c d w
    rw [h1] at G1
    rw [h2] at G2
    have G1 := Lib.hid G1
    have G2 := Lib.hid G2
    clear h1 h2
    go_enter Try.func73, Try.ntmps73
    go_wp2_with fail
    refine (G1.out _).mono ?_; rintro e w' ⟨rfl, hb1⟩
    have hz_ := hb1.size; (try simp only [World.size_alloc, heap_drew, World.heap_drewN, size_setCell] at hz_); have hs0_ : w.heap.size < w'.heap.size := (by omega); have hk0_ := fun o => (bcell hb1).1 (w.heap.size) o (by (try simp only [World.size_alloc, heap_drew, World.heap_drewN, size_setCell]); omega); have hl0_ := fun o => (bcell hb1).2.1 (w.heap.size) o (by (try simp only [World.size_alloc, heap_drew, World.heap_drewN, size_setCell]); omega); have hs1_ : w.heap.size + 1 < w'.heap.size := (by omega); have hk1_ := fun o => (bcell hb1).1 (w.heap.size + 1) o (by (try simp only [World.size_alloc, heap_drew, World.heap_drewN, size_setCell]); omega); have hl1_ := fun o => (bcell hb1).2.1 (w.heap.size + 1) o (by (try simp only [World.size_alloc, heap_drew, World.heap_drewN, size_setCell]); omega); have hs2_ : w.heap.size + 2 < w'.heap.size := (by omega); have hk2_ := fun o => (bcell hb1).1 (w.heap.size + 2) o (by (try simp only [World.size_alloc, heap_drew, World.heap_drewN, size_setCell]); omega); have hl2_ := fun o => (bcell hb1).2.1 (w.heap.size + 2) o (by (try simp only [World.size_alloc, heap_drew, World.heap_drewN, size_setCell]); omega)
    go_wp2_with fail
    refine (G2.out _).mono ?_; rintro e w'' ⟨rfl, hb2⟩
    have hz_ := hb2.size; (try simp only [World.size_alloc, heap_drew, World.heap_drewN, size_setCell] at hz_); have hs0_ : w.heap.size < w''.heap.size := (by omega); have hk0_ := fun o => (bcell hb2).1 (w.heap.size) o (by (try simp only [World.size_alloc, heap_drew, World.heap_drewN, size_setCell]); omega); have hl0_ := fun o => (bcell hb2).2.1 (w.heap.size) o (by (try simp only [World.size_alloc, heap_drew, World.heap_drewN, size_setCell]); omega); have hs1_ : w.heap.size + 1 < w''.heap.size := (by omega); have hk1_ := fun o => (bcell hb2).1 (w.heap.size + 1) o (by (try simp only [World.size_alloc, heap_drew, World.heap_drewN, size_setCell]); omega); have hl1_ := fun o => (bcell hb2).2.1 (w.heap.size + 1) o (by (try simp only [World.size_alloc, heap_drew, World.heap_drewN, size_setCell]); omega); have hs2_ : w.heap.size + 2 < w''.heap.size := (by omega); have hk2_ := fun o => (bcell hb2).1 (w.heap.size + 2) o (by (try simp only [World.size_alloc, heap_drew, World.heap_drewN, size_setCell]); omega); have hl2_ := fun o => (bcell hb2).2.1 (w.heap.size + 2) o (by (try simp only [World.size_alloc, heap_drew, World.heap_drewN, size_setCell]); omega)
    go_wp2_with fail
    refine (H.out _).mono ?_; rintro e w3 ⟨rfl, hb3⟩
    have hz_ := hb3.size; (try simp only [World.size_alloc, heap_drew, World.heap_drewN, size_setCell] at hz_); have hs0_ : w.heap.size < w3.heap.size := (by omega); have hk0_ := fun o => (bcell hb3).1 (w.heap.size) o (by (try simp only [World.size_alloc, heap_drew, World.heap_drewN, size_setCell]); omega); have hl0_ := fun o => (bcell hb3).2.1 (w.heap.size) o (by (try simp only [World.size_alloc, heap_drew, World.heap_drewN, size_setCell]); omega); have hs1_ : w.heap.size + 1 < w3.heap.size := (by omega); have hk1_ := fun o => (bcell hb3).1 (w.heap.size + 1) o (by (try simp only [World.size_alloc, heap_drew, World.heap_drewN, size_setCell]); omega); have hl1_ := fun o => (bcell hb3).2.1 (w.heap.size + 1) o (by (try simp only [World.size_alloc, heap_drew, World.heap_drewN, size_setCell]); omega); have hs2_ : w.heap.size + 2 < w3.heap.size := (by omega); have hk2_ := fun o => (bcell hb3).1 (w.heap.size + 2) o (by (try simp only [World.size_alloc, heap_drew, World.heap_drewN, size_setCell]); omega); have hl2_ := fun o => (bcell hb3).2.1 (w.heap.size + 2) o (by (try simp only [World.size_alloc, heap_drew, World.heap_drewN, size_setCell]); omega)
    go_wp2
    exact bodyPost_ret (v := .tuple #[.agg #[.int .i64 (M.fN r), .int .i64 (M.fD r)], .bool r.isSome]) (by simp [results, Try.results73, go_sem, *]) rfl (⟨rfl, (by repeat (first | exact Below.refl _ _ | refine below_alloc ?_ _ | refine below_step ?_ (by assumption) | refine Below.drew ?_ | refine Below.setCell ?_ (by first | exact Nat.le_refl _ | exact Nat.le_add_right _ _ | (simp <;> omega)) _ | refine below_drewN ?_ _))⟩)

theorem frTwo_c (a b c d : Int) (w : World) :
    Calls Try.prog 37 #[.agg #[.int .i64 a, .int .i64 b], .agg #[.int .i64 c, .int .i64 d]] w fun e w' => e = .returned (.bool (frOk a b && frOk c d)) ∧ Below w.heap.size w w' := by
  have G1 := fun w => frGood_c a b w
  have G2 := fun w => frGood_c c d w
  generalize frOk a b = x at *
  generalize frOk c d = y at *
  have G1 := Lib.hid G1
  have G2 := Lib.hid G2
  cases x
  · go_enter Try.func37, Try.ntmps37
    go_wp2_with fail
    refine (G1.out _).mono ?_; rintro e w' ⟨rfl, hb⟩
    have hz_ := hb.size; (try simp only [World.size_alloc, heap_drew, World.heap_drewN, size_setCell] at hz_); have hs0_ : w.heap.size < w'.heap.size := (by omega); have hk0_ := fun o => (bcell hb).1 (w.heap.size) o (by (try simp only [World.size_alloc, heap_drew, World.heap_drewN, size_setCell]); omega); have hl0_ := fun o => (bcell hb).2.1 (w.heap.size) o (by (try simp only [World.size_alloc, heap_drew, World.heap_drewN, size_setCell]); omega); have hs1_ : w.heap.size + 1 < w'.heap.size := (by omega); have hk1_ := fun o => (bcell hb).1 (w.heap.size + 1) o (by (try simp only [World.size_alloc, heap_drew, World.heap_drewN, size_setCell]); omega); have hl1_ := fun o => (bcell hb).2.1 (w.heap.size + 1) o (by (try simp only [World.size_alloc, heap_drew, World.heap_drewN, size_setCell]); omega)
    go_wp2
    go_ret
    exact ⟨by simp, (by repeat (first | exact Below.refl _ _ | refine below_alloc ?_ _ | refine below_step ?_ (by assumption) | refine Below.drew ?_ | refine Below.setCell ?_ (by first | exact Nat.le_refl _ | exact Nat.le_add_right _ _ | (simp <;> omega)) _ | refine below_drewN ?_ _))⟩
  · go_enter Try.func37, Try.ntmps37
    go_wp2_with fail
    refine (G1.out _).mono ?_; rintro e w' ⟨rfl, hb⟩
    have hz_ := hb.size; (try simp only [World.size_alloc, heap_drew, World.heap_drewN, size_setCell] at hz_); have hs0_ : w.heap.size < w'.heap.size := (by omega); have hk0_ := fun o => (bcell hb).1 (w.heap.size) o (by (try simp only [World.size_alloc, heap_drew, World.heap_drewN, size_setCell]); omega); have hl0_ := fun o => (bcell hb).2.1 (w.heap.size) o (by (try simp only [World.size_alloc, heap_drew, World.heap_drewN, size_setCell]); omega); have hs1_ : w.heap.size + 1 < w'.heap.size := (by omega); have hk1_ := fun o => (bcell hb).1 (w.heap.size + 1) o (by (try simp only [World.size_alloc, heap_drew, World.heap_drewN, size_setCell]); omega); have hl1_ := fun o => (bcell hb).2.1 (w.heap.size + 1) o (by (try simp only [World.size_alloc, heap_drew, World.heap_drewN, size_setCell]); omega)
    go_wp2_with fail
    refine (G2.out _).mono ?_; rintro e w'' ⟨rfl, hb2⟩
    have hz_ := hb2.size; (try simp only [World.size_alloc, heap_drew, World.heap_drewN, size_setCell] at hz_); have hs0_ : w.heap.size < w''.heap.size := (by omega); have hk0_ := fun o => (bcell hb2).1 (w.heap.size) o (by (try simp only [World.size_alloc, heap_drew, World.heap_drewN, size_setCell]); omega); have hl0_ := fun o => (bcell hb2).2.1 (w.heap.size) o (by (try simp only [World.size_alloc, heap_drew, World.heap_drewN, size_setCell]); omega); have hs1_ : w.heap.size + 1 < w''.heap.size := (by omega); have hk1_ := fun o => (bcell hb2).1 (w.heap.size + 1) o (by (try simp only [World.size_alloc, heap_drew, World.heap_drewN, size_setCell]); omega); have hl1_ := fun o => (bcell hb2).2.1 (w.heap.size + 1) o (by (try simp only [World.size_alloc, heap_drew, World.heap_drewN, size_setCell]); omega)
    go_wp2
    go_ret
    exact ⟨by simp, (by repeat (first | exact Below.refl _ _ | refine below_alloc ?_ _ | refine below_step ?_ (by assumption) | refine Below.drew ?_ | refine Below.setCell ?_ (by first | exact Nat.le_refl _ | exact Nat.le_add_right _ _ | (simp <;> omega)) _ | refine below_drewN ?_ _))⟩
end Go.Proofs.Ytpemckpnlemkfaa
