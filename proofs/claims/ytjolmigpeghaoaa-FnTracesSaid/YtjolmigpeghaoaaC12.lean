/-
  Contracts: traces over larger fields.
-/
import Derived.Test.YtjolmigpeghaoaaC11
namespace Go.Proofs.Ytjolmigpeghaoaa
set_option linter.unusedSimpArgs false
set_option linter.unusedVariables false
open Go.RowKit

theorem goodp_trace {a b p : Int} (hp : M.goodp a b p = true) : -1000 ≤ M.trace a b p ∧ M.trace a b p ≤ 1000 ∧ 0 ≤ p ∧ p ≤ 1000 := by
  obtain ⟨p1, p2, -⟩ := M.goodp_bd hp
  have := M.trace_bd a b (p := p) (by omega)
  omega

/-- the trace over the field with p^k elements, k from 1 on -/
def trp (t p k : Int) : Int := (M.tpw t p (k - 1).toNat).2

theorem traceOfPower_c (a b p k : Int) (w : World) (h : M.inCurve a b = true) (hp : M.goodp a b p = true) (k1 : 1 ≤ k) (k2 : k ≤ 4) :
    Calls Try.prog 33 #[.agg #[.int .i64 a, .int .i64 b], .int .i64 p, .int .i64 k] w fun e w' => e = .returned (.int .i64 (trp (M.trace a b p) p k)) ∧ Below w.heap.size w w' := by
  obtain ⟨t1, t2, p1, p2⟩ := goodp_trace hp
  have tc := fun w => traceAt_c a b p w h hp
  generalize M.trace a b p = t at *
  have TC := Lib.hid tc
  clear tc
  go_enter Try.func33, Try.ntmps33
  go_wp2_with (go_at_call 23; refine (TC.out _).mono ?_; rintro e w' ⟨rfl, hb⟩; have hz_ := hb.size; (try simp only [World.size_alloc, heap_drew, World.heap_drewN, size_setCell] at hz_); have hs0_ : w.heap.size < w'.heap.size := (by omega); have hk0_ := fun o => (bcell hb).1 (w.heap.size) o (by (try simp only [World.size_alloc, heap_drew, World.heap_drewN, size_setCell]); omega); have hl0_ := fun o => (bcell hb).2.1 (w.heap.size) o (by (try simp only [World.size_alloc, heap_drew, World.heap_drewN, size_setCell]); omega))
  go_loop [8, 9, 16] (fun v0 v1 vi => ∃ j : Nat, (j : Int) ≤ k - 1 ∧ vi = .int .i64 j ∧ v0 = .int .i64 (M.tpw t p j).1 ∧ v1 = .int .i64 (M.tpw t p j).2) (fun _ _ vi => (k - intOf vi).toNat)
  case atStart => exact ⟨0, by omega, rfl, rfl, rfl⟩
  case round =>
    obtain ⟨j, hj, rfl, rfl, rfl⟩ := hrel
    by_cases hlt : (j : Int) < k - 1
    · have hb4 := M.tpw_bd4 t1 t2 p1 p2 (k := j) (by omega)
      have e1 := M.mul_bd (x := t) (y := (M.tpw t p j).2) (m := 1000) (n := 8000000000000) t1 t2 (by omega) (by omega)
      have e2 := M.mul_bd (x := p) (y := (M.tpw t p j).1) (m := 1000) (n := 8000000000000) (by omega) p2 (by omega) (by omega)
      go_wp2
      go_round
      case rel => exact ⟨j + 1, by omega, by go_num, rfl, rfl⟩
      case measure => simp [intOf]; omega
    · have hjk : (k - 1).toNat = j := by omega
      have hjk := Lib.hid hjk
      go_wp2
      go_ret
      exact ⟨ret_i (by unfold trp; rw [hjk.out]), (by repeat (first | exact Below.refl _ _ | refine below_alloc ?_ _ | refine below_step ?_ (by assumption) | refine Below.drew ?_ | refine Below.setCell ?_ (by first | exact Nat.le_refl _ | exact Nat.le_add_right _ _ | (simp <;> omega)) _ | refine below_drewN ?_ _))⟩

theorem trPower_c (t p k : Int) (w : World) (t1 : -1000 ≤ t) (t2 : t ≤ 1000) (p1 : 0 ≤ p) (p2 : p ≤ 1000) (k1 : 1 ≤ k) (k2 : k ≤ 4) :
    Calls Try.prog 36 #[.int .i64 t, .int .i64 p, .int .i64 k] w fun e w' => e = .returned (.int .i64 (trp t p k)) ∧ w = w' := by
  go_enter Try.func36, Try.ntmps36
  go_wp2
  go_loop [2, 7, 8] (fun vi v0 v1 => ∃ j : Nat, (j : Int) ≤ k - 1 ∧ vi = .int .i64 (k - j) ∧ v0 = .int .i64 (M.tpw t p j).1 ∧ v1 = .int .i64 (M.tpw t p j).2) (fun vi _ _ => (intOf vi).toNat)
  case atStart => exact ⟨0, by omega, by simp, rfl, rfl⟩
  case round =>
    obtain ⟨j, hj, rfl, rfl, rfl⟩ := hrel
    by_cases hlt : 1 < k - (j : Int)
    · have hb4 := M.tpw_bd4 t1 t2 p1 p2 (k := j) (by omega)
      have e1 := M.mul_bd (x := t) (y := (M.tpw t p j).2) (m := 1000) (n := 8000000000000) t1 t2 (by omega) (by omega)
      have e2 := M.mul_bd (x := p) (y := (M.tpw t p j).1) (m := 1000) (n := 8000000000000) (by omega) p2 (by omega) (by omega)
      go_wp2
      go_round
      case rel => exact ⟨j + 1, by omega, by congr 1; omega, rfl, rfl⟩
      case measure => simp [intOf]; omega
    · have hjk : (k - 1).toNat = j := by omega
      have hjk := Lib.hid hjk
      go_wp2
      go_ret
      exact ⟨ret_i (by unfold trp; rw [hjk.out]), rfl⟩

noncomputable def tfOk (a b p k : Int) : Bool := M.good a b && M.goodp a b p && M.ins k 1 4

theorem trField_c (a b p k : Int) (w : World) :
    Calls Try.prog 34 #[.agg #[.int .i64 a, .int .i64 b], .int .i64 p, .int .i64 k] w fun e w' => e = .returned (.bool (tfOk a b p k)) ∧ Below w.heap.size w w' := by
  unfold tfOk
  cases h2 : (M.good a b && M.goodp a b p)
  · go_enter Try.func34, Try.ntmps34
    go_wp2_with (first | (go_at_call 24; refine (fmGood_c _ _ _ _).mono ?_; rintro e w' ⟨rfl, hb⟩; have hz_ := hb.size; (try simp only [World.size_alloc, heap_drew, World.heap_drewN, size_setCell] at hz_); have hs0_ : w.heap.size < w'.heap.size := (by omega); have hk0_ := fun o => (bcell hb).1 (w.heap.size) o (by (try simp only [World.size_alloc, heap_drew, World.heap_drewN, size_setCell]); omega); have hl0_ := fun o => (bcell hb).2.1 (w.heap.size) o (by (try simp only [World.size_alloc, heap_drew, World.heap_drewN, size_setCell]); omega)) | (go_at_call 46; refine (l1In_c _ _ _ _).mono ?_; rintro e w' ⟨rfl, rfl⟩))
    go_ret; exact ⟨ret_b (by simp), (by repeat (first | exact Below.refl _ _ | refine below_alloc ?_ _ | refine below_step ?_ (by assumption) | refine Below.drew ?_ | refine Below.setCell ?_ (by first | exact Nat.le_refl _ | exact Nat.le_add_right _ _ | (simp <;> omega)) _ | refine below_drewN ?_ _))⟩
  · go_enter Try.func34, Try.ntmps34
    go_wp2_with (first | (go_at_call 24; refine (fmGood_c _ _ _ _).mono ?_; rintro e w' ⟨rfl, hb⟩; have hz_ := hb.size; (try simp only [World.size_alloc, heap_drew, World.heap_drewN, size_setCell] at hz_); have hs0_ : w.heap.size < w'.heap.size := (by omega); have hk0_ := fun o => (bcell hb).1 (w.heap.size) o (by (try simp only [World.size_alloc, heap_drew, World.heap_drewN, size_setCell]); omega); have hl0_ := fun o => (bcell hb).2.1 (w.heap.size) o (by (try simp only [World.size_alloc, heap_drew, World.heap_drewN, size_setCell]); omega)) | (go_at_call 46; refine (l1In_c _ _ _ _).mono ?_; rintro e w' ⟨rfl, rfl⟩))
    go_ret; exact ⟨ret_b (by simp), (by repeat (first | exact Below.refl _ _ | refine below_alloc ?_ _ | refine below_step ?_ (by assumption) | refine Below.drew ?_ | refine Below.setCell ?_ (by first | exact Nat.le_refl _ | exact Nat.le_add_right _ _ | (simp <;> omega)) _ | refine below_drewN ?_ _))⟩

theorem implTraceOfPower_c (a b p k : Int) (w : World) :
    Calls Try.prog 14 #[.agg #[.int .i64 a, .int .i64 b], .int .i64 p, .int .i64 k] w fun e w' => e = .returned (.tuple #[.int .i64 (M.pick (tfOk a b p k) (trp (M.trace a b p) p k)), .bool (tfOk a b p k)]) ∧ Below w.heap.size w w' := by
  unfold tfOk
  cases h1 : M.good a b
  · go_enter Try.func14, Try.ntmps14
    go_wp2_with (go_at_call 21; refine (isCurve_c _ _ _).mono ?_; rintro e w' ⟨rfl, hb⟩; have hz_ := hb.size; (try simp only [World.size_alloc, heap_drew, World.heap_drewN, size_setCell] at hz_); have hs0_ : w.heap.size < w'.heap.size := (by omega); have hk0_ := fun o => (bcell hb).1 (w.heap.size) o (by (try simp only [World.size_alloc, heap_drew, World.heap_drewN, size_setCell]); omega); have hl0_ := fun o => (bcell hb).2.1 (w.heap.size) o (by (try simp only [World.size_alloc, heap_drew, World.heap_drewN, size_setCell]); omega))
    go_ret2; exact ⟨by simp [M.pick_f], (by repeat (first | exact Below.refl _ _ | refine below_alloc ?_ _ | refine below_step ?_ (by assumption) | refine Below.drew ?_ | refine Below.setCell ?_ (by first | exact Nat.le_refl _ | exact Nat.le_add_right _ _ | (simp <;> omega)) _ | refine below_drewN ?_ _))⟩
  · cases h2 : M.goodp a b p
    · go_enter Try.func14, Try.ntmps14
      go_wp2_with (first | (go_at_call 21; refine (isCurve_c _ _ _).mono ?_; rintro e w' ⟨rfl, hb⟩; have hz_ := hb.size; (try simp only [World.size_alloc, heap_drew, World.heap_drewN, size_setCell] at hz_); have hs0_ : w.heap.size < w'.heap.size := (by omega); have hk0_ := fun o => (bcell hb).1 (w.heap.size) o (by (try simp only [World.size_alloc, heap_drew, World.heap_drewN, size_setCell]); omega); have hl0_ := fun o => (bcell hb).2.1 (w.heap.size) o (by (try simp only [World.size_alloc, heap_drew, World.heap_drewN, size_setCell]); omega)) | (go_at_call 22; refine (isGood_c _ _ _ _ (M.good_in h1)).mono ?_; rintro e w' ⟨rfl, hb⟩; have hz_ := hb.size; (try simp only [World.size_alloc, heap_drew, World.heap_drewN, size_setCell] at hz_); have hs0_ : w.heap.size < w'.heap.size := (by omega); have hk0_ := fun o => (bcell hb).1 (w.heap.size) o (by (try simp only [World.size_alloc, heap_drew, World.heap_drewN, size_setCell]); omega); have hl0_ := fun o => (bcell hb).2.1 (w.heap.size) o (by (try simp only [World.size_alloc, heap_drew, World.heap_drewN, size_setCell]); omega)))
      go_ret2; exact ⟨by simp [M.pick_f], (by repeat (first | exact Below.refl _ _ | refine below_alloc ?_ _ | refine below_step ?_ (by assumption) | refine Below.drew ?_ | refine Below.setCell ?_ (by first | exact Nat.le_refl _ | exact Nat.le_add_right _ _ | (simp <;> omega)) _ | refine below_drewN ?_ _))⟩
    · cases h3 : M.ins k 1 4
      · go_enter Try.func14, Try.ntmps14
        go_wp2_with (first | (go_at_call 21; refine (isCurve_c _ _ _).mono ?_; rintro e w' ⟨rfl, hb⟩; have hz_ := hb.size; (try simp only [World.size_alloc, heap_drew, World.heap_drewN, size_setCell] at hz_); have hs0_ : w.heap.size < w'.heap.size := (by omega); have hk0_ := fun o => (bcell hb).1 (w.heap.size) o (by (try simp only [World.size_alloc, heap_drew, World.heap_drewN, size_setCell]); omega); have hl0_ := fun o => (bcell hb).2.1 (w.heap.size) o (by (try simp only [World.size_alloc, heap_drew, World.heap_drewN, size_setCell]); omega)) | (go_at_call 22; refine (isGood_c _ _ _ _ (M.good_in h1)).mono ?_; rintro e w' ⟨rfl, hb⟩; have hz_ := hb.size; (try simp only [World.size_alloc, heap_drew, World.heap_drewN, size_setCell] at hz_); have hs0_ : w.heap.size < w'.heap.size := (by omega); have hk0_ := fun o => (bcell hb).1 (w.heap.size) o (by (try simp only [World.size_alloc, heap_drew, World.heap_drewN, size_setCell]); omega); have hl0_ := fun o => (bcell hb).2.1 (w.heap.size) o (by (try simp only [World.size_alloc, heap_drew, World.heap_drewN, size_setCell]); omega)) | (go_at_call 26; refine (inside_c _ _ _ _).mono ?_; rintro e w' ⟨rfl, rfl⟩))
        go_ret2; exact ⟨by simp [M.pick_f], (by repeat (first | exact Below.refl _ _ | refine below_alloc ?_ _ | refine below_step ?_ (by assumption) | refine Below.drew ?_ | refine Below.setCell ?_ (by first | exact Nat.le_refl _ | exact Nat.le_add_right _ _ | (simp <;> omega)) _ | refine below_drewN ?_ _))⟩
      · obtain ⟨k1, k2⟩ := M.ins_t h3
        go_enter Try.func14, Try.ntmps14
        go_wp2_with (first | (go_at_call 21; refine (isCurve_c _ _ _).mono ?_; rintro e w' ⟨rfl, hb⟩; have hz_ := hb.size; (try simp only [World.size_alloc, heap_drew, World.heap_drewN, size_setCell] at hz_); have hs0_ : w.heap.size < w'.heap.size := (by omega); have hk0_ := fun o => (bcell hb).1 (w.heap.size) o (by (try simp only [World.size_alloc, heap_drew, World.heap_drewN, size_setCell]); omega); have hl0_ := fun o => (bcell hb).2.1 (w.heap.size) o (by (try simp only [World.size_alloc, heap_drew, World.heap_drewN, size_setCell]); omega)) | (go_at_call 22; refine (isGood_c _ _ _ _ (M.good_in h1)).mono ?_; rintro e w' ⟨rfl, hb⟩; have hz_ := hb.size; (try simp only [World.size_alloc, heap_drew, World.heap_drewN, size_setCell] at hz_); have hs0_ : w.heap.size < w'.heap.size := (by omega); have hk0_ := fun o => (bcell hb).1 (w.heap.size) o (by (try simp only [World.size_alloc, heap_drew, World.heap_drewN, size_setCell]); omega); have hl0_ := fun o => (bcell hb).2.1 (w.heap.size) o (by (try simp only [World.size_alloc, heap_drew, World.heap_drewN, size_setCell]); omega)) | (go_at_call 26; refine (inside_c _ _ _ _).mono ?_; rintro e w' ⟨rfl, rfl⟩) | (go_at_call 33; refine (traceOfPower_c _ _ _ _ _ (M.good_in h1) h2 k1 k2).mono ?_; rintro e w' ⟨rfl, hb⟩; have hz_ := hb.size; (try simp only [World.size_alloc, heap_drew, World.heap_drewN, size_setCell] at hz_); have hs0_ : w.heap.size < w'.heap.size := (by omega); have hk0_ := fun o => (bcell hb).1 (w.heap.size) o (by (try simp only [World.size_alloc, heap_drew, World.heap_drewN, size_setCell]); omega); have hl0_ := fun o => (bcell hb).2.1 (w.heap.size) o (by (try simp only [World.size_alloc, heap_drew, World.heap_drewN, size_setCell]); omega)))
        go_ret2; exact ⟨by simp [M.pick_t], (by repeat (first | exact Below.refl _ _ | refine below_alloc ?_ _ | refine below_step ?_ (by assumption) | refine Below.drew ?_ | refine Below.setCell ?_ (by first | exact Nat.le_refl _ | exact Nat.le_add_right _ _ | (simp <;> omega)) _ | refine below_drewN ?_ _))⟩

theorem specTraceOfPower_c (a b p k : Int) (w : World) :
    Calls Try.prog 15 #[.agg #[.int .i64 a, .int .i64 b], .int .i64 p, .int .i64 k] w fun e w' => e = .returned (.tuple #[.int .i64 (M.pick (tfOk a b p k) (trp (M.trace a b p) p k)), .bool (tfOk a b p k)]) ∧ Below w.heap.size w w' := by
  cases h : tfOk a b p k
  · go_enter Try.func15, Try.ntmps15
    go_wp2_with (go_at_call 34; refine (trField_c _ _ _ _ _).mono ?_; rintro e w' ⟨rfl, hb⟩; have hz_ := hb.size; (try simp only [World.size_alloc, heap_drew, World.heap_drewN, size_setCell] at hz_); have hs0_ : w.heap.size < w'.heap.size := (by omega); have hk0_ := fun o => (bcell hb).1 (w.heap.size) o (by (try simp only [World.size_alloc, heap_drew, World.heap_drewN, size_setCell]); omega); have hl0_ := fun o => (bcell hb).2.1 (w.heap.size) o (by (try simp only [World.size_alloc, heap_drew, World.heap_drewN, size_setCell]); omega))
    go_ret2; exact ⟨by simp [M.pick_f], (by repeat (first | exact Below.refl _ _ | refine below_alloc ?_ _ | refine below_step ?_ (by assumption) | refine Below.drew ?_ | refine Below.setCell ?_ (by first | exact Nat.le_refl _ | exact Nat.le_add_right _ _ | (simp <;> omega)) _ | refine below_drewN ?_ _))⟩
  · have h' := h
    unfold tfOk at h'
    simp only [Bool.and_eq_true] at h'
    obtain ⟨⟨g1, g2⟩, g3⟩ := h'
    obtain ⟨k1, k2⟩ := M.ins_t g3
    obtain ⟨t1, t2, p1, p2⟩ := goodp_trace g2
    have G1 := Lib.hid g1
    have G2 := Lib.hid g2
    clear g1 g2 g3
    go_enter Try.func15, Try.ntmps15
    go_wp2_with (first | (go_at_call 34; refine (trField_c _ _ _ _ _).mono ?_; rintro e w' ⟨rfl, hb⟩; have hz_ := hb.size; (try simp only [World.size_alloc, heap_drew, World.heap_drewN, size_setCell] at hz_); have hs0_ : w.heap.size < w'.heap.size := (by omega); have hk0_ := fun o => (bcell hb).1 (w.heap.size) o (by (try simp only [World.size_alloc, heap_drew, World.heap_drewN, size_setCell]); omega); have hl0_ := fun o => (bcell hb).2.1 (w.heap.size) o (by (try simp only [World.size_alloc, heap_drew, World.heap_drewN, size_setCell]); omega)) | (go_at_call 25; refine (trAt_c _ _ _ _ (M.good_in G1.out) G2.out).mono ?_; rintro e w' ⟨rfl, hb⟩; have hz_ := hb.size; (try simp only [World.size_alloc, heap_drew, World.heap_drewN, size_setCell] at hz_); have hs0_ : w.heap.size < w'.heap.size := (by omega); have hk0_ := fun o => (bcell hb).1 (w.heap.size) o (by (try simp only [World.size_alloc, heap_drew, World.heap_drewN, size_setCell]); omega); have hl0_ := fun o => (bcell hb).2.1 (w.heap.size) o (by (try simp only [World.size_alloc, heap_drew, World.heap_drewN, size_setCell]); omega)) | (go_at_call 36; refine (trPower_c _ _ _ _ t1 t2 p1 p2 k1 k2).mono ?_; rintro e w' ⟨rfl, rfl⟩))
    go_ret2; exact ⟨by simp [M.pick_t], (by repeat (first | exact Below.refl _ _ | refine below_alloc ?_ _ | refine below_step ?_ (by assumption) | refine Below.drew ?_ | refine Below.setCell ?_ (by first | exact Nat.le_refl _ | exact Nat.le_add_right _ _ | (simp <;> omega)) _ | refine below_drewN ?_ _))⟩
end Go.Proofs.Ytjolmigpeghaoaa
