/-
  Contracts: powers, counts over larger fields, lists of good primes.
-/
import Derived.Test.YtjolmigpeghaoaaPlain5
import Derived.Test.YtjolmigpeghaoaaC12
import Derived.Test.YtjolmigpeghaoaaS1
namespace Go.Proofs.Ytjolmigpeghaoaa
set_option linter.unusedSimpArgs false
set_option linter.unusedVariables false
open Go.RowKit

theorem intPower_c (p k : Int) (w : World) (p1 : 0 ≤ p) (p2 : p ≤ 1000) (k1 : 0 ≤ k) (k2 : k ≤ 5) :
    Calls Try.prog 32 #[.int .i64 p, .int .i64 k] w fun e w' => e = .returned (.int .i64 (M.ipow p k.toNat)) ∧ w = w' := by
  go_enter Try.func32, Try.ntmps32
  go_wp2
  go_loop [5, 7] (fun vo vi => ∃ j : Nat, (j : Int) ≤ k ∧ vi = .int .i64 j ∧ vo = .int .i64 (M.ipow p j)) (fun _ vi => (k - intOf vi).toNat)
  case atStart => exact ⟨0, by omega, rfl, rfl⟩
  case round =>
    obtain ⟨j, hj, rfl, rfl⟩ := hrel
    by_cases hlt : (j : Int) < k
    · have hb := M.ipow_bd4 p1 p2 (k := j) (by omega)
      have hm := M.mul_nn hb.1 hb.2 p1 p2
      go_wp2
      go_round
      case rel => exact ⟨j + 1, by omega, by go_num, rfl⟩
      case measure => simp [intOf]; omega
    · have hjk : k.toNat = j := by omega
      have hjk := Lib.hid hjk
      go_wp2
      go_ret
      exact ⟨ret_i (by first | rfl | rw [hjk.out]), rfl⟩

theorem loPower_c (p k : Int) (w : World) (p1 : 0 ≤ p) (p2 : p ≤ 1000) (k1 : 0 ≤ k) (k2 : k ≤ 5) :
    Calls Try.prog 35 #[.int .i64 p, .int .i64 k] w fun e w' => e = .returned (.int .i64 (M.ipow p k.toNat)) ∧ w = w' := by
  go_enter Try.func35, Try.ntmps35
  go_wp2
  go_loop [1, 5] (fun vi vo => ∃ j : Nat, (j : Int) ≤ k ∧ vi = .int .i64 (k - j) ∧ vo = .int .i64 (M.ipow p j)) (fun vi _ => (intOf vi).toNat)
  case atStart => exact ⟨0, by omega, by simp, rfl⟩
  case round =>
    obtain ⟨j, hj, rfl, rfl⟩ := hrel
    by_cases hlt : 0 < k - (j : Int)
    · have hb := M.ipow_bd4 p1 p2 (k := j) (by omega)
      have hm := M.mul_nn hb.1 hb.2 p1 p2
      go_wp2
      go_round
      case rel => exact ⟨j + 1, by omega, by congr 1; omega, rfl⟩
      case measure => simp [intOf]; omega
    · have hjk : k.toNat = j := by omega
      have hjk := Lib.hid hjk
      go_wp2
      go_ret
      exact ⟨ret_i (by first | rfl | rw [hjk.out]), rfl⟩

def cntOver (t p k : Int) : Int := M.ipow p k.toNat + 1 - trp t p k
theorem trp_bd {t p k : Int} (h1 : -1000 ≤ t) (h2 : t ≤ 1000) (h3 : 0 ≤ p) (h4 : p ≤ 1000) (k1 : 1 ≤ k) (k2 : k ≤ 4) : -8000000000000 ≤ trp t p k ∧ trp t p k ≤ 8000000000000 := by
  have := M.tpw_bd4 h1 h2 h3 h4 (k := (k - 1).toNat) (by omega)
  exact this.2.2

theorem implCountOver_c (a b p k : Int) (w : World) :
    Calls Try.prog 12 #[.agg #[.int .i64 a, .int .i64 b], .int .i64 p, .int .i64 k] w fun e w' => e = .returned (.tuple #[.int .i64 (M.pick (tfOk a b p k) (cntOver (M.trace a b p) p k)), .bool (tfOk a b p k)]) ∧ Below w.heap.size w w' := by
  unfold tfOk
  cases h1 : M.good a b
  · go_enter Try.func12, Try.ntmps12
    go_wp2_with (go_at_call 21; refine (isCurve_c _ _ _).mono ?_; rintro e w' ⟨rfl, hb⟩; have hz_ := hb.size; (try simp only [World.size_alloc, heap_drew, World.heap_drewN, size_setCell] at hz_); have hs0_ : w.heap.size < w'.heap.size := (by omega); have hk0_ := fun o => (bcell hb).1 (w.heap.size) o (by (try simp only [World.size_alloc, heap_drew, World.heap_drewN, size_setCell]); omega); have hl0_ := fun o => (bcell hb).2.1 (w.heap.size) o (by (try simp only [World.size_alloc, heap_drew, World.heap_drewN, size_setCell]); omega))
    go_ret2; exact ⟨by simp [M.pick_f], (by repeat (first | exact Below.refl _ _ | refine below_alloc ?_ _ | refine below_step ?_ (by assumption) | refine Below.drew ?_ | refine Below.setCell ?_ (by first | exact Nat.le_refl _ | exact Nat.le_add_right _ _ | (simp <;> omega)) _ | refine below_drewN ?_ _))⟩
  · cases h2 : M.goodp a b p
    · go_enter Try.func12, Try.ntmps12
      go_wp2_with (first | (go_at_call 21; refine (isCurve_c _ _ _).mono ?_; rintro e w' ⟨rfl, hb⟩; have hz_ := hb.size; (try simp only [World.size_alloc, heap_drew, World.heap_drewN, size_setCell] at hz_); have hs0_ : w.heap.size < w'.heap.size := (by omega); have hk0_ := fun o => (bcell hb).1 (w.heap.size) o (by (try simp only [World.size_alloc, heap_drew, World.heap_drewN, size_setCell]); omega); have hl0_ := fun o => (bcell hb).2.1 (w.heap.size) o (by (try simp only [World.size_alloc, heap_drew, World.heap_drewN, size_setCell]); omega)) | (go_at_call 22; refine (isGood_c _ _ _ _ (M.good_in h1)).mono ?_; rintro e w' ⟨rfl, hb⟩; have hz_ := hb.size; (try simp only [World.size_alloc, heap_drew, World.heap_drewN, size_setCell] at hz_); have hs0_ : w.heap.size < w'.heap.size := (by omega); have hk0_ := fun o => (bcell hb).1 (w.heap.size) o (by (try simp only [World.size_alloc, heap_drew, World.heap_drewN, size_setCell]); omega); have hl0_ := fun o => (bcell hb).2.1 (w.heap.size) o (by (try simp only [World.size_alloc, heap_drew, World.heap_drewN, size_setCell]); omega)))
      go_ret2; exact ⟨by simp [M.pick_f], (by repeat (first | exact Below.refl _ _ | refine below_alloc ?_ _ | refine below_step ?_ (by assumption) | refine Below.drew ?_ | refine Below.setCell ?_ (by first | exact Nat.le_refl _ | exact Nat.le_add_right _ _ | (simp <;> omega)) _ | refine below_drewN ?_ _))⟩
    · cases h3 : M.ins k 1 4
      · go_enter Try.func12, Try.ntmps12
        go_wp2_with (first | (go_at_call 21; refine (isCurve_c _ _ _).mono ?_; rintro e w' ⟨rfl, hb⟩; have hz_ := hb.size; (try simp only [World.size_alloc, heap_drew, World.heap_drewN, size_setCell] at hz_); have hs0_ : w.heap.size < w'.heap.size := (by omega); have hk0_ := fun o => (bcell hb).1 (w.heap.size) o (by (try simp only [World.size_alloc, heap_drew, World.heap_drewN, size_setCell]); omega); have hl0_ := fun o => (bcell hb).2.1 (w.heap.size) o (by (try simp only [World.size_alloc, heap_drew, World.heap_drewN, size_setCell]); omega)) | (go_at_call 22; refine (isGood_c _ _ _ _ (M.good_in h1)).mono ?_; rintro e w' ⟨rfl, hb⟩; have hz_ := hb.size; (try simp only [World.size_alloc, heap_drew, World.heap_drewN, size_setCell] at hz_); have hs0_ : w.heap.size < w'.heap.size := (by omega); have hk0_ := fun o => (bcell hb).1 (w.heap.size) o (by (try simp only [World.size_alloc, heap_drew, World.heap_drewN, size_setCell]); omega); have hl0_ := fun o => (bcell hb).2.1 (w.heap.size) o (by (try simp only [World.size_alloc, heap_drew, World.heap_drewN, size_setCell]); omega)) | (go_at_call 26; refine (inside_c _ _ _ _).mono ?_; rintro e w' ⟨rfl, rfl⟩))
        go_ret2; exact ⟨by simp [M.pick_f], (by repeat (first | exact Below.refl _ _ | refine below_alloc ?_ _ | refine below_step ?_ (by assumption) | refine Below.drew ?_ | refine Below.setCell ?_ (by first | exact Nat.le_refl _ | exact Nat.le_add_right _ _ | (simp <;> omega)) _ | refine below_drewN ?_ _))⟩
      · obtain ⟨k1, k2⟩ := M.ins_t h3
        obtain ⟨t1, t2, p1, p2⟩ := goodp_trace h2
        have tb := trp_bd t1 t2 p1 p2 k1 k2
        have ib := M.ipow_bd4 p1 p2 (k := k.toNat) (by omega)
        have w1_ := IntWalk.i64_in (M.ipow p k.toNat + 1) (by omega)
        have w2_ := IntWalk.i64_in (M.ipow p k.toNat + 1 - trp (M.trace a b p) p k) (by omega)
        go_enter Try.func12, Try.ntmps12
        go_wp2_with (first | (go_at_call 21; refine (isCurve_c _ _ _).mono ?_; rintro e w' ⟨rfl, hb⟩; have hz_ := hb.size; (try simp only [World.size_alloc, heap_drew, World.heap_drewN, size_setCell] at hz_); have hs0_ : w.heap.size < w'.heap.size := (by omega); have hk0_ := fun o => (bcell hb).1 (w.heap.size) o (by (try simp only [World.size_alloc, heap_drew, World.heap_drewN, size_setCell]); omega); have hl0_ := fun o => (bcell hb).2.1 (w.heap.size) o (by (try simp only [World.size_alloc, heap_drew, World.heap_drewN, size_setCell]); omega)) | (go_at_call 22; refine (isGood_c _ _ _ _ (M.good_in h1)).mono ?_; rintro e w' ⟨rfl, hb⟩; have hz_ := hb.size; (try simp only [World.size_alloc, heap_drew, World.heap_drewN, size_setCell] at hz_); have hs0_ : w.heap.size < w'.heap.size := (by omega); have hk0_ := fun o => (bcell hb).1 (w.heap.size) o (by (try simp only [World.size_alloc, heap_drew, World.heap_drewN, size_setCell]); omega); have hl0_ := fun o => (bcell hb).2.1 (w.heap.size) o (by (try simp only [World.size_alloc, heap_drew, World.heap_drewN, size_setCell]); omega)) | (go_at_call 26; refine (inside_c _ _ _ _).mono ?_; rintro e w' ⟨rfl, rfl⟩))
        first | go_region_held3 (fun W => W.cell? ⟨w.heap.size, 0, none⟩ = some (.int .i64 a) ∧ W.cell? ⟨w.heap.size, 1, none⟩ = some (.int .i64 b)) (first | exact ⟨keepCell (by assumption) (by assumption), keepCell (by assumption) (by assumption)⟩ | (go_split_ands; exact ⟨keepCell (by assumption) (by assumption), keepCell (by assumption) (by assumption)⟩) | go_keep) ((first | (go_at_call 32; refine (intPower_c _ _ _ p1 p2 (by omega) (by omega)).mono ?_; rintro e w' ⟨rfl, rfl⟩) | (go_at_call 33; refine (traceOfPower_c _ _ _ _ _ (M.good_in h1) h2 k1 k2).mono ?_; rintro e w' ⟨rfl, hb⟩))) | fail
        clear w1_ w2_
        go_wp2
        go_ret2; exact ⟨by simp [M.pick_t, cntOver], (by repeat (first | exact Below.refl _ _ | refine below_alloc ?_ _ | refine below_step ?_ (by assumption) | refine Below.drew ?_ | refine Below.setCell ?_ (by first | exact Nat.le_refl _ | exact Nat.le_add_right _ _ | (simp <;> omega)) _ | refine below_drewN ?_ _))⟩

theorem specCountOver_c (a b p k : Int) (w : World) :
    Calls Try.prog 13 #[.agg #[.int .i64 a, .int .i64 b], .int .i64 p, .int .i64 k] w fun e w' => e = .returned (.tuple #[.int .i64 (M.pick (tfOk a b p k) (cntOver (M.trace a b p) p k)), .bool (tfOk a b p k)]) ∧ Below w.heap.size w w' := by
  cases h : tfOk a b p k
  · go_enter Try.func13, Try.ntmps13
    go_wp2_with (go_at_call 34; refine (trField_c _ _ _ _ _).mono ?_; rintro e w' ⟨rfl, hb⟩; have hz_ := hb.size; (try simp only [World.size_alloc, heap_drew, World.heap_drewN, size_setCell] at hz_); have hs0_ : w.heap.size < w'.heap.size := (by omega); have hk0_ := fun o => (bcell hb).1 (w.heap.size) o (by (try simp only [World.size_alloc, heap_drew, World.heap_drewN, size_setCell]); omega); have hl0_ := fun o => (bcell hb).2.1 (w.heap.size) o (by (try simp only [World.size_alloc, heap_drew, World.heap_drewN, size_setCell]); omega))
    go_ret2; exact ⟨by simp [M.pick_f], (by repeat (first | exact Below.refl _ _ | refine below_alloc ?_ _ | refine below_step ?_ (by assumption) | refine Below.drew ?_ | refine Below.setCell ?_ (by first | exact Nat.le_refl _ | exact Nat.le_add_right _ _ | (simp <;> omega)) _ | refine below_drewN ?_ _))⟩
  · have h' := h
    unfold tfOk at h'
    simp only [Bool.and_eq_true] at h'
    obtain ⟨⟨g1, g2⟩, g3⟩ := h'
    obtain ⟨k1, k2⟩ := M.ins_t g3
    obtain ⟨t1, t2, p1, p2⟩ := goodp_trace g2
    have tb := trp_bd t1 t2 p1 p2 k1 k2
    have ib := M.ipow_bd4 p1 p2 (k := k.toNat) (by omega)
    have G1 := Lib.hid g1
    have G2 := Lib.hid g2
    clear g1 g2 g3
    have w1_ := IntWalk.i64_in (M.ipow p k.toNat + 1) (by omega)
    have w2_ := IntWalk.i64_in (M.ipow p k.toNat + 1 - trp (M.trace a b p) p k) (by omega)
    go_enter Try.func13, Try.ntmps13
    go_wp2_with (go_at_call 34; refine (trField_c _ _ _ _ _).mono ?_; rintro e w' ⟨rfl, hb⟩; have hz_ := hb.size; (try simp only [World.size_alloc, heap_drew, World.heap_drewN, size_setCell] at hz_); have hs0_ : w.heap.size < w'.heap.size := (by omega); have hk0_ := fun o => (bcell hb).1 (w.heap.size) o (by (try simp only [World.size_alloc, heap_drew, World.heap_drewN, size_setCell]); omega); have hl0_ := fun o => (bcell hb).2.1 (w.heap.size) o (by (try simp only [World.size_alloc, heap_drew, World.heap_drewN, size_setCell]); omega))
    first | go_region_held3 (fun W => W.cell? ⟨w.heap.size, 0, none⟩ = some (.int .i64 a) ∧ W.cell? ⟨w.heap.size, 1, none⟩ = some (.int .i64 b)) (first | exact ⟨keepCell (by assumption) (by assumption), keepCell (by assumption) (by assumption)⟩ | (go_split_ands; exact ⟨keepCell (by assumption) (by assumption), keepCell (by assumption) (by assumption)⟩) | go_keep) ((first | (go_at_call 36; refine (trPower_c _ _ _ _ t1 t2 p1 p2 k1 k2).mono ?_; rintro e w' ⟨rfl, rfl⟩) | (go_at_call 35; refine (loPower_c _ _ _ p1 p2 (by omega) (by omega)).mono ?_; rintro e w' ⟨rfl, rfl⟩) | (go_at_call 25; refine (trAt_c _ _ _ _ (M.good_in G1.out) G2.out).mono ?_; rintro e w' ⟨rfl, hb⟩))) | fail
    clear w1_ w2_
    go_wp2
    go_ret2; exact ⟨by simp [M.pick_t, cntOver], (by repeat (first | exact Below.refl _ _ | refine below_alloc ?_ _ | refine below_step ?_ (by assumption) | refine Below.drew ?_ | refine Below.setCell ?_ (by first | exact Nat.le_refl _ | exact Nat.le_add_right _ _ | (simp <;> omega)) _ | refine below_drewN ?_ _))⟩

end Go.Proofs.Ytjolmigpeghaoaa
