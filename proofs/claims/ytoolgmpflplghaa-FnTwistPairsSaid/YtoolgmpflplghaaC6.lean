/-
  Contracts: twists.
-/
import Derived.Test.YtoolgmpflplghaaC5
namespace Go.Proofs.Ytoolgmpflplghaa
set_option linter.unusedSimpArgs false
set_option linter.unusedVariables false
open Go.RowKit

theorem ecInvariant_c (a b : Int) (w : World) (hg : M.good a b = true) :
    Calls Try.prog 83 #[.agg #[.int .i64 a, .int .i64 b]] w fun e w' => e = .returned (.tuple #[.int .i64 (partN (6912 * a * a * a) (M.disc a b)), .int .i64 (partD (6912 * a * a * a) (M.disc a b))]) ∧ Below w.heap.size w w' := by
  have hin := M.good_in hg
  have hd0 := M.good_disc hg
  have hdb := disc_bd hin
  obtain ⟨h1, h1', h2, h2'⟩ := M.inCurve_bd hin
  have b1 := M.mul_bd (x := 6912 * a) (y := a) (m := 6912000) (n := 1000) (by omega) (by omega) (by omega) (by omega)
  have b2 := M.mul_bd (x := 6912 * a * a) (y := a) (m := 6912000000) (n := 1000) (by omega) (by omega) (by omega) (by omega)
  have w1 := IntWalk.i64_in (6912 * a) (by omega)
  have w2 := IntWalk.i64_in (6912 * a * a) (by omega)
  have w3 := IntWalk.i64_in (6912 * a * a * a) (by omega)
  go_enter Try.func83, Try.ntmps83
  go_wp2
  have c0 := box_cell w #[.int .i64 a, .int .i64 b] 23 0
  have c1 := box_cell w #[.int .i64 a, .int .i64 b] 23 1
  have hbw : Below w.heap.size w (w.alloc (.cells #[.int .i64 a, .int .i64 b] 23)) := (by repeat (first | exact Below.refl _ _ | refine below_alloc ?_ _ | refine below_step ?_ (by assumption) | refine Below.drew ?_ | refine Below.setCell ?_ (by first | exact Nat.le_refl _ | exact Nat.le_add_right _ _ | (simp <;> omega)) _ | refine below_drewN ?_ _))
  generalize w.alloc (.cells #[.int .i64 a, .int .i64 b] 23) = W at c0 c1 hbw ⊢
  first | go_region_held3 (fun W => W.cell? ⟨w.heap.size, 0, none⟩ = some (.int .i64 a) ∧ W.cell? ⟨w.heap.size, 1, none⟩ = some (.int .i64 b)) (first | exact ⟨keepCell (by assumption) (by assumption), keepCell (by assumption) (by assumption)⟩ | (go_split_ands; exact ⟨keepCell (by assumption) (by assumption), keepCell (by assumption) (by assumption)⟩) | go_keep) ((first | (go_at_call 86; refine (ecDisc_c a b _ hin).mono ?_; rintro e w' ⟨rfl, hb⟩) | (go_at_call 119; refine (ecPart_c _ _ _ (by omega) (by omega) (by omega) (by omega) hd0).mono ?_; rintro e w' ⟨rfl, hb⟩))) | fail
  clear w1 w2 w3
  go_wp2
  go_ret2
  exact ⟨rfl, (by repeat (first | exact Below.refl _ _ | refine below_alloc ?_ _ | refine below_step ?_ (by assumption) | refine Below.drew ?_ | refine Below.setCell ?_ (by first | exact Nat.le_refl _ | exact Nat.le_add_right _ _ | (simp <;> omega)) _ | refine below_drewN ?_ _))⟩

/-- both have one invariant -/
def sameInv (a b c d : Int) : Bool := (partN (6912 * a * a * a) (M.disc a b) == partN (6912 * c * c * c) (M.disc c d)) && (partD (6912 * a * a * a) (M.disc a b) == partD (6912 * c * c * c) (M.disc c d))

theorem specHaveSameInvariant_c (a b c d : Int) (w : World) :
    Calls Try.prog 34 #[.agg #[.int .i64 a, .int .i64 b], .agg #[.int .i64 c, .int .i64 d]] w fun e w' => e = .returned (.tuple #[.bool (M.good a b && M.good c d && sameInv a b c d), .bool (M.good a b && M.good c d)]) ∧ Below w.heap.size w w' := by
  unfold sameInv
  cases h1 : M.good a b
  · go_enter Try.func34, Try.ntmps34
    go_wp2_with (go_at_call 50; refine (ecGood_c _ _ _).mono ?_; rintro e w' ⟨rfl, hb⟩; have hz_ := hb.size; (try simp only [World.size_alloc, heap_drew, World.heap_drewN, size_setCell] at hz_); have hs0_ : w.heap.size < w'.heap.size := (by omega); have hk0_ := fun o => (bcell hb).1 (w.heap.size) o (by (try simp only [World.size_alloc, heap_drew, World.heap_drewN, size_setCell]); omega); have hl0_ := fun o => (bcell hb).2.1 (w.heap.size) o (by (try simp only [World.size_alloc, heap_drew, World.heap_drewN, size_setCell]); omega); have hs1_ : w.heap.size + 1 < w'.heap.size := (by omega); have hk1_ := fun o => (bcell hb).1 (w.heap.size + 1) o (by (try simp only [World.size_alloc, heap_drew, World.heap_drewN, size_setCell]); omega); have hl1_ := fun o => (bcell hb).2.1 (w.heap.size + 1) o (by (try simp only [World.size_alloc, heap_drew, World.heap_drewN, size_setCell]); omega))
    go_ret2; exact ⟨by simp, (by repeat (first | exact Below.refl _ _ | refine below_alloc ?_ _ | refine below_step ?_ (by assumption) | refine Below.drew ?_ | refine Below.setCell ?_ (by first | exact Nat.le_refl _ | exact Nat.le_add_right _ _ | (simp <;> omega)) _ | refine below_drewN ?_ _))⟩
  · cases h2 : M.good c d
    · go_enter Try.func34, Try.ntmps34
      go_wp2_with (go_at_call 50; refine (ecGood_c _ _ _).mono ?_; rintro e w' ⟨rfl, hb⟩; have hz_ := hb.size; (try simp only [World.size_alloc, heap_drew, World.heap_drewN, size_setCell] at hz_); have hs0_ : w.heap.size < w'.heap.size := (by omega); have hk0_ := fun o => (bcell hb).1 (w.heap.size) o (by (try simp only [World.size_alloc, heap_drew, World.heap_drewN, size_setCell]); omega); have hl0_ := fun o => (bcell hb).2.1 (w.heap.size) o (by (try simp only [World.size_alloc, heap_drew, World.heap_drewN, size_setCell]); omega); have hs1_ : w.heap.size + 1 < w'.heap.size := (by omega); have hk1_ := fun o => (bcell hb).1 (w.heap.size + 1) o (by (try simp only [World.size_alloc, heap_drew, World.heap_drewN, size_setCell]); omega); have hl1_ := fun o => (bcell hb).2.1 (w.heap.size + 1) o (by (try simp only [World.size_alloc, heap_drew, World.heap_drewN, size_setCell]); omega))
      go_ret2; exact ⟨by simp, (by repeat (first | exact Below.refl _ _ | refine below_alloc ?_ _ | refine below_step ?_ (by assumption) | refine Below.drew ?_ | refine Below.setCell ?_ (by first | exact Nat.le_refl _ | exact Nat.le_add_right _ _ | (simp <;> omega)) _ | refine below_drewN ?_ _))⟩
    · go_enter Try.func34, Try.ntmps34
      go_wp2_with (first | (go_at_call 50; refine (ecGood_c _ _ _).mono ?_; rintro e w' ⟨rfl, hb⟩; have hz_ := hb.size; (try simp only [World.size_alloc, heap_drew, World.heap_drewN, size_setCell] at hz_); have hs0_ : w.heap.size < w'.heap.size := (by omega); have hk0_ := fun o => (bcell hb).1 (w.heap.size) o (by (try simp only [World.size_alloc, heap_drew, World.heap_drewN, size_setCell]); omega); have hl0_ := fun o => (bcell hb).2.1 (w.heap.size) o (by (try simp only [World.size_alloc, heap_drew, World.heap_drewN, size_setCell]); omega); have hs1_ : w.heap.size + 1 < w'.heap.size := (by omega); have hk1_ := fun o => (bcell hb).1 (w.heap.size + 1) o (by (try simp only [World.size_alloc, heap_drew, World.heap_drewN, size_setCell]); omega); have hl1_ := fun o => (bcell hb).2.1 (w.heap.size + 1) o (by (try simp only [World.size_alloc, heap_drew, World.heap_drewN, size_setCell]); omega)) | (go_at_call 83; refine (ecInvariant_c _ _ _ (by assumption)).mono ?_; rintro e w' ⟨rfl, hb⟩; have hz_ := hb.size; (try simp only [World.size_alloc, heap_drew, World.heap_drewN, size_setCell] at hz_); have hs0_ : w.heap.size < w'.heap.size := (by omega); have hk0_ := fun o => (bcell hb).1 (w.heap.size) o (by (try simp only [World.size_alloc, heap_drew, World.heap_drewN, size_setCell]); omega); have hl0_ := fun o => (bcell hb).2.1 (w.heap.size) o (by (try simp only [World.size_alloc, heap_drew, World.heap_drewN, size_setCell]); omega); have hs1_ : w.heap.size + 1 < w'.heap.size := (by omega); have hk1_ := fun o => (bcell hb).1 (w.heap.size + 1) o (by (try simp only [World.size_alloc, heap_drew, World.heap_drewN, size_setCell]); omega); have hl1_ := fun o => (bcell hb).2.1 (w.heap.size + 1) o (by (try simp only [World.size_alloc, heap_drew, World.heap_drewN, size_setCell]); omega)))
      all_goals (go_ret2; exact ⟨by simp [*], (by repeat (first | exact Below.refl _ _ | refine below_alloc ?_ _ | refine below_step ?_ (by assumption) | refine Below.drew ?_ | refine Below.setCell ?_ (by first | exact Nat.le_refl _ | exact Nat.le_add_right _ _ | (simp <;> omega)) _ | refine below_drewN ?_ _))⟩)

theorem implHaveSameInvariant_c (a b c d : Int) (w : World) :
    Calls Try.prog 17 #[.agg #[.int .i64 a, .int .i64 b], .agg #[.int .i64 c, .int .i64 d]] w fun e w' => e = .returned (.tuple #[.bool (M.good a b && M.good c d && sameInv a b c d), .bool (M.good a b && M.good c d)]) ∧ Below w.heap.size w w' := by
  unfold sameInv
  cases h1 : M.good a b
  · go_enter Try.func17, Try.ntmps17
    go_wp2_with (go_at_call 46; refine (isCurve_c _ _ _).mono ?_; rintro e w' ⟨rfl, hb⟩; have hz_ := hb.size; (try simp only [World.size_alloc, heap_drew, World.heap_drewN, size_setCell] at hz_); have hs0_ : w.heap.size < w'.heap.size := (by omega); have hk0_ := fun o => (bcell hb).1 (w.heap.size) o (by (try simp only [World.size_alloc, heap_drew, World.heap_drewN, size_setCell]); omega); have hl0_ := fun o => (bcell hb).2.1 (w.heap.size) o (by (try simp only [World.size_alloc, heap_drew, World.heap_drewN, size_setCell]); omega); have hs1_ : w.heap.size + 1 < w'.heap.size := (by omega); have hk1_ := fun o => (bcell hb).1 (w.heap.size + 1) o (by (try simp only [World.size_alloc, heap_drew, World.heap_drewN, size_setCell]); omega); have hl1_ := fun o => (bcell hb).2.1 (w.heap.size + 1) o (by (try simp only [World.size_alloc, heap_drew, World.heap_drewN, size_setCell]); omega))
    go_ret2; exact ⟨by simp, (by repeat (first | exact Below.refl _ _ | refine below_alloc ?_ _ | refine below_step ?_ (by assumption) | refine Below.drew ?_ | refine Below.setCell ?_ (by first | exact Nat.le_refl _ | exact Nat.le_add_right _ _ | (simp <;> omega)) _ | refine below_drewN ?_ _))⟩
  · cases h2 : M.good c d
    · go_enter Try.func17, Try.ntmps17
      go_wp2_with (go_at_call 46; refine (isCurve_c _ _ _).mono ?_; rintro e w' ⟨rfl, hb⟩; have hz_ := hb.size; (try simp only [World.size_alloc, heap_drew, World.heap_drewN, size_setCell] at hz_); have hs0_ : w.heap.size < w'.heap.size := (by omega); have hk0_ := fun o => (bcell hb).1 (w.heap.size) o (by (try simp only [World.size_alloc, heap_drew, World.heap_drewN, size_setCell]); omega); have hl0_ := fun o => (bcell hb).2.1 (w.heap.size) o (by (try simp only [World.size_alloc, heap_drew, World.heap_drewN, size_setCell]); omega); have hs1_ : w.heap.size + 1 < w'.heap.size := (by omega); have hk1_ := fun o => (bcell hb).1 (w.heap.size + 1) o (by (try simp only [World.size_alloc, heap_drew, World.heap_drewN, size_setCell]); omega); have hl1_ := fun o => (bcell hb).2.1 (w.heap.size + 1) o (by (try simp only [World.size_alloc, heap_drew, World.heap_drewN, size_setCell]); omega))
      go_ret2; exact ⟨by simp, (by repeat (first | exact Below.refl _ _ | refine below_alloc ?_ _ | refine below_step ?_ (by assumption) | refine Below.drew ?_ | refine Below.setCell ?_ (by first | exact Nat.le_refl _ | exact Nat.le_add_right _ _ | (simp <;> omega)) _ | refine below_drewN ?_ _))⟩
    · go_enter Try.func17, Try.ntmps17
      go_wp2_with (first | (go_at_call 46; refine (isCurve_c _ _ _).mono ?_; rintro e w' ⟨rfl, hb⟩; have hz_ := hb.size; (try simp only [World.size_alloc, heap_drew, World.heap_drewN, size_setCell] at hz_); have hs0_ : w.heap.size < w'.heap.size := (by omega); have hk0_ := fun o => (bcell hb).1 (w.heap.size) o (by (try simp only [World.size_alloc, heap_drew, World.heap_drewN, size_setCell]); omega); have hl0_ := fun o => (bcell hb).2.1 (w.heap.size) o (by (try simp only [World.size_alloc, heap_drew, World.heap_drewN, size_setCell]); omega); have hs1_ : w.heap.size + 1 < w'.heap.size := (by omega); have hk1_ := fun o => (bcell hb).1 (w.heap.size + 1) o (by (try simp only [World.size_alloc, heap_drew, World.heap_drewN, size_setCell]); omega); have hl1_ := fun o => (bcell hb).2.1 (w.heap.size + 1) o (by (try simp only [World.size_alloc, heap_drew, World.heap_drewN, size_setCell]); omega)) | (go_at_call 65; refine (InvariantOf_c _ _ _ (by assumption)).mono ?_; rintro e w' ⟨rfl, hb⟩; have hz_ := hb.size; (try simp only [World.size_alloc, heap_drew, World.heap_drewN, size_setCell] at hz_); have hs0_ : w.heap.size < w'.heap.size := (by omega); have hk0_ := fun o => (bcell hb).1 (w.heap.size) o (by (try simp only [World.size_alloc, heap_drew, World.heap_drewN, size_setCell]); omega); have hl0_ := fun o => (bcell hb).2.1 (w.heap.size) o (by (try simp only [World.size_alloc, heap_drew, World.heap_drewN, size_setCell]); omega); have hs1_ : w.heap.size + 1 < w'.heap.size := (by omega); have hk1_ := fun o => (bcell hb).1 (w.heap.size + 1) o (by (try simp only [World.size_alloc, heap_drew, World.heap_drewN, size_setCell]); omega); have hl1_ := fun o => (bcell hb).2.1 (w.heap.size + 1) o (by (try simp only [World.size_alloc, heap_drew, World.heap_drewN, size_setCell]); omega)))
      all_goals (go_ret2; exact ⟨by simp [*], (by repeat (first | exact Below.refl _ _ | refine below_alloc ?_ _ | refine below_step ?_ (by assumption) | refine Below.drew ?_ | refine Below.setCell ?_ (by first | exact Nat.le_refl _ | exact Nat.le_add_right _ _ | (simp <;> omega)) _ | refine below_drewN ?_ _))⟩)

theorem tdiv_gcd_bd {d e m : Int} (h0 : M.gcd d e ≠ 0) (h1 : -m ≤ d) (h2 : d ≤ m) : -m ≤ d.tdiv (M.gcd d e) ∧ d.tdiv (M.gcd d e) ≤ m := tdiv_bd h1 h2 h0

def prodTw (d e : Int) : Int := d.tdiv (M.gcd d e) * (e.tdiv (M.gcd d e))
def prodOk (d e : Int) : Bool := M.tw d && M.tw e && M.tw (prodTw d e)

set_option maxHeartbeats 400000 in
theorem specProductOfTwists_c (d e : Int) (w : World) :
    Calls Try.prog 45 #[.int .i64 d, .int .i64 e] w fun r w' => r = .returned (.tuple #[.int .i64 (if prodOk d e then prodTw d e else 0), .bool (prodOk d e)]) ∧ Below w.heap.size w w' := by
  unfold prodOk
  cases h1 : M.tw d
  · go_enter Try.func45, Try.ntmps45
    go_wp2_with (go_at_call 62; refine (twGood_c _ _).mono ?_; rintro e w' ⟨rfl, rfl⟩)
    go_ret2; exact ⟨by simp, (by repeat (first | exact Below.refl _ _ | refine below_alloc ?_ _ | refine below_step ?_ (by assumption) | refine Below.drew ?_ | refine Below.setCell ?_ (by first | exact Nat.le_refl _ | exact Nat.le_add_right _ _ | (simp <;> omega)) _ | refine below_drewN ?_ _))⟩
  · cases h2 : M.tw e
    · go_enter Try.func45, Try.ntmps45
      go_wp2_with (go_at_call 62; refine (twGood_c _ _).mono ?_; rintro e w' ⟨rfl, rfl⟩)
      go_ret2; exact ⟨by simp, (by repeat (first | exact Below.refl _ _ | refine below_alloc ?_ _ | refine below_step ?_ (by assumption) | refine Below.drew ?_ | refine Below.setCell ?_ (by first | exact Nat.le_refl _ | exact Nat.le_add_right _ _ | (simp <;> omega)) _ | refine below_drewN ?_ _))⟩
    · obtain ⟨d0, d1, d2, -⟩ := M.tw_iff.1 h1
      obtain ⟨e0, e1, e2, -⟩ := M.tw_iff.1 h2
      have hg := gcd_pos (a := d) e0
      have hgg : M.gcd d.natAbs e.natAbs = M.gcd d e := by simp [M.gcd, Int.gcd]
      have t1 := tdiv_bd (a := d) (d := M.gcd d e) d1 d2 (by omega)
      have t2 := tdiv_bd (a := e) (d := M.gcd d e) e1 e2 (by omega)
      have t3 := M.mul_bd t1.1 t1.2 t2.1 t2.2
      have hz : ¬ M.gcd d e = 0 := by omega
      have w1 := IntWalk.i64_in (d.tdiv (M.gcd d e)) (by omega)
      have w2 := IntWalk.i64_in (e.tdiv (M.gcd d e)) (by omega)
      have w3 := IntWalk.i64_in (d.tdiv (M.gcd d e) * e.tdiv (M.gcd d e)) (by omega)
      cases h3 : M.tw (prodTw d e)
      all_goals
        unfold prodTw at h3 ⊢
        go_enter Try.func45, Try.ntmps45
        go_wp2_with (first | (go_at_call 62; refine (twGood_c _ _).mono ?_; rintro e w' ⟨rfl, rfl⟩) | (go_at_call 85; refine (l1Abs_c _ _ (by omega) (by omega)).mono ?_; rintro e w' ⟨rfl, rfl⟩) | (go_at_call 88; refine (bgCommon_c _ _ _ (by omega) (by omega) (by omega) (by omega)).mono ?_; rintro e w' ⟨rfl, rfl⟩))
        go_quiet (fail)
        clear w1 w2 w3
        go_wp2_with (go_at_call 62; refine (twGood_c _ _).mono ?_; rintro e w' ⟨rfl, rfl⟩)
        go_ret2; exact ⟨by simp, (by repeat (first | exact Below.refl _ _ | refine below_alloc ?_ _ | refine below_step ?_ (by assumption) | refine Below.drew ?_ | refine Below.setCell ?_ (by first | exact Nat.le_refl _ | exact Nat.le_add_right _ _ | (simp <;> omega)) _ | refine below_drewN ?_ _))⟩

set_option maxHeartbeats 400000 in
theorem implProductOfTwists_c (d e : Int) (w : World) :
    Calls Try.prog 44 #[.int .i64 d, .int .i64 e] w fun r w' => r = .returned (.tuple #[.int .i64 (if prodOk d e then prodTw d e else 0), .bool (prodOk d e)]) ∧ Below w.heap.size w w' := by
  unfold prodOk
  cases h1 : M.tw d
  · go_enter Try.func44, Try.ntmps44
    go_wp2_with (go_at_call 60; refine (isTwist_c _ _).mono ?_; rintro e w' ⟨rfl, hb⟩; have hz_ := hb.size; (try simp only [World.size_alloc, heap_drew, World.heap_drewN, size_setCell] at hz_))
    go_ret2; exact ⟨by simp, (by repeat (first | exact Below.refl _ _ | refine below_alloc ?_ _ | refine below_step ?_ (by assumption) | refine Below.drew ?_ | refine Below.setCell ?_ (by first | exact Nat.le_refl _ | exact Nat.le_add_right _ _ | (simp <;> omega)) _ | refine below_drewN ?_ _))⟩
  · cases h2 : M.tw e
    · go_enter Try.func44, Try.ntmps44
      go_wp2_with (go_at_call 60; refine (isTwist_c _ _).mono ?_; rintro e w' ⟨rfl, hb⟩; have hz_ := hb.size; (try simp only [World.size_alloc, heap_drew, World.heap_drewN, size_setCell] at hz_))
      go_ret2; exact ⟨by simp, (by repeat (first | exact Below.refl _ _ | refine below_alloc ?_ _ | refine below_step ?_ (by assumption) | refine Below.drew ?_ | refine Below.setCell ?_ (by first | exact Nat.le_refl _ | exact Nat.le_add_right _ _ | (simp <;> omega)) _ | refine below_drewN ?_ _))⟩
    · obtain ⟨d0, d1, d2, -⟩ := M.tw_iff.1 h1
      obtain ⟨e0, e1, e2, -⟩ := M.tw_iff.1 h2
      have hg := gcd_pos (a := d) e0
      have t1 := tdiv_bd (a := d) (d := M.gcd d e) d1 d2 (by omega)
      have t2 := tdiv_bd (a := e) (d := M.gcd d e) e1 e2 (by omega)
      have t3 := M.mul_bd t1.1 t1.2 t2.1 t2.2
      have hz : ¬ M.gcd d e = 0 := by omega
      have w1 := IntWalk.i64_in (d.tdiv (M.gcd d e)) (by omega)
      have w2 := IntWalk.i64_in (e.tdiv (M.gcd d e)) (by omega)
      have w3 := IntWalk.i64_in (d.tdiv (M.gcd d e) * e.tdiv (M.gcd d e)) (by omega)
      cases h3 : M.tw (prodTw d e)
      all_goals
        unfold prodTw at h3 ⊢
        go_enter Try.func44, Try.ntmps44
        go_wp2_with (first | (go_at_call 60; refine (isTwist_c _ _).mono ?_; rintro e w' ⟨rfl, hb⟩; have hz_ := hb.size; (try simp only [World.size_alloc, heap_drew, World.heap_drewN, size_setCell] at hz_)) | (go_at_call 87; refine (gcd_c _ _ _ (by omega) (by omega) (by omega) (by omega)).mono ?_; rintro e w' ⟨rfl, mq, rfl⟩))
        go_quiet (fail)
        clear w1 w2 w3
        go_wp2_with (go_at_call 60; refine (isTwist_c _ _).mono ?_; rintro e w' ⟨rfl, hb⟩; have hz_ := hb.size; (try simp only [World.size_alloc, heap_drew, World.heap_drewN, size_setCell] at hz_))
        go_ret2; exact ⟨by simp, (by repeat (first | exact Below.refl _ _ | refine below_alloc ?_ _ | refine below_step ?_ (by assumption) | refine Below.drew ?_ | refine Below.setCell ?_ (by first | exact Nat.le_refl _ | exact Nat.le_add_right _ _ | (simp <;> omega)) _ | refine below_drewN ?_ _))⟩
end Go.Proofs.Ytoolgmpflplghaa
