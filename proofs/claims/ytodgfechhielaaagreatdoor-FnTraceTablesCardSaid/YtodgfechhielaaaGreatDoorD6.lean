/-
  Contracts: fractions in lowest terms.
-/
import Derived.Test.YtodgfechhielaaaGreatDoorD5
import Derived.Test.YtodgfechhielaaaGreatDoorC8
namespace Go.Proofs.YtodgfechhielaaaGreatDoor
set_option linter.unusedSimpArgs false
set_option linter.unusedVariables false
open Go.RowKit

/-- a quotient in lowest terms, or nothing -/
noncomputable def frq (n d : Int) : Bool := frOk (partN n d) (partD n d)

theorem bgCommonAbs_c (a b : Int) (w : World) (h1 : -4000000000000000000 ≤ a) (h2 : a ≤ 4000000000000000000) (h3 : -4000000000000000000 ≤ b) (h4 : b ≤ 4000000000000000000) :
    Calls Tryz.prog 69 #[.int .i64 (a.natAbs : Int), .int .i64 (b.natAbs : Int)] w fun e w' => e = .returned (.int .i64 (M.gcd a b)) ∧ w = w' := by
  rw [show M.gcd a b = M.gcd a.natAbs b.natAbs from by simp [M.gcd, Int.gcd]]
  exact bgCommon_c _ _ _ (by omega) (by omega) (by omega) (by omega)

set_option maxHeartbeats 400000 in
theorem makeFraction_c (n d : Int) (w : World) (h1 : -4000000000000000000 ≤ n) (h2 : n ≤ 4000000000000000000) (h3 : -4000000000000000000 ≤ d) (h4 : d ≤ 4000000000000000000) (h0 : d ≠ 0) :
    Calls Tryz.prog 41 #[.int .i64 n, .int .i64 d] w fun e w' => e = .returned (.tuple #[.agg #[.int .i64 (M.pick (frq (n) (d)) (partN (n) (d))), .int .i64 (M.pick (frq (n) (d)) (partD (n) (d)))], .bool (frq (n) (d))] : Value) ∧ Below w.heap.size w w' := by
  have g1 := gcd_pos (a := n) h0
  have g2 := gcd_le (a := n) h0
  have t1 := tdiv_bd (a := n) (d := M.gcd n d) h1 h2 (by omega)
  have t2 := tdiv_bd (a := d) (d := M.gcd n d) h3 h4 (by omega)
  have E := fun w => isFraction_c (partN n d) (partD n d) w
  unfold frq
  by_cases hn : d < 0
  · rw [partN_neg hn, partD_neg hn] at E ⊢
    cases hok : frOk (-n.tdiv (M.gcd n d)) (-d.tdiv (M.gcd n d)) <;> simp only [hok] at E <;> have E := Lib.hid E
    all_goals
      have w1 := IntWalk.i64_in (-n.tdiv (M.gcd n d)) (by omega)
      have w2 := IntWalk.i64_in (-d.tdiv (M.gcd n d)) (by omega)
      have hg0 : ¬ -M.gcd n d = 0 := by omega
      go_enter Tryz.func41, Tryz.ntmps41
      go_wp2_with (go_at_call 67; refine (gcd_c _ _ _ (by omega) (by omega) (by omega) (by omega)).mono ?_; rintro e w' ⟨rfl, mq, rfl⟩)
      go_region
      all_goals
        clear w1 w2
        go_wp2_with (go_at_call 68; refine (E.out _).mono ?_; rintro e w' ⟨rfl, hb⟩; have hz_ := hb.size; (try simp only [World.size_alloc, heap_drew, World.heap_drewN, size_setCell] at hz_); have hs0_ : w.heap.size < w'.heap.size := (by omega); have hk0_ := fun o => (bcell hb).1 (w.heap.size) o (by (try simp only [World.size_alloc, heap_drew, World.heap_drewN, size_setCell]); omega); have hl0_ := fun o => (bcell hb).2.1 (w.heap.size) o (by (try simp only [World.size_alloc, heap_drew, World.heap_drewN, size_setCell]); omega); have hs1_ : w.heap.size + 1 < w'.heap.size := (by omega); have hk1_ := fun o => (bcell hb).1 (w.heap.size + 1) o (by (try simp only [World.size_alloc, heap_drew, World.heap_drewN, size_setCell]); omega); have hl1_ := fun o => (bcell hb).2.1 (w.heap.size + 1) o (by (try simp only [World.size_alloc, heap_drew, World.heap_drewN, size_setCell]); omega))
        first
          | (refine bodyPost_ret (v := .tuple #[.agg #[.int .i64 0, .int .i64 0], .bool false]) ?_ rfl ?_; (· (simp [results, Tryz.results41, go_sem, *]; done)); (· (refine ⟨?_, (by repeat (first | exact Below.refl _ _ | refine below_alloc ?_ _ | refine below_step ?_ (by assumption) | refine Below.drew ?_ | refine Below.setCell ?_ (by first | exact Nat.le_refl _ | exact Nat.le_add_right _ _ | (simp <;> omega)) _ | refine below_drewN ?_ _))⟩; (simp [M.pick_f]; done))))
          | (refine bodyPost_ret (v := .tuple #[.agg #[.int .i64 (-n.tdiv (M.gcd n d)), .int .i64 (-d.tdiv (M.gcd n d))], .bool true]) ?_ rfl ?_; (· (simp [results, Tryz.results41, go_sem, *]; done)); (· (refine ⟨?_, (by repeat (first | exact Below.refl _ _ | refine below_alloc ?_ _ | refine below_step ?_ (by assumption) | refine Below.drew ?_ | refine Below.setCell ?_ (by first | exact Nat.le_refl _ | exact Nat.le_add_right _ _ | (simp <;> omega)) _ | refine below_drewN ?_ _))⟩; (simp [M.pick_t]; done))))
  · rw [partN_pos (by omega), partD_pos (by omega)] at E ⊢
    cases hok : frOk (n.tdiv (M.gcd n d)) (d.tdiv (M.gcd n d)) <;> simp only [hok] at E <;> have E := Lib.hid E
    all_goals
      have w1 := IntWalk.i64_in (n.tdiv (M.gcd n d)) (by omega)
      have w2 := IntWalk.i64_in (d.tdiv (M.gcd n d)) (by omega)
      have hg0 : ¬ M.gcd n d = 0 := by omega
      go_enter Tryz.func41, Tryz.ntmps41
      go_wp2_with (go_at_call 67; refine (gcd_c _ _ _ (by omega) (by omega) (by omega) (by omega)).mono ?_; rintro e w' ⟨rfl, mq, rfl⟩)
      go_region
      all_goals
        clear w1 w2
        go_wp2_with (go_at_call 68; refine (E.out _).mono ?_; rintro e w' ⟨rfl, hb⟩; have hz_ := hb.size; (try simp only [World.size_alloc, heap_drew, World.heap_drewN, size_setCell] at hz_); have hs0_ : w.heap.size < w'.heap.size := (by omega); have hk0_ := fun o => (bcell hb).1 (w.heap.size) o (by (try simp only [World.size_alloc, heap_drew, World.heap_drewN, size_setCell]); omega); have hl0_ := fun o => (bcell hb).2.1 (w.heap.size) o (by (try simp only [World.size_alloc, heap_drew, World.heap_drewN, size_setCell]); omega); have hs1_ : w.heap.size + 1 < w'.heap.size := (by omega); have hk1_ := fun o => (bcell hb).1 (w.heap.size + 1) o (by (try simp only [World.size_alloc, heap_drew, World.heap_drewN, size_setCell]); omega); have hl1_ := fun o => (bcell hb).2.1 (w.heap.size + 1) o (by (try simp only [World.size_alloc, heap_drew, World.heap_drewN, size_setCell]); omega))
        first
          | (refine bodyPost_ret (v := .tuple #[.agg #[.int .i64 0, .int .i64 0], .bool false]) ?_ rfl ?_; (· (simp [results, Tryz.results41, go_sem, *]; done)); (· (refine ⟨?_, (by repeat (first | exact Below.refl _ _ | refine below_alloc ?_ _ | refine below_step ?_ (by assumption) | refine Below.drew ?_ | refine Below.setCell ?_ (by first | exact Nat.le_refl _ | exact Nat.le_add_right _ _ | (simp <;> omega)) _ | refine below_drewN ?_ _))⟩; (simp [M.pick_f]; done))))
          | (refine bodyPost_ret (v := .tuple #[.agg #[.int .i64 (n.tdiv (M.gcd n d)), .int .i64 (d.tdiv (M.gcd n d))], .bool true]) ?_ rfl ?_; (· (simp [results, Tryz.results41, go_sem, *]; done)); (· (refine ⟨?_, (by repeat (first | exact Below.refl _ _ | refine below_alloc ?_ _ | refine below_step ?_ (by assumption) | refine Below.drew ?_ | refine Below.setCell ?_ (by first | exact Nat.le_refl _ | exact Nat.le_add_right _ _ | (simp <;> omega)) _ | refine below_drewN ?_ _))⟩; (simp [M.pick_t]; done))))

set_option maxHeartbeats 400000 in
theorem frMake_c (n d : Int) (w : World) (h1 : -4000000000000000000 ≤ n) (h2 : n ≤ 4000000000000000000) (h3 : -4000000000000000000 ≤ d) (h4 : d ≤ 4000000000000000000) (h0 : d ≠ 0) :
    Calls Tryz.prog 42 #[.int .i64 n, .int .i64 d] w fun e w' => e = .returned (.tuple #[.agg #[.int .i64 (M.pick (frq (n) (d)) (partN (n) (d))), .int .i64 (M.pick (frq (n) (d)) (partD (n) (d)))], .bool (frq (n) (d))] : Value) ∧ Below w.heap.size w w' := by
  have g1 := gcd_pos (a := n) h0
  have g2 := gcd_le (a := n) h0
  have t1 := tdiv_bd (a := n) (d := M.gcd n d) h1 h2 (by omega)
  have t2 := tdiv_bd (a := d) (d := M.gcd n d) h3 h4 (by omega)
  have E := fun w => frGood_c (partN n d) (partD n d) w
  unfold frq
  by_cases hn : d < 0
  · rw [partN_neg hn, partD_neg hn] at E ⊢
    cases hok : frOk (-n.tdiv (M.gcd n d)) (-d.tdiv (M.gcd n d)) <;> simp only [hok] at E <;> have E := Lib.hid E
    all_goals
      have w1 := IntWalk.i64_in (-n.tdiv (M.gcd n d)) (by omega)
      have w2 := IntWalk.i64_in (-d.tdiv (M.gcd n d)) (by omega)
      have hg0 : ¬ -M.gcd n d = 0 := by omega
      go_enter Tryz.func42, Tryz.ntmps42
      go_wp2_with (first | (go_at_call 39; refine (l1Abs_c _ _ (by omega) (by omega)).mono ?_; rintro e w' ⟨rfl, rfl⟩) | (go_at_call 69; refine (bgCommonAbs_c n d _ h1 h2 h3 h4).mono ?_; rintro e w' ⟨rfl, rfl⟩))
      go_region
      all_goals
        clear w1 w2
        go_wp2_with (go_at_call 70; refine (E.out _).mono ?_; rintro e w' ⟨rfl, hb⟩; have hz_ := hb.size; (try simp only [World.size_alloc, heap_drew, World.heap_drewN, size_setCell] at hz_); have hs0_ : w.heap.size < w'.heap.size := (by omega); have hk0_ := fun o => (bcell hb).1 (w.heap.size) o (by (try simp only [World.size_alloc, heap_drew, World.heap_drewN, size_setCell]); omega); have hl0_ := fun o => (bcell hb).2.1 (w.heap.size) o (by (try simp only [World.size_alloc, heap_drew, World.heap_drewN, size_setCell]); omega); have hs1_ : w.heap.size + 1 < w'.heap.size := (by omega); have hk1_ := fun o => (bcell hb).1 (w.heap.size + 1) o (by (try simp only [World.size_alloc, heap_drew, World.heap_drewN, size_setCell]); omega); have hl1_ := fun o => (bcell hb).2.1 (w.heap.size + 1) o (by (try simp only [World.size_alloc, heap_drew, World.heap_drewN, size_setCell]); omega))
        first
          | (refine bodyPost_ret (v := .tuple #[.agg #[.int .i64 0, .int .i64 0], .bool false]) ?_ rfl ?_; (· (simp [results, Tryz.results42, go_sem, *]; done)); (· (refine ⟨?_, (by repeat (first | exact Below.refl _ _ | refine below_alloc ?_ _ | refine below_step ?_ (by assumption) | refine Below.drew ?_ | refine Below.setCell ?_ (by first | exact Nat.le_refl _ | exact Nat.le_add_right _ _ | (simp <;> omega)) _ | refine below_drewN ?_ _))⟩; (simp [M.pick_f]; done))))
          | (refine bodyPost_ret (v := .tuple #[.agg #[.int .i64 (-n.tdiv (M.gcd n d)), .int .i64 (-d.tdiv (M.gcd n d))], .bool true]) ?_ rfl ?_; (· (simp [results, Tryz.results42, go_sem, *]; done)); (· (refine ⟨?_, (by repeat (first | exact Below.refl _ _ | refine below_alloc ?_ _ | refine below_step ?_ (by assumption) | refine Below.drew ?_ | refine Below.setCell ?_ (by first | exact Nat.le_refl _ | exact Nat.le_add_right _ _ | (simp <;> omega)) _ | refine below_drewN ?_ _))⟩; (simp [M.pick_t]; done))))
  · rw [partN_pos (by omega), partD_pos (by omega)] at E ⊢
    cases hok : frOk (n.tdiv (M.gcd n d)) (d.tdiv (M.gcd n d)) <;> simp only [hok] at E <;> have E := Lib.hid E
    all_goals
      have w1 := IntWalk.i64_in (n.tdiv (M.gcd n d)) (by omega)
      have w2 := IntWalk.i64_in (d.tdiv (M.gcd n d)) (by omega)
      have hg0 : ¬ M.gcd n d = 0 := by omega
      go_enter Tryz.func42, Tryz.ntmps42
      go_wp2_with (first | (go_at_call 39; refine (l1Abs_c _ _ (by omega) (by omega)).mono ?_; rintro e w' ⟨rfl, rfl⟩) | (go_at_call 69; refine (bgCommonAbs_c n d _ h1 h2 h3 h4).mono ?_; rintro e w' ⟨rfl, rfl⟩))
      go_region
      all_goals
        clear w1 w2
        go_wp2_with (go_at_call 70; refine (E.out _).mono ?_; rintro e w' ⟨rfl, hb⟩; have hz_ := hb.size; (try simp only [World.size_alloc, heap_drew, World.heap_drewN, size_setCell] at hz_); have hs0_ : w.heap.size < w'.heap.size := (by omega); have hk0_ := fun o => (bcell hb).1 (w.heap.size) o (by (try simp only [World.size_alloc, heap_drew, World.heap_drewN, size_setCell]); omega); have hl0_ := fun o => (bcell hb).2.1 (w.heap.size) o (by (try simp only [World.size_alloc, heap_drew, World.heap_drewN, size_setCell]); omega); have hs1_ : w.heap.size + 1 < w'.heap.size := (by omega); have hk1_ := fun o => (bcell hb).1 (w.heap.size + 1) o (by (try simp only [World.size_alloc, heap_drew, World.heap_drewN, size_setCell]); omega); have hl1_ := fun o => (bcell hb).2.1 (w.heap.size + 1) o (by (try simp only [World.size_alloc, heap_drew, World.heap_drewN, size_setCell]); omega))
        first
          | (refine bodyPost_ret (v := .tuple #[.agg #[.int .i64 0, .int .i64 0], .bool false]) ?_ rfl ?_; (· (simp [results, Tryz.results42, go_sem, *]; done)); (· (refine ⟨?_, (by repeat (first | exact Below.refl _ _ | refine below_alloc ?_ _ | refine below_step ?_ (by assumption) | refine Below.drew ?_ | refine Below.setCell ?_ (by first | exact Nat.le_refl _ | exact Nat.le_add_right _ _ | (simp <;> omega)) _ | refine below_drewN ?_ _))⟩; (simp [M.pick_f]; done))))
          | (refine bodyPost_ret (v := .tuple #[.agg #[.int .i64 (n.tdiv (M.gcd n d)), .int .i64 (d.tdiv (M.gcd n d))], .bool true]) ?_ rfl ?_; (· (simp [results, Tryz.results42, go_sem, *]; done)); (· (refine ⟨?_, (by repeat (first | exact Below.refl _ _ | refine below_alloc ?_ _ | refine below_step ?_ (by assumption) | refine Below.drew ?_ | refine Below.setCell ?_ (by first | exact Nat.le_refl _ | exact Nat.le_add_right _ _ | (simp <;> omega)) _ | refine below_drewN ?_ _))⟩; (simp [M.pick_t]; done))))
end Go.Proofs.YtodgfechhielaaaGreatDoor
