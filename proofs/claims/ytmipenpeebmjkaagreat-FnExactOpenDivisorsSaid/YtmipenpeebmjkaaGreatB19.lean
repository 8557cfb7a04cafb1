/-
  Joined texts: contracts and plain laws.
-/
import Derived.Test.YtmipenpeebmjkaaGreatB18
namespace Go.Proofs.YtmipenpeebmjkaaGreat
set_option linter.unusedSimpArgs false
set_option linter.unusedVariables false
open Go.RowKit
namespace M
noncomputable def low (A B : Int) (n : Nat) : Int := max (fR A B false n + fR A B true n - 2) 0
noncomputable def up (A B : Int) : Int := sR A B false + sR A B true - 2
noncomputable def bOk (A B : Int) (n : Nat) : Bool := fOk A B n && sOk A B
end M
set_option maxRecDepth 100000 in
theorem lowerRank_c (A B : Int) (n : Nat) (w : World) (h : M.tc A B) (hn : n ≤ 60) :
    Calls Tryz.prog 69 #[.agg #[.int .i64 A, .int .i64 B], .int .i64 n] w fun e w' => e = .returned (.tuple #[.int .i64 (M.pick (M.fOk A B n) (M.low A B n)), .bool (M.fOk A B n)]) ∧ Below w.heap.size w w' := by
  have P := fun W => foundRanks_c A B n W h hn
  have q1 := M.rkc_bd (M.fg A B false n)
  have q2 := M.rkc_bd (M.fg A B true n)
  unfold M.low
  have e1 : M.fR A B false n = M.rkc (M.fg A B false n) := rfl
  have e2 : M.fR A B true n = M.rkc (M.fg A B true n) := rfl
  rw [← e1] at q1
  rw [← e2] at q2
  clear e1 e2
  generalize M.fR A B false n = x at *
  generalize M.fR A B true n = y at *
  generalize M.fOk A B n = b at *
  cases b
  · simp only [M.pick_f] at P
    have P := Lib.hid P
    go_enter Tryz.func69, Tryz.ntmps69
    go_wp2_with (go_at_call 95; (with_reducible refine (P.out _).mono ?_); rintro e w1 ⟨rfl, hb1⟩; (have B1 : Below w.heap.size w w1 := (by repeat (first | exact Below.refl _ _ | refine below_alloc ?_ _ | refine below_step ?_ (by assumption) | refine Below.drew ?_ | refine Below.setCell ?_ (by first | exact Nat.le_refl _ | exact Nat.le_add_right _ _ | (simp <;> omega)) _ | refine below_drewN ?_ _))))
    go_ret2
    exact ⟨rfl, B1⟩
  · simp only [M.pick_t] at P
    have P := Lib.hid P
    simp only [M.pick_t]
    by_cases hm : x + y - 2 ≤ 0
    · have hv : Hid (max (x + y - 2) 0 = 0) := Lib.hid (by omega)
      go_enter Tryz.func69, Tryz.ntmps69
      go_wp2_with (go_at_call 95; (with_reducible refine (P.out _).mono ?_); rintro e w1 ⟨rfl, hb1⟩; (have B1 : Below w.heap.size w w1 := (by repeat (first | exact Below.refl _ _ | refine below_alloc ?_ _ | refine below_step ?_ (by assumption) | refine Below.drew ?_ | refine Below.setCell ?_ (by first | exact Nat.le_refl _ | exact Nat.le_add_right _ _ | (simp <;> omega)) _ | refine below_drewN ?_ _))))
      go_ret2
      exact ⟨by rw [hv.out] <;> rfl, B1⟩
    · have hv : Hid (max (x + y - 2) 0 = x + y - 2) := Lib.hid (by omega)
      go_enter Tryz.func69, Tryz.ntmps69
      go_wp2_with (go_at_call 95; (with_reducible refine (P.out _).mono ?_); rintro e w1 ⟨rfl, hb1⟩; (have B1 : Below w.heap.size w w1 := (by repeat (first | exact Below.refl _ _ | refine below_alloc ?_ _ | refine below_step ?_ (by assumption) | refine Below.drew ?_ | refine Below.setCell ?_ (by first | exact Nat.le_refl _ | exact Nat.le_add_right _ _ | (simp <;> omega)) _ | refine below_drewN ?_ _))))
      go_ret2
      exact ⟨by rw [hv.out] <;> rfl, B1⟩
theorem rkLow_c (x y : Int) (w : World) (q1 : 0 ≤ x ∧ x ≤ 64) (q2 : 0 ≤ y ∧ y ≤ 64) :
    Calls Tryz.prog 47 #[.int .i64 x, .int .i64 y] w fun e w' => e = .returned (.int .i64 (max (x + y - 2) 0)) ∧ Below w.heap.size w w' := by
  have P := fun W => l1Most_c 0 (x + y - 2) W
  rw [show max 0 (x + y - 2) = max (x + y - 2) 0 by omega] at P
  generalize max (x + y - 2) 0 = z at *
  have P := Lib.hid P
  go_enter Tryz.func47, Tryz.ntmps47
  go_wp2_with (go_at_call 73; (with_reducible refine (P.out _).mono ?_); rintro e w1 ⟨rfl, rfl⟩)
  go_ret
  exact ⟨rfl, (by repeat (first | exact Below.refl _ _ | refine below_alloc ?_ _ | refine below_step ?_ (by assumption) | refine Below.drew ?_ | refine Below.setCell ?_ (by first | exact Nat.le_refl _ | exact Nat.le_add_right _ _ | (simp <;> omega)) _ | refine below_drewN ?_ _))⟩
set_option maxRecDepth 100000 in
theorem rkUpper_c (A B : Int) (w : World) (h : M.tc A B) :
    Calls Tryz.prog 45 #[.agg #[.int .i64 A, .int .i64 B]] w fun e w' => e = .returned (.tuple #[.int .i64 (M.pick (M.sOk A B) (M.up A B)), .bool (M.sOk A B)]) ∧ Below w.heap.size w w' := by
  have P := fun W => rkSelmer_c A B W h
  have q1 := M.rkc_bd (M.slm A B false)
  have q2 := M.rkc_bd (M.slm A B true)
  unfold M.up
  have e1 : M.sR A B false = M.rkc (M.slm A B false) := rfl
  have e2 : M.sR A B true = M.rkc (M.slm A B true) := rfl
  rw [← e1] at q1
  rw [← e2] at q2
  clear e1 e2
  generalize M.sR A B false = x at *
  generalize M.sR A B true = y at *
  generalize M.sOk A B = b at *
  cases b
  · simp only [M.pick_f] at P
    have P := Lib.hid P
    go_enter Tryz.func45, Tryz.ntmps45
    go_wp2_with (go_at_call 71; (with_reducible refine (P.out _).mono ?_); rintro e w1 ⟨rfl, hb1⟩; (have B1 : Below w.heap.size w w1 := (by repeat (first | exact Below.refl _ _ | refine below_alloc ?_ _ | refine below_step ?_ (by assumption) | refine Below.drew ?_ | refine Below.setCell ?_ (by first | exact Nat.le_refl _ | exact Nat.le_add_right _ _ | (simp <;> omega)) _ | refine below_drewN ?_ _))))
    go_ret2
    exact ⟨rfl, B1⟩
  · simp only [M.pick_t] at P
    have P := Lib.hid P
    simp only [M.pick_t]
    go_enter Tryz.func45, Tryz.ntmps45
    go_wp2_with (go_at_call 71; (with_reducible refine (P.out _).mono ?_); rintro e w1 ⟨rfl, hb1⟩; (have B1 : Below w.heap.size w w1 := (by repeat (first | exact Below.refl _ _ | refine below_alloc ?_ _ | refine below_step ?_ (by assumption) | refine Below.drew ?_ | refine Below.setCell ?_ (by first | exact Nat.le_refl _ | exact Nat.le_add_right _ _ | (simp <;> omega)) _ | refine below_drewN ?_ _))))
    go_ret2
    exact ⟨rfl, B1⟩
set_option maxRecDepth 100000 in
theorem rankBounds_c (A B : Int) (n : Nat) (w : World) (h : M.tc A B) (hn : n ≤ 60) :
    Calls Tryz.prog 43 #[.agg #[.int .i64 A, .int .i64 B], .int .i64 n] w fun e w' => e = .returned (.tuple #[.int .i64 (M.pick (M.bOk A B n) (M.low A B n)), .int .i64 (M.pick (M.bOk A B n) (M.up A B)), .bool (M.bOk A B n)]) ∧ Below w.heap.size w w' := by
  have P1 := fun W => lowerRank_c A B n W h hn
  have P2 := fun W => selmerRanks_c A B W h
  have q1 := M.rkc_bd (M.slm A B false)
  have q2 := M.rkc_bd (M.slm A B true)
  unfold M.up M.bOk
  have e1 : M.sR A B false = M.rkc (M.slm A B false) := rfl
  have e2 : M.sR A B true = M.rkc (M.slm A B true) := rfl
  rw [← e1] at q1
  rw [← e2] at q2
  clear e1 e2
  generalize M.sR A B false = x at *
  generalize M.sR A B true = y at *
  generalize M.sOk A B = b at *
  generalize M.fOk A B n = c at *
  generalize M.low A B n = z at *
  have bx := Box.new w A B 26
  cases c
  · have P1 := Lib.hid P1
    have P2 := Lib.hid P2
    go_enter Tryz.func43, Tryz.ntmps43
    go_wp2_with (first
      | (go_at_call 69; (with_reducible refine (P1.out _).mono ?_); rintro e w1 ⟨rfl, hb1⟩; (have bx1 := bx.keep hb1); (have c0 := bx1.c0); (have c1 := bx1.c1); (have B1 : Below w.heap.size w w1 := (by repeat (first | exact Below.refl _ _ | refine below_alloc ?_ _ | refine below_step ?_ (by assumption) | refine Below.drew ?_ | refine Below.setCell ?_ (by first | exact Nat.le_refl _ | exact Nat.le_add_right _ _ | (simp <;> omega)) _ | refine below_drewN ?_ _))))
      | (go_at_call 70; (with_reducible refine (P2.out _).mono ?_); rintro e w2 ⟨rfl, hb2⟩; (have B2 := B1.trans (hb2.mono B1.size))))
    exact bodyPost_ret (v := .tuple #[.int .i64 0, .int .i64 0, .bool false]) (by simp [results, Tryz.results43, go_sem, *]) rfl (⟨rfl, B2⟩)
  · cases b
    · simp only [M.pick_t] at P1
      simp only [M.pick_f] at P2
      have P1 := Lib.hid P1
      have P2 := Lib.hid P2
      go_enter Tryz.func43, Tryz.ntmps43
      go_wp2_with (first
        | (go_at_call 69; (with_reducible refine (P1.out _).mono ?_); rintro e w1 ⟨rfl, hb1⟩; (have bx1 := bx.keep hb1); (have c0 := bx1.c0); (have c1 := bx1.c1); (have B1 : Below w.heap.size w w1 := (by repeat (first | exact Below.refl _ _ | refine below_alloc ?_ _ | refine below_step ?_ (by assumption) | refine Below.drew ?_ | refine Below.setCell ?_ (by first | exact Nat.le_refl _ | exact Nat.le_add_right _ _ | (simp <;> omega)) _ | refine below_drewN ?_ _))))
        | (go_at_call 70; (with_reducible refine (P2.out _).mono ?_); rintro e w2 ⟨rfl, hb2⟩; (have B2 := B1.trans (hb2.mono B1.size))))
      exact bodyPost_ret (v := .tuple #[.int .i64 0, .int .i64 0, .bool false]) (by simp [results, Tryz.results43, go_sem, *]) rfl (⟨rfl, B2⟩)
    · simp only [M.pick_t] at P1
      simp only [M.pick_t] at P2
      have P1 := Lib.hid P1
      have P2 := Lib.hid P2
      go_enter Tryz.func43, Tryz.ntmps43
      go_wp2_with (first
        | (go_at_call 69; (with_reducible refine (P1.out _).mono ?_); rintro e w1 ⟨rfl, hb1⟩; (have bx1 := bx.keep hb1); (have c0 := bx1.c0); (have c1 := bx1.c1); (have B1 : Below w.heap.size w w1 := (by repeat (first | exact Below.refl _ _ | refine below_alloc ?_ _ | refine below_step ?_ (by assumption) | refine Below.drew ?_ | refine Below.setCell ?_ (by first | exact Nat.le_refl _ | exact Nat.le_add_right _ _ | (simp <;> omega)) _ | refine below_drewN ?_ _))))
        | (go_at_call 70; (with_reducible refine (P2.out _).mono ?_); rintro e w2 ⟨rfl, hb2⟩; (have B2 := B1.trans (hb2.mono B1.size))))
      exact bodyPost_ret (v := .tuple #[.int .i64 z, .int .i64 (x + y - 2), .bool true]) (by simp [results, Tryz.results43, go_sem, *]) rfl (⟨rfl, B2⟩)
set_option maxRecDepth 100000 in
theorem rkBounds_c (A B : Int) (n : Nat) (w : World) (h : M.tc A B) (hn : n ≤ 60) :
    Calls Tryz.prog 42 #[.agg #[.int .i64 A, .int .i64 B], .int .i64 n] w fun e w' => e = .returned (.tuple #[.int .i64 (M.pick (M.bOk A B n) (M.low A B n)), .int .i64 (M.pick (M.bOk A B n) (M.up A B)), .bool (M.bOk A B n)]) ∧ Below w.heap.size w w' := by
  have P1 := fun W => rkFound_c A B n W h hn
  have P2 := fun W => rkUpper_c A B W h
  have P3 := fun W => rkLow_c (M.fR A B false n) (M.fR A B true n) W (M.rkc_bd (M.fg A B false n)) (M.rkc_bd (M.fg A B true n))
  unfold M.low M.bOk
  generalize M.fR A B false n = x at *
  generalize M.fR A B true n = y at *
  generalize max (x + y - 2) 0 = z at *
  generalize M.sOk A B = b at *
  generalize M.fOk A B n = c at *
  generalize M.up A B = u at *
  have P3 := Lib.hid P3
  have bx := Box.new w A B 26
  cases c
  · have P1 := Lib.hid P1
    have P2 := Lib.hid P2
    go_enter Tryz.func42, Tryz.ntmps42
    go_wp2_with (first
      | (go_at_call 46; (with_reducible refine (P1.out _).mono ?_); rintro e w1 ⟨rfl, hb1⟩; (have bx1 := bx.keep hb1); (have c0 := bx1.c0); (have c1 := bx1.c1); (have B1 : Below w.heap.size w w1 := (by repeat (first | exact Below.refl _ _ | refine below_alloc ?_ _ | refine below_step ?_ (by assumption) | refine Below.drew ?_ | refine Below.setCell ?_ (by first | exact Nat.le_refl _ | exact Nat.le_add_right _ _ | (simp <;> omega)) _ | refine below_drewN ?_ _))))
      | (go_at_call 45; (with_reducible refine (P2.out _).mono ?_); rintro e w2 ⟨rfl, hb2⟩; (have B2 := B1.trans (hb2.mono B1.size))))
    exact bodyPost_ret (v := .tuple #[.int .i64 0, .int .i64 0, .bool false]) (by simp [results, Tryz.results42, go_sem, *]) rfl (⟨rfl, B2⟩)
  · cases b
    · simp only [M.pick_t] at P1
      simp only [M.pick_f] at P2
      have P1 := Lib.hid P1
      have P2 := Lib.hid P2
      go_enter Tryz.func42, Tryz.ntmps42
      go_wp2_with (first
        | (go_at_call 46; (with_reducible refine (P1.out _).mono ?_); rintro e w1 ⟨rfl, hb1⟩; (have bx1 := bx.keep hb1); (have c0 := bx1.c0); (have c1 := bx1.c1); (have B1 : Below w.heap.size w w1 := (by repeat (first | exact Below.refl _ _ | refine below_alloc ?_ _ | refine below_step ?_ (by assumption) | refine Below.drew ?_ | refine Below.setCell ?_ (by first | exact Nat.le_refl _ | exact Nat.le_add_right _ _ | (simp <;> omega)) _ | refine below_drewN ?_ _))))
        | (go_at_call 45; (with_reducible refine (P2.out _).mono ?_); rintro e w2 ⟨rfl, hb2⟩; (have B2 := B1.trans (hb2.mono B1.size))))
      exact bodyPost_ret (v := .tuple #[.int .i64 0, .int .i64 0, .bool false]) (by simp [results, Tryz.results42, go_sem, *]) rfl (⟨rfl, B2⟩)
    · simp only [M.pick_t] at P1
      simp only [M.pick_t] at P2
      have P1 := Lib.hid P1
      have P2 := Lib.hid P2
      go_enter Tryz.func42, Tryz.ntmps42
      go_wp2_with (first
        | (go_at_call 46; (with_reducible refine (P1.out _).mono ?_); rintro e w1 ⟨rfl, hb1⟩; (have bx1 := bx.keep hb1); (have c0 := bx1.c0); (have c1 := bx1.c1); (have B1 : Below w.heap.size w w1 := (by repeat (first | exact Below.refl _ _ | refine below_alloc ?_ _ | refine below_step ?_ (by assumption) | refine Below.drew ?_ | refine Below.setCell ?_ (by first | exact Nat.le_refl _ | exact Nat.le_add_right _ _ | (simp <;> omega)) _ | refine below_drewN ?_ _))))
        | (go_at_call 45; (with_reducible refine (P2.out _).mono ?_); rintro e w2 ⟨rfl, hb2⟩; (have B2 := B1.trans (hb2.mono B1.size)))
        | (go_at_call 47; (with_reducible refine (P3.out _).mono ?_); rintro e w3 ⟨rfl, hb3⟩; (have B3 := B2.trans (hb3.mono B2.size))))
      exact bodyPost_ret (v := .tuple #[.int .i64 z, .int .i64 u, .bool true]) (by simp [results, Tryz.results42, go_sem, *]) rfl (⟨rfl, B3⟩)
end Go.Proofs.YtmipenpeebmjkaaGreat

namespace Go.Proofs.YtmipenpeebmjkaaGreat
set_option linter.unusedSimpArgs false
set_option linter.unusedVariables false
open Go.RowKit
namespace M
def eqb (x y : Int) : Bool := decide (x = y)
def leb (x y : Int) : Bool := decide (x ≤ y)
noncomputable def rb (A B n : Int) : Bool := (tcb A B && ins n 1 60) && bOk A B n.toNat
noncomputable def cl (A B lo hi n : Int) : Bool := ((tcb A B && ins n 1 60) && (ins lo 0 20 && ins hi 0 20)) && bOk A B n.toNat
noncomputable def clv (A B lo hi n : Int) : Bool := leb lo (low A B n.toNat) && leb (up A B) hi
end M
set_option maxRecDepth 100000 in
set_option maxHeartbeats 1000000 in
theorem implRankBounds_c (A B n : Int) (w : World) :
    Calls Tryz.prog 18 #[.agg #[.int .i64 A, .int .i64 B], .int .i64 n] w fun e w' => e = .returned (.tuple #[.int .i64 (M.pick (M.rb A B n) (M.low A B n.toNat)), .int .i64 (M.pick (M.rb A B n) (M.up A B)), .bool (M.rb A B n)]) ∧ Below w.heap.size w w' := by
  have PT := fun W => isTwoCurve_c A B W
  unfold M.rb
  have bx := Box.new w A B 26
  cases h1 : M.tcb A B
  · simp only [h1, Bool.true_and, Bool.and_true, Bool.false_and, Bool.and_false, M.pick_t, M.pick_f] at PT ⊢
    have PT := Lib.hid PT
    go_enter Tryz.func18, Tryz.ntmps18
    go_wp2_with (first | (go_at_call 29; (with_reducible refine (PT.out _).mono ?_); rintro e w1 ⟨rfl, hb1⟩; (have bx1 := bx.keep hb1); (have c0 := bx1.c0); (have c1 := bx1.c1); (have B1 : Below w.heap.size w w1 := (by repeat (first | exact Below.refl _ _ | refine below_alloc ?_ _ | refine below_step ?_ (by assumption) | refine Below.drew ?_ | refine Below.setCell ?_ (by first | exact Nat.le_refl _ | exact Nat.le_add_right _ _ | (simp <;> omega)) _ | refine below_drewN ?_ _)))) | (go_at_call 30; refine (inside_c _ _ _ _).mono ?_; rintro e w' ⟨rfl, rfl⟩))
    exact bodyPost_ret (v := .tuple #[.int .i64 0, .int .i64 0, .bool false]) (by simp [results, Tryz.results18, go_sem, *]) rfl (⟨rfl, B1⟩)
  · skip
    cases h2 : M.ins n 1 60
    · simp only [h1, h2, Bool.true_and, Bool.and_true, Bool.false_and, Bool.and_false, M.pick_t, M.pick_f] at PT ⊢
      have PT := Lib.hid PT
      go_enter Tryz.func18, Tryz.ntmps18
      go_wp2_with (first | (go_at_call 29; (with_reducible refine (PT.out _).mono ?_); rintro e w1 ⟨rfl, hb1⟩; (have bx1 := bx.keep hb1); (have c0 := bx1.c0); (have c1 := bx1.c1); (have B1 : Below w.heap.size w w1 := (by repeat (first | exact Below.refl _ _ | refine below_alloc ?_ _ | refine below_step ?_ (by assumption) | refine Below.drew ?_ | refine Below.setCell ?_ (by first | exact Nat.le_refl _ | exact Nat.le_add_right _ _ | (simp <;> omega)) _ | refine below_drewN ?_ _)))) | (go_at_call 30; refine (inside_c _ _ _ _).mono ?_; rintro e w' ⟨rfl, rfl⟩))
      exact bodyPost_ret (v := .tuple #[.int .i64 0, .int .i64 0, .bool false]) (by simp [results, Tryz.results18, go_sem, *]) rfl (⟨rfl, B1⟩)
    · skip
      have ht := M.tcb_t h1
      have hk := M.ins_t h2
      simp only [h1, h2, Bool.true_and, Bool.and_true, Bool.false_and, Bool.and_false, M.pick_t, M.pick_f] at PT ⊢
      have PT := Lib.hid PT
      obtain ⟨k, rfl⟩ : ∃ k : Nat, n = k := ⟨n.toNat, by omega⟩
      have P := fun W => rankBounds_c A B k W ht (by omega)
      simp only [Bool.true_and, Bool.and_true, Bool.false_and, Bool.and_false, M.pick_t, M.pick_f, Int.toNat_natCast]
      clear ht
      generalize M.low A B k = a at *
      generalize M.up A B = b at *
      generalize M.bOk A B k = q at *
      cases q
      · simp only [Bool.true_and, Bool.and_true, Bool.false_and, Bool.and_false, M.pick_t, M.pick_f] at P ⊢
        have P := Lib.hid P
        go_enter Tryz.func18, Tryz.ntmps18
        go_wp2_with (first | (go_at_call 29; (with_reducible refine (PT.out _).mono ?_); rintro e w1 ⟨rfl, hb1⟩; (have bx1 := bx.keep hb1); (have c0 := bx1.c0); (have c1 := bx1.c1); (have B1 : Below w.heap.size w w1 := (by repeat (first | exact Below.refl _ _ | refine below_alloc ?_ _ | refine below_step ?_ (by assumption) | refine Below.drew ?_ | refine Below.setCell ?_ (by first | exact Nat.le_refl _ | exact Nat.le_add_right _ _ | (simp <;> omega)) _ | refine below_drewN ?_ _)))) | (go_at_call 30; refine (inside_c _ _ _ _).mono ?_; rintro e w' ⟨rfl, rfl⟩) | (go_at_call 43; (with_reducible refine (P.out _).mono ?_); rintro e w2 ⟨rfl, hb2⟩; (have B2 := B1.trans (hb2.mono B1.size))))
        exact bodyPost_ret (v := .tuple #[.int .i64 0, .int .i64 0, .bool false]) (by simp [results, Tryz.results18, go_sem, *]) rfl (⟨rfl, B2⟩)
      · simp only [Bool.true_and, Bool.and_true, Bool.false_and, Bool.and_false, M.pick_t, M.pick_f] at P ⊢
        have P := Lib.hid P
        go_enter Tryz.func18, Tryz.ntmps18
        go_wp2_with (first | (go_at_call 29; (with_reducible refine (PT.out _).mono ?_); rintro e w1 ⟨rfl, hb1⟩; (have bx1 := bx.keep hb1); (have c0 := bx1.c0); (have c1 := bx1.c1); (have B1 : Below w.heap.size w w1 := (by repeat (first | exact Below.refl _ _ | refine below_alloc ?_ _ | refine below_step ?_ (by assumption) | refine Below.drew ?_ | refine Below.setCell ?_ (by first | exact Nat.le_refl _ | exact Nat.le_add_right _ _ | (simp <;> omega)) _ | refine below_drewN ?_ _)))) | (go_at_call 30; refine (inside_c _ _ _ _).mono ?_; rintro e w' ⟨rfl, rfl⟩) | (go_at_call 43; (with_reducible refine (P.out _).mono ?_); rintro e w2 ⟨rfl, hb2⟩; (have B2 := B1.trans (hb2.mono B1.size))))
        exact bodyPost_ret (v := .tuple #[.int .i64 a, .int .i64 b, .bool true]) (by simp [results, Tryz.results18, go_sem, *]) rfl (⟨rfl, B2⟩)
set_option maxRecDepth 100000 in
set_option maxHeartbeats 1000000 in
theorem specRankBounds_c (A B n : Int) (w : World) :
    Calls Tryz.prog 17 #[.agg #[.int .i64 A, .int .i64 B], .int .i64 n] w fun e w' => e = .returned (.tuple #[.int .i64 (M.pick (M.rb A B n) (M.low A B n.toNat)), .int .i64 (M.pick (M.rb A B n) (M.up A B)), .bool (M.rb A B n)]) ∧ Below w.heap.size w w' := by
  have PT := fun W => rkAsked_c A B n W
  unfold M.rb
  have bx := Box.new w A B 26
  cases h1 : M.tcb A B
  · simp only [h1, Bool.true_and, Bool.and_true, Bool.false_and, Bool.and_false, M.pick_t, M.pick_f] at PT ⊢
    have PT := Lib.hid PT
    go_enter Tryz.func17, Tryz.ntmps17
    go_wp2_with (first | (go_at_call 25; (with_reducible refine (PT.out _).mono ?_); rintro e w1 ⟨rfl, hb1⟩; (have bx1 := bx.keep hb1); (have c0 := bx1.c0); (have c1 := bx1.c1); (have B1 : Below w.heap.size w w1 := (by repeat (first | exact Below.refl _ _ | refine below_alloc ?_ _ | refine below_step ?_ (by assumption) | refine Below.drew ?_ | refine Below.setCell ?_ (by first | exact Nat.le_refl _ | exact Nat.le_add_right _ _ | (simp <;> omega)) _ | refine below_drewN ?_ _)))))
    exact bodyPost_ret (v := .tuple #[.int .i64 0, .int .i64 0, .bool false]) (by simp [results, Tryz.results17, go_sem, *]) rfl (⟨rfl, B1⟩)
  · skip
    cases h2 : M.ins n 1 60
    · simp only [h1, h2, Bool.true_and, Bool.and_true, Bool.false_and, Bool.and_false, M.pick_t, M.pick_f] at PT ⊢
      have PT := Lib.hid PT
      go_enter Tryz.func17, Tryz.ntmps17
      go_wp2_with (first | (go_at_call 25; (with_reducible refine (PT.out _).mono ?_); rintro e w1 ⟨rfl, hb1⟩; (have bx1 := bx.keep hb1); (have c0 := bx1.c0); (have c1 := bx1.c1); (have B1 : Below w.heap.size w w1 := (by repeat (first | exact Below.refl _ _ | refine below_alloc ?_ _ | refine below_step ?_ (by assumption) | refine Below.drew ?_ | refine Below.setCell ?_ (by first | exact Nat.le_refl _ | exact Nat.le_add_right _ _ | (simp <;> omega)) _ | refine below_drewN ?_ _)))))
      exact bodyPost_ret (v := .tuple #[.int .i64 0, .int .i64 0, .bool false]) (by simp [results, Tryz.results17, go_sem, *]) rfl (⟨rfl, B1⟩)
    · skip
      have ht := M.tcb_t h1
      have hk := M.ins_t h2
      simp only [h1, h2, Bool.true_and, Bool.and_true, Bool.false_and, Bool.and_false, M.pick_t, M.pick_f] at PT ⊢
      have PT := Lib.hid PT
      obtain ⟨k, rfl⟩ : ∃ k : Nat, n = k := ⟨n.toNat, by omega⟩
      have P := fun W => rkBounds_c A B k W ht (by omega)
      simp only [Bool.true_and, Bool.and_true, Bool.false_and, Bool.and_false, M.pick_t, M.pick_f, Int.toNat_natCast]
      clear ht
      generalize M.low A B k = a at *
      generalize M.up A B = b at *
      generalize M.bOk A B k = q at *
      cases q
      · simp only [Bool.true_and, Bool.and_true, Bool.false_and, Bool.and_false, M.pick_t, M.pick_f] at P ⊢
        have P := Lib.hid P
        go_enter Tryz.func17, Tryz.ntmps17
        go_wp2_with (first | (go_at_call 25; (with_reducible refine (PT.out _).mono ?_); rintro e w1 ⟨rfl, hb1⟩; (have bx1 := bx.keep hb1); (have c0 := bx1.c0); (have c1 := bx1.c1); (have B1 : Below w.heap.size w w1 := (by repeat (first | exact Below.refl _ _ | refine below_alloc ?_ _ | refine below_step ?_ (by assumption) | refine Below.drew ?_ | refine Below.setCell ?_ (by first | exact Nat.le_refl _ | exact Nat.le_add_right _ _ | (simp <;> omega)) _ | refine below_drewN ?_ _)))) | (go_at_call 42; (with_reducible refine (P.out _).mono ?_); rintro e w2 ⟨rfl, hb2⟩; (have B2 := B1.trans (hb2.mono B1.size))))
        exact bodyPost_ret (v := .tuple #[.int .i64 0, .int .i64 0, .bool false]) (by simp [results, Tryz.results17, go_sem, *]) rfl (⟨rfl, B2⟩)
      · simp only [Bool.true_and, Bool.and_true, Bool.false_and, Bool.and_false, M.pick_t, M.pick_f] at P ⊢
        have P := Lib.hid P
        go_enter Tryz.func17, Tryz.ntmps17
        go_wp2_with (first | (go_at_call 25; (with_reducible refine (PT.out _).mono ?_); rintro e w1 ⟨rfl, hb1⟩; (have bx1 := bx.keep hb1); (have c0 := bx1.c0); (have c1 := bx1.c1); (have B1 : Below w.heap.size w w1 := (by repeat (first | exact Below.refl _ _ | refine below_alloc ?_ _ | refine below_step ?_ (by assumption) | refine Below.drew ?_ | refine Below.setCell ?_ (by first | exact Nat.le_refl _ | exact Nat.le_add_right _ _ | (simp <;> omega)) _ | refine below_drewN ?_ _)))) | (go_at_call 42; (with_reducible refine (P.out _).mono ?_); rintro e w2 ⟨rfl, hb2⟩; (have B2 := B1.trans (hb2.mono B1.size))))
        exact bodyPost_ret (v := .tuple #[.int .i64 a, .int .i64 b, .bool true]) (by simp [results, Tryz.results17, go_sem, *]) rfl (⟨rfl, B2⟩)
set_option maxRecDepth 100000 in
set_option maxHeartbeats 1000000 in
theorem implIsRankKnown_c (A B n : Int) (w : World) :
    Calls Tryz.prog 22 #[.agg #[.int .i64 A, .int .i64 B], .int .i64 n] w fun e w' => e = .returned (.tuple #[.bool (M.rb A B n && M.eqb (M.low A B n.toNat) (M.up A B)), .bool (M.rb A B n)]) ∧ Below w.heap.size w w' := by
  have PT := fun W => isTwoCurve_c A B W
  unfold M.rb
  have bx := Box.new w A B 26
  cases h1 : M.tcb A B
  · simp only [h1, Bool.true_and, Bool.and_true, Bool.false_and, Bool.and_false, M.pick_t, M.pick_f] at PT ⊢
    have PT := Lib.hid PT
    go_enter Tryz.func22, Tryz.ntmps22
    go_wp2_with (first | (go_at_call 29; (with_reducible refine (PT.out _).mono ?_); rintro e w1 ⟨rfl, hb1⟩; (have bx1 := bx.keep hb1); (have c0 := bx1.c0); (have c1 := bx1.c1); (have B1 : Below w.heap.size w w1 := (by repeat (first | exact Below.refl _ _ | refine below_alloc ?_ _ | refine below_step ?_ (by assumption) | refine Below.drew ?_ | refine Below.setCell ?_ (by first | exact Nat.le_refl _ | exact Nat.le_add_right _ _ | (simp <;> omega)) _ | refine below_drewN ?_ _)))) | (go_at_call 30; refine (inside_c _ _ _ _).mono ?_; rintro e w' ⟨rfl, rfl⟩))
    exact bodyPost_ret (v := .tuple #[.bool false, .bool false]) (by simp [results, Tryz.results22, go_sem, *]) rfl (⟨rfl, B1⟩)
  · skip
    cases h2 : M.ins n 1 60
    · simp only [h1, h2, Bool.true_and, Bool.and_true, Bool.false_and, Bool.and_false, M.pick_t, M.pick_f] at PT ⊢
      have PT := Lib.hid PT
      go_enter Tryz.func22, Tryz.ntmps22
      go_wp2_with (first | (go_at_call 29; (with_reducible refine (PT.out _).mono ?_); rintro e w1 ⟨rfl, hb1⟩; (have bx1 := bx.keep hb1); (have c0 := bx1.c0); (have c1 := bx1.c1); (have B1 : Below w.heap.size w w1 := (by repeat (first | exact Below.refl _ _ | refine below_alloc ?_ _ | refine below_step ?_ (by assumption) | refine Below.drew ?_ | refine Below.setCell ?_ (by first | exact Nat.le_refl _ | exact Nat.le_add_right _ _ | (simp <;> omega)) _ | refine below_drewN ?_ _)))) | (go_at_call 30; refine (inside_c _ _ _ _).mono ?_; rintro e w' ⟨rfl, rfl⟩))
      exact bodyPost_ret (v := .tuple #[.bool false, .bool false]) (by simp [results, Tryz.results22, go_sem, *]) rfl (⟨rfl, B1⟩)
    · skip
      have ht := M.tcb_t h1
      have hk := M.ins_t h2
      simp only [h1, h2, Bool.true_and, Bool.and_true, Bool.false_and, Bool.and_false, M.pick_t, M.pick_f] at PT ⊢
      have PT := Lib.hid PT
      obtain ⟨k, rfl⟩ : ∃ k : Nat, n = k := ⟨n.toNat, by omega⟩
      have P := fun W => rankBounds_c A B k W ht (by omega)
      simp only [Bool.true_and, Bool.and_true, Bool.false_and, Bool.and_false, M.pick_t, M.pick_f, Int.toNat_natCast]
      clear ht
      generalize M.low A B k = a at *
      generalize M.up A B = b at *
      generalize M.bOk A B k = q at *
      cases q
      · simp only [Bool.true_and, Bool.and_true, Bool.false_and, Bool.and_false, M.pick_t, M.pick_f] at P ⊢
        have P := Lib.hid P
        go_enter Tryz.func22, Tryz.ntmps22
        go_wp2_with (first | (go_at_call 29; (with_reducible refine (PT.out _).mono ?_); rintro e w1 ⟨rfl, hb1⟩; (have bx1 := bx.keep hb1); (have c0 := bx1.c0); (have c1 := bx1.c1); (have B1 : Below w.heap.size w w1 := (by repeat (first | exact Below.refl _ _ | refine below_alloc ?_ _ | refine below_step ?_ (by assumption) | refine Below.drew ?_ | refine Below.setCell ?_ (by first | exact Nat.le_refl _ | exact Nat.le_add_right _ _ | (simp <;> omega)) _ | refine below_drewN ?_ _)))) | (go_at_call 30; refine (inside_c _ _ _ _).mono ?_; rintro e w' ⟨rfl, rfl⟩) | (go_at_call 43; (with_reducible refine (P.out _).mono ?_); rintro e w2 ⟨rfl, hb2⟩; (have B2 := B1.trans (hb2.mono B1.size))))
        exact bodyPost_ret (v := .tuple #[.bool false, .bool false]) (by simp [results, Tryz.results22, go_sem, *]) rfl (⟨rfl, B2⟩)
      · simp only [Bool.true_and, Bool.and_true, Bool.false_and, Bool.and_false, M.pick_t, M.pick_f] at P ⊢
        have P := Lib.hid P
        by_cases hab : a = b
        · subst hab
          rw [show M.eqb a a = true from decide_eq_true rfl]
          go_enter Tryz.func22, Tryz.ntmps22
          go_wp2_with (first | (go_at_call 29; (with_reducible refine (PT.out _).mono ?_); rintro e w1 ⟨rfl, hb1⟩; (have bx1 := bx.keep hb1); (have c0 := bx1.c0); (have c1 := bx1.c1); (have B1 : Below w.heap.size w w1 := (by repeat (first | exact Below.refl _ _ | refine below_alloc ?_ _ | refine below_step ?_ (by assumption) | refine Below.drew ?_ | refine Below.setCell ?_ (by first | exact Nat.le_refl _ | exact Nat.le_add_right _ _ | (simp <;> omega)) _ | refine below_drewN ?_ _)))) | (go_at_call 30; refine (inside_c _ _ _ _).mono ?_; rintro e w' ⟨rfl, rfl⟩) | (go_at_call 43; (with_reducible refine (P.out _).mono ?_); rintro e w2 ⟨rfl, hb2⟩; (have B2 := B1.trans (hb2.mono B1.size))))
          exact bodyPost_ret (v := .tuple #[.bool true, .bool true]) (by simp [results, Tryz.results22, go_sem, *]) rfl (⟨rfl, B2⟩)
        · rw [show M.eqb a b = false from decide_eq_false hab]
          go_enter Tryz.func22, Tryz.ntmps22
          go_wp2_with (first | (go_at_call 29; (with_reducible refine (PT.out _).mono ?_); rintro e w1 ⟨rfl, hb1⟩; (have bx1 := bx.keep hb1); (have c0 := bx1.c0); (have c1 := bx1.c1); (have B1 : Below w.heap.size w w1 := (by repeat (first | exact Below.refl _ _ | refine below_alloc ?_ _ | refine below_step ?_ (by assumption) | refine Below.drew ?_ | refine Below.setCell ?_ (by first | exact Nat.le_refl _ | exact Nat.le_add_right _ _ | (simp <;> omega)) _ | refine below_drewN ?_ _)))) | (go_at_call 30; refine (inside_c _ _ _ _).mono ?_; rintro e w' ⟨rfl, rfl⟩) | (go_at_call 43; (with_reducible refine (P.out _).mono ?_); rintro e w2 ⟨rfl, hb2⟩; (have B2 := B1.trans (hb2.mono B1.size))))
          exact bodyPost_ret (v := .tuple #[.bool false, .bool true]) (by simp [results, Tryz.results22, go_sem, *]) rfl (⟨rfl, B2⟩)
set_option maxRecDepth 100000 in
set_option maxHeartbeats 1000000 in
theorem specIsRankKnown_c (A B n : Int) (w : World) :
    Calls Tryz.prog 21 #[.agg #[.int .i64 A, .int .i64 B], .int .i64 n] w fun e w' => e = .returned (.tuple #[.bool (M.rb A B n && M.eqb (M.low A B n.toNat) (M.up A B)), .bool (M.rb A B n)]) ∧ Below w.heap.size w w' := by
  have PT := fun W => rkAsked_c A B n W
  unfold M.rb
  have bx := Box.new w A B 26
  cases h1 : M.tcb A B
  · simp only [h1, Bool.true_and, Bool.and_true, Bool.false_and, Bool.and_false, M.pick_t, M.pick_f] at PT ⊢
    have PT := Lib.hid PT
    go_enter Tryz.func21, Tryz.ntmps21
    go_wp2_with (first | (go_at_call 25; (with_reducible refine (PT.out _).mono ?_); rintro e w1 ⟨rfl, hb1⟩; (have bx1 := bx.keep hb1); (have c0 := bx1.c0); (have c1 := bx1.c1); (have B1 : Below w.heap.size w w1 := (by repeat (first | exact Below.refl _ _ | refine below_alloc ?_ _ | refine below_step ?_ (by assumption) | refine Below.drew ?_ | refine Below.setCell ?_ (by first | exact Nat.le_refl _ | exact Nat.le_add_right _ _ | (simp <;> omega)) _ | refine below_drewN ?_ _)))))
    exact bodyPost_ret (v := .tuple #[.bool false, .bool false]) (by simp [results, Tryz.results21, go_sem, *]) rfl (⟨rfl, B1⟩)
  · skip
    cases h2 : M.ins n 1 60
    · simp only [h1, h2, Bool.true_and, Bool.and_true, Bool.false_and, Bool.and_false, M.pick_t, M.pick_f] at PT ⊢
      have PT := Lib.hid PT
      go_enter Tryz.func21, Tryz.ntmps21
      go_wp2_with (first | (go_at_call 25; (with_reducible refine (PT.out _).mono ?_); rintro e w1 ⟨rfl, hb1⟩; (have bx1 := bx.keep hb1); (have c0 := bx1.c0); (have c1 := bx1.c1); (have B1 : Below w.heap.size w w1 := (by repeat (first | exact Below.refl _ _ | refine below_alloc ?_ _ | refine below_step ?_ (by assumption) | refine Below.drew ?_ | refine Below.setCell ?_ (by first | exact Nat.le_refl _ | exact Nat.le_add_right _ _ | (simp <;> omega)) _ | refine below_drewN ?_ _)))))
      exact bodyPost_ret (v := .tuple #[.bool false, .bool false]) (by simp [results, Tryz.results21, go_sem, *]) rfl (⟨rfl, B1⟩)
    · skip
      have ht := M.tcb_t h1
      have hk := M.ins_t h2
      simp only [h1, h2, Bool.true_and, Bool.and_true, Bool.false_and, Bool.and_false, M.pick_t, M.pick_f] at PT ⊢
      have PT := Lib.hid PT
      obtain ⟨k, rfl⟩ : ∃ k : Nat, n = k := ⟨n.toNat, by omega⟩
      have P := fun W => rkBounds_c A B k W ht (by omega)
      simp only [Bool.true_and, Bool.and_true, Bool.false_and, Bool.and_false, M.pick_t, M.pick_f, Int.toNat_natCast]
      clear ht
      generalize M.low A B k = a at *
      generalize M.up A B = b at *
      generalize M.bOk A B k = q at *
      cases q
      · simp only [Bool.true_and, Bool.and_true, Bool.false_and, Bool.and_false, M.pick_t, M.pick_f] at P ⊢
        have P := Lib.hid P
        go_enter Tryz.func21, Tryz.ntmps21
        go_wp2_with (first | (go_at_call 25; (with_reducible refine (PT.out _).mono ?_); rintro e w1 ⟨rfl, hb1⟩; (have bx1 := bx.keep hb1); (have c0 := bx1.c0); (have c1 := bx1.c1); (have B1 : Below w.heap.size w w1 := (by repeat (first | exact Below.refl _ _ | refine below_alloc ?_ _ | refine below_step ?_ (by assumption) | refine Below.drew ?_ | refine Below.setCell ?_ (by first | exact Nat.le_refl _ | exact Nat.le_add_right _ _ | (simp <;> omega)) _ | refine below_drewN ?_ _)))) | (go_at_call 42; (with_reducible refine (P.out _).mono ?_); rintro e w2 ⟨rfl, hb2⟩; (have B2 := B1.trans (hb2.mono B1.size))))
        exact bodyPost_ret (v := .tuple #[.bool false, .bool false]) (by simp [results, Tryz.results21, go_sem, *]) rfl (⟨rfl, B2⟩)
      · simp only [Bool.true_and, Bool.and_true, Bool.false_and, Bool.and_false, M.pick_t, M.pick_f] at P ⊢
        have P := Lib.hid P
        by_cases hab : a = b
        · subst hab
          rw [show M.eqb a a = true from decide_eq_true rfl]
          go_enter Tryz.func21, Tryz.ntmps21
          go_wp2_with (first | (go_at_call 25; (with_reducible refine (PT.out _).mono ?_); rintro e w1 ⟨rfl, hb1⟩; (have bx1 := bx.keep hb1); (have c0 := bx1.c0); (have c1 := bx1.c1); (have B1 : Below w.heap.size w w1 := (by repeat (first | exact Below.refl _ _ | refine below_alloc ?_ _ | refine below_step ?_ (by assumption) | refine Below.drew ?_ | refine Below.setCell ?_ (by first | exact Nat.le_refl _ | exact Nat.le_add_right _ _ | (simp <;> omega)) _ | refine below_drewN ?_ _)))) | (go_at_call 42; (with_reducible refine (P.out _).mono ?_); rintro e w2 ⟨rfl, hb2⟩; (have B2 := B1.trans (hb2.mono B1.size))))
          exact bodyPost_ret (v := .tuple #[.bool true, .bool true]) (by simp [results, Tryz.results21, go_sem, *]) rfl (⟨rfl, B2⟩)
        · rw [show M.eqb a b = false from decide_eq_false hab]
          go_enter Tryz.func21, Tryz.ntmps21
          go_wp2_with (first | (go_at_call 25; (with_reducible refine (PT.out _).mono ?_); rintro e w1 ⟨rfl, hb1⟩; (have bx1 := bx.keep hb1); (have c0 := bx1.c0); (have c1 := bx1.c1); (have B1 : Below w.heap.size w w1 := (by repeat (first | exact Below.refl _ _ | refine below_alloc ?_ _ | refine below_step ?_ (by assumption) | refine Below.drew ?_ | refine Below.setCell ?_ (by first | exact Nat.le_refl _ | exact Nat.le_add_right _ _ | (simp <;> omega)) _ | refine below_drewN ?_ _)))) | (go_at_call 42; (with_reducible refine (P.out _).mono ?_); rintro e w2 ⟨rfl, hb2⟩; (have B2 := B1.trans (hb2.mono B1.size))))
          exact bodyPost_ret (v := .tuple #[.bool false, .bool true]) (by simp [results, Tryz.results21, go_sem, *]) rfl (⟨rfl, B2⟩)
set_option maxRecDepth 100000 in
set_option maxHeartbeats 1000000 in
theorem implClaimHolds_c (A B lo hi n : Int) (w : World) :
    Calls Tryz.prog 20 #[.agg #[.int .i64 A, .int .i64 B], .int .i64 lo, .int .i64 hi, .int .i64 n] w fun e w' => e = .returned (.tuple #[.bool (M.cl A B lo hi n && M.clv A B lo hi n), .bool (M.cl A B lo hi n)]) ∧ Below w.heap.size w w' := by
  have PT := fun W => isTwoCurve_c A B W
  unfold M.cl M.clv
  have bx := Box.new w A B 26
  cases h1 : M.tcb A B
  · simp only [h1, Bool.true_and, Bool.and_true, Bool.false_and, Bool.and_false, M.pick_t, M.pick_f] at PT ⊢
    have PT := Lib.hid PT
    go_enter Tryz.func20, Tryz.ntmps20
    go_wp2_with (first | (go_at_call 29; (with_reducible refine (PT.out _).mono ?_); rintro e w1 ⟨rfl, hb1⟩; (have bx1 := bx.keep hb1); (have c0 := bx1.c0); (have c1 := bx1.c1); (have B1 : Below w.heap.size w w1 := (by repeat (first | exact Below.refl _ _ | refine below_alloc ?_ _ | refine below_step ?_ (by assumption) | refine Below.drew ?_ | refine Below.setCell ?_ (by first | exact Nat.le_refl _ | exact Nat.le_add_right _ _ | (simp <;> omega)) _ | refine below_drewN ?_ _)))) | (go_at_call 30; refine (inside_c _ _ _ _).mono ?_; rintro e w' ⟨rfl, rfl⟩))
    exact bodyPost_ret (v := .tuple #[.bool false, .bool false]) (by simp [results, Tryz.results20, go_sem, *]) rfl (⟨rfl, B1⟩)
  · skip
    cases h2 : M.ins n 1 60
    · simp only [h1, h2, Bool.true_and, Bool.and_true, Bool.false_and, Bool.and_false, M.pick_t, M.pick_f] at PT ⊢
      have PT := Lib.hid PT
      go_enter Tryz.func20, Tryz.ntmps20
      go_wp2_with (first | (go_at_call 29; (with_reducible refine (PT.out _).mono ?_); rintro e w1 ⟨rfl, hb1⟩; (have bx1 := bx.keep hb1); (have c0 := bx1.c0); (have c1 := bx1.c1); (have B1 : Below w.heap.size w w1 := (by repeat (first | exact Below.refl _ _ | refine below_alloc ?_ _ | refine below_step ?_ (by assumption) | refine Below.drew ?_ | refine Below.setCell ?_ (by first | exact Nat.le_refl _ | exact Nat.le_add_right _ _ | (simp <;> omega)) _ | refine below_drewN ?_ _)))) | (go_at_call 30; refine (inside_c _ _ _ _).mono ?_; rintro e w' ⟨rfl, rfl⟩))
      exact bodyPost_ret (v := .tuple #[.bool false, .bool false]) (by simp [results, Tryz.results20, go_sem, *]) rfl (⟨rfl, B1⟩)
    · skip
      have ht := M.tcb_t h1
      have hk := M.ins_t h2
      simp only [h1, h2, Bool.true_and, Bool.and_true, Bool.false_and, Bool.and_false, M.pick_t, M.pick_f] at PT ⊢
      have PT := Lib.hid PT
      cases h3 : M.ins lo 0 20
      · simp only [h1, h2, h3, Bool.true_and, Bool.and_true, Bool.false_and, Bool.and_false, M.pick_t, M.pick_f]
        go_enter Tryz.func20, Tryz.ntmps20
        go_wp2_with (first | (go_at_call 29; (with_reducible refine (PT.out _).mono ?_); rintro e w1 ⟨rfl, hb1⟩; (have bx1 := bx.keep hb1); (have c0 := bx1.c0); (have c1 := bx1.c1); (have B1 : Below w.heap.size w w1 := (by repeat (first | exact Below.refl _ _ | refine below_alloc ?_ _ | refine below_step ?_ (by assumption) | refine Below.drew ?_ | refine Below.setCell ?_ (by first | exact Nat.le_refl _ | exact Nat.le_add_right _ _ | (simp <;> omega)) _ | refine below_drewN ?_ _)))) | (go_at_call 30; refine (inside_c _ _ _ _).mono ?_; rintro e w' ⟨rfl, rfl⟩))
        exact bodyPost_ret (v := .tuple #[.bool false, .bool false]) (by simp [results, Tryz.results20, go_sem, *]) rfl (⟨rfl, B1⟩)
      · skip
        cases h4 : M.ins hi 0 20
        · simp only [h1, h2, h3, h4, Bool.true_and, Bool.and_true, Bool.false_and, Bool.and_false, M.pick_t, M.pick_f]
          go_enter Tryz.func20, Tryz.ntmps20
          go_wp2_with (first | (go_at_call 29; (with_reducible refine (PT.out _).mono ?_); rintro e w1 ⟨rfl, hb1⟩; (have bx1 := bx.keep hb1); (have c0 := bx1.c0); (have c1 := bx1.c1); (have B1 : Below w.heap.size w w1 := (by repeat (first | exact Below.refl _ _ | refine below_alloc ?_ _ | refine below_step ?_ (by assumption) | refine Below.drew ?_ | refine Below.setCell ?_ (by first | exact Nat.le_refl _ | exact Nat.le_add_right _ _ | (simp <;> omega)) _ | refine below_drewN ?_ _)))) | (go_at_call 30; refine (inside_c _ _ _ _).mono ?_; rintro e w' ⟨rfl, rfl⟩))
          exact bodyPost_ret (v := .tuple #[.bool false, .bool false]) (by simp [results, Tryz.results20, go_sem, *]) rfl (⟨rfl, B1⟩)
        · skip
          obtain ⟨k, rfl⟩ : ∃ k : Nat, n = k := ⟨n.toNat, by omega⟩
          have P := fun W => rankBounds_c A B k W ht (by omega)
          simp only [h3, h4, Bool.true_and, Bool.and_true, Bool.false_and, Bool.and_false, M.pick_t, M.pick_f, Int.toNat_natCast]
          clear ht
          generalize M.low A B k = a at *
          generalize M.up A B = b at *
          generalize M.bOk A B k = q at *
          cases q
          · simp only [Bool.true_and, Bool.and_true, Bool.false_and, Bool.and_false, M.pick_t, M.pick_f] at P ⊢
            have P := Lib.hid P
            go_enter Tryz.func20, Tryz.ntmps20
            go_wp2_with (first | (go_at_call 29; (with_reducible refine (PT.out _).mono ?_); rintro e w1 ⟨rfl, hb1⟩; (have bx1 := bx.keep hb1); (have c0 := bx1.c0); (have c1 := bx1.c1); (have B1 : Below w.heap.size w w1 := (by repeat (first | exact Below.refl _ _ | refine below_alloc ?_ _ | refine below_step ?_ (by assumption) | refine Below.drew ?_ | refine Below.setCell ?_ (by first | exact Nat.le_refl _ | exact Nat.le_add_right _ _ | (simp <;> omega)) _ | refine below_drewN ?_ _)))) | (go_at_call 30; refine (inside_c _ _ _ _).mono ?_; rintro e w' ⟨rfl, rfl⟩) | (go_at_call 43; (with_reducible refine (P.out _).mono ?_); rintro e w2 ⟨rfl, hb2⟩; (have B2 := B1.trans (hb2.mono B1.size))))
            exact bodyPost_ret (v := .tuple #[.bool false, .bool false]) (by simp [results, Tryz.results20, go_sem, *]) rfl (⟨rfl, B2⟩)
          · simp only [Bool.true_and, Bool.and_true, Bool.false_and, Bool.and_false, M.pick_t, M.pick_f] at P ⊢
            have P := Lib.hid P
            by_cases h5 : lo ≤ a
            · rw [show M.leb lo a = true from decide_eq_true h5, Bool.true_and]
              by_cases h6 : b ≤ hi
              · rw [show M.leb b hi = true from decide_eq_true h6]
                go_enter Tryz.func20, Tryz.ntmps20
                go_wp2_with (first | (go_at_call 29; (with_reducible refine (PT.out _).mono ?_); rintro e w1 ⟨rfl, hb1⟩; (have bx1 := bx.keep hb1); (have c0 := bx1.c0); (have c1 := bx1.c1); (have B1 : Below w.heap.size w w1 := (by repeat (first | exact Below.refl _ _ | refine below_alloc ?_ _ | refine below_step ?_ (by assumption) | refine Below.drew ?_ | refine Below.setCell ?_ (by first | exact Nat.le_refl _ | exact Nat.le_add_right _ _ | (simp <;> omega)) _ | refine below_drewN ?_ _)))) | (go_at_call 30; refine (inside_c _ _ _ _).mono ?_; rintro e w' ⟨rfl, rfl⟩) | (go_at_call 43; (with_reducible refine (P.out _).mono ?_); rintro e w2 ⟨rfl, hb2⟩; (have B2 := B1.trans (hb2.mono B1.size))))
                exact bodyPost_ret (v := .tuple #[.bool true, .bool true]) (by simp [results, Tryz.results20, go_sem, *]) rfl (⟨rfl, B2⟩)
              · rw [show M.leb b hi = false from decide_eq_false h6]
                go_enter Tryz.func20, Tryz.ntmps20
                go_wp2_with (first | (go_at_call 29; (with_reducible refine (PT.out _).mono ?_); rintro e w1 ⟨rfl, hb1⟩; (have bx1 := bx.keep hb1); (have c0 := bx1.c0); (have c1 := bx1.c1); (have B1 : Below w.heap.size w w1 := (by repeat (first | exact Below.refl _ _ | refine below_alloc ?_ _ | refine below_step ?_ (by assumption) | refine Below.drew ?_ | refine Below.setCell ?_ (by first | exact Nat.le_refl _ | exact Nat.le_add_right _ _ | (simp <;> omega)) _ | refine below_drewN ?_ _)))) | (go_at_call 30; refine (inside_c _ _ _ _).mono ?_; rintro e w' ⟨rfl, rfl⟩) | (go_at_call 43; (with_reducible refine (P.out _).mono ?_); rintro e w2 ⟨rfl, hb2⟩; (have B2 := B1.trans (hb2.mono B1.size))))
                exact bodyPost_ret (v := .tuple #[.bool false, .bool true]) (by simp [results, Tryz.results20, go_sem, *]) rfl (⟨rfl, B2⟩)
            · rw [show M.leb lo a = false from decide_eq_false h5, Bool.false_and]
              go_enter Tryz.func20, Tryz.ntmps20
              go_wp2_with (first | (go_at_call 29; (with_reducible refine (PT.out _).mono ?_); rintro e w1 ⟨rfl, hb1⟩; (have bx1 := bx.keep hb1); (have c0 := bx1.c0); (have c1 := bx1.c1); (have B1 : Below w.heap.size w w1 := (by repeat (first | exact Below.refl _ _ | refine below_alloc ?_ _ | refine below_step ?_ (by assumption) | refine Below.drew ?_ | refine Below.setCell ?_ (by first | exact Nat.le_refl _ | exact Nat.le_add_right _ _ | (simp <;> omega)) _ | refine below_drewN ?_ _)))) | (go_at_call 30; refine (inside_c _ _ _ _).mono ?_; rintro e w' ⟨rfl, rfl⟩) | (go_at_call 43; (with_reducible refine (P.out _).mono ?_); rintro e w2 ⟨rfl, hb2⟩; (have B2 := B1.trans (hb2.mono B1.size))))
              exact bodyPost_ret (v := .tuple #[.bool false, .bool true]) (by simp [results, Tryz.results20, go_sem, *]) rfl (⟨rfl, B2⟩)
set_option maxRecDepth 100000 in
set_option maxHeartbeats 1000000 in
theorem specClaimHolds_c (A B lo hi n : Int) (w : World) :
    Calls Tryz.prog 19 #[.agg #[.int .i64 A, .int .i64 B], .int .i64 lo, .int .i64 hi, .int .i64 n] w fun e w' => e = .returned (.tuple #[.bool (M.cl A B lo hi n && M.clv A B lo hi n), .bool (M.cl A B lo hi n)]) ∧ Below w.heap.size w w' := by
  have PT := fun W => rkAsked_c A B n W
  unfold M.cl M.clv
  have bx := Box.new w A B 26
  cases h1 : M.tcb A B
  · simp only [h1, Bool.true_and, Bool.and_true, Bool.false_and, Bool.and_false, M.pick_t, M.pick_f] at PT ⊢
    have PT := Lib.hid PT
    go_enter Tryz.func19, Tryz.ntmps19
    go_wp2_with (first | (go_at_call 25; (with_reducible refine (PT.out _).mono ?_); rintro e w1 ⟨rfl, hb1⟩; (have bx1 := bx.keep hb1); (have c0 := bx1.c0); (have c1 := bx1.c1); (have B1 : Below w.heap.size w w1 := (by repeat (first | exact Below.refl _ _ | refine below_alloc ?_ _ | refine below_step ?_ (by assumption) | refine Below.drew ?_ | refine Below.setCell ?_ (by first | exact Nat.le_refl _ | exact Nat.le_add_right _ _ | (simp <;> omega)) _ | refine below_drewN ?_ _)))) | (go_at_call 44; refine (l1In_c _ _ _ _).mono ?_; rintro e w' ⟨rfl, rfl⟩))
    exact bodyPost_ret (v := .tuple #[.bool false, .bool false]) (by simp [results, Tryz.results19, go_sem, *]) rfl (⟨rfl, B1⟩)
  · skip
    cases h2 : M.ins n 1 60
    · simp only [h1, h2, Bool.true_and, Bool.and_true, Bool.false_and, Bool.and_false, M.pick_t, M.pick_f] at PT ⊢
      have PT := Lib.hid PT
      go_enter Tryz.func19, Tryz.ntmps19
      go_wp2_with (first | (go_at_call 25; (with_reducible refine (PT.out _).mono ?_); rintro e w1 ⟨rfl, hb1⟩; (have bx1 := bx.keep hb1); (have c0 := bx1.c0); (have c1 := bx1.c1); (have B1 : Below w.heap.size w w1 := (by repeat (first | exact Below.refl _ _ | refine below_alloc ?_ _ | refine below_step ?_ (by assumption) | refine Below.drew ?_ | refine Below.setCell ?_ (by first | exact Nat.le_refl _ | exact Nat.le_add_right _ _ | (simp <;> omega)) _ | refine below_drewN ?_ _)))) | (go_at_call 44; refine (l1In_c _ _ _ _).mono ?_; rintro e w' ⟨rfl, rfl⟩))
      exact bodyPost_ret (v := .tuple #[.bool false, .bool false]) (by simp [results, Tryz.results19, go_sem, *]) rfl (⟨rfl, B1⟩)
    · skip
      have ht := M.tcb_t h1
      have hk := M.ins_t h2
      simp only [h1, h2, Bool.true_and, Bool.and_true, Bool.false_and, Bool.and_false, M.pick_t, M.pick_f] at PT ⊢
      have PT := Lib.hid PT
      cases h3 : M.ins lo 0 20
      · simp only [h1, h2, h3, Bool.true_and, Bool.and_true, Bool.false_and, Bool.and_false, M.pick_t, M.pick_f]
        go_enter Tryz.func19, Tryz.ntmps19
        go_wp2_with (first | (go_at_call 25; (with_reducible refine (PT.out _).mono ?_); rintro e w1 ⟨rfl, hb1⟩; (have bx1 := bx.keep hb1); (have c0 := bx1.c0); (have c1 := bx1.c1); (have B1 : Below w.heap.size w w1 := (by repeat (first | exact Below.refl _ _ | refine below_alloc ?_ _ | refine below_step ?_ (by assumption) | refine Below.drew ?_ | refine Below.setCell ?_ (by first | exact Nat.le_refl _ | exact Nat.le_add_right _ _ | (simp <;> omega)) _ | refine below_drewN ?_ _)))) | (go_at_call 44; refine (l1In_c _ _ _ _).mono ?_; rintro e w' ⟨rfl, rfl⟩))
        exact bodyPost_ret (v := .tuple #[.bool false, .bool false]) (by simp [results, Tryz.results19, go_sem, *]) rfl (⟨rfl, B1⟩)
      · skip
        cases h4 : M.ins hi 0 20
        · simp only [h1, h2, h3, h4, Bool.true_and, Bool.and_true, Bool.false_and, Bool.and_false, M.pick_t, M.pick_f]
          go_enter Tryz.func19, Tryz.ntmps19
          go_wp2_with (first | (go_at_call 25; (with_reducible refine (PT.out _).mono ?_); rintro e w1 ⟨rfl, hb1⟩; (have bx1 := bx.keep hb1); (have c0 := bx1.c0); (have c1 := bx1.c1); (have B1 : Below w.heap.size w w1 := (by repeat (first | exact Below.refl _ _ | refine below_alloc ?_ _ | refine below_step ?_ (by assumption) | refine Below.drew ?_ | refine Below.setCell ?_ (by first | exact Nat.le_refl _ | exact Nat.le_add_right _ _ | (simp <;> omega)) _ | refine below_drewN ?_ _)))) | (go_at_call 44; refine (l1In_c _ _ _ _).mono ?_; rintro e w' ⟨rfl, rfl⟩))
          exact bodyPost_ret (v := .tuple #[.bool false, .bool false]) (by simp [results, Tryz.results19, go_sem, *]) rfl (⟨rfl, B1⟩)
        · skip
          obtain ⟨k, rfl⟩ : ∃ k : Nat, n = k := ⟨n.toNat, by omega⟩
          have P := fun W => rkBounds_c A B k W ht (by omega)
          simp only [h3, h4, Bool.true_and, Bool.and_true, Bool.false_and, Bool.and_false, M.pick_t, M.pick_f, Int.toNat_natCast]
          clear ht
          generalize M.low A B k = a at *
          generalize M.up A B = b at *
          generalize M.bOk A B k = q at *
          cases q
          · simp only [Bool.true_and, Bool.and_true, Bool.false_and, Bool.and_false, M.pick_t, M.pick_f] at P ⊢
            have P := Lib.hid P
            go_enter Tryz.func19, Tryz.ntmps19
            go_wp2_with (first | (go_at_call 25; (with_reducible refine (PT.out _).mono ?_); rintro e w1 ⟨rfl, hb1⟩; (have bx1 := bx.keep hb1); (have c0 := bx1.c0); (have c1 := bx1.c1); (have B1 : Below w.heap.size w w1 := (by repeat (first | exact Below.refl _ _ | refine below_alloc ?_ _ | refine below_step ?_ (by assumption) | refine Below.drew ?_ | refine Below.setCell ?_ (by first | exact Nat.le_refl _ | exact Nat.le_add_right _ _ | (simp <;> omega)) _ | refine below_drewN ?_ _)))) | (go_at_call 44; refine (l1In_c _ _ _ _).mono ?_; rintro e w' ⟨rfl, rfl⟩) | (go_at_call 42; (with_reducible refine (P.out _).mono ?_); rintro e w2 ⟨rfl, hb2⟩; (have B2 := B1.trans (hb2.mono B1.size))))
            exact bodyPost_ret (v := .tuple #[.bool false, .bool false]) (by simp [results, Tryz.results19, go_sem, *]) rfl (⟨rfl, B2⟩)
          · simp only [Bool.true_and, Bool.and_true, Bool.false_and, Bool.and_false, M.pick_t, M.pick_f] at P ⊢
            have P := Lib.hid P
            by_cases h5 : lo ≤ a
            · rw [show M.leb lo a = true from decide_eq_true h5, Bool.true_and]
              by_cases h6 : b ≤ hi
              · rw [show M.leb b hi = true from decide_eq_true h6]
                go_enter Tryz.func19, Tryz.ntmps19
                go_wp2_with (first | (go_at_call 25; (with_reducible refine (PT.out _).mono ?_); rintro e w1 ⟨rfl, hb1⟩; (have bx1 := bx.keep hb1); (have c0 := bx1.c0); (have c1 := bx1.c1); (have B1 : Below w.heap.size w w1 := (by repeat (first | exact Below.refl _ _ | refine below_alloc ?_ _ | refine below_step ?_ (by assumption) | refine Below.drew ?_ | refine Below.setCell ?_ (by first | exact Nat.le_refl _ | exact Nat.le_add_right _ _ | (simp <;> omega)) _ | refine below_drewN ?_ _)))) | (go_at_call 44; refine (l1In_c _ _ _ _).mono ?_; rintro e w' ⟨rfl, rfl⟩) | (go_at_call 42; (with_reducible refine (P.out _).mono ?_); rintro e w2 ⟨rfl, hb2⟩; (have B2 := B1.trans (hb2.mono B1.size))))
                exact bodyPost_ret (v := .tuple #[.bool true, .bool true]) (by simp [results, Tryz.results19, go_sem, *]) rfl (⟨rfl, B2⟩)
              · rw [show M.leb b hi = false from decide_eq_false h6]
                go_enter Tryz.func19, Tryz.ntmps19
                go_wp2_with (first | (go_at_call 25; (with_reducible refine (PT.out _).mono ?_); rintro e w1 ⟨rfl, hb1⟩; (have bx1 := bx.keep hb1); (have c0 := bx1.c0); (have c1 := bx1.c1); (have B1 : Below w.heap.size w w1 := (by repeat (first | exact Below.refl _ _ | refine below_alloc ?_ _ | refine below_step ?_ (by assumption) | refine Below.drew ?_ | refine Below.setCell ?_ (by first | exact Nat.le_refl _ | exact Nat.le_add_right _ _ | (simp <;> omega)) _ | refine below_drewN ?_ _)))) | (go_at_call 44; refine (l1In_c _ _ _ _).mono ?_; rintro e w' ⟨rfl, rfl⟩) | (go_at_call 42; (with_reducible refine (P.out _).mono ?_); rintro e w2 ⟨rfl, hb2⟩; (have B2 := B1.trans (hb2.mono B1.size))))
                exact bodyPost_ret (v := .tuple #[.bool false, .bool true]) (by simp [results, Tryz.results19, go_sem, *]) rfl (⟨rfl, B2⟩)
            · rw [show M.leb lo a = false from decide_eq_false h5, Bool.false_and]
              go_enter Tryz.func19, Tryz.ntmps19
              go_wp2_with (first | (go_at_call 25; (with_reducible refine (PT.out _).mono ?_); rintro e w1 ⟨rfl, hb1⟩; (have bx1 := bx.keep hb1); (have c0 := bx1.c0); (have c1 := bx1.c1); (have B1 : Below w.heap.size w w1 := (by repeat (first | exact Below.refl _ _ | refine below_alloc ?_ _ | refine below_step ?_ (by assumption) | refine Below.drew ?_ | refine Below.setCell ?_ (by first | exact Nat.le_refl _ | exact Nat.le_add_right _ _ | (simp <;> omega)) _ | refine below_drewN ?_ _)))) | (go_at_call 44; refine (l1In_c _ _ _ _).mono ?_; rintro e w' ⟨rfl, rfl⟩) | (go_at_call 42; (with_reducible refine (P.out _).mono ?_); rintro e w2 ⟨rfl, hb2⟩; (have B2 := B1.trans (hb2.mono B1.size))))
              exact bodyPost_ret (v := .tuple #[.bool false, .bool true]) (by simp [results, Tryz.results19, go_sem, *]) rfl (⟨rfl, B2⟩)
end Go.Proofs.YtmipenpeebmjkaaGreat
