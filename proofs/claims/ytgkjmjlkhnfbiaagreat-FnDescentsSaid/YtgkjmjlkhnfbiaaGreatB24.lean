/-
  Contracts: exported functions on two-curves that guard and call (printed by genr61.py).
-/
import Derived.Test.YtgkjmjlkhnfbiaaGreatB23
namespace Go.Proofs.YtgkjmjlkhnfbiaaGreat
set_option linter.unusedSimpArgs false
set_option linter.unusedVariables false
open Go.RowKit
namespace M
noncomputable def gT (A B : Int) (s : Bool) : Bool := tcb A B && s
noncomputable def gN (A B n : Int) (s : Bool) : Bool := (tcb A B && ins n 1 60) && s
/-- a list, or none -/
def optL (b : Bool) (l : List Int) : List Int := if b then l else []
end M
theorem OwnI.low {w : World} {base base' : Nat} {v : Value} {xs : List Int} (h : OwnI w base v xs) (hb : base' ≤ base) : OwnI w base' v xs :=
  ⟨h.1, h.2.imp id fun ⟨g, cap, cur, h1, h2, h3⟩ => ⟨g, cap, cur, h1, Nat.le_trans hb h2, h3⟩⟩
set_option maxRecDepth 100000 in
set_option maxHeartbeats 1000000 in
theorem implLowerRank_c (A B n : Int) (w : World) :
    Calls Tryz.prog 30 #[.agg #[.int .i64 A, .int .i64 B], .int .i64 n] w fun e w' => e = .returned (.tuple #[.int .i64 (M.pick (M.gN A B n (M.fOk A B n.toNat)) (M.low A B n.toNat)), .bool (M.gN A B n (M.fOk A B n.toNat))]) ∧ Below w.heap.size w w' := by
  have PT := fun W => isTwoCurve_c A B W
  unfold M.gN
  have bx := Box.new w A B 25
  cases h1 : M.tcb A B
  · simp only [h1, Bool.true_and, Bool.and_true, Bool.false_and, Bool.and_false, M.pick_t, M.pick_f] at PT ⊢
    have PT := Lib.hid PT
    go_enter Tryz.func30, Tryz.ntmps30
    go_wp2_with (first | (go_at_call 46; (with_reducible refine (PT.out _).mono ?_); rintro e w1 ⟨rfl, hb1⟩; (have bx1 := bx.keep hb1); (have c0 := bx1.c0); (have c1 := bx1.c1); (have B1 : Below w.heap.size w w1 := (by repeat (first | exact Below.refl _ _ | refine below_alloc ?_ _ | refine below_step ?_ (by assumption) | refine Below.drew ?_ | refine Below.setCell ?_ (by first | exact Nat.le_refl _ | exact Nat.le_add_right _ _ | (simp <;> omega)) _ | refine below_drewN ?_ _)))) | (go_at_call 61; refine (inside_c _ _ _ _).mono ?_; rintro e w' ⟨rfl, rfl⟩))
    exact bodyPost_ret (v := .tuple #[.int .i64 0, .bool false]) (by simp [results, Tryz.results30, go_sem, *]) rfl (⟨rfl, B1⟩)
  · skip
    cases h2 : M.ins n 1 60
    · simp only [h1, h2, Bool.true_and, Bool.and_true, Bool.false_and, Bool.and_false, M.pick_t, M.pick_f] at PT ⊢
      have PT := Lib.hid PT
      go_enter Tryz.func30, Tryz.ntmps30
      go_wp2_with (first | (go_at_call 46; (with_reducible refine (PT.out _).mono ?_); rintro e w1 ⟨rfl, hb1⟩; (have bx1 := bx.keep hb1); (have c0 := bx1.c0); (have c1 := bx1.c1); (have B1 : Below w.heap.size w w1 := (by repeat (first | exact Below.refl _ _ | refine below_alloc ?_ _ | refine below_step ?_ (by assumption) | refine Below.drew ?_ | refine Below.setCell ?_ (by first | exact Nat.le_refl _ | exact Nat.le_add_right _ _ | (simp <;> omega)) _ | refine below_drewN ?_ _)))) | (go_at_call 61; refine (inside_c _ _ _ _).mono ?_; rintro e w' ⟨rfl, rfl⟩))
      exact bodyPost_ret (v := .tuple #[.int .i64 0, .bool false]) (by simp [results, Tryz.results30, go_sem, *]) rfl (⟨rfl, B1⟩)
    · skip
      have ht := M.tcb_t h1
      have hk := M.ins_t h2
      simp only [h1, h2, Bool.true_and, Bool.and_true, Bool.false_and, Bool.and_false, M.pick_t, M.pick_f] at PT ⊢
      have PT := Lib.hid PT
      obtain ⟨k, rfl⟩ : ∃ k : Nat, n = k := ⟨n.toNat, by omega⟩
      have P := fun W => lowerRank_c A B k W ht (by omega)
      simp only [Int.toNat_natCast] at P ⊢
      clear ht
      generalize M.low A B k = a0 at *
      generalize M.fOk A B k = q at *
      cases q
      · simp only [Bool.true_and, Bool.and_true, Bool.false_and, Bool.and_false, M.pick_t, M.pick_f] at P ⊢
        have P := Lib.hid P
        go_enter Tryz.func30, Tryz.ntmps30
        go_wp2_with (first | (go_at_call 46; (with_reducible refine (PT.out _).mono ?_); rintro e w1 ⟨rfl, hb1⟩; (have bx1 := bx.keep hb1); (have c0 := bx1.c0); (have c1 := bx1.c1); (have B1 : Below w.heap.size w w1 := (by repeat (first | exact Below.refl _ _ | refine below_alloc ?_ _ | refine below_step ?_ (by assumption) | refine Below.drew ?_ | refine Below.setCell ?_ (by first | exact Nat.le_refl _ | exact Nat.le_add_right _ _ | (simp <;> omega)) _ | refine below_drewN ?_ _)))) | (go_at_call 61; refine (inside_c _ _ _ _).mono ?_; rintro e w' ⟨rfl, rfl⟩) | (go_at_call 81; (with_reducible refine (P.out _).mono ?_); rintro e w2 ⟨rfl, hb2⟩; (have B2 := B1.trans (hb2.mono B1.size))))
        exact bodyPost_ret (v := .tuple #[.int .i64 0, .bool false]) (by simp [results, Tryz.results30, go_sem, *]) rfl (⟨rfl, B2⟩)
      · simp only [Bool.true_and, Bool.and_true, Bool.false_and, Bool.and_false, M.pick_t, M.pick_f] at P ⊢
        have P := Lib.hid P
        go_enter Tryz.func30, Tryz.ntmps30
        go_wp2_with (first | (go_at_call 46; (with_reducible refine (PT.out _).mono ?_); rintro e w1 ⟨rfl, hb1⟩; (have bx1 := bx.keep hb1); (have c0 := bx1.c0); (have c1 := bx1.c1); (have B1 : Below w.heap.size w w1 := (by repeat (first | exact Below.refl _ _ | refine below_alloc ?_ _ | refine below_step ?_ (by assumption) | refine Below.drew ?_ | refine Below.setCell ?_ (by first | exact Nat.le_refl _ | exact Nat.le_add_right _ _ | (simp <;> omega)) _ | refine below_drewN ?_ _)))) | (go_at_call 61; refine (inside_c _ _ _ _).mono ?_; rintro e w' ⟨rfl, rfl⟩) | (go_at_call 81; (with_reducible refine (P.out _).mono ?_); rintro e w2 ⟨rfl, hb2⟩; (have B2 := B1.trans (hb2.mono B1.size))))
        exact bodyPost_ret (v := .tuple #[.int .i64 (a0), .bool true]) (by simp [results, Tryz.results30, go_sem, *]) rfl (⟨rfl, B2⟩)
set_option maxRecDepth 100000 in
set_option maxHeartbeats 1000000 in
theorem specLowerRank_c (A B n : Int) (w : World) :
    Calls Tryz.prog 31 #[.agg #[.int .i64 A, .int .i64 B], .int .i64 n] w fun e w' => e = .returned (.tuple #[.int .i64 (M.pick (M.gN A B n (M.fOk A B n.toNat)) (M.low A B n.toNat)), .bool (M.gN A B n (M.fOk A B n.toNat))]) ∧ Below w.heap.size w w' := by
  have PT := fun W => rkAsked_c A B n W
  unfold M.gN
  have bx := Box.new w A B 25
  cases h1 : M.tcb A B
  · simp only [h1, Bool.true_and, Bool.and_true, Bool.false_and, Bool.and_false, M.pick_t, M.pick_f] at PT ⊢
    have PT := Lib.hid PT
    go_enter Tryz.func31, Tryz.ntmps31
    go_wp2_with (first | (go_at_call 79; (with_reducible refine (PT.out _).mono ?_); rintro e w1 ⟨rfl, hb1⟩; (have bx1 := bx.keep hb1); (have c0 := bx1.c0); (have c1 := bx1.c1); (have B1 : Below w.heap.size w w1 := (by repeat (first | exact Below.refl _ _ | refine below_alloc ?_ _ | refine below_step ?_ (by assumption) | refine Below.drew ?_ | refine Below.setCell ?_ (by first | exact Nat.le_refl _ | exact Nat.le_add_right _ _ | (simp <;> omega)) _ | refine below_drewN ?_ _)))))
    exact bodyPost_ret (v := .tuple #[.int .i64 0, .bool false]) (by simp [results, Tryz.results31, go_sem, *]) rfl (⟨rfl, B1⟩)
  · skip
    cases h2 : M.ins n 1 60
    · simp only [h1, h2, Bool.true_and, Bool.and_true, Bool.false_and, Bool.and_false, M.pick_t, M.pick_f] at PT ⊢
      have PT := Lib.hid PT
      go_enter Tryz.func31, Tryz.ntmps31
      go_wp2_with (first | (go_at_call 79; (with_reducible refine (PT.out _).mono ?_); rintro e w1 ⟨rfl, hb1⟩; (have bx1 := bx.keep hb1); (have c0 := bx1.c0); (have c1 := bx1.c1); (have B1 : Below w.heap.size w w1 := (by repeat (first | exact Below.refl _ _ | refine below_alloc ?_ _ | refine below_step ?_ (by assumption) | refine Below.drew ?_ | refine Below.setCell ?_ (by first | exact Nat.le_refl _ | exact Nat.le_add_right _ _ | (simp <;> omega)) _ | refine below_drewN ?_ _)))))
      exact bodyPost_ret (v := .tuple #[.int .i64 0, .bool false]) (by simp [results, Tryz.results31, go_sem, *]) rfl (⟨rfl, B1⟩)
    · skip
      have ht := M.tcb_t h1
      have hk := M.ins_t h2
      simp only [h1, h2, Bool.true_and, Bool.and_true, Bool.false_and, Bool.and_false, M.pick_t, M.pick_f] at PT ⊢
      have PT := Lib.hid PT
      obtain ⟨k, rfl⟩ : ∃ k : Nat, n = k := ⟨n.toNat, by omega⟩
      have P := fun W => rkFound_c A B k W ht (by omega)
      simp only [Int.toNat_natCast] at P ⊢
      have q1 := M.rkc_bd (M.fg A B false k)
      have q2 := M.rkc_bd (M.fg A B true k)
      have PL := fun W => rkLow_c (M.fR A B false k) (M.fR A B true k) W q1 q2
      have PL := Lib.hid PL
      clear q1 q2
      clear ht
      unfold M.low
      generalize M.fR A B false k = r1 at *
      generalize M.fR A B true k = r2 at *
      generalize M.fOk A B k = q at *
      cases q
      · simp only [Bool.true_and, Bool.and_true, Bool.false_and, Bool.and_false, M.pick_t, M.pick_f] at P ⊢
        have P := Lib.hid P
        go_enter Tryz.func31, Tryz.ntmps31
        go_wp2_with (first | (go_at_call 79; (with_reducible refine (PT.out _).mono ?_); rintro e w1 ⟨rfl, hb1⟩; (have bx1 := bx.keep hb1); (have c0 := bx1.c0); (have c1 := bx1.c1); (have B1 : Below w.heap.size w w1 := (by repeat (first | exact Below.refl _ _ | refine below_alloc ?_ _ | refine below_step ?_ (by assumption) | refine Below.drew ?_ | refine Below.setCell ?_ (by first | exact Nat.le_refl _ | exact Nat.le_add_right _ _ | (simp <;> omega)) _ | refine below_drewN ?_ _)))) | (go_at_call 82; (with_reducible refine (P.out _).mono ?_); rintro e w2 ⟨rfl, hb2⟩; (have B2 := B1.trans (hb2.mono B1.size))))
        exact bodyPost_ret (v := .tuple #[.int .i64 0, .bool false]) (by simp [results, Tryz.results31, go_sem, *]) rfl (⟨rfl, B2⟩)
      · simp only [Bool.true_and, Bool.and_true, Bool.false_and, Bool.and_false, M.pick_t, M.pick_f] at P ⊢
        have P := Lib.hid P
        go_enter Tryz.func31, Tryz.ntmps31
        go_wp2_with (first | (go_at_call 79; (with_reducible refine (PT.out _).mono ?_); rintro e w1 ⟨rfl, hb1⟩; (have bx1 := bx.keep hb1); (have c0 := bx1.c0); (have c1 := bx1.c1); (have B1 : Below w.heap.size w w1 := (by repeat (first | exact Below.refl _ _ | refine below_alloc ?_ _ | refine below_step ?_ (by assumption) | refine Below.drew ?_ | refine Below.setCell ?_ (by first | exact Nat.le_refl _ | exact Nat.le_add_right _ _ | (simp <;> omega)) _ | refine below_drewN ?_ _)))) | (go_at_call 82; (with_reducible refine (P.out _).mono ?_); rintro e w2 ⟨rfl, hb2⟩; (have B2 := B1.trans (hb2.mono B1.size))) | (go_at_call 83; (with_reducible refine (PL.out _).mono ?_); rintro e w3 ⟨rfl, hb3⟩; (have B3 := B2.trans (hb3.mono B2.size))))
        exact bodyPost_ret (v := .tuple #[.int .i64 (max (r1 + r2 - 2) 0), .bool true]) (by simp [results, Tryz.results31, go_sem, *]) rfl (⟨rfl, B3⟩)
set_option maxRecDepth 100000 in
set_option maxHeartbeats 1000000 in
theorem implUpperRank_c (A B : Int) (w : World) :
    Calls Tryz.prog 32 #[.agg #[.int .i64 A, .int .i64 B]] w fun e w' => e = .returned (.tuple #[.int .i64 (M.pick (M.gT A B (M.sOk A B)) (M.up A B)), .bool (M.gT A B (M.sOk A B))]) ∧ Below w.heap.size w w' := by
  have PT := fun W => isTwoCurve_c A B W
  unfold M.gT
  have bx := Box.new w A B 25
  cases h1 : M.tcb A B
  · simp only [h1, Bool.true_and, Bool.and_true, Bool.false_and, Bool.and_false, M.pick_t, M.pick_f] at PT ⊢
    have PT := Lib.hid PT
    go_enter Tryz.func32, Tryz.ntmps32
    go_wp2_with (first | (go_at_call 46; (with_reducible refine (PT.out _).mono ?_); rintro e w1 ⟨rfl, hb1⟩; (have bx1 := bx.keep hb1); (have c0 := bx1.c0); (have c1 := bx1.c1); (have B1 : Below w.heap.size w w1 := (by repeat (first | exact Below.refl _ _ | refine below_alloc ?_ _ | refine below_step ?_ (by assumption) | refine Below.drew ?_ | refine Below.setCell ?_ (by first | exact Nat.le_refl _ | exact Nat.le_add_right _ _ | (simp <;> omega)) _ | refine below_drewN ?_ _)))))
    exact bodyPost_ret (v := .tuple #[.int .i64 0, .bool false]) (by simp [results, Tryz.results32, go_sem, *]) rfl (⟨rfl, B1⟩)
  · skip
    have ht := M.tcb_t h1
    simp only [h1, Bool.true_and, Bool.and_true, Bool.false_and, Bool.and_false, M.pick_t, M.pick_f] at PT ⊢
    have PT := Lib.hid PT
    have P := fun W => selmerRanks_c A B W ht
    have q1 := M.rkc_bd (M.slm A B false)
    have q2 := M.rkc_bd (M.slm A B true)
    unfold M.up
    unfold M.sR at P ⊢
    generalize M.rkc (M.slm A B false) = r1 at *
    generalize M.rkc (M.slm A B true) = r2 at *
    clear ht
    generalize M.sOk A B = q at *
    cases q
    · simp only [Bool.true_and, Bool.and_true, Bool.false_and, Bool.and_false, M.pick_t, M.pick_f] at P ⊢
      have P := Lib.hid P
      go_enter Tryz.func32, Tryz.ntmps32
      go_wp2_with (first | (go_at_call 46; (with_reducible refine (PT.out _).mono ?_); rintro e w1 ⟨rfl, hb1⟩; (have bx1 := bx.keep hb1); (have c0 := bx1.c0); (have c1 := bx1.c1); (have B1 : Below w.heap.size w w1 := (by repeat (first | exact Below.refl _ _ | refine below_alloc ?_ _ | refine below_step ?_ (by assumption) | refine Below.drew ?_ | refine Below.setCell ?_ (by first | exact Nat.le_refl _ | exact Nat.le_add_right _ _ | (simp <;> omega)) _ | refine below_drewN ?_ _)))) | (go_at_call 84; (with_reducible refine (P.out _).mono ?_); rintro e w2 ⟨rfl, hb2⟩; (have B2 := B1.trans (hb2.mono B1.size))))
      exact bodyPost_ret (v := .tuple #[.int .i64 0, .bool false]) (by simp [results, Tryz.results32, go_sem, *]) rfl (⟨rfl, B2⟩)
    · simp only [Bool.true_and, Bool.and_true, Bool.false_and, Bool.and_false, M.pick_t, M.pick_f] at P ⊢
      have P := Lib.hid P
      go_enter Tryz.func32, Tryz.ntmps32
      go_wp2_with (first | (go_at_call 46; (with_reducible refine (PT.out _).mono ?_); rintro e w1 ⟨rfl, hb1⟩; (have bx1 := bx.keep hb1); (have c0 := bx1.c0); (have c1 := bx1.c1); (have B1 : Below w.heap.size w w1 := (by repeat (first | exact Below.refl _ _ | refine below_alloc ?_ _ | refine below_step ?_ (by assumption) | refine Below.drew ?_ | refine Below.setCell ?_ (by first | exact Nat.le_refl _ | exact Nat.le_add_right _ _ | (simp <;> omega)) _ | refine below_drewN ?_ _)))) | (go_at_call 84; (with_reducible refine (P.out _).mono ?_); rintro e w2 ⟨rfl, hb2⟩; (have B2 := B1.trans (hb2.mono B1.size))))
      exact bodyPost_ret (v := .tuple #[.int .i64 (r1 + r2 - 2), .bool true]) (by simp [results, Tryz.results32, go_sem, *]) rfl (⟨rfl, B2⟩)
set_option maxRecDepth 100000 in
set_option maxHeartbeats 1000000 in
theorem specUpperRank_c (A B : Int) (w : World) :
    Calls Tryz.prog 33 #[.agg #[.int .i64 A, .int .i64 B]] w fun e w' => e = .returned (.tuple #[.int .i64 (M.pick (M.gT A B (M.sOk A B)) (M.up A B)), .bool (M.gT A B (M.sOk A B))]) ∧ Below w.heap.size w w' := by
  have PT := fun W => tcGood_c A B W
  unfold M.gT
  have bx := Box.new w A B 25
  cases h1 : M.tcb A B
  · simp only [h1, Bool.true_and, Bool.and_true, Bool.false_and, Bool.and_false, M.pick_t, M.pick_f] at PT ⊢
    have PT := Lib.hid PT
    go_enter Tryz.func33, Tryz.ntmps33
    go_wp2_with (first | (go_at_call 48; (with_reducible refine (PT.out _).mono ?_); rintro e w1 ⟨rfl, hb1⟩; (have bx1 := bx.keep hb1); (have c0 := bx1.c0); (have c1 := bx1.c1); (have B1 : Below w.heap.size w w1 := (by repeat (first | exact Below.refl _ _ | refine below_alloc ?_ _ | refine below_step ?_ (by assumption) | refine Below.drew ?_ | refine Below.setCell ?_ (by first | exact Nat.le_refl _ | exact Nat.le_add_right _ _ | (simp <;> omega)) _ | refine below_drewN ?_ _)))))
    exact bodyPost_ret (v := .tuple #[.int .i64 0, .bool false]) (by simp [results, Tryz.results33, go_sem, *]) rfl (⟨rfl, B1⟩)
  · skip
    have ht := M.tcb_t h1
    simp only [h1, Bool.true_and, Bool.and_true, Bool.false_and, Bool.and_false, M.pick_t, M.pick_f] at PT ⊢
    have PT := Lib.hid PT
    have P := fun W => rkUpper_c A B W ht
    clear ht
    generalize M.up A B = a0 at *
    generalize M.sOk A B = q at *
    cases q
    · simp only [Bool.true_and, Bool.and_true, Bool.false_and, Bool.and_false, M.pick_t, M.pick_f] at P ⊢
      have P := Lib.hid P
      go_enter Tryz.func33, Tryz.ntmps33
      go_wp2_with (first | (go_at_call 48; (with_reducible refine (PT.out _).mono ?_); rintro e w1 ⟨rfl, hb1⟩; (have bx1 := bx.keep hb1); (have c0 := bx1.c0); (have c1 := bx1.c1); (have B1 : Below w.heap.size w w1 := (by repeat (first | exact Below.refl _ _ | refine below_alloc ?_ _ | refine below_step ?_ (by assumption) | refine Below.drew ?_ | refine Below.setCell ?_ (by first | exact Nat.le_refl _ | exact Nat.le_add_right _ _ | (simp <;> omega)) _ | refine below_drewN ?_ _)))) | (go_at_call 85; (with_reducible refine (P.out _).mono ?_); rintro e w2 ⟨rfl, hb2⟩; (have B2 := B1.trans (hb2.mono B1.size))))
      exact bodyPost_ret (v := .tuple #[.int .i64 0, .bool false]) (by simp [results, Tryz.results33, go_sem, *]) rfl (⟨rfl, B2⟩)
    · simp only [Bool.true_and, Bool.and_true, Bool.false_and, Bool.and_false, M.pick_t, M.pick_f] at P ⊢
      have P := Lib.hid P
      go_enter Tryz.func33, Tryz.ntmps33
      go_wp2_with (first | (go_at_call 48; (with_reducible refine (PT.out _).mono ?_); rintro e w1 ⟨rfl, hb1⟩; (have bx1 := bx.keep hb1); (have c0 := bx1.c0); (have c1 := bx1.c1); (have B1 : Below w.heap.size w w1 := (by repeat (first | exact Below.refl _ _ | refine below_alloc ?_ _ | refine below_step ?_ (by assumption) | refine Below.drew ?_ | refine Below.setCell ?_ (by first | exact Nat.le_refl _ | exact Nat.le_add_right _ _ | (simp <;> omega)) _ | refine below_drewN ?_ _)))) | (go_at_call 85; (with_reducible refine (P.out _).mono ?_); rintro e w2 ⟨rfl, hb2⟩; (have B2 := B1.trans (hb2.mono B1.size))))
      exact bodyPost_ret (v := .tuple #[.int .i64 (a0), .bool true]) (by simp [results, Tryz.results33, go_sem, *]) rfl (⟨rfl, B2⟩)
set_option maxRecDepth 100000 in
set_option maxHeartbeats 1000000 in
theorem implSelmerRanks_c (A B : Int) (w : World) :
    Calls Tryz.prog 34 #[.agg #[.int .i64 A, .int .i64 B]] w fun e w' => e = .returned (.tuple #[.int .i64 (M.pick (M.gT A B (M.sOk A B)) (M.sR A B false)), .int .i64 (M.pick (M.gT A B (M.sOk A B)) (M.sR A B true)), .bool (M.gT A B (M.sOk A B))]) ∧ Below w.heap.size w w' := by
  have PT := fun W => isTwoCurve_c A B W
  unfold M.gT
  have bx := Box.new w A B 25
  cases h1 : M.tcb A B
  · simp only [h1, Bool.true_and, Bool.and_true, Bool.false_and, Bool.and_false, M.pick_t, M.pick_f] at PT ⊢
    have PT := Lib.hid PT
    go_enter Tryz.func34, Tryz.ntmps34
    go_wp2_with (first | (go_at_call 46; (with_reducible refine (PT.out _).mono ?_); rintro e w1 ⟨rfl, hb1⟩; (have bx1 := bx.keep hb1); (have c0 := bx1.c0); (have c1 := bx1.c1); (have B1 : Below w.heap.size w w1 := (by repeat (first | exact Below.refl _ _ | refine below_alloc ?_ _ | refine below_step ?_ (by assumption) | refine Below.drew ?_ | refine Below.setCell ?_ (by first | exact Nat.le_refl _ | exact Nat.le_add_right _ _ | (simp <;> omega)) _ | refine below_drewN ?_ _)))))
    exact bodyPost_ret (v := .tuple #[.int .i64 0, .int .i64 0, .bool false]) (by simp [results, Tryz.results34, go_sem, *]) rfl (⟨rfl, B1⟩)
  · skip
    have ht := M.tcb_t h1
    simp only [h1, Bool.true_and, Bool.and_true, Bool.false_and, Bool.and_false, M.pick_t, M.pick_f] at PT ⊢
    have PT := Lib.hid PT
    have P := fun W => selmerRanks_c A B W ht
    clear ht
    generalize M.sR A B false = a0 at *
    generalize M.sR A B true = a1 at *
    generalize M.sOk A B = q at *
    cases q
    · simp only [Bool.true_and, Bool.and_true, Bool.false_and, Bool.and_false, M.pick_t, M.pick_f] at P ⊢
      have P := Lib.hid P
      go_enter Tryz.func34, Tryz.ntmps34
      go_wp2_with (first | (go_at_call 46; (with_reducible refine (PT.out _).mono ?_); rintro e w1 ⟨rfl, hb1⟩; (have bx1 := bx.keep hb1); (have c0 := bx1.c0); (have c1 := bx1.c1); (have B1 : Below w.heap.size w w1 := (by repeat (first | exact Below.refl _ _ | refine below_alloc ?_ _ | refine below_step ?_ (by assumption) | refine Below.drew ?_ | refine Below.setCell ?_ (by first | exact Nat.le_refl _ | exact Nat.le_add_right _ _ | (simp <;> omega)) _ | refine below_drewN ?_ _)))) | (go_at_call 84; (with_reducible refine (P.out _).mono ?_); rintro e w2 ⟨rfl, hb2⟩; (have B2 := B1.trans (hb2.mono B1.size))))
      exact bodyPost_ret (v := .tuple #[.int .i64 0, .int .i64 0, .bool false]) (by simp [results, Tryz.results34, go_sem, *]) rfl (⟨rfl, B2⟩)
    · simp only [Bool.true_and, Bool.and_true, Bool.false_and, Bool.and_false, M.pick_t, M.pick_f] at P ⊢
      have P := Lib.hid P
      go_enter Tryz.func34, Tryz.ntmps34
      go_wp2_with (first | (go_at_call 46; (with_reducible refine (PT.out _).mono ?_); rintro e w1 ⟨rfl, hb1⟩; (have bx1 := bx.keep hb1); (have c0 := bx1.c0); (have c1 := bx1.c1); (have B1 : Below w.heap.size w w1 := (by repeat (first | exact Below.refl _ _ | refine below_alloc ?_ _ | refine below_step ?_ (by assumption) | refine Below.drew ?_ | refine Below.setCell ?_ (by first | exact Nat.le_refl _ | exact Nat.le_add_right _ _ | (simp <;> omega)) _ | refine below_drewN ?_ _)))) | (go_at_call 84; (with_reducible refine (P.out _).mono ?_); rintro e w2 ⟨rfl, hb2⟩; (have B2 := B1.trans (hb2.mono B1.size))))
      exact bodyPost_ret (v := .tuple #[.int .i64 (a0), .int .i64 (a1), .bool true]) (by simp [results, Tryz.results34, go_sem, *]) rfl (⟨rfl, B2⟩)
set_option maxRecDepth 100000 in
set_option maxHeartbeats 1000000 in
theorem specSelmerRanks_c (A B : Int) (w : World) :
    Calls Tryz.prog 35 #[.agg #[.int .i64 A, .int .i64 B]] w fun e w' => e = .returned (.tuple #[.int .i64 (M.pick (M.gT A B (M.sOk A B)) (M.sR A B false)), .int .i64 (M.pick (M.gT A B (M.sOk A B)) (M.sR A B true)), .bool (M.gT A B (M.sOk A B))]) ∧ Below w.heap.size w w' := by
  have PT := fun W => tcGood_c A B W
  unfold M.gT
  have bx := Box.new w A B 25
  cases h1 : M.tcb A B
  · simp only [h1, Bool.true_and, Bool.and_true, Bool.false_and, Bool.and_false, M.pick_t, M.pick_f] at PT ⊢
    have PT := Lib.hid PT
    go_enter Tryz.func35, Tryz.ntmps35
    go_wp2_with (first | (go_at_call 48; (with_reducible refine (PT.out _).mono ?_); rintro e w1 ⟨rfl, hb1⟩; (have bx1 := bx.keep hb1); (have c0 := bx1.c0); (have c1 := bx1.c1); (have B1 : Below w.heap.size w w1 := (by repeat (first | exact Below.refl _ _ | refine below_alloc ?_ _ | refine below_step ?_ (by assumption) | refine Below.drew ?_ | refine Below.setCell ?_ (by first | exact Nat.le_refl _ | exact Nat.le_add_right _ _ | (simp <;> omega)) _ | refine below_drewN ?_ _)))))
    exact bodyPost_ret (v := .tuple #[.int .i64 0, .int .i64 0, .bool false]) (by simp [results, Tryz.results35, go_sem, *]) rfl (⟨rfl, B1⟩)
  · skip
    have ht := M.tcb_t h1
    simp only [h1, Bool.true_and, Bool.and_true, Bool.false_and, Bool.and_false, M.pick_t, M.pick_f] at PT ⊢
    have PT := Lib.hid PT
    have P := fun W => rkSelmer_c A B W ht
    clear ht
    generalize M.sR A B false = a0 at *
    generalize M.sR A B true = a1 at *
    generalize M.sOk A B = q at *
    cases q
    · simp only [Bool.true_and, Bool.and_true, Bool.false_and, Bool.and_false, M.pick_t, M.pick_f] at P ⊢
      have P := Lib.hid P
      go_enter Tryz.func35, Tryz.ntmps35
      go_wp2_with (first | (go_at_call 48; (with_reducible refine (PT.out _).mono ?_); rintro e w1 ⟨rfl, hb1⟩; (have bx1 := bx.keep hb1); (have c0 := bx1.c0); (have c1 := bx1.c1); (have B1 : Below w.heap.size w w1 := (by repeat (first | exact Below.refl _ _ | refine below_alloc ?_ _ | refine below_step ?_ (by assumption) | refine Below.drew ?_ | refine Below.setCell ?_ (by first | exact Nat.le_refl _ | exact Nat.le_add_right _ _ | (simp <;> omega)) _ | refine below_drewN ?_ _)))) | (go_at_call 86; (with_reducible refine (P.out _).mono ?_); rintro e w2 ⟨rfl, hb2⟩; (have B2 := B1.trans (hb2.mono B1.size))))
      exact bodyPost_ret (v := .tuple #[.int .i64 0, .int .i64 0, .bool false]) (by simp [results, Tryz.results35, go_sem, *]) rfl (⟨rfl, B2⟩)
    · simp only [Bool.true_and, Bool.and_true, Bool.false_and, Bool.and_false, M.pick_t, M.pick_f] at P ⊢
      have P := Lib.hid P
      go_enter Tryz.func35, Tryz.ntmps35
      go_wp2_with (first | (go_at_call 48; (with_reducible refine (PT.out _).mono ?_); rintro e w1 ⟨rfl, hb1⟩; (have bx1 := bx.keep hb1); (have c0 := bx1.c0); (have c1 := bx1.c1); (have B1 : Below w.heap.size w w1 := (by repeat (first | exact Below.refl _ _ | refine below_alloc ?_ _ | refine below_step ?_ (by assumption) | refine Below.drew ?_ | refine Below.setCell ?_ (by first | exact Nat.le_refl _ | exact Nat.le_add_right _ _ | (simp <;> omega)) _ | refine below_drewN ?_ _)))) | (go_at_call 86; (with_reducible refine (P.out _).mono ?_); rintro e w2 ⟨rfl, hb2⟩; (have B2 := B1.trans (hb2.mono B1.size))))
      exact bodyPost_ret (v := .tuple #[.int .i64 (a0), .int .i64 (a1), .bool true]) (by simp [results, Tryz.results35, go_sem, *]) rfl (⟨rfl, B2⟩)
set_option maxRecDepth 100000 in
set_option maxHeartbeats 1000000 in
theorem implFoundRanks_c (A B n : Int) (w : World) :
    Calls Tryz.prog 36 #[.agg #[.int .i64 A, .int .i64 B], .int .i64 n] w fun e w' => e = .returned (.tuple #[.int .i64 (M.pick (M.gN A B n (M.fOk A B n.toNat)) (M.fR A B false n.toNat)), .int .i64 (M.pick (M.gN A B n (M.fOk A B n.toNat)) (M.fR A B true n.toNat)), .bool (M.gN A B n (M.fOk A B n.toNat))]) ∧ Below w.heap.size w w' := by
  have PT := fun W => isTwoCurve_c A B W
  unfold M.gN
  have bx := Box.new w A B 25
  cases h1 : M.tcb A B
  · simp only [h1, Bool.true_and, Bool.and_true, Bool.false_and, Bool.and_false, M.pick_t, M.pick_f] at PT ⊢
    have PT := Lib.hid PT
    go_enter Tryz.func36, Tryz.ntmps36
    go_wp2_with (first | (go_at_call 46; (with_reducible refine (PT.out _).mono ?_); rintro e w1 ⟨rfl, hb1⟩; (have bx1 := bx.keep hb1); (have c0 := bx1.c0); (have c1 := bx1.c1); (have B1 : Below w.heap.size w w1 := (by repeat (first | exact Below.refl _ _ | refine below_alloc ?_ _ | refine below_step ?_ (by assumption) | refine Below.drew ?_ | refine Below.setCell ?_ (by first | exact Nat.le_refl _ | exact Nat.le_add_right _ _ | (simp <;> omega)) _ | refine below_drewN ?_ _)))) | (go_at_call 61; refine (inside_c _ _ _ _).mono ?_; rintro e w' ⟨rfl, rfl⟩))
    exact bodyPost_ret (v := .tuple #[.int .i64 0, .int .i64 0, .bool false]) (by simp [results, Tryz.results36, go_sem, *]) rfl (⟨rfl, B1⟩)
  · skip
    cases h2 : M.ins n 1 60
    · simp only [h1, h2, Bool.true_and, Bool.and_true, Bool.false_and, Bool.and_false, M.pick_t, M.pick_f] at PT ⊢
      have PT := Lib.hid PT
      go_enter Tryz.func36, Tryz.ntmps36
      go_wp2_with (first | (go_at_call 46; (with_reducible refine (PT.out _).mono ?_); rintro e w1 ⟨rfl, hb1⟩; (have bx1 := bx.keep hb1); (have c0 := bx1.c0); (have c1 := bx1.c1); (have B1 : Below w.heap.size w w1 := (by repeat (first | exact Below.refl _ _ | refine below_alloc ?_ _ | refine below_step ?_ (by assumption) | refine Below.drew ?_ | refine Below.setCell ?_ (by first | exact Nat.le_refl _ | exact Nat.le_add_right _ _ | (simp <;> omega)) _ | refine below_drewN ?_ _)))) | (go_at_call 61; refine (inside_c _ _ _ _).mono ?_; rintro e w' ⟨rfl, rfl⟩))
      exact bodyPost_ret (v := .tuple #[.int .i64 0, .int .i64 0, .bool false]) (by simp [results, Tryz.results36, go_sem, *]) rfl (⟨rfl, B1⟩)
    · skip
      have ht := M.tcb_t h1
      have hk := M.ins_t h2
      simp only [h1, h2, Bool.true_and, Bool.and_true, Bool.false_and, Bool.and_false, M.pick_t, M.pick_f] at PT ⊢
      have PT := Lib.hid PT
      obtain ⟨k, rfl⟩ : ∃ k : Nat, n = k := ⟨n.toNat, by omega⟩
      have P := fun W => foundRanks_c A B k W ht (by omega)
      simp only [Int.toNat_natCast] at P ⊢
      clear ht
      generalize M.fR A B false k = a0 at *
      generalize M.fR A B true k = a1 at *
      generalize M.fOk A B k = q at *
      cases q
      · simp only [Bool.true_and, Bool.and_true, Bool.false_and, Bool.and_false, M.pick_t, M.pick_f] at P ⊢
        have P := Lib.hid P
        go_enter Tryz.func36, Tryz.ntmps36
        go_wp2_with (first | (go_at_call 46; (with_reducible refine (PT.out _).mono ?_); rintro e w1 ⟨rfl, hb1⟩; (have bx1 := bx.keep hb1); (have c0 := bx1.c0); (have c1 := bx1.c1); (have B1 : Below w.heap.size w w1 := (by repeat (first | exact Below.refl _ _ | refine below_alloc ?_ _ | refine below_step ?_ (by assumption) | refine Below.drew ?_ | refine Below.setCell ?_ (by first | exact Nat.le_refl _ | exact Nat.le_add_right _ _ | (simp <;> omega)) _ | refine below_drewN ?_ _)))) | (go_at_call 61; refine (inside_c _ _ _ _).mono ?_; rintro e w' ⟨rfl, rfl⟩) | (go_at_call 87; (with_reducible refine (P.out _).mono ?_); rintro e w2 ⟨rfl, hb2⟩; (have B2 := B1.trans (hb2.mono B1.size))))
        exact bodyPost_ret (v := .tuple #[.int .i64 0, .int .i64 0, .bool false]) (by simp [results, Tryz.results36, go_sem, *]) rfl (⟨rfl, B2⟩)
      · simp only [Bool.true_and, Bool.and_true, Bool.false_and, Bool.and_false, M.pick_t, M.pick_f] at P ⊢
        have P := Lib.hid P
        go_enter Tryz.func36, Tryz.ntmps36
        go_wp2_with (first | (go_at_call 46; (with_reducible refine (PT.out _).mono ?_); rintro e w1 ⟨rfl, hb1⟩; (have bx1 := bx.keep hb1); (have c0 := bx1.c0); (have c1 := bx1.c1); (have B1 : Below w.heap.size w w1 := (by repeat (first | exact Below.refl _ _ | refine below_alloc ?_ _ | refine below_step ?_ (by assumption) | refine Below.drew ?_ | refine Below.setCell ?_ (by first | exact Nat.le_refl _ | exact Nat.le_add_right _ _ | (simp <;> omega)) _ | refine below_drewN ?_ _)))) | (go_at_call 61; refine (inside_c _ _ _ _).mono ?_; rintro e w' ⟨rfl, rfl⟩) | (go_at_call 87; (with_reducible refine (P.out _).mono ?_); rintro e w2 ⟨rfl, hb2⟩; (have B2 := B1.trans (hb2.mono B1.size))))
        exact bodyPost_ret (v := .tuple #[.int .i64 (a0), .int .i64 (a1), .bool true]) (by simp [results, Tryz.results36, go_sem, *]) rfl (⟨rfl, B2⟩)
set_option maxRecDepth 100000 in
set_option maxHeartbeats 1000000 in
theorem specFoundRanks_c (A B n : Int) (w : World) :
    Calls Tryz.prog 37 #[.agg #[.int .i64 A, .int .i64 B], .int .i64 n] w fun e w' => e = .returned (.tuple #[.int .i64 (M.pick (M.gN A B n (M.fOk A B n.toNat)) (M.fR A B false n.toNat)), .int .i64 (M.pick (M.gN A B n (M.fOk A B n.toNat)) (M.fR A B true n.toNat)), .bool (M.gN A B n (M.fOk A B n.toNat))]) ∧ Below w.heap.size w w' := by
  have PT := fun W => rkAsked_c A B n W
  unfold M.gN
  have bx := Box.new w A B 25
  cases h1 : M.tcb A B
  · simp only [h1, Bool.true_and, Bool.and_true, Bool.false_and, Bool.and_false, M.pick_t, M.pick_f] at PT ⊢
    have PT := Lib.hid PT
    go_enter Tryz.func37, Tryz.ntmps37
    go_wp2_with (first | (go_at_call 79; (with_reducible refine (PT.out _).mono ?_); rintro e w1 ⟨rfl, hb1⟩; (have bx1 := bx.keep hb1); (have c0 := bx1.c0); (have c1 := bx1.c1); (have B1 : Below w.heap.size w w1 := (by repeat (first | exact Below.refl _ _ | refine below_alloc ?_ _ | refine below_step ?_ (by assumption) | refine Below.drew ?_ | refine Below.setCell ?_ (by first | exact Nat.le_refl _ | exact Nat.le_add_right _ _ | (simp <;> omega)) _ | refine below_drewN ?_ _)))))
    exact bodyPost_ret (v := .tuple #[.int .i64 0, .int .i64 0, .bool false]) (by simp [results, Tryz.results37, go_sem, *]) rfl (⟨rfl, B1⟩)
  · skip
    cases h2 : M.ins n 1 60
    · simp only [h1, h2, Bool.true_and, Bool.and_true, Bool.false_and, Bool.and_false, M.pick_t, M.pick_f] at PT ⊢
      have PT := Lib.hid PT
      go_enter Tryz.func37, Tryz.ntmps37
      go_wp2_with (first | (go_at_call 79; (with_reducible refine (PT.out _).mono ?_); rintro e w1 ⟨rfl, hb1⟩; (have bx1 := bx.keep hb1); (have c0 := bx1.c0); (have c1 := bx1.c1); (have B1 : Below w.heap.size w w1 := (by repeat (first | exact Below.refl _ _ | refine below_alloc ?_ _ | refine below_step ?_ (by assumption) | refine Below.drew ?_ | refine Below.setCell ?_ (by first | exact Nat.le_refl _ | exact Nat.le_add_right _ _ | (simp <;> omega)) _ | refine below_drewN ?_ _)))))
      exact bodyPost_ret (v := .tuple #[.int .i64 0, .int .i64 0, .bool false]) (by simp [results, Tryz.results37, go_sem, *]) rfl (⟨rfl, B1⟩)
    · skip
      have ht := M.tcb_t h1
      have hk := M.ins_t h2
      simp only [h1, h2, Bool.true_and, Bool.and_true, Bool.false_and, Bool.and_false, M.pick_t, M.pick_f] at PT ⊢
      have PT := Lib.hid PT
      obtain ⟨k, rfl⟩ : ∃ k : Nat, n = k := ⟨n.toNat, by omega⟩
      have P := fun W => rkFound_c A B k W ht (by omega)
      simp only [Int.toNat_natCast] at P ⊢
      clear ht
      generalize M.fR A B false k = a0 at *
      generalize M.fR A B true k = a1 at *
      generalize M.fOk A B k = q at *
      cases q
      · simp only [Bool.true_and, Bool.and_true, Bool.false_and, Bool.and_false, M.pick_t, M.pick_f] at P ⊢
        have P := Lib.hid P
        go_enter Tryz.func37, Tryz.ntmps37
        go_wp2_with (first | (go_at_call 79; (with_reducible refine (PT.out _).mono ?_); rintro e w1 ⟨rfl, hb1⟩; (have bx1 := bx.keep hb1); (have c0 := bx1.c0); (have c1 := bx1.c1); (have B1 : Below w.heap.size w w1 := (by repeat (first | exact Below.refl _ _ | refine below_alloc ?_ _ | refine below_step ?_ (by assumption) | refine Below.drew ?_ | refine Below.setCell ?_ (by first | exact Nat.le_refl _ | exact Nat.le_add_right _ _ | (simp <;> omega)) _ | refine below_drewN ?_ _)))) | (go_at_call 82; (with_reducible refine (P.out _).mono ?_); rintro e w2 ⟨rfl, hb2⟩; (have B2 := B1.trans (hb2.mono B1.size))))
        exact bodyPost_ret (v := .tuple #[.int .i64 0, .int .i64 0, .bool false]) (by simp [results, Tryz.results37, go_sem, *]) rfl (⟨rfl, B2⟩)
      · simp only [Bool.true_and, Bool.and_true, Bool.false_and, Bool.and_false, M.pick_t, M.pick_f] at P ⊢
        have P := Lib.hid P
        go_enter Tryz.func37, Tryz.ntmps37
        go_wp2_with (first | (go_at_call 79; (with_reducible refine (PT.out _).mono ?_); rintro e w1 ⟨rfl, hb1⟩; (have bx1 := bx.keep hb1); (have c0 := bx1.c0); (have c1 := bx1.c1); (have B1 : Below w.heap.size w w1 := (by repeat (first | exact Below.refl _ _ | refine below_alloc ?_ _ | refine below_step ?_ (by assumption) | refine Below.drew ?_ | refine Below.setCell ?_ (by first | exact Nat.le_refl _ | exact Nat.le_add_right _ _ | (simp <;> omega)) _ | refine below_drewN ?_ _)))) | (go_at_call 82; (with_reducible refine (P.out _).mono ?_); rintro e w2 ⟨rfl, hb2⟩; (have B2 := B1.trans (hb2.mono B1.size))))
        exact bodyPost_ret (v := .tuple #[.int .i64 (a0), .int .i64 (a1), .bool true]) (by simp [results, Tryz.results37, go_sem, *]) rfl (⟨rfl, B2⟩)
set_option maxRecDepth 100000 in
set_option maxHeartbeats 1000000 in
theorem implSelmerDivisors_c (A B : Int) (dual : Bool) (w : World) :
    Calls Tryz.prog 7 #[.agg #[.int .i64 A, .int .i64 B], .bool dual] w fun e w' => ∃ v, e = .returned (.tuple #[v, .bool (M.gT A B (M.slk A B dual))]) ∧ OwnI w' w.heap.size v (M.optL (M.gT A B (M.slk A B dual)) (M.slm A B dual)) ∧ Below w.heap.size w w' := by
  have PT := fun W => isTwoCurve_c A B W
  unfold M.gT M.optL
  have bx := Box.new w A B 25
  cases h1 : M.tcb A B
  · simp only [h1, Bool.true_and, Bool.and_true, Bool.false_and, Bool.and_false, M.pick_t, M.pick_f, Bool.false_eq_true, if_false] at PT ⊢
    have PT := Lib.hid PT
    go_enter Tryz.func7, Tryz.ntmps7
    go_wp2_with (first | (go_at_call 46; (with_reducible refine (PT.out _).mono ?_); rintro e w1 ⟨rfl, hb1⟩; (have bx1 := bx.keep hb1); (have c0 := bx1.c0); (have c1 := bx1.c1); (have B1 : Below w.heap.size w w1 := (by repeat (first | exact Below.refl _ _ | refine below_alloc ?_ _ | refine below_step ?_ (by assumption) | refine Below.drew ?_ | refine Below.setCell ?_ (by first | exact Nat.le_refl _ | exact Nat.le_add_right _ _ | (simp <;> omega)) _ | refine below_drewN ?_ _)))))
    exact bodyPost_ret (v := .tuple #[.slice none 0 0, .bool false]) (by simp [results, Tryz.results7, go_sem, *]) rfl (⟨_, rfl, OwnI.nil _ _, B1⟩)
  · skip
    have ht := M.tcb_t h1
    simp only [h1, Bool.true_and, Bool.and_true, Bool.false_and, Bool.and_false, M.pick_t, M.pick_f] at PT ⊢
    have PT := Lib.hid PT
    have P := fun W => selmer_c A B dual W ht
    clear ht
    unfold M.opt at P
    generalize M.slm A B dual = l at *
    generalize M.slk A B dual = q at *
    cases q
    · simp only [Bool.true_and, Bool.and_true, Bool.false_and, Bool.and_false, M.pick_t, M.pick_f, Bool.false_eq_true, if_false, if_true] at P ⊢
      have P := Lib.hid P
      go_enter Tryz.func7, Tryz.ntmps7
      go_wp2_with (first | (go_at_call 46; (with_reducible refine (PT.out _).mono ?_); rintro e w1 ⟨rfl, hb1⟩; (have bx1 := bx.keep hb1); (have c0 := bx1.c0); (have c1 := bx1.c1); (have B1 : Below w.heap.size w w1 := (by repeat (first | exact Below.refl _ _ | refine below_alloc ?_ _ | refine below_step ?_ (by assumption) | refine Below.drew ?_ | refine Below.setCell ?_ (by first | exact Nat.le_refl _ | exact Nat.le_add_right _ _ | (simp <;> omega)) _ | refine below_drewN ?_ _)))) | (go_at_call 47; (with_reducible refine (P.out _).mono ?_); rintro e w2 ⟨v, rfl, hov, hb2⟩; (have B2 := B1.trans (hb2.mono B1.size))))
      exact bodyPost_ret (v := .tuple #[v, .bool false]) (by simp [results, Tryz.results7, go_sem, *]) rfl (⟨v, rfl, hov.low B1.size, B2⟩)
    · simp only [Bool.true_and, Bool.and_true, Bool.false_and, Bool.and_false, M.pick_t, M.pick_f, Bool.false_eq_true, if_false, if_true] at P ⊢
      have P := Lib.hid P
      go_enter Tryz.func7, Tryz.ntmps7
      go_wp2_with (first | (go_at_call 46; (with_reducible refine (PT.out _).mono ?_); rintro e w1 ⟨rfl, hb1⟩; (have bx1 := bx.keep hb1); (have c0 := bx1.c0); (have c1 := bx1.c1); (have B1 : Below w.heap.size w w1 := (by repeat (first | exact Below.refl _ _ | refine below_alloc ?_ _ | refine below_step ?_ (by assumption) | refine Below.drew ?_ | refine Below.setCell ?_ (by first | exact Nat.le_refl _ | exact Nat.le_add_right _ _ | (simp <;> omega)) _ | refine below_drewN ?_ _)))) | (go_at_call 47; (with_reducible refine (P.out _).mono ?_); rintro e w2 ⟨v, rfl, hov, hb2⟩; (have B2 := B1.trans (hb2.mono B1.size))))
      exact bodyPost_ret (v := .tuple #[v, .bool true]) (by simp [results, Tryz.results7, go_sem, *]) rfl (⟨v, rfl, hov.low B1.size, B2⟩)
set_option maxRecDepth 100000 in
set_option maxHeartbeats 1000000 in
theorem specSelmerDivisors_c (A B : Int) (dual : Bool) (w : World) :
    Calls Tryz.prog 8 #[.agg #[.int .i64 A, .int .i64 B], .bool dual] w fun e w' => ∃ v, e = .returned (.tuple #[v, .bool (M.gT A B (M.slk A B dual))]) ∧ OwnI w' w.heap.size v (M.optL (M.gT A B (M.slk A B dual)) (M.slm A B dual)) ∧ Below w.heap.size w w' := by
  have PT := fun W => tcGood_c A B W
  unfold M.gT M.optL
  have bx := Box.new w A B 25
  cases h1 : M.tcb A B
  · simp only [h1, Bool.true_and, Bool.and_true, Bool.false_and, Bool.and_false, M.pick_t, M.pick_f, Bool.false_eq_true, if_false] at PT ⊢
    have PT := Lib.hid PT
    go_enter Tryz.func8, Tryz.ntmps8
    go_wp2_with (first | (go_at_call 48; (with_reducible refine (PT.out _).mono ?_); rintro e w1 ⟨rfl, hb1⟩; (have bx1 := bx.keep hb1); (have c0 := bx1.c0); (have c1 := bx1.c1); (have B1 : Below w.heap.size w w1 := (by repeat (first | exact Below.refl _ _ | refine below_alloc ?_ _ | refine below_step ?_ (by assumption) | refine Below.drew ?_ | refine Below.setCell ?_ (by first | exact Nat.le_refl _ | exact Nat.le_add_right _ _ | (simp <;> omega)) _ | refine below_drewN ?_ _)))))
    exact bodyPost_ret (v := .tuple #[.slice none 0 0, .bool false]) (by simp [results, Tryz.results8, go_sem, *]) rfl (⟨_, rfl, OwnI.nil _ _, B1⟩)
  · skip
    have ht := M.tcb_t h1
    simp only [h1, Bool.true_and, Bool.and_true, Bool.false_and, Bool.and_false, M.pick_t, M.pick_f] at PT ⊢
    have PT := Lib.hid PT
    have P := fun W => dsSelmer_c A B dual W ht
    clear ht
    unfold M.opt at P
    generalize M.slm A B dual = l at *
    generalize M.slk A B dual = q at *
    cases q
    · simp only [Bool.true_and, Bool.and_true, Bool.false_and, Bool.and_false, M.pick_t, M.pick_f, Bool.false_eq_true, if_false, if_true] at P ⊢
      have P := Lib.hid P
      go_enter Tryz.func8, Tryz.ntmps8
      go_wp2_with (first | (go_at_call 48; (with_reducible refine (PT.out _).mono ?_); rintro e w1 ⟨rfl, hb1⟩; (have bx1 := bx.keep hb1); (have c0 := bx1.c0); (have c1 := bx1.c1); (have B1 : Below w.heap.size w w1 := (by repeat (first | exact Below.refl _ _ | refine below_alloc ?_ _ | refine below_step ?_ (by assumption) | refine Below.drew ?_ | refine Below.setCell ?_ (by first | exact Nat.le_refl _ | exact Nat.le_add_right _ _ | (simp <;> omega)) _ | refine below_drewN ?_ _)))) | (go_at_call 49; (with_reducible refine (P.out _).mono ?_); rintro e w2 ⟨v, rfl, hov, hb2⟩; (have B2 := B1.trans (hb2.mono B1.size))))
      exact bodyPost_ret (v := .tuple #[v, .bool false]) (by simp [results, Tryz.results8, go_sem, *]) rfl (⟨v, rfl, hov.low B1.size, B2⟩)
    · simp only [Bool.true_and, Bool.and_true, Bool.false_and, Bool.and_false, M.pick_t, M.pick_f, Bool.false_eq_true, if_false, if_true] at P ⊢
      have P := Lib.hid P
      go_enter Tryz.func8, Tryz.ntmps8
      go_wp2_with (first | (go_at_call 48; (with_reducible refine (PT.out _).mono ?_); rintro e w1 ⟨rfl, hb1⟩; (have bx1 := bx.keep hb1); (have c0 := bx1.c0); (have c1 := bx1.c1); (have B1 : Below w.heap.size w w1 := (by repeat (first | exact Below.refl _ _ | refine below_alloc ?_ _ | refine below_step ?_ (by assumption) | refine Below.drew ?_ | refine Below.setCell ?_ (by first | exact Nat.le_refl _ | exact Nat.le_add_right _ _ | (simp <;> omega)) _ | refine below_drewN ?_ _)))) | (go_at_call 49; (with_reducible refine (P.out _).mono ?_); rintro e w2 ⟨v, rfl, hov, hb2⟩; (have B2 := B1.trans (hb2.mono B1.size))))
      exact bodyPost_ret (v := .tuple #[v, .bool true]) (by simp [results, Tryz.results8, go_sem, *]) rfl (⟨v, rfl, hov.low B1.size, B2⟩)
set_option maxRecDepth 100000 in
set_option maxHeartbeats 1000000 in
theorem implFoundGroup_c (A B : Int) (dual : Bool) (n : Int) (w : World) :
    Calls Tryz.prog 39 #[.agg #[.int .i64 A, .int .i64 B], .bool dual, .int .i64 n] w fun e w' => ∃ v, e = .returned (.tuple #[v, .bool (M.gN A B n (M.fgk A B dual n.toNat))]) ∧ OwnI w' w.heap.size v (M.optL (M.gN A B n (M.fgk A B dual n.toNat)) (M.fg A B dual n.toNat)) ∧ Below w.heap.size w w' := by
  have PT := fun W => isTwoCurve_c A B W
  unfold M.gN M.optL
  have bx := Box.new w A B 25
  cases h1 : M.tcb A B
  · simp only [h1, Bool.true_and, Bool.and_true, Bool.false_and, Bool.and_false, M.pick_t, M.pick_f, Bool.false_eq_true, if_false] at PT ⊢
    have PT := Lib.hid PT
    go_enter Tryz.func39, Tryz.ntmps39
    go_wp2_with (first | (go_at_call 46; (with_reducible refine (PT.out _).mono ?_); rintro e w1 ⟨rfl, hb1⟩; (have bx1 := bx.keep hb1); (have c0 := bx1.c0); (have c1 := bx1.c1); (have B1 : Below w.heap.size w w1 := (by repeat (first | exact Below.refl _ _ | refine below_alloc ?_ _ | refine below_step ?_ (by assumption) | refine Below.drew ?_ | refine Below.setCell ?_ (by first | exact Nat.le_refl _ | exact Nat.le_add_right _ _ | (simp <;> omega)) _ | refine below_drewN ?_ _)))) | (go_at_call 61; refine (inside_c _ _ _ _).mono ?_; rintro e w' ⟨rfl, rfl⟩))
    exact bodyPost_ret (v := .tuple #[.slice none 0 0, .bool false]) (by simp [results, Tryz.results39, go_sem, *]) rfl (⟨_, rfl, OwnI.nil _ _, B1⟩)
  · skip
    cases h2 : M.ins n 1 60
    · simp only [h1, h2, Bool.true_and, Bool.and_true, Bool.false_and, Bool.and_false, M.pick_t, M.pick_f, Bool.false_eq_true, if_false] at PT ⊢
      have PT := Lib.hid PT
      go_enter Tryz.func39, Tryz.ntmps39
      go_wp2_with (first | (go_at_call 46; (with_reducible refine (PT.out _).mono ?_); rintro e w1 ⟨rfl, hb1⟩; (have bx1 := bx.keep hb1); (have c0 := bx1.c0); (have c1 := bx1.c1); (have B1 : Below w.heap.size w w1 := (by repeat (first | exact Below.refl _ _ | refine below_alloc ?_ _ | refine below_step ?_ (by assumption) | refine Below.drew ?_ | refine Below.setCell ?_ (by first | exact Nat.le_refl _ | exact Nat.le_add_right _ _ | (simp <;> omega)) _ | refine below_drewN ?_ _)))) | (go_at_call 61; refine (inside_c _ _ _ _).mono ?_; rintro e w' ⟨rfl, rfl⟩))
      exact bodyPost_ret (v := .tuple #[.slice none 0 0, .bool false]) (by simp [results, Tryz.results39, go_sem, *]) rfl (⟨_, rfl, OwnI.nil _ _, B1⟩)
    · skip
      have ht := M.tcb_t h1
      have hk := M.ins_t h2
      simp only [h1, h2, Bool.true_and, Bool.and_true, Bool.false_and, Bool.and_false, M.pick_t, M.pick_f] at PT ⊢
      have PT := Lib.hid PT
      obtain ⟨k, rfl⟩ : ∃ k : Nat, n = k := ⟨n.toNat, by omega⟩
      have P := fun W => foundGroup_c A B dual k W ht (by omega)
      simp only [Int.toNat_natCast] at P ⊢
      clear ht
      unfold M.opt at P
      generalize M.fg A B dual k = l at *
      generalize M.fgk A B dual k = q at *
      cases q
      · simp only [Bool.true_and, Bool.and_true, Bool.false_and, Bool.and_false, M.pick_t, M.pick_f, Bool.false_eq_true, if_false, if_true] at P ⊢
        have P := Lib.hid P
        go_enter Tryz.func39, Tryz.ntmps39
        go_wp2_with (first | (go_at_call 46; (with_reducible refine (PT.out _).mono ?_); rintro e w1 ⟨rfl, hb1⟩; (have bx1 := bx.keep hb1); (have c0 := bx1.c0); (have c1 := bx1.c1); (have B1 : Below w.heap.size w w1 := (by repeat (first | exact Below.refl _ _ | refine below_alloc ?_ _ | refine below_step ?_ (by assumption) | refine Below.drew ?_ | refine Below.setCell ?_ (by first | exact Nat.le_refl _ | exact Nat.le_add_right _ _ | (simp <;> omega)) _ | refine below_drewN ?_ _)))) | (go_at_call 61; refine (inside_c _ _ _ _).mono ?_; rintro e w' ⟨rfl, rfl⟩) | (go_at_call 91; (with_reducible refine (P.out _).mono ?_); rintro e w2 ⟨v, rfl, hov, hb2⟩; (have B2 := B1.trans (hb2.mono B1.size))))
        exact bodyPost_ret (v := .tuple #[v, .bool false]) (by simp [results, Tryz.results39, go_sem, *]) rfl (⟨v, rfl, hov.low B1.size, B2⟩)
      · simp only [Bool.true_and, Bool.and_true, Bool.false_and, Bool.and_false, M.pick_t, M.pick_f, Bool.false_eq_true, if_false, if_true] at P ⊢
        have P := Lib.hid P
        go_enter Tryz.func39, Tryz.ntmps39
        go_wp2_with (first | (go_at_call 46; (with_reducible refine (PT.out _).mono ?_); rintro e w1 ⟨rfl, hb1⟩; (have bx1 := bx.keep hb1); (have c0 := bx1.c0); (have c1 := bx1.c1); (have B1 : Below w.heap.size w w1 := (by repeat (first | exact Below.refl _ _ | refine below_alloc ?_ _ | refine below_step ?_ (by assumption) | refine Below.drew ?_ | refine Below.setCell ?_ (by first | exact Nat.le_refl _ | exact Nat.le_add_right _ _ | (simp <;> omega)) _ | refine below_drewN ?_ _)))) | (go_at_call 61; refine (inside_c _ _ _ _).mono ?_; rintro e w' ⟨rfl, rfl⟩) | (go_at_call 91; (with_reducible refine (P.out _).mono ?_); rintro e w2 ⟨v, rfl, hov, hb2⟩; (have B2 := B1.trans (hb2.mono B1.size))))
        exact bodyPost_ret (v := .tuple #[v, .bool true]) (by simp [results, Tryz.results39, go_sem, *]) rfl (⟨v, rfl, hov.low B1.size, B2⟩)
set_option maxRecDepth 100000 in
set_option maxHeartbeats 1000000 in
theorem specFoundGroup_c (A B : Int) (dual : Bool) (n : Int) (w : World) :
    Calls Tryz.prog 40 #[.agg #[.int .i64 A, .int .i64 B], .bool dual, .int .i64 n] w fun e w' => ∃ v, e = .returned (.tuple #[v, .bool (M.gN A B n (M.fgk A B dual n.toNat))]) ∧ OwnI w' w.heap.size v (M.optL (M.gN A B n (M.fgk A B dual n.toNat)) (M.fg A B dual n.toNat)) ∧ Below w.heap.size w w' := by
  have PT := fun W => rkAsked_c A B n W
  unfold M.gN M.optL
  have bx := Box.new w A B 25
  cases h1 : M.tcb A B
  · simp only [h1, Bool.true_and, Bool.and_true, Bool.false_and, Bool.and_false, M.pick_t, M.pick_f, Bool.false_eq_true, if_false] at PT ⊢
    have PT := Lib.hid PT
    go_enter Tryz.func40, Tryz.ntmps40
    go_wp2_with (first | (go_at_call 79; (with_reducible refine (PT.out _).mono ?_); rintro e w1 ⟨rfl, hb1⟩; (have bx1 := bx.keep hb1); (have c0 := bx1.c0); (have c1 := bx1.c1); (have B1 : Below w.heap.size w w1 := (by repeat (first | exact Below.refl _ _ | refine below_alloc ?_ _ | refine below_step ?_ (by assumption) | refine Below.drew ?_ | refine Below.setCell ?_ (by first | exact Nat.le_refl _ | exact Nat.le_add_right _ _ | (simp <;> omega)) _ | refine below_drewN ?_ _)))))
    exact bodyPost_ret (v := .tuple #[.slice none 0 0, .bool false]) (by simp [results, Tryz.results40, go_sem, *]) rfl (⟨_, rfl, OwnI.nil _ _, B1⟩)
  · skip
    cases h2 : M.ins n 1 60
    · simp only [h1, h2, Bool.true_and, Bool.and_true, Bool.false_and, Bool.and_false, M.pick_t, M.pick_f, Bool.false_eq_true, if_false] at PT ⊢
      have PT := Lib.hid PT
      go_enter Tryz.func40, Tryz.ntmps40
      go_wp2_with (first | (go_at_call 79; (with_reducible refine (PT.out _).mono ?_); rintro e w1 ⟨rfl, hb1⟩; (have bx1 := bx.keep hb1); (have c0 := bx1.c0); (have c1 := bx1.c1); (have B1 : Below w.heap.size w w1 := (by repeat (first | exact Below.refl _ _ | refine below_alloc ?_ _ | refine below_step ?_ (by assumption) | refine Below.drew ?_ | refine Below.setCell ?_ (by first | exact Nat.le_refl _ | exact Nat.le_add_right _ _ | (simp <;> omega)) _ | refine below_drewN ?_ _)))))
      exact bodyPost_ret (v := .tuple #[.slice none 0 0, .bool false]) (by simp [results, Tryz.results40, go_sem, *]) rfl (⟨_, rfl, OwnI.nil _ _, B1⟩)
    · skip
      have ht := M.tcb_t h1
      have hk := M.ins_t h2
      simp only [h1, h2, Bool.true_and, Bool.and_true, Bool.false_and, Bool.and_false, M.pick_t, M.pick_f] at PT ⊢
      have PT := Lib.hid PT
      obtain ⟨k, rfl⟩ : ∃ k : Nat, n = k := ⟨n.toNat, by omega⟩
      have P := fun W => rkGroup_c A B dual k W ht (by omega)
      simp only [Int.toNat_natCast] at P ⊢
      clear ht
      unfold M.opt at P
      generalize M.fg A B dual k = l at *
      generalize M.fgk A B dual k = q at *
      cases q
      · simp only [Bool.true_and, Bool.and_true, Bool.false_and, Bool.and_false, M.pick_t, M.pick_f, Bool.false_eq_true, if_false, if_true] at P ⊢
        have P := Lib.hid P
        go_enter Tryz.func40, Tryz.ntmps40
        go_wp2_with (first | (go_at_call 79; (with_reducible refine (PT.out _).mono ?_); rintro e w1 ⟨rfl, hb1⟩; (have bx1 := bx.keep hb1); (have c0 := bx1.c0); (have c1 := bx1.c1); (have B1 : Below w.heap.size w w1 := (by repeat (first | exact Below.refl _ _ | refine below_alloc ?_ _ | refine below_step ?_ (by assumption) | refine Below.drew ?_ | refine Below.setCell ?_ (by first | exact Nat.le_refl _ | exact Nat.le_add_right _ _ | (simp <;> omega)) _ | refine below_drewN ?_ _)))) | (go_at_call 92; (with_reducible refine (P.out _).mono ?_); rintro e w2 ⟨v, rfl, hov, hb2⟩; (have B2 := B1.trans (hb2.mono B1.size))))
        exact bodyPost_ret (v := .tuple #[v, .bool false]) (by simp [results, Tryz.results40, go_sem, *]) rfl (⟨v, rfl, hov.low B1.size, B2⟩)
      · simp only [Bool.true_and, Bool.and_true, Bool.false_and, Bool.and_false, M.pick_t, M.pick_f, Bool.false_eq_true, if_false, if_true] at P ⊢
        have P := Lib.hid P
        go_enter Tryz.func40, Tryz.ntmps40
        go_wp2_with (first | (go_at_call 79; (with_reducible refine (PT.out _).mono ?_); rintro e w1 ⟨rfl, hb1⟩; (have bx1 := bx.keep hb1); (have c0 := bx1.c0); (have c1 := bx1.c1); (have B1 : Below w.heap.size w w1 := (by repeat (first | exact Below.refl _ _ | refine below_alloc ?_ _ | refine below_step ?_ (by assumption) | refine Below.drew ?_ | refine Below.setCell ?_ (by first | exact Nat.le_refl _ | exact Nat.le_add_right _ _ | (simp <;> omega)) _ | refine below_drewN ?_ _)))) | (go_at_call 92; (with_reducible refine (P.out _).mono ?_); rintro e w2 ⟨v, rfl, hov, hb2⟩; (have B2 := B1.trans (hb2.mono B1.size))))
        exact bodyPost_ret (v := .tuple #[v, .bool true]) (by simp [results, Tryz.results40, go_sem, *]) rfl (⟨v, rfl, hov.low B1.size, B2⟩)
set_option maxRecDepth 100000 in
set_option maxHeartbeats 1000000 in
theorem implDescentDivisors_c (A B : Int) (dual : Bool) (w : World) :
    Calls Tryz.prog 9 #[.agg #[.int .i64 A, .int .i64 B], .bool dual] w fun e w' => ∃ v, e = .returned (.tuple #[v, .bool (M.gT A B (true))]) ∧ OwnI w' w.heap.size v (M.optL (M.gT A B (true)) (M.dvs (M.sB A B dual))) ∧ Below w.heap.size w w' := by
  have PT := fun W => isTwoCurve_c A B W
  unfold M.gT M.optL
  have bx := Box.new w A B 25
  cases h1 : M.tcb A B
  · simp only [h1, Bool.true_and, Bool.and_true, Bool.false_and, Bool.and_false, M.pick_t, M.pick_f, Bool.false_eq_true, if_false] at PT ⊢
    have PT := Lib.hid PT
    go_enter Tryz.func9, Tryz.ntmps9
    go_wp2_with (first | (go_at_call 46; (with_reducible refine (PT.out _).mono ?_); rintro e w1 ⟨rfl, hb1⟩; (have bx1 := bx.keep hb1); (have c0 := bx1.c0); (have c1 := bx1.c1); (have B1 : Below w.heap.size w w1 := (by repeat (first | exact Below.refl _ _ | refine below_alloc ?_ _ | refine below_step ?_ (by assumption) | refine Below.drew ?_ | refine Below.setCell ?_ (by first | exact Nat.le_refl _ | exact Nat.le_add_right _ _ | (simp <;> omega)) _ | refine below_drewN ?_ _)))))
    exact bodyPost_ret (v := .tuple #[.slice none 0 0, .bool false]) (by simp [results, Tryz.results9, go_sem, *]) rfl (⟨_, rfl, OwnI.nil _ _, B1⟩)
  · skip
    have ht := M.tcb_t h1
    simp only [h1, Bool.true_and, Bool.and_true, Bool.false_and, Bool.and_false, M.pick_t, M.pick_f] at PT ⊢
    have PT := Lib.hid PT
    have P := fun W => descentDivisors_c A B dual W ht
    clear ht
    generalize M.dvs (M.sB A B dual) = l at *
    simp only [if_true]
    have P := Lib.hid P
    go_enter Tryz.func9, Tryz.ntmps9
    go_wp2_with (first | (go_at_call 46; (with_reducible refine (PT.out _).mono ?_); rintro e w1 ⟨rfl, hb1⟩; (have bx1 := bx.keep hb1); (have c0 := bx1.c0); (have c1 := bx1.c1); (have B1 : Below w.heap.size w w1 := (by repeat (first | exact Below.refl _ _ | refine below_alloc ?_ _ | refine below_step ?_ (by assumption) | refine Below.drew ?_ | refine Below.setCell ?_ (by first | exact Nat.le_refl _ | exact Nat.le_add_right _ _ | (simp <;> omega)) _ | refine below_drewN ?_ _)))) | (go_at_call 50; (with_reducible refine (P.out _).mono ?_); rintro e w2 ⟨v, rfl, hov, hb2⟩; (have B2 := B1.trans (hb2.mono B1.size))))
    exact bodyPost_ret (v := .tuple #[v, .bool true]) (by simp [results, Tryz.results9, go_sem, *]) rfl (⟨v, rfl, hov.low B1.size, B2⟩)
set_option maxRecDepth 100000 in
set_option maxHeartbeats 1000000 in
theorem specDescentDivisors_c (A B : Int) (dual : Bool) (w : World) :
    Calls Tryz.prog 10 #[.agg #[.int .i64 A, .int .i64 B], .bool dual] w fun e w' => ∃ v, e = .returned (.tuple #[v, .bool (M.gT A B (true))]) ∧ OwnI w' w.heap.size v (M.optL (M.gT A B (true)) (M.dvs (M.sB A B dual))) ∧ Below w.heap.size w w' := by
  have PT := fun W => tcGood_c A B W
  unfold M.gT M.optL
  have bx := Box.new w A B 25
  cases h1 : M.tcb A B
  · simp only [h1, Bool.true_and, Bool.and_true, Bool.false_and, Bool.and_false, M.pick_t, M.pick_f, Bool.false_eq_true, if_false] at PT ⊢
    have PT := Lib.hid PT
    go_enter Tryz.func10, Tryz.ntmps10
    go_wp2_with (first | (go_at_call 48; (with_reducible refine (PT.out _).mono ?_); rintro e w1 ⟨rfl, hb1⟩; (have bx1 := bx.keep hb1); (have c0 := bx1.c0); (have c1 := bx1.c1); (have B1 : Below w.heap.size w w1 := (by repeat (first | exact Below.refl _ _ | refine below_alloc ?_ _ | refine below_step ?_ (by assumption) | refine Below.drew ?_ | refine Below.setCell ?_ (by first | exact Nat.le_refl _ | exact Nat.le_add_right _ _ | (simp <;> omega)) _ | refine below_drewN ?_ _)))))
    exact bodyPost_ret (v := .tuple #[.slice none 0 0, .bool false]) (by simp [results, Tryz.results10, go_sem, *]) rfl (⟨_, rfl, OwnI.nil _ _, B1⟩)
  · skip
    have ht := M.tcb_t h1
    simp only [h1, Bool.true_and, Bool.and_true, Bool.false_and, Bool.and_false, M.pick_t, M.pick_f] at PT ⊢
    have PT := Lib.hid PT
    have P := fun W => dsDivisors_c A B dual W ht
    clear ht
    generalize M.dvs (M.sB A B dual) = l at *
    simp only [if_true]
    have P := Lib.hid P
    go_enter Tryz.func10, Tryz.ntmps10
    go_wp2_with (first | (go_at_call 48; (with_reducible refine (PT.out _).mono ?_); rintro e w1 ⟨rfl, hb1⟩; (have bx1 := bx.keep hb1); (have c0 := bx1.c0); (have c1 := bx1.c1); (have B1 : Below w.heap.size w w1 := (by repeat (first | exact Below.refl _ _ | refine below_alloc ?_ _ | refine below_step ?_ (by assumption) | refine Below.drew ?_ | refine Below.setCell ?_ (by first | exact Nat.le_refl _ | exact Nat.le_add_right _ _ | (simp <;> omega)) _ | refine below_drewN ?_ _)))) | (go_at_call 51; (with_reducible refine (P.out _).mono ?_); rintro e w2 ⟨v, rfl, hov, hb2⟩; (have B2 := B1.trans (hb2.mono B1.size))))
    exact bodyPost_ret (v := .tuple #[v, .bool true]) (by simp [results, Tryz.results10, go_sem, *]) rfl (⟨v, rfl, hov.low B1.size, B2⟩)
set_option maxRecDepth 100000 in
set_option maxHeartbeats 1000000 in
theorem implFoundDivisors_c (A B : Int) (dual : Bool) (n : Int) (w : World) :
    Calls Tryz.prog 20 #[.agg #[.int .i64 A, .int .i64 B], .bool dual, .int .i64 n] w fun e w' => ∃ v, e = .returned (.tuple #[v, .bool (M.gN A B n (true))]) ∧ OwnI w' w.heap.size v (M.optL (M.gN A B n (true)) (M.fnd A B dual n.toNat)) ∧ Below w.heap.size w w' := by
  have PT := fun W => isTwoCurve_c A B W
  unfold M.gN M.optL
  have bx := Box.new w A B 25
  cases h1 : M.tcb A B
  · simp only [h1, Bool.true_and, Bool.and_true, Bool.false_and, Bool.and_false, M.pick_t, M.pick_f, Bool.false_eq_true, if_false] at PT ⊢
    have PT := Lib.hid PT
    go_enter Tryz.func20, Tryz.ntmps20
    go_wp2_with (first | (go_at_call 46; (with_reducible refine (PT.out _).mono ?_); rintro e w1 ⟨rfl, hb1⟩; (have bx1 := bx.keep hb1); (have c0 := bx1.c0); (have c1 := bx1.c1); (have B1 : Below w.heap.size w w1 := (by repeat (first | exact Below.refl _ _ | refine below_alloc ?_ _ | refine below_step ?_ (by assumption) | refine Below.drew ?_ | refine Below.setCell ?_ (by first | exact Nat.le_refl _ | exact Nat.le_add_right _ _ | (simp <;> omega)) _ | refine below_drewN ?_ _)))) | (go_at_call 61; refine (inside_c _ _ _ _).mono ?_; rintro e w' ⟨rfl, rfl⟩))
    exact bodyPost_ret (v := .tuple #[.slice none 0 0, .bool false]) (by simp [results, Tryz.results20, go_sem, *]) rfl (⟨_, rfl, OwnI.nil _ _, B1⟩)
  · skip
    cases h2 : M.ins n 1 60
    · simp only [h1, h2, Bool.true_and, Bool.and_true, Bool.false_and, Bool.and_false, M.pick_t, M.pick_f, Bool.false_eq_true, if_false] at PT ⊢
      have PT := Lib.hid PT
      go_enter Tryz.func20, Tryz.ntmps20
      go_wp2_with (first | (go_at_call 46; (with_reducible refine (PT.out _).mono ?_); rintro e w1 ⟨rfl, hb1⟩; (have bx1 := bx.keep hb1); (have c0 := bx1.c0); (have c1 := bx1.c1); (have B1 : Below w.heap.size w w1 := (by repeat (first | exact Below.refl _ _ | refine below_alloc ?_ _ | refine below_step ?_ (by assumption) | refine Below.drew ?_ | refine Below.setCell ?_ (by first | exact Nat.le_refl _ | exact Nat.le_add_right _ _ | (simp <;> omega)) _ | refine below_drewN ?_ _)))) | (go_at_call 61; refine (inside_c _ _ _ _).mono ?_; rintro e w' ⟨rfl, rfl⟩))
      exact bodyPost_ret (v := .tuple #[.slice none 0 0, .bool false]) (by simp [results, Tryz.results20, go_sem, *]) rfl (⟨_, rfl, OwnI.nil _ _, B1⟩)
    · skip
      have ht := M.tcb_t h1
      have hk := M.ins_t h2
      simp only [h1, h2, Bool.true_and, Bool.and_true, Bool.false_and, Bool.and_false, M.pick_t, M.pick_f] at PT ⊢
      have PT := Lib.hid PT
      obtain ⟨k, rfl⟩ : ∃ k : Nat, n = k := ⟨n.toNat, by omega⟩
      have P := fun W => found_c A B dual k W ht (by omega)
      simp only [Int.toNat_natCast] at P ⊢
      clear ht
      generalize M.fnd A B dual k = l at *
      simp only [if_true]
      have P := Lib.hid P
      go_enter Tryz.func20, Tryz.ntmps20
      go_wp2_with (first | (go_at_call 46; (with_reducible refine (PT.out _).mono ?_); rintro e w1 ⟨rfl, hb1⟩; (have bx1 := bx.keep hb1); (have c0 := bx1.c0); (have c1 := bx1.c1); (have B1 : Below w.heap.size w w1 := (by repeat (first | exact Below.refl _ _ | refine below_alloc ?_ _ | refine below_step ?_ (by assumption) | refine Below.drew ?_ | refine Below.setCell ?_ (by first | exact Nat.le_refl _ | exact Nat.le_add_right _ _ | (simp <;> omega)) _ | refine below_drewN ?_ _)))) | (go_at_call 61; refine (inside_c _ _ _ _).mono ?_; rintro e w' ⟨rfl, rfl⟩) | (go_at_call 66; (with_reducible refine (P.out _).mono ?_); rintro e w2 ⟨v, rfl, hov, hb2⟩; (have B2 := B1.trans (hb2.mono B1.size))))
      exact bodyPost_ret (v := .tuple #[v, .bool true]) (by simp [results, Tryz.results20, go_sem, *]) rfl (⟨v, rfl, hov.low B1.size, B2⟩)
set_option maxRecDepth 100000 in
set_option maxHeartbeats 1000000 in
theorem specFoundDivisors_c (A B : Int) (dual : Bool) (n : Int) (w : World) :
    Calls Tryz.prog 21 #[.agg #[.int .i64 A, .int .i64 B], .bool dual, .int .i64 n] w fun e w' => ∃ v, e = .returned (.tuple #[v, .bool (M.gN A B n (true))]) ∧ OwnI w' w.heap.size v (M.optL (M.gN A B n (true)) (M.fnd A B dual n.toNat)) ∧ Below w.heap.size w w' := by
  have PT := fun W => tcGood_c A B W
  unfold M.gN M.optL
  have bx := Box.new w A B 25
  have PM := fun W => dsMost_c n W
  cases h1 : M.tcb A B
  · simp only [h1, Bool.true_and, Bool.and_true, Bool.false_and, Bool.and_false, M.pick_t, M.pick_f, Bool.false_eq_true, if_false] at PT PM ⊢
    have PT := Lib.hid PT
    have PM := Lib.hid PM
    go_enter Tryz.func21, Tryz.ntmps21
    go_wp2_with (first | (go_at_call 48; (with_reducible refine (PT.out _).mono ?_); rintro e w1 ⟨rfl, hb1⟩; (have bx1 := bx.keep hb1); (have c0 := bx1.c0); (have c1 := bx1.c1); (have B1 : Below w.heap.size w w1 := (by repeat (first | exact Below.refl _ _ | refine below_alloc ?_ _ | refine below_step ?_ (by assumption) | refine Below.drew ?_ | refine Below.setCell ?_ (by first | exact Nat.le_refl _ | exact Nat.le_add_right _ _ | (simp <;> omega)) _ | refine below_drewN ?_ _)))) | (go_at_call 67; (with_reducible refine (PM.out _).mono ?_); rintro e w1m ⟨rfl, hbm⟩; (replace bx1 := bx1.keep hbm); (have c0 := bx1.c0); (have c1 := bx1.c1); (replace B1 := B1.trans (hbm.mono B1.size))))
    exact bodyPost_ret (v := .tuple #[.slice none 0 0, .bool false]) (by simp [results, Tryz.results21, go_sem, *]) rfl (⟨_, rfl, OwnI.nil _ _, B1⟩)
  · skip
    cases h2 : M.ins n 1 60
    · simp only [h1, h2, Bool.true_and, Bool.and_true, Bool.false_and, Bool.and_false, M.pick_t, M.pick_f, Bool.false_eq_true, if_false] at PT PM ⊢
      have PT := Lib.hid PT
      have PM := Lib.hid PM
      go_enter Tryz.func21, Tryz.ntmps21
      go_wp2_with (first | (go_at_call 48; (with_reducible refine (PT.out _).mono ?_); rintro e w1 ⟨rfl, hb1⟩; (have bx1 := bx.keep hb1); (have c0 := bx1.c0); (have c1 := bx1.c1); (have B1 : Below w.heap.size w w1 := (by repeat (first | exact Below.refl _ _ | refine below_alloc ?_ _ | refine below_step ?_ (by assumption) | refine Below.drew ?_ | refine Below.setCell ?_ (by first | exact Nat.le_refl _ | exact Nat.le_add_right _ _ | (simp <;> omega)) _ | refine below_drewN ?_ _)))) | (go_at_call 67; (with_reducible refine (PM.out _).mono ?_); rintro e w1m ⟨rfl, hbm⟩; (replace bx1 := bx1.keep hbm); (have c0 := bx1.c0); (have c1 := bx1.c1); (replace B1 := B1.trans (hbm.mono B1.size))))
      exact bodyPost_ret (v := .tuple #[.slice none 0 0, .bool false]) (by simp [results, Tryz.results21, go_sem, *]) rfl (⟨_, rfl, OwnI.nil _ _, B1⟩)
    · skip
      have ht := M.tcb_t h1
      have hk := M.ins_t h2
      simp only [h1, h2, Bool.true_and, Bool.and_true, Bool.false_and, Bool.and_false, M.pick_t, M.pick_f] at PT PM ⊢
      have PT := Lib.hid PT
      have PM := Lib.hid PM
      obtain ⟨k, rfl⟩ : ∃ k : Nat, n = k := ⟨n.toNat, by omega⟩
      have P := fun W => dsFound_c A B dual k W ht (by omega)
      simp only [Int.toNat_natCast] at P ⊢
      clear ht
      generalize M.fnd A B dual k = l at *
      simp only [if_true]
      have P := Lib.hid P
      go_enter Tryz.func21, Tryz.ntmps21
      go_wp2_with (first | (go_at_call 48; (with_reducible refine (PT.out _).mono ?_); rintro e w1 ⟨rfl, hb1⟩; (have bx1 := bx.keep hb1); (have c0 := bx1.c0); (have c1 := bx1.c1); (have B1 : Below w.heap.size w w1 := (by repeat (first | exact Below.refl _ _ | refine below_alloc ?_ _ | refine below_step ?_ (by assumption) | refine Below.drew ?_ | refine Below.setCell ?_ (by first | exact Nat.le_refl _ | exact Nat.le_add_right _ _ | (simp <;> omega)) _ | refine below_drewN ?_ _)))) | (go_at_call 67; (with_reducible refine (PM.out _).mono ?_); rintro e w1m ⟨rfl, hbm⟩; (replace bx1 := bx1.keep hbm); (have c0 := bx1.c0); (have c1 := bx1.c1); (replace B1 := B1.trans (hbm.mono B1.size))) | (go_at_call 68; (with_reducible refine (P.out _).mono ?_); rintro e w2 ⟨v, rfl, hov, hb2⟩; (have B2 := B1.trans (hb2.mono B1.size))))
      exact bodyPost_ret (v := .tuple #[v, .bool true]) (by simp [results, Tryz.results21, go_sem, *]) rfl (⟨v, rfl, hov.low B1.size, B2⟩)
end Go.Proofs.YtgkjmjlkhnfbiaaGreat
