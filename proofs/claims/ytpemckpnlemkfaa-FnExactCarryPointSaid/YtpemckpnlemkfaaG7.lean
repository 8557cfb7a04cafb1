/-
  Contracts: a point carried to a neighbour, by the program: the walk.
-/
import Derived.Test.YtpemckpnlemkfaaG4
import Derived.Test.YtpemckpnlemkfaaG6
import Derived.Deep.DeepCutAuto
namespace Go.Proofs.Ytpemckpnlemkfaa
set_option linter.unusedSimpArgs false
set_option linter.unusedVariables false
open Go.RowKit
theorem cpT_of {a e : Int} {x y fa ad u v : Int × Int} {t1 t2 t3 t4 : Bool} (h1 : StepW true t1 e fa (fun B => M.fsub x B)) (h2 : StepW t1 t2 (3 * e * e + a) ad (fun B => M.fdiv B fa)) (h3 : Kp t2 t3 u.1 u.2 (M.fadd x ad)) (h4 : StepV t3 t4 y ad fa v) :
    M.cpT a e x y = if t4 then some (u, v) else none := by
  unfold M.cpT
  obtain ⟨B1, s1, a1, a2⟩ := h1
  obtain ⟨B2, s2, b1, b2⟩ := h2
  obtain ⟨B3, pt, ls, r1, r2, r3, c1, c2, c3, c4⟩ := h4
  rcases a1.cases with ⟨-, rfl, e1⟩ | ⟨-, e1 | e1⟩
  · obtain rfl : B1 = (e, 1) := (Option.some.inj e1).symm
    rcases a2.cases with ⟨-, rfl, e2⟩ | ⟨rfl, e2 | e2⟩
    · rcases b1.cases with ⟨-, rfl, e3⟩ | ⟨-, e3 | e3⟩
      · obtain rfl : B2 = (3 * e * e + a, 1) := (Option.some.inj e3).symm
        rcases b2.cases with ⟨-, rfl, e4⟩ | ⟨rfl, e4 | e4⟩
        · rcases h3.cases with ⟨-, rfl, e5⟩ | ⟨rfl, e5 | e5⟩
          · rcases c1.cases with ⟨-, rfl, e6⟩ | ⟨-, e6 | e6⟩
            · obtain rfl : B3 = (1, 1) := (Option.some.inj e6).symm
              rcases c2.cases with ⟨-, rfl, e7⟩ | ⟨rfl, e7 | e7⟩
              · rcases c3.cases with ⟨-, rfl, e8⟩ | ⟨rfl, e8 | e8⟩
                · rcases c4.cases with ⟨-, rfl, e9⟩ | ⟨rfl, e9 | e9⟩
                  · simp at e2 e4; simp [e2, e4, e5, e7, e8, e9]
                  · cases e9
                  · simp at e2 e4; simp [e2, e4, e5, e7, e8, e9]
                · cases e8
                · obtain rfl := c4.f
                  simp at e2 e4; simp [e2, e4, e5, e7, e8]
              · cases e7
              · obtain rfl := c3.f
                obtain rfl := c4.f
                simp at e2 e4; simp [e2, e4, e5, e7]
            · cases e6
            · cases e6
          · cases e5
          · obtain rfl := c1.f
            obtain rfl := c2.f
            obtain rfl := c3.f
            obtain rfl := c4.f
            simp at e2 e4; simp [e2, e4, e5]
        · cases e4
        · obtain rfl := h3.f
          obtain rfl := c1.f
          obtain rfl := c2.f
          obtain rfl := c3.f
          obtain rfl := c4.f
          simp at e2 e4; simp [e2, e4]
      · cases e3
      · cases e3
    · cases e2
    · obtain rfl := b1.f
      obtain rfl := b2.f
      obtain rfl := h3.f
      obtain rfl := c1.f
      obtain rfl := c2.f
      obtain rfl := c3.f
      obtain rfl := c4.f
      simp at e2; simp [e2]
  · cases e1
  · cases e1

set_option maxRecDepth 100000 in
set_option maxHeartbeats 8000000 in
theorem implCarryPoint_c (a b e c d u v : Int) (w : World) :
    Calls Try.prog 19 #[.agg #[.int .i64 a, .int .i64 b], .int .i64 e, .agg #[.int .i64 c, .int .i64 d], .agg #[.int .i64 u, .int .i64 v]] w fun r w' => r = .returned (.tuple #[.agg #[.int .i64 (M.cp1 (M.cpR a b e (c, d) (u, v))), .int .i64 (M.cp2 (M.cpR a b e (c, d) (u, v)))], .agg #[.int .i64 (M.cp3 (M.cpR a b e (c, d) (u, v))), .int .i64 (M.cp4 (M.cpR a b e (c, d) (u, v)))], .bool (M.cpR a b e (c, d) (u, v)).isSome]) ∧ Below w.heap.size w w' := by
  have tc : Two (((((w.alloc (.cells #[.int .i64 a, .int .i64 b] 41)).alloc (.cells #[.int .i64 c, .int .i64 d] 38)).alloc (.cells #[.int .i64 u, .int .i64 v] 38)).alloc (.cells #[.int .i64 0, .int .i64 0] 38)).alloc (.cells #[.int .i64 0, .int .i64 0] 38)) w.heap.size a b := by constructor <;> first | (simp [go_sem]; done) | (simp; omega)
  have tx : Two (((((w.alloc (.cells #[.int .i64 a, .int .i64 b] 41)).alloc (.cells #[.int .i64 c, .int .i64 d] 38)).alloc (.cells #[.int .i64 u, .int .i64 v] 38)).alloc (.cells #[.int .i64 0, .int .i64 0] 38)).alloc (.cells #[.int .i64 0, .int .i64 0] 38)) (w.heap.size + 1) c d := by constructor <;> first | (simp [go_sem]; done) | (simp; omega)
  have ty : Two (((((w.alloc (.cells #[.int .i64 a, .int .i64 b] 41)).alloc (.cells #[.int .i64 c, .int .i64 d] 38)).alloc (.cells #[.int .i64 u, .int .i64 v] 38)).alloc (.cells #[.int .i64 0, .int .i64 0] 38)).alloc (.cells #[.int .i64 0, .int .i64 0] 38)) (w.heap.size + 1 + 1) u v := by constructor <;> first | (simp [go_sem]; done) | (simp; omega)
  have z8 : Zb (((((w.alloc (.cells #[.int .i64 a, .int .i64 b] 41)).alloc (.cells #[.int .i64 c, .int .i64 d] 38)).alloc (.cells #[.int .i64 u, .int .i64 v] 38)).alloc (.cells #[.int .i64 0, .int .i64 0] 38)).alloc (.cells #[.int .i64 0, .int .i64 0] 38)) (w.heap.size + 1 + 1 + 1) := by constructor <;> first | (simp [go_sem]; done) | (simp; omega)
  have z9 : Zb (((((w.alloc (.cells #[.int .i64 a, .int .i64 b] 41)).alloc (.cells #[.int .i64 c, .int .i64 d] 38)).alloc (.cells #[.int .i64 u, .int .i64 v] 38)).alloc (.cells #[.int .i64 0, .int .i64 0] 38)).alloc (.cells #[.int .i64 0, .int .i64 0] 38)) (w.heap.size + 1 + 1 + 1 + 1) := by constructor <;> first | (simp [go_sem]; done) | (simp; omega)
  have BX : Below w.heap.size w (((((w.alloc (.cells #[.int .i64 a, .int .i64 b] 41)).alloc (.cells #[.int .i64 c, .int .i64 d] 38)).alloc (.cells #[.int .i64 u, .int .i64 v] 38)).alloc (.cells #[.int .i64 0, .int .i64 0] 38)).alloc (.cells #[.int .i64 0, .int .i64 0] 38)) := (by repeat (first | exact Below.refl _ _ | refine below_alloc ?_ _ | refine below_step ?_ (by assumption) | refine Below.drew ?_ | refine Below.setCell ?_ (by first | exact Nat.le_refl _ | exact Nat.le_add_right _ _ | (simp <;> omega)) _ | refine below_drewN ?_ _))
  have HG := fun w => isCurve_c a b w
  cases hg : M.good a b <;> simp only [hg] at HG <;> have HG := Lib.hid HG
  case false =>
    have Hm : Hid (M.cpR a b e (c, d) (u, v) = none) := Lib.hid (by unfold M.cpR; simp [nbAsk, hg])
    clear hg
    go_enter Try.func19, Try.ntmps19
    go_upto_region 1 with fail
    generalize hX : ((((w.alloc (.cells #[.int .i64 a, .int .i64 b] 41)).alloc (.cells #[.int .i64 c, .int .i64 d] 38)).alloc (.cells #[.int .i64 u, .int .i64 v] 38)).alloc (.cells #[.int .i64 0, .int .i64 0] 38)).alloc (.cells #[.int .i64 0, .int .i64 0] 38) = X at *
    have zX : X.heap.size = w.heap.size + 1 + 1 + 1 + 1 + 1 := by rw [← hX]; simp
    have zx5 : w.heap.size + 5 ≤ X.heap.size := by omega
    clear hX zX
    have q_tc_c0 := tc.c0
    have q_tc_c1 := tc.c1
    have q_tc_size := tc.size
    have q_tx_c0 := tx.c0
    have q_tx_c1 := tx.c1
    have q_tx_size := tx.size
    have q_ty_c0 := ty.c0
    have q_ty_c1 := ty.c1
    have q_ty_size := ty.size
    have q_z8_c0 := z8.c0
    have q_z8_c1 := z8.c1
    have q_z8_f0 := z8.f0
    have q_z8_f1 := z8.f1
    have q_z8_size := z8.size
    have q_z9_c0 := z9.c0
    have q_z9_c1 := z9.c1
    have q_z9_f0 := z9.f0
    have q_z9_f1 := z9.f1
    have q_z9_size := z9.size
    go_wp2_with fail
    refine (HG.out _).mono ?_; rintro r wn ⟨rfl, hb1⟩
    clear q_tc_c0 q_tc_c1 q_tc_size q_tx_c0 q_tx_c1 q_tx_size q_ty_c0 q_ty_c1 q_ty_size q_z8_c0 q_z8_c1 q_z8_f0 q_z8_f1 q_z8_size q_z9_c0 q_z9_c1 q_z9_f0 q_z9_f1 q_z9_size
    have tc := tc.keep hb1
    have tx := tx.keep hb1
    have ty := ty.keep hb1
    have z8 := z8.keep hb1
    have z9 := z9.keep hb1
    have BX := BX.trans (hb1.mono BX.size)
    clear hb1
    generalize wn = w_hb1 at *
    have q_tc_c0 := tc.c0
    have q_tc_c1 := tc.c1
    have q_tc_size := tc.size
    have q_tx_c0 := tx.c0
    have q_tx_c1 := tx.c1
    have q_tx_size := tx.size
    have q_ty_c0 := ty.c0
    have q_ty_c1 := ty.c1
    have q_ty_size := ty.size
    have q_z8_c0 := z8.c0
    have q_z8_c1 := z8.c1
    have q_z8_f0 := z8.f0
    have q_z8_f1 := z8.f1
    have q_z8_size := z8.size
    have q_z9_c0 := z9.c0
    have q_z9_c1 := z9.c1
    have q_z9_f0 := z9.f0
    have q_z9_f1 := z9.f1
    have q_z9_size := z9.size
    clear q_tc_c0 q_tc_c1 q_tc_size q_tx_c0 q_tx_c1 q_tx_size q_ty_c0 q_ty_c1 q_ty_size q_z8_c0 q_z8_c1 q_z8_f0 q_z8_f1 q_z8_size q_z9_c0 q_z9_c1 q_z9_f0 q_z9_f1 q_z9_size
    have q_tc_c0 := tc.c0
    have q_tc_c1 := tc.c1
    have q_tc_size := tc.size
    have q_tx_c0 := tx.c0
    have q_tx_c1 := tx.c1
    have q_tx_size := tx.size
    have q_ty_c0 := ty.c0
    have q_ty_c1 := ty.c1
    have q_ty_size := ty.size
    have q_z8_c0 := z8.c0
    have q_z8_c1 := z8.c1
    have q_z8_f0 := z8.f0
    have q_z8_f1 := z8.f1
    have q_z8_size := z8.size
    have q_z9_c0 := z9.c0
    have q_z9_c1 := z9.c1
    have q_z9_f0 := z9.f0
    have q_z9_f1 := z9.f1
    have q_z9_size := z9.size
    go_wp2
    exact bodyPost_ret (v := .tuple #[.agg #[.int .i64 0, .int .i64 0], .agg #[.int .i64 0, .int .i64 0], .bool false]) (by simp [results, Try.results19, go_sem, *]) rfl (⟨by rw [Hm.out]; rfl, (by repeat (first | exact Below.refl _ _ | refine below_alloc ?_ _ | refine below_step ?_ (by assumption) | refine Below.drew ?_ | refine Below.setCell ?_ (by first | exact Nat.le_refl _ | exact Nat.le_add_right _ _ | (simp <;> omega)) _ | refine below_drewN ?_ _))⟩)
  case true =>
    have hin := M.good_in hg
    have HO := fun w => isOrderTwo_c a b e w hin
    cases ho : M.order2 a b e <;> simp only [ho] at HO <;> have HO := Lib.hid HO
    case false =>
      have Hm : Hid (M.cpR a b e (c, d) (u, v) = none) := Lib.hid (by unfold M.cpR; simp [nbAsk, ho])
      clear hg ho
      go_enter Try.func19, Try.ntmps19
      go_upto_region 1 with fail
      generalize hX : ((((w.alloc (.cells #[.int .i64 a, .int .i64 b] 41)).alloc (.cells #[.int .i64 c, .int .i64 d] 38)).alloc (.cells #[.int .i64 u, .int .i64 v] 38)).alloc (.cells #[.int .i64 0, .int .i64 0] 38)).alloc (.cells #[.int .i64 0, .int .i64 0] 38) = X at *
      have zX : X.heap.size = w.heap.size + 1 + 1 + 1 + 1 + 1 := by rw [← hX]; simp
      have zx5 : w.heap.size + 5 ≤ X.heap.size := by omega
      clear hX zX
      have q_tc_c0 := tc.c0
      have q_tc_c1 := tc.c1
      have q_tc_size := tc.size
      have q_tx_c0 := tx.c0
      have q_tx_c1 := tx.c1
      have q_tx_size := tx.size
      have q_ty_c0 := ty.c0
      have q_ty_c1 := ty.c1
      have q_ty_size := ty.size
      have q_z8_c0 := z8.c0
      have q_z8_c1 := z8.c1
      have q_z8_f0 := z8.f0
      have q_z8_f1 := z8.f1
      have q_z8_size := z8.size
      have q_z9_c0 := z9.c0
      have q_z9_c1 := z9.c1
      have q_z9_f0 := z9.f0
      have q_z9_f1 := z9.f1
      have q_z9_size := z9.size
      go_wp2_with fail
      refine (HG.out _).mono ?_; rintro r wn ⟨rfl, hb1⟩
      clear q_tc_c0 q_tc_c1 q_tc_size q_tx_c0 q_tx_c1 q_tx_size q_ty_c0 q_ty_c1 q_ty_size q_z8_c0 q_z8_c1 q_z8_f0 q_z8_f1 q_z8_size q_z9_c0 q_z9_c1 q_z9_f0 q_z9_f1 q_z9_size
      have tc := tc.keep hb1
      have tx := tx.keep hb1
      have ty := ty.keep hb1
      have z8 := z8.keep hb1
      have z9 := z9.keep hb1
      have BX := BX.trans (hb1.mono BX.size)
      clear hb1
      generalize wn = w_hb1 at *
      have q_tc_c0 := tc.c0
      have q_tc_c1 := tc.c1
      have q_tc_size := tc.size
      have q_tx_c0 := tx.c0
      have q_tx_c1 := tx.c1
      have q_tx_size := tx.size
      have q_ty_c0 := ty.c0
      have q_ty_c1 := ty.c1
      have q_ty_size := ty.size
      have q_z8_c0 := z8.c0
      have q_z8_c1 := z8.c1
      have q_z8_f0 := z8.f0
      have q_z8_f1 := z8.f1
      have q_z8_size := z8.size
      have q_z9_c0 := z9.c0
      have q_z9_c1 := z9.c1
      have q_z9_f0 := z9.f0
      have q_z9_f1 := z9.f1
      have q_z9_size := z9.size
      go_wp2_with fail
      refine (HO.out _).mono ?_; rintro r wn ⟨rfl, hb2⟩
      clear q_tc_c0 q_tc_c1 q_tc_size q_tx_c0 q_tx_c1 q_tx_size q_ty_c0 q_ty_c1 q_ty_size q_z8_c0 q_z8_c1 q_z8_f0 q_z8_f1 q_z8_size q_z9_c0 q_z9_c1 q_z9_f0 q_z9_f1 q_z9_size
      have tc := tc.keep hb2
      have tx := tx.keep hb2
      have ty := ty.keep hb2
      have z8 := z8.keep hb2
      have z9 := z9.keep hb2
      have BX := BX.trans (hb2.mono BX.size)
      clear hb2
      generalize wn = w_hb2 at *
      have q_tc_c0 := tc.c0
      have q_tc_c1 := tc.c1
      have q_tc_size := tc.size
      have q_tx_c0 := tx.c0
      have q_tx_c1 := tx.c1
      have q_tx_size := tx.size
      have q_ty_c0 := ty.c0
      have q_ty_c1 := ty.c1
      have q_ty_size := ty.size
      have q_z8_c0 := z8.c0
      have q_z8_c1 := z8.c1
      have q_z8_f0 := z8.f0
      have q_z8_f1 := z8.f1
      have q_z8_size := z8.size
      have q_z9_c0 := z9.c0
      have q_z9_c1 := z9.c1
      have q_z9_f0 := z9.f0
      have q_z9_f1 := z9.f1
      have q_z9_size := z9.size
      clear q_tc_c0 q_tc_c1 q_tc_size q_tx_c0 q_tx_c1 q_tx_size q_ty_c0 q_ty_c1 q_ty_size q_z8_c0 q_z8_c1 q_z8_f0 q_z8_f1 q_z8_size q_z9_c0 q_z9_c1 q_z9_f0 q_z9_f1 q_z9_size
      have q_tc_c0 := tc.c0
      have q_tc_c1 := tc.c1
      have q_tc_size := tc.size
      have q_tx_c0 := tx.c0
      have q_tx_c1 := tx.c1
      have q_tx_size := tx.size
      have q_ty_c0 := ty.c0
      have q_ty_c1 := ty.c1
      have q_ty_size := ty.size
      have q_z8_c0 := z8.c0
      have q_z8_c1 := z8.c1
      have q_z8_f0 := z8.f0
      have q_z8_f1 := z8.f1
      have q_z8_size := z8.size
      have q_z9_c0 := z9.c0
      have q_z9_c1 := z9.c1
      have q_z9_f0 := z9.f0
      have q_z9_f1 := z9.f1
      have q_z9_size := z9.size
      go_wp2
      exact bodyPost_ret (v := .tuple #[.agg #[.int .i64 0, .int .i64 0], .agg #[.int .i64 0, .int .i64 0], .bool false]) (by simp [results, Try.results19, go_sem, *]) rfl (⟨by rw [Hm.out]; rfl, (by repeat (first | exact Below.refl _ _ | refine below_alloc ?_ _ | refine below_step ?_ (by assumption) | refine Below.drew ?_ | refine Below.setCell ?_ (by first | exact Nat.le_refl _ | exact Nat.le_add_right _ _ | (simp <;> omega)) _ | refine below_drewN ?_ _))⟩)
    case true =>
      have HX := fun w => isFraction_c c d w
      cases hx : frOk c d <;> simp only [hx] at HX <;> have HX := Lib.hid HX
      case false =>
        have Hm : Hid (M.cpR a b e (c, d) (u, v) = none) := Lib.hid (by unfold M.cpR; simp [nbAsk, hx])
        clear hg ho hx
        go_enter Try.func19, Try.ntmps19
        go_upto_region 1 with fail
        generalize hX : ((((w.alloc (.cells #[.int .i64 a, .int .i64 b] 41)).alloc (.cells #[.int .i64 c, .int .i64 d] 38)).alloc (.cells #[.int .i64 u, .int .i64 v] 38)).alloc (.cells #[.int .i64 0, .int .i64 0] 38)).alloc (.cells #[.int .i64 0, .int .i64 0] 38) = X at *
        have zX : X.heap.size = w.heap.size + 1 + 1 + 1 + 1 + 1 := by rw [← hX]; simp
        have zx5 : w.heap.size + 5 ≤ X.heap.size := by omega
        clear hX zX
        have q_tc_c0 := tc.c0
        have q_tc_c1 := tc.c1
        have q_tc_size := tc.size
        have q_tx_c0 := tx.c0
        have q_tx_c1 := tx.c1
        have q_tx_size := tx.size
        have q_ty_c0 := ty.c0
        have q_ty_c1 := ty.c1
        have q_ty_size := ty.size
        have q_z8_c0 := z8.c0
        have q_z8_c1 := z8.c1
        have q_z8_f0 := z8.f0
        have q_z8_f1 := z8.f1
        have q_z8_size := z8.size
        have q_z9_c0 := z9.c0
        have q_z9_c1 := z9.c1
        have q_z9_f0 := z9.f0
        have q_z9_f1 := z9.f1
        have q_z9_size := z9.size
        go_wp2_with fail
        refine (HG.out _).mono ?_; rintro r wn ⟨rfl, hb1⟩
        clear q_tc_c0 q_tc_c1 q_tc_size q_tx_c0 q_tx_c1 q_tx_size q_ty_c0 q_ty_c1 q_ty_size q_z8_c0 q_z8_c1 q_z8_f0 q_z8_f1 q_z8_size q_z9_c0 q_z9_c1 q_z9_f0 q_z9_f1 q_z9_size
        have tc := tc.keep hb1
        have tx := tx.keep hb1
        have ty := ty.keep hb1
        have z8 := z8.keep hb1
        have z9 := z9.keep hb1
        have BX := BX.trans (hb1.mono BX.size)
        clear hb1
        generalize wn = w_hb1 at *
        have q_tc_c0 := tc.c0
        have q_tc_c1 := tc.c1
        have q_tc_size := tc.size
        have q_tx_c0 := tx.c0
        have q_tx_c1 := tx.c1
        have q_tx_size := tx.size
        have q_ty_c0 := ty.c0
        have q_ty_c1 := ty.c1
        have q_ty_size := ty.size
        have q_z8_c0 := z8.c0
        have q_z8_c1 := z8.c1
        have q_z8_f0 := z8.f0
        have q_z8_f1 := z8.f1
        have q_z8_size := z8.size
        have q_z9_c0 := z9.c0
        have q_z9_c1 := z9.c1
        have q_z9_f0 := z9.f0
        have q_z9_f1 := z9.f1
        have q_z9_size := z9.size
        go_wp2_with fail
        refine (HO.out _).mono ?_; rintro r wn ⟨rfl, hb2⟩
        clear q_tc_c0 q_tc_c1 q_tc_size q_tx_c0 q_tx_c1 q_tx_size q_ty_c0 q_ty_c1 q_ty_size q_z8_c0 q_z8_c1 q_z8_f0 q_z8_f1 q_z8_size q_z9_c0 q_z9_c1 q_z9_f0 q_z9_f1 q_z9_size
        have tc := tc.keep hb2
        have tx := tx.keep hb2
        have ty := ty.keep hb2
        have z8 := z8.keep hb2
        have z9 := z9.keep hb2
        have BX := BX.trans (hb2.mono BX.size)
        clear hb2
        generalize wn = w_hb2 at *
        have q_tc_c0 := tc.c0
        have q_tc_c1 := tc.c1
        have q_tc_size := tc.size
        have q_tx_c0 := tx.c0
        have q_tx_c1 := tx.c1
        have q_tx_size := tx.size
        have q_ty_c0 := ty.c0
        have q_ty_c1 := ty.c1
        have q_ty_size := ty.size
        have q_z8_c0 := z8.c0
        have q_z8_c1 := z8.c1
        have q_z8_f0 := z8.f0
        have q_z8_f1 := z8.f1
        have q_z8_size := z8.size
        have q_z9_c0 := z9.c0
        have q_z9_c1 := z9.c1
        have q_z9_f0 := z9.f0
        have q_z9_f1 := z9.f1
        have q_z9_size := z9.size
        go_wp2_with fail
        refine (HX.out _).mono ?_; rintro r wn ⟨rfl, hb3⟩
        clear q_tc_c0 q_tc_c1 q_tc_size q_tx_c0 q_tx_c1 q_tx_size q_ty_c0 q_ty_c1 q_ty_size q_z8_c0 q_z8_c1 q_z8_f0 q_z8_f1 q_z8_size q_z9_c0 q_z9_c1 q_z9_f0 q_z9_f1 q_z9_size
        have tc := tc.keep hb3
        have tx := tx.keep hb3
        have ty := ty.keep hb3
        have z8 := z8.keep hb3
        have z9 := z9.keep hb3
        have BX := BX.trans (hb3.mono BX.size)
        clear hb3
        generalize wn = w_hb3 at *
        have q_tc_c0 := tc.c0
        have q_tc_c1 := tc.c1
        have q_tc_size := tc.size
        have q_tx_c0 := tx.c0
        have q_tx_c1 := tx.c1
        have q_tx_size := tx.size
        have q_ty_c0 := ty.c0
        have q_ty_c1 := ty.c1
        have q_ty_size := ty.size
        have q_z8_c0 := z8.c0
        have q_z8_c1 := z8.c1
        have q_z8_f0 := z8.f0
        have q_z8_f1 := z8.f1
        have q_z8_size := z8.size
        have q_z9_c0 := z9.c0
        have q_z9_c1 := z9.c1
        have q_z9_f0 := z9.f0
        have q_z9_f1 := z9.f1
        have q_z9_size := z9.size
        clear q_tc_c0 q_tc_c1 q_tc_size q_tx_c0 q_tx_c1 q_tx_size q_ty_c0 q_ty_c1 q_ty_size q_z8_c0 q_z8_c1 q_z8_f0 q_z8_f1 q_z8_size q_z9_c0 q_z9_c1 q_z9_f0 q_z9_f1 q_z9_size
        have q_tc_c0 := tc.c0
        have q_tc_c1 := tc.c1
        have q_tc_size := tc.size
        have q_tx_c0 := tx.c0
        have q_tx_c1 := tx.c1
        have q_tx_size := tx.size
        have q_ty_c0 := ty.c0
        have q_ty_c1 := ty.c1
        have q_ty_size := ty.size
        have q_z8_c0 := z8.c0
        have q_z8_c1 := z8.c1
        have q_z8_f0 := z8.f0
        have q_z8_f1 := z8.f1
        have q_z8_size := z8.size
        have q_z9_c0 := z9.c0
        have q_z9_c1 := z9.c1
        have q_z9_f0 := z9.f0
        have q_z9_f1 := z9.f1
        have q_z9_size := z9.size
        go_wp2
        exact bodyPost_ret (v := .tuple #[.agg #[.int .i64 0, .int .i64 0], .agg #[.int .i64 0, .int .i64 0], .bool false]) (by simp [results, Try.results19, go_sem, *]) rfl (⟨by rw [Hm.out]; rfl, (by repeat (first | exact Below.refl _ _ | refine below_alloc ?_ _ | refine below_step ?_ (by assumption) | refine Below.drew ?_ | refine Below.setCell ?_ (by first | exact Nat.le_refl _ | exact Nat.le_add_right _ _ | (simp <;> omega)) _ | refine below_drewN ?_ _))⟩)
      case true =>
        have HY := fun w => isFraction_c u v w
        cases hy : frOk u v <;> simp only [hy] at HY <;> have HY := Lib.hid HY
        case false =>
          have Hm : Hid (M.cpR a b e (c, d) (u, v) = none) := Lib.hid (by unfold M.cpR; simp [nbAsk, hy])
          clear hg ho hx hy
          go_enter Try.func19, Try.ntmps19
          go_upto_region 1 with fail
          generalize hX : ((((w.alloc (.cells #[.int .i64 a, .int .i64 b] 41)).alloc (.cells #[.int .i64 c, .int .i64 d] 38)).alloc (.cells #[.int .i64 u, .int .i64 v] 38)).alloc (.cells #[.int .i64 0, .int .i64 0] 38)).alloc (.cells #[.int .i64 0, .int .i64 0] 38) = X at *
          have zX : X.heap.size = w.heap.size + 1 + 1 + 1 + 1 + 1 := by rw [← hX]; simp
          have zx5 : w.heap.size + 5 ≤ X.heap.size := by omega
          clear hX zX
          have q_tc_c0 := tc.c0
          have q_tc_c1 := tc.c1
          have q_tc_size := tc.size
          have q_tx_c0 := tx.c0
          have q_tx_c1 := tx.c1
          have q_tx_size := tx.size
          have q_ty_c0 := ty.c0
          have q_ty_c1 := ty.c1
          have q_ty_size := ty.size
          have q_z8_c0 := z8.c0
          have q_z8_c1 := z8.c1
          have q_z8_f0 := z8.f0
          have q_z8_f1 := z8.f1
          have q_z8_size := z8.size
          have q_z9_c0 := z9.c0
          have q_z9_c1 := z9.c1
          have q_z9_f0 := z9.f0
          have q_z9_f1 := z9.f1
          have q_z9_size := z9.size
          go_wp2_with fail
          refine (HG.out _).mono ?_; rintro r wn ⟨rfl, hb1⟩
          clear q_tc_c0 q_tc_c1 q_tc_size q_tx_c0 q_tx_c1 q_tx_size q_ty_c0 q_ty_c1 q_ty_size q_z8_c0 q_z8_c1 q_z8_f0 q_z8_f1 q_z8_size q_z9_c0 q_z9_c1 q_z9_f0 q_z9_f1 q_z9_size
          have tc := tc.keep hb1
          have tx := tx.keep hb1
          have ty := ty.keep hb1
          have z8 := z8.keep hb1
          have z9 := z9.keep hb1
          have BX := BX.trans (hb1.mono BX.size)
          clear hb1
          generalize wn = w_hb1 at *
          have q_tc_c0 := tc.c0
          have q_tc_c1 := tc.c1
          have q_tc_size := tc.size
          have q_tx_c0 := tx.c0
          have q_tx_c1 := tx.c1
          have q_tx_size := tx.size
          have q_ty_c0 := ty.c0
          have q_ty_c1 := ty.c1
          have q_ty_size := ty.size
          have q_z8_c0 := z8.c0
          have q_z8_c1 := z8.c1
          have q_z8_f0 := z8.f0
          have q_z8_f1 := z8.f1
          have q_z8_size := z8.size
          have q_z9_c0 := z9.c0
          have q_z9_c1 := z9.c1
          have q_z9_f0 := z9.f0
          have q_z9_f1 := z9.f1
          have q_z9_size := z9.size
          go_wp2_with fail
          refine (HO.out _).mono ?_; rintro r wn ⟨rfl, hb2⟩
          clear q_tc_c0 q_tc_c1 q_tc_size q_tx_c0 q_tx_c1 q_tx_size q_ty_c0 q_ty_c1 q_ty_size q_z8_c0 q_z8_c1 q_z8_f0 q_z8_f1 q_z8_size q_z9_c0 q_z9_c1 q_z9_f0 q_z9_f1 q_z9_size
          have tc := tc.keep hb2
          have tx := tx.keep hb2
          have ty := ty.keep hb2
          have z8 := z8.keep hb2
          have z9 := z9.keep hb2
          have BX := BX.trans (hb2.mono BX.size)
          clear hb2
          generalize wn = w_hb2 at *
          have q_tc_c0 := tc.c0
          have q_tc_c1 := tc.c1
          have q_tc_size := tc.size
          have q_tx_c0 := tx.c0
          have q_tx_c1 := tx.c1
          have q_tx_size := tx.size
          have q_ty_c0 := ty.c0
          have q_ty_c1 := ty.c1
          have q_ty_size := ty.size
          have q_z8_c0 := z8.c0
          have q_z8_c1 := z8.c1
          have q_z8_f0 := z8.f0
          have q_z8_f1 := z8.f1
          have q_z8_size := z8.size
          have q_z9_c0 := z9.c0
          have q_z9_c1 := z9.c1
          have q_z9_f0 := z9.f0
          have q_z9_f1 := z9.f1
          have q_z9_size := z9.size
          go_wp2_with fail
          refine (HX.out _).mono ?_; rintro r wn ⟨rfl, hb3⟩
          clear q_tc_c0 q_tc_c1 q_tc_size q_tx_c0 q_tx_c1 q_tx_size q_ty_c0 q_ty_c1 q_ty_size q_z8_c0 q_z8_c1 q_z8_f0 q_z8_f1 q_z8_size q_z9_c0 q_z9_c1 q_z9_f0 q_z9_f1 q_z9_size
          have tc := tc.keep hb3
          have tx := tx.keep hb3
          have ty := ty.keep hb3
          have z8 := z8.keep hb3
          have z9 := z9.keep hb3
          have BX := BX.trans (hb3.mono BX.size)
          clear hb3
          generalize wn = w_hb3 at *
          have q_tc_c0 := tc.c0
          have q_tc_c1 := tc.c1
          have q_tc_size := tc.size
          have q_tx_c0 := tx.c0
          have q_tx_c1 := tx.c1
          have q_tx_size := tx.size
          have q_ty_c0 := ty.c0
          have q_ty_c1 := ty.c1
          have q_ty_size := ty.size
          have q_z8_c0 := z8.c0
          have q_z8_c1 := z8.c1
          have q_z8_f0 := z8.f0
          have q_z8_f1 := z8.f1
          have q_z8_size := z8.size
          have q_z9_c0 := z9.c0
          have q_z9_c1 := z9.c1
          have q_z9_f0 := z9.f0
          have q_z9_f1 := z9.f1
          have q_z9_size := z9.size
          go_wp2_with fail
          refine (HY.out _).mono ?_; rintro r wn ⟨rfl, hb4⟩
          clear q_tc_c0 q_tc_c1 q_tc_size q_tx_c0 q_tx_c1 q_tx_size q_ty_c0 q_ty_c1 q_ty_size q_z8_c0 q_z8_c1 q_z8_f0 q_z8_f1 q_z8_size q_z9_c0 q_z9_c1 q_z9_f0 q_z9_f1 q_z9_size
          have tc := tc.keep hb4
          have tx := tx.keep hb4
          have ty := ty.keep hb4
          have z8 := z8.keep hb4
          have z9 := z9.keep hb4
          have BX := BX.trans (hb4.mono BX.size)
          clear hb4
          generalize wn = w_hb4 at *
          have q_tc_c0 := tc.c0
          have q_tc_c1 := tc.c1
          have q_tc_size := tc.size
          have q_tx_c0 := tx.c0
          have q_tx_c1 := tx.c1
          have q_tx_size := tx.size
          have q_ty_c0 := ty.c0
          have q_ty_c1 := ty.c1
          have q_ty_size := ty.size
          have q_z8_c0 := z8.c0
          have q_z8_c1 := z8.c1
          have q_z8_f0 := z8.f0
          have q_z8_f1 := z8.f1
          have q_z8_size := z8.size
          have q_z9_c0 := z9.c0
          have q_z9_c1 := z9.c1
          have q_z9_f0 := z9.f0
          have q_z9_f1 := z9.f1
          have q_z9_size := z9.size
          clear q_tc_c0 q_tc_c1 q_tc_size q_tx_c0 q_tx_c1 q_tx_size q_ty_c0 q_ty_c1 q_ty_size q_z8_c0 q_z8_c1 q_z8_f0 q_z8_f1 q_z8_size q_z9_c0 q_z9_c1 q_z9_f0 q_z9_f1 q_z9_size
          have q_tc_c0 := tc.c0
          have q_tc_c1 := tc.c1
          have q_tc_size := tc.size
          have q_tx_c0 := tx.c0
          have q_tx_c1 := tx.c1
          have q_tx_size := tx.size
          have q_ty_c0 := ty.c0
          have q_ty_c1 := ty.c1
          have q_ty_size := ty.size
          have q_z8_c0 := z8.c0
          have q_z8_c1 := z8.c1
          have q_z8_f0 := z8.f0
          have q_z8_f1 := z8.f1
          have q_z8_size := z8.size
          have q_z9_c0 := z9.c0
          have q_z9_c1 := z9.c1
          have q_z9_f0 := z9.f0
          have q_z9_f1 := z9.f1
          have q_z9_size := z9.size
          go_wp2
          exact bodyPost_ret (v := .tuple #[.agg #[.int .i64 0, .int .i64 0], .agg #[.int .i64 0, .int .i64 0], .bool false]) (by simp [results, Try.results19, go_sem, *]) rfl (⟨by rw [Hm.out]; rfl, (by repeat (first | exact Below.refl _ _ | refine below_alloc ?_ _ | refine below_step ?_ (by assumption) | refine Below.drew ?_ | refine Below.setCell ?_ (by first | exact Nat.le_refl _ | exact Nat.le_add_right _ _ | (simp <;> omega)) _ | refine below_drewN ?_ _))⟩)
        case true =>
          have Hm0 : Hid (M.cpR a b e (c, d) (u, v) = if !(c == e && d == 1) && ((M.onR a b (c, d) (u, v)).getD false) then M.cpT a e (c, d) (u, v) else none) := Lib.hid (by unfold M.cpR; simp [nbAsk, hg, ho, hx, hy])
          obtain ⟨g1, g2, g3, g4⟩ := M.inCurve_bd hin
          obtain ⟨e1, e2⟩ := order2_bd ho
          have hsq := M.mul_bd (x := e) (y := e) (m := 200) (n := 200) (by omega) (by omega) (by omega) (by omega)
          have ht3 : 3 * e * e = 3 * (e * e) := Int.mul_assoc 3 e e
          have bt1 : -200000 ≤ 3 * e * e ∧ 3 * e * e ≤ 200000 := by omega
          have Okx := Lib.hid hx
          have Oky := Lib.hid hy
          clear hg ho hin hx hy hsq ht3
          go_enter Try.func19, Try.ntmps19
          go_upto_region 1 with fail
          generalize hX : ((((w.alloc (.cells #[.int .i64 a, .int .i64 b] 41)).alloc (.cells #[.int .i64 c, .int .i64 d] 38)).alloc (.cells #[.int .i64 u, .int .i64 v] 38)).alloc (.cells #[.int .i64 0, .int .i64 0] 38)).alloc (.cells #[.int .i64 0, .int .i64 0] 38) = X at *
          have zX : X.heap.size = w.heap.size + 1 + 1 + 1 + 1 + 1 := by rw [← hX]; simp
          have zx5 : w.heap.size + 5 ≤ X.heap.size := by omega
          clear hX zX
          have q_tc_c0 := tc.c0
          have q_tc_c1 := tc.c1
          have q_tc_size := tc.size
          have q_tx_c0 := tx.c0
          have q_tx_c1 := tx.c1
          have q_tx_size := tx.size
          have q_ty_c0 := ty.c0
          have q_ty_c1 := ty.c1
          have q_ty_size := ty.size
          have q_z8_c0 := z8.c0
          have q_z8_c1 := z8.c1
          have q_z8_f0 := z8.f0
          have q_z8_f1 := z8.f1
          have q_z8_size := z8.size
          have q_z9_c0 := z9.c0
          have q_z9_c1 := z9.c1
          have q_z9_f0 := z9.f0
          have q_z9_f1 := z9.f1
          have q_z9_size := z9.size
          go_wp2_with fail
          refine (HG.out _).mono ?_; rintro r wn ⟨rfl, hb1⟩
          clear q_tc_c0 q_tc_c1 q_tc_size q_tx_c0 q_tx_c1 q_tx_size q_ty_c0 q_ty_c1 q_ty_size q_z8_c0 q_z8_c1 q_z8_f0 q_z8_f1 q_z8_size q_z9_c0 q_z9_c1 q_z9_f0 q_z9_f1 q_z9_size
          have tc := tc.keep hb1
          have tx := tx.keep hb1
          have ty := ty.keep hb1
          have z8 := z8.keep hb1
          have z9 := z9.keep hb1
          have BX := BX.trans (hb1.mono BX.size)
          clear hb1
          generalize wn = w_hb1 at *
          have q_tc_c0 := tc.c0
          have q_tc_c1 := tc.c1
          have q_tc_size := tc.size
          have q_tx_c0 := tx.c0
          have q_tx_c1 := tx.c1
          have q_tx_size := tx.size
          have q_ty_c0 := ty.c0
          have q_ty_c1 := ty.c1
          have q_ty_size := ty.size
          have q_z8_c0 := z8.c0
          have q_z8_c1 := z8.c1
          have q_z8_f0 := z8.f0
          have q_z8_f1 := z8.f1
          have q_z8_size := z8.size
          have q_z9_c0 := z9.c0
          have q_z9_c1 := z9.c1
          have q_z9_f0 := z9.f0
          have q_z9_f1 := z9.f1
          have q_z9_size := z9.size
          go_wp2_with fail
          refine (HO.out _).mono ?_; rintro r wn ⟨rfl, hb2⟩
          clear q_tc_c0 q_tc_c1 q_tc_size q_tx_c0 q_tx_c1 q_tx_size q_ty_c0 q_ty_c1 q_ty_size q_z8_c0 q_z8_c1 q_z8_f0 q_z8_f1 q_z8_size q_z9_c0 q_z9_c1 q_z9_f0 q_z9_f1 q_z9_size
          have tc := tc.keep hb2
          have tx := tx.keep hb2
          have ty := ty.keep hb2
          have z8 := z8.keep hb2
          have z9 := z9.keep hb2
          have BX := BX.trans (hb2.mono BX.size)
          clear hb2
          generalize wn = w_hb2 at *
          have q_tc_c0 := tc.c0
          have q_tc_c1 := tc.c1
          have q_tc_size := tc.size
          have q_tx_c0 := tx.c0
          have q_tx_c1 := tx.c1
          have q_tx_size := tx.size
          have q_ty_c0 := ty.c0
          have q_ty_c1 := ty.c1
          have q_ty_size := ty.size
          have q_z8_c0 := z8.c0
          have q_z8_c1 := z8.c1
          have q_z8_f0 := z8.f0
          have q_z8_f1 := z8.f1
          have q_z8_size := z8.size
          have q_z9_c0 := z9.c0
          have q_z9_c1 := z9.c1
          have q_z9_f0 := z9.f0
          have q_z9_f1 := z9.f1
          have q_z9_size := z9.size
          go_wp2_with fail
          refine (HX.out _).mono ?_; rintro r wn ⟨rfl, hb3⟩
          clear q_tc_c0 q_tc_c1 q_tc_size q_tx_c0 q_tx_c1 q_tx_size q_ty_c0 q_ty_c1 q_ty_size q_z8_c0 q_z8_c1 q_z8_f0 q_z8_f1 q_z8_size q_z9_c0 q_z9_c1 q_z9_f0 q_z9_f1 q_z9_size
          have tc := tc.keep hb3
          have tx := tx.keep hb3
          have ty := ty.keep hb3
          have z8 := z8.keep hb3
          have z9 := z9.keep hb3
          have BX := BX.trans (hb3.mono BX.size)
          clear hb3
          generalize wn = w_hb3 at *
          have q_tc_c0 := tc.c0
          have q_tc_c1 := tc.c1
          have q_tc_size := tc.size
          have q_tx_c0 := tx.c0
          have q_tx_c1 := tx.c1
          have q_tx_size := tx.size
          have q_ty_c0 := ty.c0
          have q_ty_c1 := ty.c1
          have q_ty_size := ty.size
          have q_z8_c0 := z8.c0
          have q_z8_c1 := z8.c1
          have q_z8_f0 := z8.f0
          have q_z8_f1 := z8.f1
          have q_z8_size := z8.size
          have q_z9_c0 := z9.c0
          have q_z9_c1 := z9.c1
          have q_z9_f0 := z9.f0
          have q_z9_f1 := z9.f1
          have q_z9_size := z9.size
          go_wp2_with fail
          refine (HY.out _).mono ?_; rintro r wn ⟨rfl, hb4⟩
          clear q_tc_c0 q_tc_c1 q_tc_size q_tx_c0 q_tx_c1 q_tx_size q_ty_c0 q_ty_c1 q_ty_size q_z8_c0 q_z8_c1 q_z8_f0 q_z8_f1 q_z8_size q_z9_c0 q_z9_c1 q_z9_f0 q_z9_f1 q_z9_size
          have tc := tc.keep hb4
          have tx := tx.keep hb4
          have ty := ty.keep hb4
          have z8 := z8.keep hb4
          have z9 := z9.keep hb4
          have BX := BX.trans (hb4.mono BX.size)
          clear hb4
          generalize wn = w_hb4 at *
          have q_tc_c0 := tc.c0
          have q_tc_c1 := tc.c1
          have q_tc_size := tc.size
          have q_tx_c0 := tx.c0
          have q_tx_c1 := tx.c1
          have q_tx_size := tx.size
          have q_ty_c0 := ty.c0
          have q_ty_c1 := ty.c1
          have q_ty_size := ty.size
          have q_z8_c0 := z8.c0
          have q_z8_c1 := z8.c1
          have q_z8_f0 := z8.f0
          have q_z8_f1 := z8.f1
          have q_z8_size := z8.size
          have q_z9_c0 := z9.c0
          have q_z9_c1 := z9.c1
          have q_z9_f0 := z9.f0
          have q_z9_f1 := z9.f1
          have q_z9_size := z9.size
          have zx6 : w.heap.size + 5 ≤ w_hb4.heap.size := by have := q_z9_size; omega
          clear q_tc_c0 q_tc_c1 q_tc_size q_tx_c0 q_tx_c1 q_tx_size q_ty_c0 q_ty_c1 q_ty_size q_z8_c0 q_z8_c1 q_z8_f0 q_z8_f1 q_z8_size q_z9_c0 q_z9_c1 q_z9_f0 q_z9_f1 q_z9_size
          have tc := tc.alloc (.cells #[.bool true] 71)
          have tx := tx.alloc (.cells #[.bool true] 71)
          have ty := ty.alloc (.cells #[.bool true] 71)
          have z8 := z8.alloc (.cells #[.bool true] 71)
          have z9 := z9.alloc (.cells #[.bool true] 71)
          have hC : IsCalc (w_hb4.alloc (.cells #[.bool true] 71)) w_hb4.heap.size := ⟨by rw [show okAt (w_hb4.alloc (.cells #[.bool true] 71)) w_hb4.heap.size = true from okAt_of (box_cell _ _ _ _)]; exact box_cell _ _ _ _, by simp [go_sem], by rw [World.size_alloc]; omega⟩
          have hT : okAt (w_hb4.alloc (.cells #[.bool true] 71)) w_hb4.heap.size = true := okAt_of (box_cell _ _ _ _)
          have BX := below_alloc BX (.cells #[.bool true] 71)
          have q_tc_c0 := tc.c0
          have q_tc_c1 := tc.c1
          have q_tc_size := tc.size
          have q_tx_c0 := tx.c0
          have q_tx_c1 := tx.c1
          have q_tx_size := tx.size
          have q_ty_c0 := ty.c0
          have q_ty_c1 := ty.c1
          have q_ty_size := ty.size
          have q_z8_c0 := z8.c0
          have q_z8_c1 := z8.c1
          have q_z8_f0 := z8.f0
          have q_z8_f1 := z8.f1
          have q_z8_size := z8.size
          have q_z9_c0 := z9.c0
          have q_z9_c1 := z9.c1
          have q_z9_f0 := z9.f0
          have q_z9_f1 := z9.f1
          have q_z9_size := z9.size
          go_wp2_with fail
          generalize hgg : w_hb4.heap.size = g at *
          generalize w_hb4.alloc (.cells #[.bool true] 71) = W0 at *
          clear hgg
          have n_c : w.heap.size ≠ g := by omega
          have n_x : w.heap.size + 1 ≠ g := by omega
          have n_y : w.heap.size + 1 + 1 ≠ g := by omega
          have n_8 : w.heap.size + 1 + 1 + 1 ≠ g := by omega
          have n_9 : w.heap.size + 1 + 1 + 1 + 1 ≠ g := by omega
          refine (times_c g u v u v _ Oky.out Oky.out hC).mono ?_; rintro r w1 ⟨⟨l1, l2⟩, rfl, K1, hC1, hg1⟩
          rw [hT] at K1
          clear q_tc_c0 q_tc_c1 q_tc_size q_tx_c0 q_tx_c1 q_tx_size q_ty_c0 q_ty_c1 q_ty_size q_z8_c0 q_z8_c1 q_z8_f0 q_z8_f1 q_z8_size q_z9_c0 q_z9_c1 q_z9_f0 q_z9_f1 q_z9_size
          have tc := tc.keepG hg1 n_c
          have tx := tx.keepG hg1 n_x
          have ty := ty.keepG hg1 n_y
          have z8 := z8.keepG hg1 n_8
          have z9 := z9.keepG hg1 n_9
          have tc := tc.alloc (.cells #[.int .i64 l1, .int .i64 l2] 38)
          have tx := tx.alloc (.cells #[.int .i64 l1, .int .i64 l2] 38)
          have ty := ty.alloc (.cells #[.int .i64 l1, .int .i64 l2] 38)
          have z8 := z8.alloc (.cells #[.int .i64 l1, .int .i64 l2] 38)
          have z9 := z9.alloc (.cells #[.int .i64 l1, .int .i64 l2] 38)
          have hC := hC1.alloc (.cells #[.int .i64 l1, .int .i64 l2] 38)
          have s_l : g < w1.heap.size := hC1.size
          have K1 : Kp true (okAt (w1.alloc (.cells #[.int .i64 l1, .int .i64 l2] 38)) g) l1 l2 (M.fmul (u, v) (u, v)) := by rw [okAt_alloc s_l]; exact K1
          have BX := below_alloc (Gr.toBelow BX hg1 BX.size (by omega)) (.cells #[.int .i64 l1, .int .i64 l2] 38)
          have tl := Two.new w1 l1 l2 38
          have n_l : w1.heap.size ≠ g := by omega
          clear hC1 hg1 hT
          go_upto_region 5 with fail
          generalize hL : w1.heap.size = L at *
          generalize w1.alloc (.cells #[.int .i64 l1, .int .i64 l2] 38) = W at *
          clear hL
          have q_tx_c0 := tx.c0
          have q_tx_c1 := tx.c1
          have q_tx_size := tx.size
          have q_tc_c0 := tc.c0
          have q_tc_c1 := tc.c1
          have q_tc_size := tc.size
          have sW := hC.size
          have okx := Okx.out
          go_upto_region 5 with fail
          go_cut [13] (fun sx wx => (∃ r : Int × Int, BoxAt W wx sx r.1 r.2 ∧ RightR (okAt W g) (okAt wx g) a b (c, d) r) ∧ IsCalc wx g ∧ W.grownBy wx (some g))
          case first => as_aux_lemma =>
            (try clear HG); (try clear HO); (try clear HX); (try clear HY); (try clear Hm0); (try clear H0); (try clear Hm); (try clear Okx); (try clear Oky); (try clear tc); (try clear tx); (try clear ty); (try clear tl); (try clear tr); (try clear tf); (try clear ta); (try clear tu); (try clear z8); (try clear z9); (try clear BX); (try clear K1); (try clear n_8); (try clear n_9); (try clear n_l); (try clear s_l); (try clear q_tx_size); (try clear q_tc_size); (try clear hR); (try clear hR8); (try clear hR9); (try clear K10); (try clear hgl6)
            go_region_held3 (fun W => W.cell? ⟨w.heap.size + 1, 0, none⟩ = some (.int .i64 c) ∧ W.cell? ⟨w.heap.size + 1, 1, none⟩ = some (.int .i64 d) ∧ W.cell? ⟨w.heap.size, 0, none⟩ = some (.int .i64 a) ∧ W.cell? ⟨w.heap.size, 1, none⟩ = some (.int .i64 b) ∧ IsCalc W g) (first | (refine ⟨?_, ?_, ?_, ?_, ?_⟩ <;> (first | (with_reducible assumption) | (with_reducible refine Gr.cellK (by assumption) (by assumption) ?_; omega) | (with_reducible exact Gr.recell0 (by assumption)) | (with_reducible exact recell0D (by assumption)) | (with_reducible exact celD (by assumption)) | (with_reducible refine Gr.recell (by assumption) ?_; (intro hh_; (try simp only [World.size_alloc, heap_drew, World.heap_drewN, size_setCell] at hh_); omega)) | (with_reducible refine Gr.far2 (by assumption) ?_ ?_ <;> (intro hh_; (try simp only [World.size_alloc, heap_drew, World.heap_drewN, size_setCell] at hh_); omega)) | (with_reducible exact IsCalc.drew (by assumption)) | (with_reducible exact IsCalc.drew (IsCalc.alloc (by assumption) _)) | (with_reducible exact IsCalc.alloc (by assumption) _) | (with_reducible refine IsCalc.set (IsCalc.set (by assumption) _ ?_) _ ?_ <;> (intro hh_; (try simp only [World.size_alloc, heap_drew, World.heap_drewN, size_setCell] at hh_); omega)) | assumption)) | (go_split_ands; (refine ⟨?_, ?_, ?_, ?_, ?_⟩ <;> (first | (with_reducible assumption) | (with_reducible refine Gr.cellK (by assumption) (by assumption) ?_; omega) | (with_reducible exact Gr.recell0 (by assumption)) | (with_reducible exact recell0D (by assumption)) | (with_reducible exact celD (by assumption)) | (with_reducible refine Gr.recell (by assumption) ?_; (intro hh_; (try simp only [World.size_alloc, heap_drew, World.heap_drewN, size_setCell] at hh_); omega)) | (with_reducible refine Gr.far2 (by assumption) ?_ ?_ <;> (intro hh_; (try simp only [World.size_alloc, heap_drew, World.heap_drewN, size_setCell] at hh_); omega)) | (with_reducible exact IsCalc.drew (by assumption)) | (with_reducible exact IsCalc.drew (IsCalc.alloc (by assumption) _)) | (with_reducible exact IsCalc.alloc (by assumption) _) | (with_reducible refine IsCalc.set (IsCalc.set (by assumption) _ ?_) _ ?_ <;> (intro hh_; (try simp only [World.size_alloc, heap_drew, World.heap_drewN, size_setCell] at hh_); omega)) | assumption))) | go_keep) (first | (go_at_call 46; (try go_split_ands); (try simp only [hw1]); (try simp only [hw2]); (try simp only [hw3]); refine (times_c _ _ _ _ _ _ (by assumption) (by assumption) (by assumption)).mono ?_; rintro e w' ⟨p_, rfl, hk_, hc_, hg_⟩; have hs_ := hc_.size; have hz_ := hg_.size; (try simp only [World.size_alloc, heap_drew, World.heap_drewN, size_setCell] at hz_); have ho_ := hk_.good; (try rw [okAt_drew] at hk_); (try rw [okAt_alloc (by (try simp only [World.size_alloc, heap_drew, World.heap_drewN, size_setCell]); omega)] at hk_); (try rw [okAt_drew] at hk_); (first | have zz_ := Zb.keepG (Zb.new _ _) hg_ (by (try simp only [World.size_alloc, heap_drew, World.heap_drewN, size_setCell]); omega) | have zz_ := Zb.keepG (Zb.newD _ _) hg_ (by (try simp only [World.size_alloc, heap_drew, World.heap_drewN, size_setCell]); omega) | have zz_ := Zb.keepG zz_ hg_ (by omega) | skip); (first | (have z0_ := zz_.c0; have z1_ := zz_.c1; have z2_ := zz_.f0; have z3_ := zz_.f1; have z4_ := zz_.size) | skip)) | (go_at_call 47; (try go_split_ands); (try simp only [hw1]); (try simp only [hw2]); (try simp only [hw3]); refine (plus_c _ _ _ _ _ _ (by assumption) (by assumption) (by assumption)).mono ?_; rintro e w' ⟨p_, rfl, hk_, hc_, hg_⟩; have hs_ := hc_.size; have hz_ := hg_.size; (try simp only [World.size_alloc, heap_drew, World.heap_drewN, size_setCell] at hz_); have ho_ := hk_.good; (try rw [okAt_drew] at hk_); (try rw [okAt_alloc (by (try simp only [World.size_alloc, heap_drew, World.heap_drewN, size_setCell]); omega)] at hk_); (try rw [okAt_drew] at hk_); (first | have zz_ := Zb.keepG (Zb.new _ _) hg_ (by (try simp only [World.size_alloc, heap_drew, World.heap_drewN, size_setCell]); omega) | have zz_ := Zb.keepG (Zb.newD _ _) hg_ (by (try simp only [World.size_alloc, heap_drew, World.heap_drewN, size_setCell]); omega) | have zz_ := Zb.keepG zz_ hg_ (by omega) | skip); (first | (have z0_ := zz_.c0; have z1_ := zz_.c1; have z2_ := zz_.f0; have z3_ := zz_.f1; have z4_ := zz_.size) | skip)) | (go_at_call 48; (try go_split_ands); (try simp only [hw1]); (try simp only [hw2]); (try simp only [hw3]); refine (whole_c _ _ _ (by omega) (by omega) (by assumption)).mono ?_; rintro e w' ⟨p_, rfl, hk_, hc_, hg_⟩; have hs_ := hc_.size; have hz_ := hg_.size; (try simp only [World.size_alloc, heap_drew, World.heap_drewN, size_setCell] at hz_); have ho_ := hk_.good; (try rw [okAt_drew] at hk_); (try rw [okAt_alloc (by (try simp only [World.size_alloc, heap_drew, World.heap_drewN, size_setCell]); omega)] at hk_); (try rw [okAt_drew] at hk_); (first | have zz_ := Zb.keepG (Zb.new _ _) hg_ (by (try simp only [World.size_alloc, heap_drew, World.heap_drewN, size_setCell]); omega) | have zz_ := Zb.keepG (Zb.newD _ _) hg_ (by (try simp only [World.size_alloc, heap_drew, World.heap_drewN, size_setCell]); omega) | have zz_ := Zb.keepG zz_ hg_ (by omega) | skip); (first | (have z0_ := zz_.c0; have z1_ := zz_.c1; have z2_ := zz_.f0; have z3_ := zz_.f1; have z4_ := zz_.size) | skip)))
            all_goals
              go_wp2_with fail
              go_meet
              refine ⟨⟨p_, ⟨_, rfl, by simp [go_sem, *], by simp [go_sem, *], by (try simp only [World.size_alloc, heap_drew, World.heap_drewN, size_setCell]); omega, by (try simp only [World.size_alloc, heap_drew, World.heap_drewN, size_setCell]); omega⟩, ?_⟩, (by first | assumption | exact IsCalc.alloc (by assumption) _ | (refine IsCalc.set (IsCalc.set (by assumption) _ ?_) _ ?_ <;> (intro hh_; (try simp only [World.size_alloc, heap_drew, World.heap_drewN, size_setCell] at hh_); omega))), (by repeat (first | exact World.grownBy.refl _ _ | assumption | refine Gr.alloc ?_ _ | refine grown_tr ?_ (by assumption) | refine Gr.setNew ?_ (by (try simp only [World.size_alloc, heap_drew, World.heap_drewN, size_setCell]); omega) _ | refine Gr.drew ?_ | refine grown_dr ?_ _))⟩
              (try rw [okAt_alloc (by (try simp only [World.size_alloc, heap_drew, World.heap_drewN, size_setCell]); omega)]); (try rw [okAt_set _ (by intro hh_; (try simp only [World.size_alloc, heap_drew, World.heap_drewN, size_setCell] at hh_); omega), okAt_set _ (by intro hh_; (try simp only [World.size_alloc, heap_drew, World.heap_drewN, size_setCell] at hh_); omega)])
              exact ⟨_, _, _, _, _, _, _, _, _, _, by assumption, by assumption, by assumption, by assumption, by assumption, by assumption⟩
          case rest =>
            obtain ⟨⟨⟨r1, r2⟩, ⟨g13, rfl, e0_, e1_, e2_, e3_⟩, hR⟩, hC2, hg2⟩ := hcut
            dsimp only at e0_ e1_
            clear q_tx_c0 q_tx_c1 q_tx_size q_tc_c0 q_tc_c1 q_tc_size
            have tc := tc.keepG hg2 n_c
            have tx := tx.keepG hg2 n_x
            have ty := ty.keepG hg2 n_y
            have z8 := z8.keepG hg2 n_8
            have z9 := z9.keepG hg2 n_9
            have tl := tl.keepG hg2 n_l
            have BX := Gr.toBelow BX hg2 BX.size (by omega)
            have tr : Two wc g13 r1 r2 := ⟨e0_, e1_, e3_⟩
            have n_r : g13 ≠ g := by omega
            replace hC := hC2
            clear hg2 hC2 e0_ e1_ e2_ e3_ sW okx
            generalize okAt W g = t1 at *
            generalize wc = W6 at *
            have sW := hC.size
            have hgl6 := BX.size
            cases t6 : okAt W6 g
            case false =>
              rw [t6] at hR
              have h0 := onR_no (l := (l1, l2)) (y := (u, v)) (x := (c, d)) (r := (r1, r2)) K1 hR
              have Hm : Hid (M.cpR a b e (c, d) (u, v) = none) := Lib.hid (by rw [Hm0.out, h0]; simp)
              have qk := hC.cell
              rw [t6] at qk
              clear h0 hR K1 t6
              have q_tc_c0 := tc.c0
              have q_tc_c1 := tc.c1
              have q_tc_size := tc.size
              have q_tx_c0 := tx.c0
              have q_tx_c1 := tx.c1
              have q_tx_size := tx.size
              have q_ty_c0 := ty.c0
              have q_ty_c1 := ty.c1
              have q_ty_size := ty.size
              have q_z8_c0 := z8.c0
              have q_z8_c1 := z8.c1
              have q_z8_f0 := z8.f0
              have q_z8_f1 := z8.f1
              have q_z8_size := z8.size
              have q_z9_c0 := z9.c0
              have q_z9_c1 := z9.c1
              have q_z9_f0 := z9.f0
              have q_z9_f1 := z9.f1
              have q_z9_size := z9.size
              have q_tl_c0 := tl.c0
              have q_tl_c1 := tl.c1
              have q_tl_size := tl.size
              have q_tr_c0 := tr.c0
              have q_tr_c1 := tr.c1
              have q_tr_size := tr.size
              go_upto_region 6 with fail
              go_cut [80] (fun s wx => s = .bool true ∧ Below W6.heap.size W6 wx)
              case first =>
                first | go_region_with (fail) | fail
                all_goals
                  go_wp2_with fail
                  go_meet
                  exact ⟨rfl, (by repeat (first | exact Below.refl _ _ | refine below_alloc ?_ _ | refine below_step ?_ (by assumption) | refine Below.drew ?_ | refine Below.setCell ?_ (by first | exact Nat.le_refl _ | exact Nat.le_add_right _ _ | (simp <;> omega)) _ | refine below_drewN ?_ _))⟩
              case rest =>
                obtain ⟨rfl, hbr⟩ := hcut
                clear qk
                clear q_tc_c0 q_tc_c1 q_tc_size q_tx_c0 q_tx_c1 q_tx_size q_ty_c0 q_ty_c1 q_ty_size q_z8_c0 q_z8_c1 q_z8_f0 q_z8_f1 q_z8_size q_z9_c0 q_z9_c1 q_z9_f0 q_z9_f1 q_z9_size q_tl_c0 q_tl_c1 q_tl_size q_tr_c0 q_tr_c1 q_tr_size
                have tc := tc.keep hbr
                have tx := tx.keep hbr
                have ty := ty.keep hbr
                have z8 := z8.keep hbr
                have z9 := z9.keep hbr
                have tl := tl.keep hbr
                have tr := tr.keep hbr
                have BX := BX.trans (hbr.mono BX.size)
                have q_tc_c0 := tc.c0
                have q_tc_c1 := tc.c1
                have q_tc_size := tc.size
                have q_tx_c0 := tx.c0
                have q_tx_c1 := tx.c1
                have q_tx_size := tx.size
                have q_ty_c0 := ty.c0
                have q_ty_c1 := ty.c1
                have q_ty_size := ty.size
                have q_z8_c0 := z8.c0
                have q_z8_c1 := z8.c1
                have q_z8_f0 := z8.f0
                have q_z8_f1 := z8.f1
                have q_z8_size := z8.size
                have q_z9_c0 := z9.c0
                have q_z9_c1 := z9.c1
                have q_z9_f0 := z9.f0
                have q_z9_f1 := z9.f1
                have q_z9_size := z9.size
                have q_tl_c0 := tl.c0
                have q_tl_c1 := tl.c1
                have q_tl_size := tl.size
                have q_tr_c0 := tr.c0
                have q_tr_c1 := tr.c1
                have q_tr_size := tr.size
                go_wp2
                exact bodyPost_ret (v := .tuple #[.agg #[.int .i64 0, .int .i64 0], .agg #[.int .i64 0, .int .i64 0], .bool false]) (by simp [results, Try.results19, go_sem, *]) rfl (⟨by rw [Hm.out]; rfl, (by repeat (first | exact Below.refl _ _ | refine below_alloc ?_ _ | refine below_step ?_ (by assumption) | refine Below.drew ?_ | refine Below.setCell ?_ (by first | exact Nat.le_refl _ | exact Nat.le_add_right _ _ | (simp <;> omega)) _ | refine below_drewN ?_ _))⟩)
            case true =>
              rw [t6] at hR
              have h0 := onR_yes (l := (l1, l2)) (y := (u, v)) (x := (c, d)) (r := (r1, r2)) K1 hR
              dsimp only at h0
              have okr : frOk r1 r2 = true := by obtain ⟨_, _, _, _, _, _, _, _, _, _, _, _, _, _, _, k⟩ := hR; exact k.good
              have H0 := Lib.hid h0
              have qk := hC.cell
              rw [t6] at qk
              clear h0 hR K1
              have q_tc_c0 := tc.c0
              have q_tc_c1 := tc.c1
              have q_tc_size := tc.size
              have q_tx_c0 := tx.c0
              have q_tx_c1 := tx.c1
              have q_tx_size := tx.size
              have q_ty_c0 := ty.c0
              have q_ty_c1 := ty.c1
              have q_ty_size := ty.size
              have q_z8_c0 := z8.c0
              have q_z8_c1 := z8.c1
              have q_z8_f0 := z8.f0
              have q_z8_f1 := z8.f1
              have q_z8_size := z8.size
              have q_z9_c0 := z9.c0
              have q_z9_c1 := z9.c1
              have q_z9_f0 := z9.f0
              have q_z9_f1 := z9.f1
              have q_z9_size := z9.size
              have q_tl_c0 := tl.c0
              have q_tl_c1 := tl.c1
              have q_tl_size := tl.size
              have q_tr_c0 := tr.c0
              have q_tr_c1 := tr.c1
              have q_tr_size := tr.size
              go_upto_region 6 with fail
              go_cut [80] (fun s wx => s = .bool (!(l1 == r1 && l2 == r2) || (c == e && d == 1)) ∧ IsCalc wx g ∧ wx.cell? ⟨g, 0, none⟩ = some (.bool true) ∧ W6.grownBy wx (some g))
              case first =>
                (try clear HG); (try clear HO); (try clear HX); (try clear HY); (try clear Hm0); (try clear H0); (try clear Okx); (try clear Oky); (try clear tc); (try clear tx); (try clear ty); (try clear tl); (try clear tr); (try clear z8); (try clear z9); (try clear BX); (try clear bt1); (try clear n_y); (try clear n_8); (try clear n_9); (try clear s_l)
                cases b1 : (l1 == r1) <;> cases b2 : (l2 == r2)
                case false.false =>
                  first | go_quiet (fail) | go_region_with (fail) | fail
                  all_goals
                    go_wp2_with fail
                    go_meet
                    exact ⟨by simp [b1, b2], (by first | assumption | exact IsCalc.drew (by assumption) | exact IsCalc.drewN (by assumption) _), (by first | assumption | exact celD (by assumption) | exact celDN (by assumption) _), (by repeat (first | exact World.grownBy.refl _ _ | assumption | refine Gr.alloc ?_ _ | refine grown_tr ?_ (by assumption) | refine Gr.setNew ?_ (by (try simp only [World.size_alloc, heap_drew, World.heap_drewN, size_setCell]); omega) _ | refine Gr.drew ?_ | refine grown_dr ?_ _))⟩
                case false.true =>
                  first | go_quiet (fail) | go_region_with (fail) | fail
                  all_goals
                    go_wp2_with fail
                    go_meet
                    exact ⟨by simp [b1, b2], (by first | assumption | exact IsCalc.drew (by assumption) | exact IsCalc.drewN (by assumption) _), (by first | assumption | exact celD (by assumption) | exact celDN (by assumption) _), (by repeat (first | exact World.grownBy.refl _ _ | assumption | refine Gr.alloc ?_ _ | refine grown_tr ?_ (by assumption) | refine Gr.setNew ?_ (by (try simp only [World.size_alloc, heap_drew, World.heap_drewN, size_setCell]); omega) _ | refine Gr.drew ?_ | refine grown_dr ?_ _))⟩
                case true.false =>
                  first | go_quiet (fail) | go_region_with (fail) | fail
                  all_goals
                    go_wp2_with fail
                    go_meet
                    exact ⟨by simp [b1, b2], (by first | assumption | exact IsCalc.drew (by assumption) | exact IsCalc.drewN (by assumption) _), (by first | assumption | exact celD (by assumption) | exact celDN (by assumption) _), (by repeat (first | exact World.grownBy.refl _ _ | assumption | refine Gr.alloc ?_ _ | refine grown_tr ?_ (by assumption) | refine Gr.setNew ?_ (by (try simp only [World.size_alloc, heap_drew, World.heap_drewN, size_setCell]); omega) _ | refine Gr.drew ?_ | refine grown_dr ?_ _))⟩
                case true.true =>
                  cases b3 : (c == e) <;> cases b4 : (d == 1)
                  all_goals
                    go_region_held3 (fun W => W.cell? ⟨g, 0, none⟩ = some (.bool true) ∧ IsCalc W g ∧ W.cell? ⟨L, 0, none⟩ = some (.int .i64 l1) ∧ W.cell? ⟨L, 1, none⟩ = some (.int .i64 l2) ∧ W.cell? ⟨g13, 0, none⟩ = some (.int .i64 r1) ∧ W.cell? ⟨g13, 1, none⟩ = some (.int .i64 r2) ∧ W.cell? ⟨w.heap.size + 1, 0, none⟩ = some (.int .i64 c) ∧ W.cell? ⟨w.heap.size + 1, 1, none⟩ = some (.int .i64 d)) (first | (refine ⟨?_, ?_, ?_, ?_, ?_, ?_, ?_, ?_⟩ <;> (first | (with_reducible assumption) | (with_reducible refine Gr.cellK (by assumption) (by assumption) ?_; omega) | (with_reducible exact Gr.recell0 (by assumption)) | (with_reducible exact recell0D (by assumption)) | (with_reducible exact celD (by assumption)) | (with_reducible refine Gr.recell (by assumption) ?_; (intro hh_; (try simp only [World.size_alloc, heap_drew, World.heap_drewN, size_setCell] at hh_); omega)) | (with_reducible refine Gr.far2 (by assumption) ?_ ?_ <;> (intro hh_; (try simp only [World.size_alloc, heap_drew, World.heap_drewN, size_setCell] at hh_); omega)) | (with_reducible exact IsCalc.drew (by assumption)) | (with_reducible exact IsCalc.drew (IsCalc.alloc (by assumption) _)) | (with_reducible exact IsCalc.alloc (by assumption) _) | (with_reducible refine IsCalc.set (IsCalc.set (by assumption) _ ?_) _ ?_ <;> (intro hh_; (try simp only [World.size_alloc, heap_drew, World.heap_drewN, size_setCell] at hh_); omega)) | assumption)) | (go_split_ands; (refine ⟨?_, ?_, ?_, ?_, ?_, ?_, ?_, ?_⟩ <;> (first | (with_reducible assumption) | (with_reducible refine Gr.cellK (by assumption) (by assumption) ?_; omega) | (with_reducible exact Gr.recell0 (by assumption)) | (with_reducible exact recell0D (by assumption)) | (with_reducible exact celD (by assumption)) | (with_reducible refine Gr.recell (by assumption) ?_; (intro hh_; (try simp only [World.size_alloc, heap_drew, World.heap_drewN, size_setCell] at hh_); omega)) | (with_reducible refine Gr.far2 (by assumption) ?_ ?_ <;> (intro hh_; (try simp only [World.size_alloc, heap_drew, World.heap_drewN, size_setCell] at hh_); omega)) | (with_reducible exact IsCalc.drew (by assumption)) | (with_reducible exact IsCalc.drew (IsCalc.alloc (by assumption) _)) | (with_reducible exact IsCalc.alloc (by assumption) _) | (with_reducible refine IsCalc.set (IsCalc.set (by assumption) _ ?_) _ ?_ <;> (intro hh_; (try simp only [World.size_alloc, heap_drew, World.heap_drewN, size_setCell] at hh_); omega)) | assumption))) | go_keep) (first | (go_at_call 48; (try go_split_ands); refine (whole1_c g e _ (by omega) (by omega) (by assumption) (by assumption)).mono ?_; rintro r w' ⟨rfl, hk_, hc_, hg_⟩; have hs_ := hc_.size))
                    all_goals
                      go_wp2_with fail
                      go_meet
                      exact ⟨by simp [b1, b2, b3, b4], (by assumption), (by assumption), (by repeat (first | exact World.grownBy.refl _ _ | assumption | refine Gr.alloc ?_ _ | refine grown_tr ?_ (by assumption) | refine Gr.setNew ?_ (by (try simp only [World.size_alloc, heap_drew, World.heap_drewN, size_setCell]); omega) _ | refine Gr.drew ?_ | refine grown_dr ?_ _))⟩
              case rest =>
                obtain ⟨rfl, hC2, qk2, hg2⟩ := hcut
                have tc := tc.keepG hg2 n_c
                have tx := tx.keepG hg2 n_x
                have ty := ty.keepG hg2 n_y
                have z8 := z8.keepG hg2 n_8
                have z9 := z9.keepG hg2 n_9
                have tl := tl.keepG hg2 n_l
                have tr := tr.keepG hg2 n_r
                have BX := Gr.toBelow BX hg2 BX.size (by omega)
                replace hC := hC2
                replace qk := qk2
                clear hg2 hC2 qk2 sW t6
                generalize wc = W7 at *
                have H0 := H0.out
                generalize (l1 == r1 && l2 == r2) = B5 at *
                generalize (c == e && d == 1) = B6 at *
                generalize hS : (!B5 || B6) = S at *
                cases S
                case true =>
                  have Hm : Hid (M.cpR a b e (c, d) (u, v) = none) := Lib.hid (by rw [Hm0.out, H0]; revert hS; cases B5 <;> cases B6 <;> simp)
                  clear H0 hS hC qk
                  have q_tc_c0 := tc.c0
                  have q_tc_c1 := tc.c1
                  have q_tc_size := tc.size
                  have q_tx_c0 := tx.c0
                  have q_tx_c1 := tx.c1
                  have q_tx_size := tx.size
                  have q_ty_c0 := ty.c0
                  have q_ty_c1 := ty.c1
                  have q_ty_size := ty.size
                  have q_z8_c0 := z8.c0
                  have q_z8_c1 := z8.c1
                  have q_z8_f0 := z8.f0
                  have q_z8_f1 := z8.f1
                  have q_z8_size := z8.size
                  have q_z9_c0 := z9.c0
                  have q_z9_c1 := z9.c1
                  have q_z9_f0 := z9.f0
                  have q_z9_f1 := z9.f1
                  have q_z9_size := z9.size
                  have q_tl_c0 := tl.c0
                  have q_tl_c1 := tl.c1
                  have q_tl_size := tl.size
                  have q_tr_c0 := tr.c0
                  have q_tr_c1 := tr.c1
                  have q_tr_size := tr.size
                  go_wp2
                  exact bodyPost_ret (v := .tuple #[.agg #[.int .i64 0, .int .i64 0], .agg #[.int .i64 0, .int .i64 0], .bool false]) (by simp [results, Try.results19, go_sem, *]) rfl (⟨by rw [Hm.out]; rfl, (by repeat (first | exact Below.refl _ _ | refine below_alloc ?_ _ | refine below_step ?_ (by assumption) | refine Below.drew ?_ | refine Below.setCell ?_ (by first | exact Nat.le_refl _ | exact Nat.le_add_right _ _ | (simp <;> omega)) _ | refine below_drewN ?_ _))⟩)
                case false =>
                  have Hm : Hid (M.cpR a b e (c, d) (u, v) = M.cpT a e (c, d) (u, v)) := Lib.hid (by rw [Hm0.out, H0]; revert hS; cases B5 <;> cases B6 <;> simp)
                  clear hS
                  clear H0
                  have hT : okAt W7 g = true := okAt_of qk
                  clear qk
                  clear tl tr
                  generalize W7 = W at *
                  have q_tx_c0 := tx.c0
                  have q_tx_c1 := tx.c1
                  have q_tx_size := tx.size
                  have sW := hC.size
                  have okx := Okx.out
                  go_upto_region 8 with fail
                  go_cut [14] (fun sx wx => (∃ r : Int × Int, BoxAt W wx sx r.1 r.2 ∧ StepW (okAt W g) (okAt wx g) e r (fun B => M.fsub (c, d) B)) ∧ IsCalc wx g ∧ W.grownBy wx (some g))
                  case first => as_aux_lemma =>
                    (try clear HG); (try clear HO); (try clear HX); (try clear HY); (try clear Hm0); (try clear H0); (try clear Hm); (try clear Okx); (try clear Oky); (try clear tc); (try clear tx); (try clear ty); (try clear tl); (try clear tr); (try clear tf); (try clear ta); (try clear tu); (try clear z8); (try clear z9); (try clear BX); (try clear K1); (try clear n_8); (try clear n_9); (try clear n_l); (try clear s_l); (try clear q_tx_size); (try clear q_tc_size); (try clear hR); (try clear hR8); (try clear hR9); (try clear K10); (try clear hgl6); (try clear hT); (try clear hgl); (try clear Okf); (try clear Oka)
                    go_region_held3 (fun W => W.cell? ⟨w.heap.size + 1, 0, none⟩ = some (.int .i64 c) ∧ W.cell? ⟨w.heap.size + 1, 1, none⟩ = some (.int .i64 d) ∧ IsCalc W g) (first | (refine ⟨?_, ?_, ?_⟩ <;> (first | (with_reducible assumption) | (with_reducible refine Gr.cellK (by assumption) (by assumption) ?_; omega) | (with_reducible exact Gr.recell0 (by assumption)) | (with_reducible exact recell0D (by assumption)) | (with_reducible exact celD (by assumption)) | (with_reducible refine Gr.recell (by assumption) ?_; (intro hh_; (try simp only [World.size_alloc, heap_drew, World.heap_drewN, size_setCell] at hh_); omega)) | (with_reducible refine Gr.far2 (by assumption) ?_ ?_ <;> (intro hh_; (try simp only [World.size_alloc, heap_drew, World.heap_drewN, size_setCell] at hh_); omega)) | (with_reducible exact IsCalc.drew (by assumption)) | (with_reducible exact IsCalc.drew (IsCalc.alloc (by assumption) _)) | (with_reducible exact IsCalc.alloc (by assumption) _) | (with_reducible refine IsCalc.set (IsCalc.set (by assumption) _ ?_) _ ?_ <;> (intro hh_; (try simp only [World.size_alloc, heap_drew, World.heap_drewN, size_setCell] at hh_); omega)) | assumption)) | (go_split_ands; (refine ⟨?_, ?_, ?_⟩ <;> (first | (with_reducible assumption) | (with_reducible refine Gr.cellK (by assumption) (by assumption) ?_; omega) | (with_reducible exact Gr.recell0 (by assumption)) | (with_reducible exact recell0D (by assumption)) | (with_reducible exact celD (by assumption)) | (with_reducible refine Gr.recell (by assumption) ?_; (intro hh_; (try simp only [World.size_alloc, heap_drew, World.heap_drewN, size_setCell] at hh_); omega)) | (with_reducible refine Gr.far2 (by assumption) ?_ ?_ <;> (intro hh_; (try simp only [World.size_alloc, heap_drew, World.heap_drewN, size_setCell] at hh_); omega)) | (with_reducible exact IsCalc.drew (by assumption)) | (with_reducible exact IsCalc.drew (IsCalc.alloc (by assumption) _)) | (with_reducible exact IsCalc.alloc (by assumption) _) | (with_reducible refine IsCalc.set (IsCalc.set (by assumption) _ ?_) _ ?_ <;> (intro hh_; (try simp only [World.size_alloc, heap_drew, World.heap_drewN, size_setCell] at hh_); omega)) | assumption))) | go_keep) (first | (go_at_call 49; (try go_split_ands); (try simp only [hw1]); (try simp only [hw2]); (try simp only [hw3]); refine (minus_c _ _ _ _ _ _ (by assumption) (by assumption) (by assumption)).mono ?_; rintro e w' ⟨p_, rfl, hk_, hc_, hg_⟩; have hs_ := hc_.size; have hz_ := hg_.size; (try simp only [World.size_alloc, heap_drew, World.heap_drewN, size_setCell] at hz_); have ho_ := hk_.good; (try rw [okAt_drew] at hk_); (try rw [okAt_alloc (by (try simp only [World.size_alloc, heap_drew, World.heap_drewN, size_setCell]); omega)] at hk_); (try rw [okAt_drew] at hk_); (first | have zz_ := Zb.keepG (Zb.new _ _) hg_ (by (try simp only [World.size_alloc, heap_drew, World.heap_drewN, size_setCell]); omega) | have zz_ := Zb.keepG (Zb.newD _ _) hg_ (by (try simp only [World.size_alloc, heap_drew, World.heap_drewN, size_setCell]); omega) | have zz_ := Zb.keepG zz_ hg_ (by omega) | skip); (first | (have z0_ := zz_.c0; have z1_ := zz_.c1; have z2_ := zz_.f0; have z3_ := zz_.f1; have z4_ := zz_.size) | skip)) | (go_at_call 48; (try go_split_ands); (try simp only [hw1]); (try simp only [hw2]); (try simp only [hw3]); refine (whole_c _ _ _ (by omega) (by omega) (by assumption)).mono ?_; rintro e w' ⟨p_, rfl, hk_, hc_, hg_⟩; have hs_ := hc_.size; have hz_ := hg_.size; (try simp only [World.size_alloc, heap_drew, World.heap_drewN, size_setCell] at hz_); have ho_ := hk_.good; (try rw [okAt_drew] at hk_); (try rw [okAt_alloc (by (try simp only [World.size_alloc, heap_drew, World.heap_drewN, size_setCell]); omega)] at hk_); (try rw [okAt_drew] at hk_); (first | have zz_ := Zb.keepG (Zb.new _ _) hg_ (by (try simp only [World.size_alloc, heap_drew, World.heap_drewN, size_setCell]); omega) | have zz_ := Zb.keepG (Zb.newD _ _) hg_ (by (try simp only [World.size_alloc, heap_drew, World.heap_drewN, size_setCell]); omega) | have zz_ := Zb.keepG zz_ hg_ (by omega) | skip); (first | (have z0_ := zz_.c0; have z1_ := zz_.c1; have z2_ := zz_.f0; have z3_ := zz_.f1; have z4_ := zz_.size) | skip)))
                    all_goals
                      go_wp2_with fail
                      go_meet
                      refine ⟨⟨p_, ⟨_, rfl, by simp [go_sem, *], by simp [go_sem, *], by (try simp only [World.size_alloc, heap_drew, World.heap_drewN, size_setCell]); omega, by (try simp only [World.size_alloc, heap_drew, World.heap_drewN, size_setCell]); omega⟩, ?_⟩, (by first | assumption | exact IsCalc.alloc (by assumption) _ | (refine IsCalc.set (IsCalc.set (by assumption) _ ?_) _ ?_ <;> (intro hh_; (try simp only [World.size_alloc, heap_drew, World.heap_drewN, size_setCell] at hh_); omega))), (by repeat (first | exact World.grownBy.refl _ _ | assumption | refine Gr.alloc ?_ _ | refine grown_tr ?_ (by assumption) | refine Gr.setNew ?_ (by (try simp only [World.size_alloc, heap_drew, World.heap_drewN, size_setCell]); omega) _ | refine Gr.drew ?_ | refine grown_dr ?_ _))⟩
                      (try rw [okAt_alloc (by (try simp only [World.size_alloc, heap_drew, World.heap_drewN, size_setCell]); omega)]); (try rw [okAt_set _ (by intro hh_; (try simp only [World.size_alloc, heap_drew, World.heap_drewN, size_setCell] at hh_); omega), okAt_set _ (by intro hh_; (try simp only [World.size_alloc, heap_drew, World.heap_drewN, size_setCell] at hh_); omega)])
                      exact ⟨_, _, by assumption, by assumption⟩
                  case rest =>
                    obtain ⟨⟨⟨f1, f2⟩, ⟨g14, rfl, e0_, e1_, e2_, e3_⟩, hR8⟩, hC2, hg2⟩ := hcut
                    dsimp only at e0_ e1_
                    clear q_tx_c0 q_tx_c1 q_tx_size
                    have tc := tc.keepG hg2 n_c
                    have tx := tx.keepG hg2 n_x
                    have ty := ty.keepG hg2 n_y
                    have z8 := z8.keepG hg2 n_8
                    have z9 := z9.keepG hg2 n_9
                    have BX := Gr.toBelow BX hg2 BX.size (by omega)
                    have tf : Two wc g14 f1 f2 := ⟨e0_, e1_, e3_⟩
                    have n_tf : g14 ≠ g := by omega
                    replace hC := hC2
                    clear hg2 hC2 e0_ e1_ e2_ e3_ sW
                    rw [hT] at hR8
                    have okf : frOk f1 f2 = true := by obtain ⟨_, _, _, k⟩ := hR8; exact k.good
                    have Okf := Lib.hid okf
                    clear okf okx hT
                    generalize wc = W at *
                    have q_tf_c0 := tf.c0
                    have q_tf_c1 := tf.c1
                    have q_tf_size := tf.size
                    have q_tc_c0 := tc.c0
                    have q_tc_c1 := tc.c1
                    have q_tc_size := tc.size
                    have sW := hC.size
                    have okf := Okf.out
                    have hw1 : IntKind.i64.wrap (3 * e) = 3 * e := IntWalk.i64_in _ (by omega)
                    have hw2 : IntKind.i64.wrap (3 * e * e) = 3 * e * e := IntWalk.i64_in _ (by omega)
                    have hw3 : IntKind.i64.wrap (3 * e * e + a) = 3 * e * e + a := IntWalk.i64_in _ (by omega)
                    go_upto_region 9 with fail
                    go_cut [15] (fun sx wx => (∃ r : Int × Int, BoxAt W wx sx r.1 r.2 ∧ StepW (okAt W g) (okAt wx g) (3 * e * e + a) r (fun B => M.fdiv B (f1, f2))) ∧ IsCalc wx g ∧ W.grownBy wx (some g))
                    case first => as_aux_lemma =>
                      (try clear HG); (try clear HO); (try clear HX); (try clear HY); (try clear Hm0); (try clear H0); (try clear Hm); (try clear Okx); (try clear Oky); (try clear tc); (try clear tx); (try clear ty); (try clear tl); (try clear tr); (try clear tf); (try clear ta); (try clear tu); (try clear z8); (try clear z9); (try clear BX); (try clear K1); (try clear n_8); (try clear n_9); (try clear n_l); (try clear s_l); (try clear q_tx_size); (try clear q_tc_size); (try clear hR); (try clear hR8); (try clear hR9); (try clear K10); (try clear hgl6); (try clear hT); (try clear hgl); (try clear Okf); (try clear Oka)
                      go_region_held3 (fun W => W.cell? ⟨g14, 0, none⟩ = some (.int .i64 f1) ∧ W.cell? ⟨g14, 1, none⟩ = some (.int .i64 f2) ∧ W.cell? ⟨w.heap.size, 0, none⟩ = some (.int .i64 a) ∧ W.cell? ⟨w.heap.size, 1, none⟩ = some (.int .i64 b) ∧ IsCalc W g) (first | (refine ⟨?_, ?_, ?_, ?_, ?_⟩ <;> (first | (with_reducible assumption) | (with_reducible refine Gr.cellK (by assumption) (by assumption) ?_; omega) | (with_reducible exact Gr.recell0 (by assumption)) | (with_reducible exact recell0D (by assumption)) | (with_reducible exact celD (by assumption)) | (with_reducible refine Gr.recell (by assumption) ?_; (intro hh_; (try simp only [World.size_alloc, heap_drew, World.heap_drewN, size_setCell] at hh_); omega)) | (with_reducible refine Gr.far2 (by assumption) ?_ ?_ <;> (intro hh_; (try simp only [World.size_alloc, heap_drew, World.heap_drewN, size_setCell] at hh_); omega)) | (with_reducible exact IsCalc.drew (by assumption)) | (with_reducible exact IsCalc.drew (IsCalc.alloc (by assumption) _)) | (with_reducible exact IsCalc.alloc (by assumption) _) | (with_reducible refine IsCalc.set (IsCalc.set (by assumption) _ ?_) _ ?_ <;> (intro hh_; (try simp only [World.size_alloc, heap_drew, World.heap_drewN, size_setCell] at hh_); omega)) | assumption)) | (go_split_ands; (refine ⟨?_, ?_, ?_, ?_, ?_⟩ <;> (first | (with_reducible assumption) | (with_reducible refine Gr.cellK (by assumption) (by assumption) ?_; omega) | (with_reducible exact Gr.recell0 (by assumption)) | (with_reducible exact recell0D (by assumption)) | (with_reducible exact celD (by assumption)) | (with_reducible refine Gr.recell (by assumption) ?_; (intro hh_; (try simp only [World.size_alloc, heap_drew, World.heap_drewN, size_setCell] at hh_); omega)) | (with_reducible refine Gr.far2 (by assumption) ?_ ?_ <;> (intro hh_; (try simp only [World.size_alloc, heap_drew, World.heap_drewN, size_setCell] at hh_); omega)) | (with_reducible exact IsCalc.drew (by assumption)) | (with_reducible exact IsCalc.drew (IsCalc.alloc (by assumption) _)) | (with_reducible exact IsCalc.alloc (by assumption) _) | (with_reducible refine IsCalc.set (IsCalc.set (by assumption) _ ?_) _ ?_ <;> (intro hh_; (try simp only [World.size_alloc, heap_drew, World.heap_drewN, size_setCell] at hh_); omega)) | assumption))) | go_keep) (first | (go_at_call 50; (try go_split_ands); (try simp only [hw1]); (try simp only [hw2]); (try simp only [hw3]); refine (over_c _ _ _ _ _ _ (by assumption) (by assumption) (by assumption)).mono ?_; rintro e w' ⟨p_, rfl, hk_, hc_, hg_⟩; have hs_ := hc_.size; have hz_ := hg_.size; (try simp only [World.size_alloc, heap_drew, World.heap_drewN, size_setCell] at hz_); have ho_ := hk_.good; (try rw [okAt_drew] at hk_); (try rw [okAt_alloc (by (try simp only [World.size_alloc, heap_drew, World.heap_drewN, size_setCell]); omega)] at hk_); (try rw [okAt_drew] at hk_); (first | have zz_ := Zb.keepG (Zb.new _ _) hg_ (by (try simp only [World.size_alloc, heap_drew, World.heap_drewN, size_setCell]); omega) | have zz_ := Zb.keepG (Zb.newD _ _) hg_ (by (try simp only [World.size_alloc, heap_drew, World.heap_drewN, size_setCell]); omega) | have zz_ := Zb.keepG zz_ hg_ (by omega) | skip); (first | (have z0_ := zz_.c0; have z1_ := zz_.c1; have z2_ := zz_.f0; have z3_ := zz_.f1; have z4_ := zz_.size) | skip)) | (go_at_call 48; (try go_split_ands); (try simp only [hw1]); (try simp only [hw2]); (try simp only [hw3]); refine (whole_c _ _ _ (by omega) (by omega) (by assumption)).mono ?_; rintro e w' ⟨p_, rfl, hk_, hc_, hg_⟩; have hs_ := hc_.size; have hz_ := hg_.size; (try simp only [World.size_alloc, heap_drew, World.heap_drewN, size_setCell] at hz_); have ho_ := hk_.good; (try rw [okAt_drew] at hk_); (try rw [okAt_alloc (by (try simp only [World.size_alloc, heap_drew, World.heap_drewN, size_setCell]); omega)] at hk_); (try rw [okAt_drew] at hk_); (first | have zz_ := Zb.keepG (Zb.new _ _) hg_ (by (try simp only [World.size_alloc, heap_drew, World.heap_drewN, size_setCell]); omega) | have zz_ := Zb.keepG (Zb.newD _ _) hg_ (by (try simp only [World.size_alloc, heap_drew, World.heap_drewN, size_setCell]); omega) | have zz_ := Zb.keepG zz_ hg_ (by omega) | skip); (first | (have z0_ := zz_.c0; have z1_ := zz_.c1; have z2_ := zz_.f0; have z3_ := zz_.f1; have z4_ := zz_.size) | skip)))
                      all_goals
                        go_wp2_with fail
                        go_meet
                        refine ⟨⟨p_, ⟨_, rfl, by simp [go_sem, *], by simp [go_sem, *], by (try simp only [World.size_alloc, heap_drew, World.heap_drewN, size_setCell]); omega, by (try simp only [World.size_alloc, heap_drew, World.heap_drewN, size_setCell]); omega⟩, ?_⟩, (by first | assumption | exact IsCalc.alloc (by assumption) _ | (refine IsCalc.set (IsCalc.set (by assumption) _ ?_) _ ?_ <;> (intro hh_; (try simp only [World.size_alloc, heap_drew, World.heap_drewN, size_setCell] at hh_); omega))), (by repeat (first | exact World.grownBy.refl _ _ | assumption | refine Gr.alloc ?_ _ | refine grown_tr ?_ (by assumption) | refine Gr.setNew ?_ (by (try simp only [World.size_alloc, heap_drew, World.heap_drewN, size_setCell]); omega) _ | refine Gr.drew ?_ | refine grown_dr ?_ _))⟩
                        (try rw [okAt_alloc (by (try simp only [World.size_alloc, heap_drew, World.heap_drewN, size_setCell]); omega)]); (try rw [okAt_set _ (by intro hh_; (try simp only [World.size_alloc, heap_drew, World.heap_drewN, size_setCell] at hh_); omega), okAt_set _ (by intro hh_; (try simp only [World.size_alloc, heap_drew, World.heap_drewN, size_setCell] at hh_); omega)])
                        exact ⟨_, _, by assumption, by assumption⟩
                    case rest =>
                      obtain ⟨⟨⟨a1, a2⟩, ⟨g15, rfl, e0_, e1_, e2_, e3_⟩, hR9⟩, hC2, hg2⟩ := hcut
                      dsimp only at e0_ e1_
                      clear q_tf_c0 q_tf_c1 q_tf_size q_tc_c0 q_tc_c1 q_tc_size
                      have tc := tc.keepG hg2 n_c
                      have tx := tx.keepG hg2 n_x
                      have ty := ty.keepG hg2 n_y
                      have z8 := z8.keepG hg2 n_8
                      have z9 := z9.keepG hg2 n_9
                      have tf := tf.keepG hg2 n_tf
                      have BX := Gr.toBelow BX hg2 BX.size (by omega)
                      have ta : Two wc g15 a1 a2 := ⟨e0_, e1_, e3_⟩
                      have n_ta : g15 ≠ g := by omega
                      replace hC := hC2
                      clear hg2 hC2 e0_ e1_ e2_ e3_ sW
                      have oka : frOk a1 a2 = true := by obtain ⟨_, _, _, k⟩ := hR9; exact k.good
                      have Oka := Lib.hid oka
                      clear okf hw1 hw2 hw3
                      generalize okAt W g = t9 at *
                      generalize wc = W at *
                      have q_tx_c0 := tx.c0
                      have q_tx_c1 := tx.c1
                      have q_tx_size := tx.size
                      have q_ta_c0 := ta.c0
                      have q_ta_c1 := ta.c1
                      have q_ta_size := ta.size
                      go_wp2_with fail
                      refine (plus_c g c d a1 a2 _ Okx.out oka hC).mono ?_; rintro r w10 ⟨⟨u1, u2⟩, rfl, K10, hC1, hg1⟩
                      clear oka
                      clear q_tx_c0 q_tx_c1 q_tx_size q_ta_c0 q_ta_c1 q_ta_size
                      have tc := tc.keepG hg1 n_c
                      have tx := tx.keepG hg1 n_x
                      have ty := ty.keepG hg1 n_y
                      have z8 := z8.keepG hg1 n_8
                      have z9 := z9.keepG hg1 n_9
                      have tf := tf.keepG hg1 n_tf
                      have ta := ta.keepG hg1 n_ta
                      have tc := tc.alloc (.cells #[.int .i64 u1, .int .i64 u2] 38)
                      have tx := tx.alloc (.cells #[.int .i64 u1, .int .i64 u2] 38)
                      have ty := ty.alloc (.cells #[.int .i64 u1, .int .i64 u2] 38)
                      have z8 := z8.alloc (.cells #[.int .i64 u1, .int .i64 u2] 38)
                      have z9 := z9.alloc (.cells #[.int .i64 u1, .int .i64 u2] 38)
                      have tf := tf.alloc (.cells #[.int .i64 u1, .int .i64 u2] 38)
                      have ta := ta.alloc (.cells #[.int .i64 u1, .int .i64 u2] 38)
                      have hC := hC1.alloc (.cells #[.int .i64 u1, .int .i64 u2] 38)
                      have s_u : g < w10.heap.size := hC1.size
                      have e10 : okAt (w10.alloc (.cells #[.int .i64 u1, .int .i64 u2] 38)) g = okAt w10 g := okAt_alloc s_u _
                      rw [← e10] at K10
                      have BX := below_alloc (Gr.toBelow BX hg1 BX.size (by omega)) (.cells #[.int .i64 u1, .int .i64 u2] 38)
                      have tu := Two.new w10 u1 u2 38
                      have n_tu : w10.heap.size ≠ g := by omega
                      clear hC1 hg1 e10 s_u
                      go_upto_region 11 with fail
                      generalize hL10 : w10.heap.size = L10 at *
                      generalize w10.alloc (.cells #[.int .i64 u1, .int .i64 u2] 38) = W11 at *
                      clear hL10
                      generalize okAt W g = t10 at *
                      try clear W
                      generalize W11 = W at *
                      have q_ty_c0 := ty.c0
                      have q_ty_c1 := ty.c1
                      have q_ty_size := ty.size
                      have q_ta_c0 := ta.c0
                      have q_ta_c1 := ta.c1
                      have q_ta_size := ta.size
                      have q_tf_c0 := tf.c0
                      have q_tf_c1 := tf.c1
                      have q_tf_size := tf.size
                      have sW := hC.size
                      have oky := Oky.out
                      have oka := Oka.out
                      have okf := Okf.out
                      have ok1 : frOk 1 1 = true := by kernel_rfl
                      go_upto_region 11 with fail
                      go_cut [17] (fun sx wx => (∃ r : Int × Int, BoxAt W wx sx r.1 r.2 ∧ StepV (okAt W g) (okAt wx g) (u, v) (a1, a2) (f1, f2) r) ∧ IsCalc wx g ∧ W.grownBy wx (some g))
                      case first => as_aux_lemma =>
                        (try clear HG); (try clear HO); (try clear HX); (try clear HY); (try clear Hm0); (try clear H0); (try clear Hm); (try clear Okx); (try clear Oky); (try clear tc); (try clear tx); (try clear ty); (try clear tl); (try clear tr); (try clear tf); (try clear ta); (try clear tu); (try clear z8); (try clear z9); (try clear BX); (try clear K1); (try clear n_8); (try clear n_9); (try clear n_l); (try clear s_l); (try clear q_tx_size); (try clear q_tc_size); (try clear hR); (try clear hR8); (try clear hR9); (try clear K10); (try clear hgl6); (try clear hT); (try clear hgl); (try clear Okf); (try clear Oka)
                        go_region_held3 (fun W => W.cell? ⟨w.heap.size + 1 + 1, 0, none⟩ = some (.int .i64 u) ∧ W.cell? ⟨w.heap.size + 1 + 1, 1, none⟩ = some (.int .i64 v) ∧ W.cell? ⟨g15, 0, none⟩ = some (.int .i64 a1) ∧ W.cell? ⟨g15, 1, none⟩ = some (.int .i64 a2) ∧ W.cell? ⟨g14, 0, none⟩ = some (.int .i64 f1) ∧ W.cell? ⟨g14, 1, none⟩ = some (.int .i64 f2) ∧ IsCalc W g) (first | (refine ⟨?_, ?_, ?_, ?_, ?_, ?_, ?_⟩ <;> (first | (with_reducible assumption) | (with_reducible refine Gr.cellK (by assumption) (by assumption) ?_; omega) | (with_reducible exact Gr.recell0 (by assumption)) | (with_reducible exact recell0D (by assumption)) | (with_reducible exact celD (by assumption)) | (with_reducible refine Gr.recell (by assumption) ?_; (intro hh_; (try simp only [World.size_alloc, heap_drew, World.heap_drewN, size_setCell] at hh_); omega)) | (with_reducible refine Gr.far2 (by assumption) ?_ ?_ <;> (intro hh_; (try simp only [World.size_alloc, heap_drew, World.heap_drewN, size_setCell] at hh_); omega)) | (with_reducible exact IsCalc.drew (by assumption)) | (with_reducible exact IsCalc.drew (IsCalc.alloc (by assumption) _)) | (with_reducible exact IsCalc.alloc (by assumption) _) | (with_reducible refine IsCalc.set (IsCalc.set (by assumption) _ ?_) _ ?_ <;> (intro hh_; (try simp only [World.size_alloc, heap_drew, World.heap_drewN, size_setCell] at hh_); omega)) | assumption)) | (go_split_ands; (refine ⟨?_, ?_, ?_, ?_, ?_, ?_, ?_⟩ <;> (first | (with_reducible assumption) | (with_reducible refine Gr.cellK (by assumption) (by assumption) ?_; omega) | (with_reducible exact Gr.recell0 (by assumption)) | (with_reducible exact recell0D (by assumption)) | (with_reducible exact celD (by assumption)) | (with_reducible refine Gr.recell (by assumption) ?_; (intro hh_; (try simp only [World.size_alloc, heap_drew, World.heap_drewN, size_setCell] at hh_); omega)) | (with_reducible refine Gr.far2 (by assumption) ?_ ?_ <;> (intro hh_; (try simp only [World.size_alloc, heap_drew, World.heap_drewN, size_setCell] at hh_); omega)) | (with_reducible exact IsCalc.drew (by assumption)) | (with_reducible exact IsCalc.drew (IsCalc.alloc (by assumption) _)) | (with_reducible exact IsCalc.alloc (by assumption) _) | (with_reducible refine IsCalc.set (IsCalc.set (by assumption) _ ?_) _ ?_ <;> (intro hh_; (try simp only [World.size_alloc, heap_drew, World.heap_drewN, size_setCell] at hh_); omega)) | assumption))) | go_keep) (first | (go_at_call 46; (try go_split_ands); (try simp only [hw1]); (try simp only [hw2]); (try simp only [hw3]); refine (times_c _ _ _ _ _ _ (by assumption) (by assumption) (by assumption)).mono ?_; rintro e w' ⟨p_, rfl, hk_, hc_, hg_⟩; have hs_ := hc_.size; have hz_ := hg_.size; (try simp only [World.size_alloc, heap_drew, World.heap_drewN, size_setCell] at hz_); have ho_ := hk_.good; (try rw [okAt_drew] at hk_); (try rw [okAt_alloc (by (try simp only [World.size_alloc, heap_drew, World.heap_drewN, size_setCell]); omega)] at hk_); (try rw [okAt_drew] at hk_); (first | have zz_ := Zb.keepG (Zb.new _ _) hg_ (by (try simp only [World.size_alloc, heap_drew, World.heap_drewN, size_setCell]); omega) | have zz_ := Zb.keepG (Zb.newD _ _) hg_ (by (try simp only [World.size_alloc, heap_drew, World.heap_drewN, size_setCell]); omega) | have zz_ := Zb.keepG zz_ hg_ (by omega) | skip); (first | (have z0_ := zz_.c0; have z1_ := zz_.c1; have z2_ := zz_.f0; have z3_ := zz_.f1; have z4_ := zz_.size) | skip)) | (go_at_call 49; (try go_split_ands); (try simp only [hw1]); (try simp only [hw2]); (try simp only [hw3]); refine (minus_c _ _ _ _ _ _ (by assumption) (by assumption) (by assumption)).mono ?_; rintro e w' ⟨p_, rfl, hk_, hc_, hg_⟩; have hs_ := hc_.size; have hz_ := hg_.size; (try simp only [World.size_alloc, heap_drew, World.heap_drewN, size_setCell] at hz_); have ho_ := hk_.good; (try rw [okAt_drew] at hk_); (try rw [okAt_alloc (by (try simp only [World.size_alloc, heap_drew, World.heap_drewN, size_setCell]); omega)] at hk_); (try rw [okAt_drew] at hk_); (first | have zz_ := Zb.keepG (Zb.new _ _) hg_ (by (try simp only [World.size_alloc, heap_drew, World.heap_drewN, size_setCell]); omega) | have zz_ := Zb.keepG (Zb.newD _ _) hg_ (by (try simp only [World.size_alloc, heap_drew, World.heap_drewN, size_setCell]); omega) | have zz_ := Zb.keepG zz_ hg_ (by omega) | skip); (first | (have z0_ := zz_.c0; have z1_ := zz_.c1; have z2_ := zz_.f0; have z3_ := zz_.f1; have z4_ := zz_.size) | skip)) | (go_at_call 50; (try go_split_ands); (try simp only [hw1]); (try simp only [hw2]); (try simp only [hw3]); refine (over_c _ _ _ _ _ _ (by assumption) (by assumption) (by assumption)).mono ?_; rintro e w' ⟨p_, rfl, hk_, hc_, hg_⟩; have hs_ := hc_.size; have hz_ := hg_.size; (try simp only [World.size_alloc, heap_drew, World.heap_drewN, size_setCell] at hz_); have ho_ := hk_.good; (try rw [okAt_drew] at hk_); (try rw [okAt_alloc (by (try simp only [World.size_alloc, heap_drew, World.heap_drewN, size_setCell]); omega)] at hk_); (try rw [okAt_drew] at hk_); (first | have zz_ := Zb.keepG (Zb.new _ _) hg_ (by (try simp only [World.size_alloc, heap_drew, World.heap_drewN, size_setCell]); omega) | have zz_ := Zb.keepG (Zb.newD _ _) hg_ (by (try simp only [World.size_alloc, heap_drew, World.heap_drewN, size_setCell]); omega) | have zz_ := Zb.keepG zz_ hg_ (by omega) | skip); (first | (have z0_ := zz_.c0; have z1_ := zz_.c1; have z2_ := zz_.f0; have z3_ := zz_.f1; have z4_ := zz_.size) | skip)) | (go_at_call 48; (try go_split_ands); (try simp only [hw1]); (try simp only [hw2]); (try simp only [hw3]); refine (whole_c _ _ _ (by omega) (by omega) (by assumption)).mono ?_; rintro e w' ⟨p_, rfl, hk_, hc_, hg_⟩; have hs_ := hc_.size; have hz_ := hg_.size; (try simp only [World.size_alloc, heap_drew, World.heap_drewN, size_setCell] at hz_); have ho_ := hk_.good; (try rw [okAt_drew] at hk_); (try rw [okAt_alloc (by (try simp only [World.size_alloc, heap_drew, World.heap_drewN, size_setCell]); omega)] at hk_); (try rw [okAt_drew] at hk_); (first | have zz_ := Zb.keepG (Zb.new _ _) hg_ (by (try simp only [World.size_alloc, heap_drew, World.heap_drewN, size_setCell]); omega) | have zz_ := Zb.keepG (Zb.newD _ _) hg_ (by (try simp only [World.size_alloc, heap_drew, World.heap_drewN, size_setCell]); omega) | have zz_ := Zb.keepG zz_ hg_ (by omega) | skip); (first | (have z0_ := zz_.c0; have z1_ := zz_.c1; have z2_ := zz_.f0; have z3_ := zz_.f1; have z4_ := zz_.size) | skip)))
                        all_goals
                          go_wp2_with fail
                          go_meet
                          refine ⟨⟨p_, ⟨_, rfl, by simp [go_sem, *], by simp [go_sem, *], by (try simp only [World.size_alloc, heap_drew, World.heap_drewN, size_setCell]); omega, by (try simp only [World.size_alloc, heap_drew, World.heap_drewN, size_setCell]); omega⟩, ?_⟩, (by first | assumption | exact IsCalc.alloc (by assumption) _ | (refine IsCalc.set (IsCalc.set (by assumption) _ ?_) _ ?_ <;> (intro hh_; (try simp only [World.size_alloc, heap_drew, World.heap_drewN, size_setCell] at hh_); omega))), (by repeat (first | exact World.grownBy.refl _ _ | assumption | refine Gr.alloc ?_ _ | refine grown_tr ?_ (by assumption) | refine Gr.setNew ?_ (by (try simp only [World.size_alloc, heap_drew, World.heap_drewN, size_setCell]); omega) _ | refine Gr.drew ?_ | refine grown_dr ?_ _))⟩
                          (try rw [okAt_alloc (by (try simp only [World.size_alloc, heap_drew, World.heap_drewN, size_setCell]); omega)]); (try rw [okAt_set _ (by intro hh_; (try simp only [World.size_alloc, heap_drew, World.heap_drewN, size_setCell] at hh_); omega), okAt_set _ (by intro hh_; (try simp only [World.size_alloc, heap_drew, World.heap_drewN, size_setCell] at hh_); omega)])
                          exact ⟨_, _, _, _, _, _, by assumption, by assumption, by assumption, by assumption⟩
                      case rest =>
                        obtain ⟨⟨⟨v1, v2⟩, ⟨g17, rfl, e0_, e1_, e2_, e3_⟩, hR11⟩, hC2, hg2⟩ := hcut
                        dsimp only at e0_ e1_
                        clear q_ty_c0 q_ty_c1 q_ty_size q_ta_c0 q_ta_c1 q_ta_size q_tf_c0 q_tf_c1 q_tf_size
                        have tc := tc.keepG hg2 n_c
                        have tx := tx.keepG hg2 n_x
                        have ty := ty.keepG hg2 n_y
                        have z8 := z8.keepG hg2 n_8
                        have z9 := z9.keepG hg2 n_9
                        have tf := tf.keepG hg2 n_tf
                        have ta := ta.keepG hg2 n_ta
                        have tu := tu.keepG hg2 n_tu
                        have BX := Gr.toBelow BX hg2 BX.size (by omega)
                        have tv : Two wc g17 v1 v2 := ⟨e0_, e1_, e3_⟩
                        have n_tv : g17 ≠ g := by omega
                        replace hC := hC2
                        clear hg2 hC2 e0_ e1_ e2_ e3_ sW
                        clear oky oka okf ok1
                        have HP := fun W => pair_c g u1 u2 v1 v2 W
                        have hK := cpT_of (x := (c, d)) (fa := (f1, f2)) (ad := (a1, a2)) (y := (u, v)) (u := (u1, u2)) (v := (v1, v2)) hR8 hR9 K10 hR11
                        have HP := pair_c g u1 u2 v1 v2 wc hC
                        generalize okAt wc g = t12 at *
                        clear hR8 hR9 K10 hR11 hC
                        generalize wc = W12 at *
                        have Hm : Hid (M.cpR a b e (c, d) (u, v) = if t12 then some ((u1, u2), (v1, v2)) else none) := Lib.hid (by rw [Hm.out, hK])
                        clear hK
                        cases t12 <;> simp only [M.pick_t, M.pick_f, if_true, if_false, Bool.false_eq_true] at HP Hm <;> have HP := Lib.hid HP
                        case false =>
                          have q_tu_c0 := tu.c0
                          have q_tu_c1 := tu.c1
                          have q_tu_size := tu.size
                          have q_tv_c0 := tv.c0
                          have q_tv_c1 := tv.c1
                          have q_tv_size := tv.size
                          go_wp2_with fail
                          refine (HP.out).mono ?_; rintro r w12 ⟨rfl, hb_⟩
                          clear q_tu_c0 q_tu_c1 q_tu_size q_tv_c0 q_tv_c1 q_tv_size
                          have tc := tc.keep hb_
                          have tx := tx.keep hb_
                          have ty := ty.keep hb_
                          have z8 := z8.keep hb_
                          have z9 := z9.keep hb_
                          have tf := tf.keep hb_
                          have ta := ta.keep hb_
                          have tu := tu.keep hb_
                          have tv := tv.keep hb_
                          have BX := BX.trans (hb_.mono BX.size)
                          clear hb_
                          have q_z8_c0 := z8.c0
                          have q_z8_c1 := z8.c1
                          have q_z8_f0 := z8.f0
                          have q_z8_f1 := z8.f1
                          have q_z8_size := z8.size
                          have q_z9_c0 := z9.c0
                          have q_z9_c1 := z9.c1
                          have q_z9_f0 := z9.f0
                          have q_z9_f1 := z9.f1
                          have q_z9_size := z9.size
                          go_wp2
                          exact bodyPost_ret (v := .tuple #[.agg #[.int .i64 0, .int .i64 0], .agg #[.int .i64 0, .int .i64 0], .bool false]) (by simp [results, Try.results19, go_sem, *]) rfl (⟨by rw [Hm.out]; rfl, (by repeat (first | exact Below.refl _ _ | refine below_alloc ?_ _ | refine below_step ?_ (by assumption) | refine Below.drew ?_ | refine Below.setCell ?_ (by first | exact Nat.le_refl _ | exact Nat.le_add_right _ _ | (simp <;> omega)) _ | refine below_drewN ?_ _))⟩)
                        case true =>
                          have q_tu_c0 := tu.c0
                          have q_tu_c1 := tu.c1
                          have q_tu_size := tu.size
                          have q_tv_c0 := tv.c0
                          have q_tv_c1 := tv.c1
                          have q_tv_size := tv.size
                          go_wp2_with fail
                          refine (HP.out).mono ?_; rintro r w12 ⟨rfl, hb_⟩
                          clear q_tu_c0 q_tu_c1 q_tu_size q_tv_c0 q_tv_c1 q_tv_size
                          have tc := tc.keep hb_
                          have tx := tx.keep hb_
                          have ty := ty.keep hb_
                          have z8 := z8.keep hb_
                          have z9 := z9.keep hb_
                          have tf := tf.keep hb_
                          have ta := ta.keep hb_
                          have tu := tu.keep hb_
                          have tv := tv.keep hb_
                          have BX := BX.trans (hb_.mono BX.size)
                          clear hb_
                          have q_z8_c0 := z8.c0
                          have q_z8_c1 := z8.c1
                          have q_z8_f0 := z8.f0
                          have q_z8_f1 := z8.f1
                          have q_z8_size := z8.size
                          have q_z9_c0 := z9.c0
                          have q_z9_c1 := z9.c1
                          have q_z9_f0 := z9.f0
                          have q_z9_f1 := z9.f1
                          have q_z9_size := z9.size
                          go_wp2
                          exact bodyPost_ret (v := .tuple #[.agg #[.int .i64 u1, .int .i64 u2], .agg #[.int .i64 v1, .int .i64 v2], .bool true]) (by simp [results, Try.results19, go_sem, *]) rfl (⟨by rw [Hm.out]; rfl, (by repeat (first | exact Below.refl _ _ | refine below_alloc ?_ _ | refine below_step ?_ (by assumption) | refine Below.drew ?_ | refine Below.setCell ?_ (by first | exact Nat.le_refl _ | exact Nat.le_add_right _ _ | (simp <;> omega)) _ | refine below_drewN ?_ _))⟩)
end Go.Proofs.Ytpemckpnlemkfaa
