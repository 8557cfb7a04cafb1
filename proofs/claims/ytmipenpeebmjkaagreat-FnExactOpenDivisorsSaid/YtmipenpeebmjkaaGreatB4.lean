/-
  Joined texts: contracts and plain laws.
-/
import Derived.Test.YtmipenpeebmjkaaGreatB1
import Derived.Test.YtmipenpeebmjkaaGreatB3
import Derived.Test.YtmipenpeebmjkaaGreatB2
namespace Go.Proofs.YtmipenpeebmjkaaGreat
set_option linter.unusedSimpArgs false
set_option linter.unusedVariables false
open Go.RowKit
def M.qval (D A C m e : Int) : Int := D * (m * m * m * m) + A * (m * m * e * e) + C * (e * e * e * e)
/-- a quartic's coefficients within bounds -/
def M.qin (D A C : Int) : Prop := (-100000 ≤ D ∧ D ≤ 100000) ∧ (-100000 ≤ A ∧ A ≤ 100000) ∧ (-100000 ≤ C ∧ C ≤ 100000)
theorem M.qval_bd {D A C m e : Int} (h : M.qin D A C) (m0 : 0 ≤ m) (m1 : m ≤ 60) (e0 : 0 ≤ e) (e1 : e ≤ 60) : M.qval D A C m e ≤ 8000000000000 := by
  obtain ⟨⟨d1, d2⟩, ⟨a1, a2⟩, c1, c2⟩ := h
  have x1 := M.mul_nn (x := m) (y := m) (m := 60) (n := 60) m0 m1 m0 m1
  have x2 := M.mul_nn (x := m * m) (y := m) (m := 3600) (n := 60) x1.1 x1.2 m0 m1
  have x3 := M.mul_nn (x := m * m * m) (y := m) (m := 216000) (n := 60) x2.1 x2.2 m0 m1
  have y2 := M.mul_nn (x := m * m) (y := e) (m := 3600) (n := 60) x1.1 x1.2 e0 e1
  have y3 := M.mul_nn (x := m * m * e) (y := e) (m := 216000) (n := 60) y2.1 y2.2 e0 e1
  have z1 := M.mul_nn (x := e) (y := e) (m := 60) (n := 60) e0 e1 e0 e1
  have z2 := M.mul_nn (x := e * e) (y := e) (m := 3600) (n := 60) z1.1 z1.2 e0 e1
  have z3 := M.mul_nn (x := e * e * e) (y := e) (m := 216000) (n := 60) z2.1 z2.2 e0 e1
  have u1 := M.mul_bd (x := D) (y := m * m * m * m) (m := 100000) (n := 12960000) d1 d2 (by omega) (by omega)
  have u2 := M.mul_bd (x := A) (y := m * m * e * e) (m := 100000) (n := 12960000) a1 a2 (by omega) (by omega)
  have u3 := M.mul_bd (x := C) (y := e * e * e * e) (m := 100000) (n := 12960000) c1 c2 (by omega) (by omega)
  unfold M.qval
  omega
set_option maxHeartbeats 1000000 in
theorem value_c (D A C m e : Int) (w : World) (h : M.qin D A C) (m0 : 0 ≤ m) (m1 : m ≤ 60) (e0 : 0 ≤ e) (e1 : e ≤ 60) :
    Calls Tryz.prog 94 #[.agg #[.int .i64 D, .int .i64 A, .int .i64 C], .int .i64 m, .int .i64 e] w fun e' w' => e' = .returned (.int .i64 (M.qval D A C m e)) ∧ Below w.heap.size w w' := by
  obtain ⟨⟨d1, d2⟩, ⟨a1, a2⟩, c1, c2⟩ := h
  have x1 := M.mul_bd (x := D) (y := m) (m := 100000) (n := 60) d1 d2 (by omega) (by omega)
  have x2 := M.mul_bd (x := D * m) (y := m) (m := 6000000) (n := 60) (by omega) (by omega) (by omega) (by omega)
  have y1 := M.mul_bd (x := A) (y := e) (m := 100000) (n := 60) a1 a2 (by omega) (by omega)
  have y2 := M.mul_bd (x := A * e) (y := e) (m := 6000000) (n := 60) (by omega) (by omega) (by omega) (by omega)
  have x3 := M.mul_bd (x := D * m * m + A * e * e) (y := m) (m := 720000000) (n := 60) (by omega) (by omega) (by omega) (by omega)
  have x4 := M.mul_bd (x := (D * m * m + A * e * e) * m) (y := m) (m := 43200000000) (n := 60) (by omega) (by omega) (by omega) (by omega)
  have z1 := M.mul_bd (x := C) (y := e) (m := 100000) (n := 60) c1 c2 (by omega) (by omega)
  have z2 := M.mul_bd (x := C * e) (y := e) (m := 6000000) (n := 60) (by omega) (by omega) (by omega) (by omega)
  have z3 := M.mul_bd (x := C * e * e) (y := e) (m := 360000000) (n := 60) (by omega) (by omega) (by omega) (by omega)
  have z4 := M.mul_bd (x := C * e * e * e) (y := e) (m := 21600000000) (n := 60) (by omega) (by omega) (by omega) (by omega)
  have hv : M.qval D A C m e = (D * m * m + A * e * e) * m * m + C * e * e * e * e := by unfold M.qval; grind
  rw [hv]
  clear hv
  go_enter Tryz.func94, Tryz.ntmps94
  go_wp2
  go_ret
  exact ⟨rfl, (by repeat (first | exact Below.refl _ _ | refine below_alloc ?_ _ | refine below_step ?_ (by assumption) | refine Below.drew ?_ | refine Below.setCell ?_ (by first | exact Nat.le_refl _ | exact Nat.le_add_right _ _ | (simp <;> omega)) _ | refine below_drewN ?_ _))⟩
set_option maxHeartbeats 1000000 in
theorem loValue_c (D A C m e : Int) (w : World) (h : M.qin D A C) (m0 : 0 ≤ m) (m1 : m ≤ 60) (e0 : 0 ≤ e) (e1 : e ≤ 60) :
    Calls Tryz.prog 88 #[.agg #[.int .i64 D, .int .i64 A, .int .i64 C], .int .i64 m, .int .i64 e] w fun e' w' => e' = .returned (.int .i64 (M.qval D A C m e)) ∧ Below w.heap.size w w' := by
  obtain ⟨⟨d1, d2⟩, ⟨a1, a2⟩, c1, c2⟩ := h
  have x1 := M.mul_nn (x := m) (y := m) (m := 60) (n := 60) m0 m1 m0 m1
  have z1 := M.mul_nn (x := e) (y := e) (m := 60) (n := 60) e0 e1 e0 e1
  have x2 := M.mul_bd (x := D) (y := m * m) (m := 100000) (n := 3600) d1 d2 (by omega) (by omega)
  have x3 := M.mul_bd (x := D * (m * m)) (y := m * m) (m := 360000000) (n := 3600) (by omega) (by omega) (by omega) (by omega)
  have y2 := M.mul_bd (x := A) (y := m * m) (m := 100000) (n := 3600) a1 a2 (by omega) (by omega)
  have y3 := M.mul_bd (x := A * (m * m)) (y := e * e) (m := 360000000) (n := 3600) (by omega) (by omega) (by omega) (by omega)
  have z2 := M.mul_bd (x := C) (y := e * e) (m := 100000) (n := 3600) c1 c2 (by omega) (by omega)
  have z3 := M.mul_bd (x := C * (e * e)) (y := e * e) (m := 360000000) (n := 3600) (by omega) (by omega) (by omega) (by omega)
  have hv : M.qval D A C m e = D * (m * m) * (m * m) + A * (m * m) * (e * e) + C * (e * e) * (e * e) := by unfold M.qval; grind
  rw [hv]
  clear hv
  go_enter Tryz.func88, Tryz.ntmps88
  go_wp2
  go_ret
  exact ⟨rfl, (by repeat (first | exact Below.refl _ _ | refine below_alloc ?_ _ | refine below_step ?_ (by assumption) | refine Below.drew ?_ | refine Below.setCell ?_ (by first | exact Nat.le_refl _ | exact Nat.le_add_right _ _ | (simp <;> omega)) _ | refine below_drewN ?_ _))⟩
theorem M.any_succ (f : Nat → Bool) (n : Nat) : (List.range (n + 1)).any f = ((List.range n).any f || f n) := by
  rw [List.range_succ, List.any_append]
  simp
noncomputable def M.ptAt (D A C : Int) (m e : Nat) : Bool := M.gcd m e == 1 && M.isSq (M.qval D A C m e)
noncomputable def M.ptRow (D A C : Int) (n m : Nat) : Bool := (List.range n).any (M.ptAt D A C m)
/-- whether there are points within a bound -/
noncomputable def M.pts (D A C : Int) (n : Nat) : Bool := (List.range (n + 1)).any (M.ptRow D A C (n + 1))
theorem OwnI.lit3 (w : World) (base : Nat) (x y z : Int) (hb : base ≤ w.heap.size) : OwnI (w.alloc (.cells #[.int .i64 x, .int .i64 y, .int .i64 z] 3)) base (.slice (some ⟨w.heap.size, 0, none⟩) 3 3) [x, y, z] :=
  World.ownsRow_lit w #[.int .i64 x, .int .i64 y, .int .i64 z] 3 hb (by unfold maxLen; omega) rfl
/-- what comes of the search: a slice with elements or none -/
def Found (v : Value) (b : Bool) : Prop := ∃ (a : Option Addr) (n cap : Nat), v = .slice a n cap ∧ n ≤ 4000 ∧ decide (0 < n) = b
set_option maxHeartbeats 2000000 in
theorem points_c (D A C : Int) (n : Nat) (w : World) (h : M.qin D A C) (hn : n ≤ 60) :
    Calls Tryz.prog 67 #[.agg #[.int .i64 D, .int .i64 A, .int .i64 C], .int .i64 n] w fun e' w' => ∃ v, e' = .returned v ∧ Found v (M.pts D A C n) ∧ Below w.heap.size w w' := by
  have hg := fun (x y : Nat) (h1 : x ≤ 60) (h2 : y ≤ 60) W => gcd_c (x : Int) (y : Int) W (by omega) (by omega) (by omega) (by omega)
  have hv := fun (x y : Nat) (h1 : x ≤ 60) (h2 : y ≤ 60) W => value_c D A C x y W h (by omega) (by omega) (by omega) (by omega)
  have hr := fun (x y : Nat) (h1 : x ≤ 60) (h2 : y ≤ 60) W => exactRoot_c (M.qval D A C x y) W (M.qval_bd h (by omega) (by omega) (by omega) (by omega))
  go_enter Tryz.func67, Tryz.ntmps67
  go_wp2
  obtain ⟨c0, c1, c2⟩ : (w.alloc (.cells #[.int .i64 D, .int .i64 A, .int .i64 C] 63)).cell? ⟨w.heap.size, 0, none⟩ = some (.int .i64 D) ∧ (w.alloc (.cells #[.int .i64 D, .int .i64 A, .int .i64 C] 63)).cell? ⟨w.heap.size, 1, none⟩ = some (.int .i64 A) ∧ (w.alloc (.cells #[.int .i64 D, .int .i64 A, .int .i64 C] 63)).cell? ⟨w.heap.size, 2, none⟩ = some (.int .i64 C) := ⟨by simp [go_sem], by simp [go_sem], by simp [go_sem]⟩
  have hbw : Below w.heap.size w (w.alloc (.cells #[.int .i64 D, .int .i64 A, .int .i64 C] 63)) := (by repeat (first | exact Below.refl _ _ | refine below_alloc ?_ _ | refine below_step ?_ (by assumption) | refine Below.drew ?_ | refine Below.setCell ?_ (by first | exact Nat.le_refl _ | exact Nat.le_add_right _ _ | (simp <;> omega)) _ | refine below_drewN ?_ _))
  have hsz : (w.alloc (.cells #[.int .i64 D, .int .i64 A, .int .i64 C] 63)).heap.size = w.heap.size + 1 := by simp
  generalize hw1 : w.alloc (.cells #[.int .i64 D, .int .i64 A, .int .i64 C] 63) = w1 at *
  go_loopw [5, 6, 7, 8, 9, 12] (fun vo _ _ _ _ vi wr => ∃ (k : Nat) (vs : List Value) (rows : List (List Int)), k ≤ n + 1 ∧ vi = .int .i64 k ∧ OwnV wr w1.heap.size vo vs rows ∧ rows.length ≤ 61 * k ∧ decide (0 < rows.length) = (List.range k).any (M.ptRow D A C (n + 1)) ∧ Below w1.heap.size w1 wr) (fun _ _ _ _ _ vi _ => n + 1 - (intOf vi).toNat)
  case atStart => exact ⟨0, [], [], by omega, rfl, OwnV.nil _ _, by simp, by simp, Below.refl _ _⟩
  case round =>
    obtain ⟨k, vs, rows, hk, rfl, hov, hl, hany, hbr⟩ := hrel
    have z2 := hbr.size
    have Hany := Lib.hid hany
    clear hany
    by_cases hlt : k < n + 1
    · have hlt2 : (k : Int) < (n : Int) + 1 := by omega
      go_wp2
      generalize wr = w2 at *
      go_loopw [5, 7, 8, 9, 17] (fun vo _ _ _ vi wr => ∃ (j : Nat) (us : List Value) (rs : List (List Int)), j ≤ n + 1 ∧ vi = .int .i64 j ∧ OwnV wr w1.heap.size vo us rs ∧ rs.length ≤ 61 * k + j ∧ decide (0 < rs.length) = ((List.range k).any (M.ptRow D A C (n + 1)) || (List.range j).any (M.ptAt D A C k)) ∧ Below w1.heap.size w1 wr) (fun _ _ _ _ vi _ => n + 1 - (intOf vi).toNat)
      case atStart => exact ⟨0, vs, rows, by omega, rfl, hov, by omega, by rw [Hany.out]; simp, hbr⟩
      case round =>
        clear hov hl hbr z2
        obtain ⟨j, us, rs, hj, rfl, hov, hl, hany, hbr⟩ := hrel
        have z2 := hbr.size
        have Hany2 := Lib.hid hany
        clear hany
        by_cases hjt : j < n + 1
        · have hjt2 : (j : Int) < (n : Int) + 1 := by omega
          have e0 := keepCell hbr c0
          have e1 := keepCell hbr c1
          have e2 := keepCell hbr c2
          have a1 := hg k j (by omega) (by omega)
          have a2 := hv k j (by omega) (by omega)
          have a3 := hr k j (by omega) (by omega)
          have hst := Lib.hid (M.any_succ (M.ptAt D A C k) j)
          have hp : Hid (M.ptAt D A C k j = (M.gcd k j == 1 && M.isSq (M.qval D A C k j))) := Lib.hid rfl
          clear hg hv hr c0 c1 c2
          generalize M.gcd (k : Int) (j : Int) = g at *
          by_cases hgg : g = 1
          · subst hgg
            cases hs : M.isSq (M.qval D A C k j)
            · rw [hs] at hp
              rw [hs] at a3
              have a3 := Lib.hid a3
              go_wp2_with (first | (go_at_call 89; (with_reducible refine (a1 _).mono ?_); rintro e w3 ⟨rfl, mq, rfl⟩) | (go_at_call 94; (with_reducible refine (a2 _).mono ?_); rintro e w3 ⟨rfl, hb3⟩) | (go_at_call 93; (with_reducible refine (a3.out _).mono ?_); rintro e w4 ⟨rt, rfl, rfl⟩))
              go_roundw
              case rel => exact ⟨j + 1, us, rs, by omega, by go_num, hov.below (by have := hbr; exact (by repeat (first | exact Below.refl _ _ | refine below_alloc ?_ _ | refine below_step ?_ (by assumption) | refine Below.drew ?_ | refine Below.setCell ?_ (by first | exact Nat.le_refl _ | exact Nat.le_add_right _ _ | (simp <;> omega)) _ | refine below_drewN ?_ _))), by omega, by rw [hst.out, hp.out, Hany2.out]; simp, by have := hbr; exact (by repeat (first | exact Below.refl _ _ | refine below_alloc ?_ _ | refine below_step ?_ (by assumption) | refine Below.drew ?_ | refine Below.setCell ?_ (by first | exact Nat.le_refl _ | exact Nat.le_add_right _ _ | (simp <;> omega)) _ | refine below_drewN ?_ _))⟩
              case measure => simp [intOf]; omega
            · rw [hs] at hp
              rw [hs] at a3
              have a3 := Lib.hid a3
              go_wp2_with (first | (go_at_call 89; (with_reducible refine (a1 _).mono ?_); rintro e w3 ⟨rfl, mq, rfl⟩) | (go_at_call 94; (with_reducible refine (a2 _).mono ?_); rintro e w3 ⟨rfl, hb3⟩; (have hov3 := hov.below (by have := hbr; exact (below_step (below_drewN (Below.refl wr.heap.size wr) mq) hb3)); have hbr3 := Below.trans hbr ((below_step (below_drewN (Below.refl wr.heap.size wr) mq) hb3).mono z2); have z3 := hbr3.size)) | (go_at_call 93; (with_reducible refine (a3.out _).mono ?_); rintro e w4 ⟨rt, rfl, rfl⟩) | (at_builtin; refine push_row (W := w1) w1.heap.size (.slice (some ⟨w3.heap.size, 0, none⟩) 3 3) [(k : Int), (j : Int), rt] us rs _ (w3.heap.size + 1) (by simp) rfl _ _ rfl rfl rfl (hov3.alloc _) (OwnI.lit3 _ _ _ _ _ (by omega)) (fun q hq z hz hzq => row_new hov3 (Below.refl _ _) z hz q hzq hq) (hbr3.alloc (by omega) _) (by simp; omega) (by omega) ?_; rintro v5 w5 hov5 hb5))
              go_roundw
              case rel => exact ⟨j + 1, _, _, by omega, by go_num, hov5, by simp; omega, by rw [hst.out, hp.out]; simp, hb5⟩
              case measure => simp [intOf]; omega
          · have hf : (g == 1) = false := by simpa using hgg
            rw [hf] at hp
            go_wp2_with (go_at_call 89; (with_reducible refine (a1 _).mono ?_); rintro e w3 ⟨rfl, mq, rfl⟩)
            go_roundw
            case rel => exact ⟨j + 1, us, rs, by omega, by go_num, hov.below (by repeat (first | exact Below.refl _ _ | refine below_alloc ?_ _ | refine below_step ?_ (by assumption) | refine Below.drew ?_ | refine Below.setCell ?_ (by first | exact Nat.le_refl _ | exact Nat.le_add_right _ _ | (simp <;> omega)) _ | refine below_drewN ?_ _)), by omega, by rw [hst.out, hp.out, Hany2.out]; simp, by have := hbr; exact (by repeat (first | exact Below.refl _ _ | refine below_alloc ?_ _ | refine below_step ?_ (by assumption) | refine Below.drew ?_ | refine Below.setCell ?_ (by first | exact Nat.le_refl _ | exact Nat.le_add_right _ _ | (simp <;> omega)) _ | refine below_drewN ?_ _))⟩
            case measure => simp [intOf]; omega
        · obtain rfl : j = n + 1 := by omega
          have hst := Lib.hid (M.any_succ (M.ptRow D A C (n + 1)) k)
          have hlt3 : ¬ ((n : Int) + 1 < (n : Int) + 1) := by omega
          go_wp2
          go_roundw
          case rel => exact ⟨k + 1, us, rs, by omega, by go_num, hov, by omega, by rw [hst.out, Hany2.out]; rfl, hbr⟩
          case measure => simp [intOf]; omega
    · obtain rfl : k = n + 1 := by omega
      obtain ⟨av, cap, rfl, -⟩ := hov.view
      go_wp2
      go_ret
      exact ⟨_, rfl, ⟨_, _, _, rfl, by omega, by rw [Hany.out]; rfl⟩, below_step hbw hbr⟩
set_option maxHeartbeats 2000000 in
theorem seOnQuartic_c (D A C : Int) (n : Nat) (w : World) (h : M.qin D A C) (hn : n ≤ 60) :
    Calls Tryz.prog 61 #[.agg #[.int .i64 D, .int .i64 A, .int .i64 C], .int .i64 n] w fun e' w' => ∃ v, e' = .returned v ∧ Found v (M.pts D A C n) ∧ Below w.heap.size w w' := by
  have hg := fun (x y : Nat) (h1 : x ≤ 60) (h2 : y ≤ 60) W => bgCommon_c (x : Int) (y : Int) W (by omega) (by omega) (by omega) (by omega)
  have hv := fun (x y : Nat) (h1 : x ≤ 60) (h2 : y ≤ 60) W => loValue_c D A C x y W h (by omega) (by omega) (by omega) (by omega)
  have hr := fun (x y : Nat) (h1 : x ≤ 60) (h2 : y ≤ 60) W => seRoot_c (M.qval D A C x y) W (M.qval_bd h (by omega) (by omega) (by omega) (by omega))
  go_enter Tryz.func61, Tryz.ntmps61
  go_wp2
  obtain ⟨c0, c1, c2⟩ : (w.alloc (.cells #[.int .i64 D, .int .i64 A, .int .i64 C] 63)).cell? ⟨w.heap.size, 0, none⟩ = some (.int .i64 D) ∧ (w.alloc (.cells #[.int .i64 D, .int .i64 A, .int .i64 C] 63)).cell? ⟨w.heap.size, 1, none⟩ = some (.int .i64 A) ∧ (w.alloc (.cells #[.int .i64 D, .int .i64 A, .int .i64 C] 63)).cell? ⟨w.heap.size, 2, none⟩ = some (.int .i64 C) := ⟨by simp [go_sem], by simp [go_sem], by simp [go_sem]⟩
  have hbw : Below w.heap.size w (w.alloc (.cells #[.int .i64 D, .int .i64 A, .int .i64 C] 63)) := (by repeat (first | exact Below.refl _ _ | refine below_alloc ?_ _ | refine below_step ?_ (by assumption) | refine Below.drew ?_ | refine Below.setCell ?_ (by first | exact Nat.le_refl _ | exact Nat.le_add_right _ _ | (simp <;> omega)) _ | refine below_drewN ?_ _))
  have hsz : (w.alloc (.cells #[.int .i64 D, .int .i64 A, .int .i64 C] 63)).heap.size = w.heap.size + 1 := by simp
  generalize hw1 : w.alloc (.cells #[.int .i64 D, .int .i64 A, .int .i64 C] 63) = w1 at *
  go_loopw [5, 6, 7, 8] (fun vo vi _ _ wr => ∃ (k : Nat) (vs : List Value) (rows : List (List Int)), k ≤ n + 1 ∧ vi = .int .i64 k ∧ OwnV wr w1.heap.size vo vs rows ∧ rows.length ≤ 61 * k ∧ decide (0 < rows.length) = (List.range k).any (M.ptRow D A C (n + 1)) ∧ Below w1.heap.size w1 wr) (fun _ vi _ _ _ => n + 1 - (intOf vi).toNat)
  case atStart => exact ⟨0, [], [], by omega, rfl, OwnV.nil _ _, by simp, by simp, Below.refl _ _⟩
  case round =>
    obtain ⟨k, vs, rows, hk, rfl, hov, hl, hany, hbr⟩ := hrel
    have z2 := hbr.size
    have Hany := Lib.hid hany
    clear hany
    by_cases hlt : k < n + 1
    · have hlt2 : (k : Int) ≤ (n : Int) := by omega
      go_wp2
      generalize wr = w2 at *
      go_loopw [5, 7, 8] (fun vo vi _ wr => ∃ (j : Nat) (us : List Value) (rs : List (List Int)), j ≤ n + 1 ∧ vi = .int .i64 j ∧ OwnV wr w1.heap.size vo us rs ∧ rs.length ≤ 61 * k + j ∧ decide (0 < rs.length) = ((List.range k).any (M.ptRow D A C (n + 1)) || (List.range j).any (M.ptAt D A C k)) ∧ Below w1.heap.size w1 wr) (fun _ vi _ _ => n + 1 - (intOf vi).toNat)
      case atStart => exact ⟨0, vs, rows, by omega, rfl, hov, by omega, by rw [Hany.out]; simp, hbr⟩
      case round =>
        clear hov hl hbr z2
        obtain ⟨j, us, rs, hj, rfl, hov, hl, hany, hbr⟩ := hrel
        have z2 := hbr.size
        have Hany2 := Lib.hid hany
        clear hany
        by_cases hjt : j < n + 1
        · have hjt2 : (j : Int) ≤ (n : Int) := by omega
          have e0 := keepCell hbr c0
          have e1 := keepCell hbr c1
          have e2 := keepCell hbr c2
          have a1 := hg k j (by omega) (by omega)
          have a2 := hv k j (by omega) (by omega)
          have a3 := hr k j (by omega) (by omega)
          have hst := Lib.hid (M.any_succ (M.ptAt D A C k) j)
          have hp : Hid (M.ptAt D A C k j = (M.gcd k j == 1 && M.isSq (M.qval D A C k j))) := Lib.hid rfl
          clear hg hv hr c0 c1 c2
          generalize M.gcd (k : Int) (j : Int) = g at *
          by_cases hgg : g = 1
          · subst hgg
            cases hs : M.isSq (M.qval D A C k j)
            · rw [hs] at hp
              rw [hs] at a3
              have a3 := Lib.hid a3
              go_wp2_with (first | (go_at_call 86; (with_reducible refine (a1 _).mono ?_); rintro e w3 ⟨rfl, rfl⟩) | (go_at_call 88; (with_reducible refine (a2 _).mono ?_); rintro e w3 ⟨rfl, hb3⟩) | (go_at_call 87; (with_reducible refine (a3.out _).mono ?_); rintro e w4 ⟨rt, rfl, hrt, rfl⟩; have hrt2 : ¬ (0 ≤ rt) := by simpa using hrt))
              go_roundw
              case rel => exact ⟨j + 1, us, rs, by omega, by go_num, hov.below (by have := hbr; exact (by repeat (first | exact Below.refl _ _ | refine below_alloc ?_ _ | refine below_step ?_ (by assumption) | refine Below.drew ?_ | refine Below.setCell ?_ (by first | exact Nat.le_refl _ | exact Nat.le_add_right _ _ | (simp <;> omega)) _ | refine below_drewN ?_ _))), by omega, by rw [hst.out, hp.out, Hany2.out]; simp, by have := hbr; exact (by repeat (first | exact Below.refl _ _ | refine below_alloc ?_ _ | refine below_step ?_ (by assumption) | refine Below.drew ?_ | refine Below.setCell ?_ (by first | exact Nat.le_refl _ | exact Nat.le_add_right _ _ | (simp <;> omega)) _ | refine below_drewN ?_ _))⟩
              case measure => simp [intOf]; omega
            · rw [hs] at hp
              rw [hs] at a3
              have a3 := Lib.hid a3
              go_wp2_with (first | (go_at_call 86; (with_reducible refine (a1 _).mono ?_); rintro e w3 ⟨rfl, rfl⟩) | (go_at_call 88; (with_reducible refine (a2 _).mono ?_); rintro e w3 ⟨rfl, hb3⟩; (have hov3 := hov.below hb3; have hbr3 := Below.trans hbr (hb3.mono z2); have z3 := hbr3.size)) | (go_at_call 87; (with_reducible refine (a3.out _).mono ?_); rintro e w4 ⟨rt, rfl, hrt, rfl⟩; have hrt2 : 0 ≤ rt := by simpa using hrt) | (at_builtin; refine push_row (W := w1) w1.heap.size (.slice (some ⟨w3.heap.size, 0, none⟩) 3 3) [(k : Int), (j : Int), rt] us rs _ (w3.heap.size + 1) (by simp) rfl _ _ rfl rfl rfl (hov3.alloc _) (OwnI.lit3 _ _ _ _ _ (by omega)) (fun q hq z hz hzq => row_new hov3 (Below.refl _ _) z hz q hzq hq) (hbr3.alloc (by omega) _) (by simp; omega) (by omega) ?_; rintro v5 w5 hov5 hb5))
              go_roundw
              case rel => exact ⟨j + 1, _, _, by omega, by go_num, hov5, by simp; omega, by rw [hst.out, hp.out]; simp, hb5⟩
              case measure => simp [intOf]; omega
          · have hf : (g == 1) = false := by simpa using hgg
            rw [hf] at hp
            go_wp2_with (go_at_call 86; (with_reducible refine (a1 _).mono ?_); rintro e w3 ⟨rfl, rfl⟩)
            go_roundw
            case rel => exact ⟨j + 1, us, rs, by omega, by go_num, hov, by omega, by rw [hst.out, hp.out, Hany2.out]; simp, hbr⟩
            case measure => simp [intOf]; omega
        · obtain rfl : j = n + 1 := by omega
          have hst := Lib.hid (M.any_succ (M.ptRow D A C (n + 1)) k)
          have hlt3 : ¬ ((n : Int) + 1 ≤ (n : Int)) := by omega
          go_wp2
          go_roundw
          case rel => exact ⟨k + 1, us, rs, by omega, by go_num, hov, by omega, by rw [hst.out, Hany2.out]; rfl, hbr⟩
          case measure => simp [intOf]; omega
    · obtain rfl : k = n + 1 := by omega
      obtain ⟨av, cap, rfl, -⟩ := hov.view
      have hlt3 : ¬ ((n : Int) + 1 ≤ (n : Int)) := by omega
      go_wp2
      go_ret
      exact ⟨_, rfl, ⟨_, _, _, rfl, by omega, by rw [Hany.out]; rfl⟩, below_step hbw hbr⟩
end Go.Proofs.YtmipenpeebmjkaaGreat

namespace Go.Proofs.YtmipenpeebmjkaaGreat
set_option linter.unusedSimpArgs false
set_option linter.unusedVariables false
namespace M
theorem ipow_pos {p : Int} (h : 1 ≤ p) : ∀ k : Nat, 1 ≤ ipow p k
  | 0 => by simp [ipow]
  | k + 1 => by
    have h1 := ipow_pos h k
    have := Int.mul_le_mul h1 h (by omega) (by omega)
    simpa [ipow] using this
theorem ipow_next {p : Int} (h : 1 ≤ p) (k : Nat) : ipow p k ≤ ipow p (k + 1) := by
  have h1 := ipow_pos h k
  have := Int.mul_le_mul_of_nonneg_left h (show 0 ≤ ipow p k by omega)
  simp only [ipow]
  omega
theorem ipow_mono {p : Int} (h : 1 ≤ p) {i j : Nat} (hij : i ≤ j) : ipow p i ≤ ipow p j := by
  induction j with
  | zero => obtain rfl : i = 0 := by omega
            exact Int.le_refl _
  | succ j ih =>
    rcases Nat.lt_or_ge i (j + 1) with q | q
    · exact Int.le_trans (ih (by omega)) (ipow_next h j)
    · obtain rfl : i = j + 1 := by omega
      exact Int.le_refl _
theorem ipow_two {p : Int} (h : 2 ≤ p) : ∀ k : Nat, (2 : Int) ^ k ≤ ipow p k
  | 0 => by simp [ipow]
  | k + 1 => by
    have h1 := ipow_two h k
    have h2 : (0 : Int) ≤ 2 ^ k := Int.pow_nonneg (by omega)
    have := Int.mul_le_mul h1 h (by omega) (by omega)
    simpa [ipow, Int.pow_succ] using this
theorem ipow_add (p : Int) (i : Nat) : ∀ j : Nat, ipow p (i + j) = ipow p i * ipow p j
  | 0 => by simp [ipow]
  | j + 1 => by
    show ipow p (i + j) * p = ipow p i * (ipow p j * p)
    rw [ipow_add p i j, Int.mul_assoc]
/-- the greatest power that is used -/
def IsDep (p : Int) (d : Nat) : Prop := ipow p d ≤ 1000000000 ∧ 1000000000 < ipow p (d + 1)
theorem IsDep.le {p : Int} {d j : Nat} (hp : 1 ≤ p) (h : IsDep p d) (hj : j ≤ d) : ipow p j ≤ 1000000000 := Int.le_trans (ipow_mono hp hj) h.1
theorem IsDep.iff {p : Int} {d j : Nat} (hp : 1 ≤ p) (h : IsDep p d) : ipow p j ≤ 1000000000 ↔ j ≤ d := by
  constructor
  · intro hj
    rcases Nat.lt_or_ge d j with q | q
    · have := ipow_mono hp (show d + 1 ≤ j from q)
      have := h.2
      omega
    · exact q
  · exact h.le hp
theorem dep_ex {p : Int} (h : 2 ≤ p) (h1 : p ≤ 1000000000) : ∃ d, 1 ≤ d ∧ d ≤ 29 ∧ IsDep p d := by
  have key : ∀ n : Nat, ipow p (n + 1) ≤ 1000000000 ∨ ∃ d, 1 ≤ d ∧ d ≤ n ∧ IsDep p d := by
    intro n
    induction n with
    | zero => exact Or.inl (by simpa [ipow] using h1)
    | succ n ih =>
      rcases ih with q | ⟨d, d1, d2, d3⟩
      · rcases Int.lt_or_le 1000000000 (ipow p (n + 1 + 1)) with r | r
        · exact Or.inr ⟨n + 1, by omega, by omega, q, r⟩
        · exact Or.inl r
      · exact Or.inr ⟨d, d1, by omega, d3⟩
  rcases key 29 with q | q
  · exfalso
    have q : ipow p 30 ≤ 1000000000 := q
    have h3 := ipow_two h 30
    rw [show (2 : Int) ^ 30 = 1073741824 from by decide] at h3
    omega
  · exact q
/-- the valuation's power divides, and what is left is no multiple -/
theorem valF_pow {p : Int} (hp : 2 ≤ p) : ∀ (f : Nat) (a : Int), a ≠ 0 → a.natAbs ≤ f → ∃ u, a = ipow p (valF p f a).toNat * u ∧ ¬ u % p = 0
  | 0, a, h, hf => absurd (show a = 0 by omega) h
  | f + 1, a, h, hf => by
    by_cases hd : a % p = 0
    · have hl := abs_div hp h hd
      obtain ⟨u, h1, h2⟩ := valF_pow hp f (a / p) hl.2 (by omega)
      have he := exact_div (n := a) (by omega) hd
      have hn := (valF_nn p f (a / p)).1
      refine ⟨u, ?_, h2⟩
      have e : (valF p (f + 1) a).toNat = (valF p f (a / p)).toNat + 1 := by
        simp only [valF, hd, if_true]
        omega
      rw [e]
      show a = ipow p (valF p f (a / p)).toNat * p * u
      rw [Int.mul_assoc, Int.mul_comm p u, ← Int.mul_assoc, ← h1, he]
    · refine ⟨a, ?_, hd⟩
      simp [valF, hd, ipow]
theorem valn_nn (a p : Int) : 0 ≤ valn a p := (valF_nn p _ a).1
theorem valn_pow {a p : Int} (hp : 2 ≤ p) (h : a ≠ 0) : ∃ u, a = ipow p (valn a p).toNat * u ∧ ¬ u % p = 0 := valF_pow hp _ a h (Nat.le_refl _)
/-- of a residue that is not 0 -/
theorem valn_res {x p : Int} {k : Nat} (hp : 2 ≤ p) (h0 : x ≠ 0) (h1 : 0 ≤ x) (h2 : x < ipow p k) :
    0 ≤ valn x p ∧ valn x p < k ∧ ipow p (valn x p).toNat ≤ x ∧ 1 ≤ ipow p (valn x p).toNat ∧ ¬ (x / ipow p (valn x p).toNat) % p = 0 ∧ 0 ≤ x / ipow p (valn x p).toNat ∧ x / ipow p (valn x p).toNat ≤ x := by
  obtain ⟨u, h3, h4⟩ := valn_pow hp h0
  have hv := valn_nn x p
  have hw := ipow_pos (show 1 ≤ p by omega) (valn x p).toNat
  have hu : 1 ≤ u := by
    rcases Int.lt_or_le u 1 with q | q
    · have := Int.mul_nonpos_of_nonneg_of_nonpos (show 0 ≤ ipow p (valn x p).toNat by omega) (show u ≤ 0 by omega)
      omega
    · exact q
  have hle : ipow p (valn x p).toNat ≤ x := by
    have := Int.mul_le_mul_of_nonneg_left hu (show 0 ≤ ipow p (valn x p).toNat by omega)
    omega
  have hdiv : x / ipow p (valn x p).toNat = u := by
    generalize ipow p (valn x p).toNat = q at *
    rw [h3, Int.mul_ediv_cancel_left u (by omega)]
  refine ⟨hv, ?_, hle, hw, ?_, ?_, ?_⟩
  · rcases Int.lt_or_le (valn x p) k with q | q
    · exact q
    · have := ipow_mono (show 1 ≤ p by omega) (show k ≤ (valn x p).toNat by omega)
      omega
  · rw [hdiv]; exact h4
  · rw [hdiv]; omega
  · exact Int.ediv_le_self _ h1
/-- how often p divides a residue modulo its power k -/
def ofn (x p : Int) (k : Nat) : Int := if x = 0 then (k : Int) else valn x p
/-- whether a residue modulo p^k is a square -/
def sqm (x p : Int) (k : Nat) : Bool :=
  if x = 0 then true else if valn x p % 2 = 1 then false else if 2 < p then symb (x / ipow p (valn x p).toNat) p == 1
  else if (k : Int) - valn x p = 1 then true else if (k : Int) - valn x p = 2 then x / ipow p (valn x p).toNat % 4 == 1 else x / ipow p (valn x p).toNat % 8 == 1
end M
end Go.Proofs.YtmipenpeebmjkaaGreat

namespace Go.Proofs.YtmipenpeebmjkaaGreat
set_option linter.unusedSimpArgs false
set_option linter.unusedVariables false
open Go.RowKit
theorem intPowerB_c (p : Int) (k : Nat) (w : World) (p1 : 1 ≤ p) (hb : M.ipow p k ≤ 4000000000000000000) (hk : k ≤ 1000) :
    Calls Tryz.prog 139 #[.int .i64 p, .int .i64 k] w fun e w' => e = .returned (.int .i64 (M.ipow p k)) ∧ w = w' := by
  go_enter Tryz.func139, Tryz.ntmps139
  go_wp2
  go_loop [5, 7] (fun vo vi => ∃ j : Nat, j ≤ k ∧ vi = .int .i64 j ∧ vo = .int .i64 (M.ipow p j)) (fun _ vi => (k - (intOf vi).toNat))
  case atStart => exact ⟨0, by omega, rfl, rfl⟩
  case round =>
    obtain ⟨j, hj, rfl, rfl⟩ := hrel
    by_cases hlt : j < k
    · have h1 := M.ipow_pos p1 j
      have h2 := M.ipow_mono p1 (show j + 1 ≤ k from hlt)
      have h3 : M.ipow p j * p ≤ 4000000000000000000 := Int.le_trans h2 hb
      have h4 : 0 ≤ M.ipow p j * p := Int.mul_nonneg (by omega) (by omega)
      go_wp2
      go_round
      case rel => exact ⟨j + 1, by omega, by go_num, rfl⟩
      case measure => simp [intOf]; omega
    · obtain rfl : j = k := by omega
      go_wp2
      go_ret
      exact ⟨rfl, rfl⟩
theorem loPowerB_c (p : Int) (k : Nat) (w : World) (p1 : 1 ≤ p) (hb : M.ipow p k ≤ 4000000000000000000) (hk : k ≤ 1000) :
    Calls Tryz.prog 137 #[.int .i64 p, .int .i64 k] w fun e w' => e = .returned (.int .i64 (M.ipow p k)) ∧ w = w' := by
  go_enter Tryz.func137, Tryz.ntmps137
  go_wp2
  go_loop [1, 5] (fun vi vo => ∃ j : Nat, j ≤ k ∧ vi = .int .i64 ((k : Int) - j) ∧ vo = .int .i64 (M.ipow p j)) (fun vi _ => (intOf vi).toNat)
  case atStart => exact ⟨0, by omega, by simp, rfl⟩
  case round =>
    obtain ⟨j, hj, rfl, rfl⟩ := hrel
    by_cases hlt : j < k
    · have h1 := M.ipow_pos p1 j
      have h2 := M.ipow_mono p1 (show j + 1 ≤ k from hlt)
      have h3 : M.ipow p j * p ≤ 4000000000000000000 := Int.le_trans h2 hb
      have h4 : 0 ≤ M.ipow p j * p := Int.mul_nonneg (by omega) (by omega)
      have h5 : 0 < (k : Int) - (j : Int) := by omega
      go_wp2
      go_round
      case rel => exact ⟨j + 1, by omega, by congr 1; omega, rfl⟩
      case measure => simp [intOf]; omega
    · obtain rfl : j = k := by omega
      have h5 : ¬ (0 < (j : Int) - (j : Int)) := by omega
      go_wp2
      go_ret
      exact ⟨rfl, rfl⟩
theorem depth_c (p : Int) (d : Nat) (w : World) (p1 : 2 ≤ p) (p2 : p ≤ 1000) (h : M.IsDep p d) (hd : d ≤ 29) :
    Calls Tryz.prog 132 #[.int .i64 p] w fun e w' => e = .returned (.int .i64 d) ∧ w = w' := by
  have hi := fun j => h.iff (j := j) (by omega)
  go_enter Tryz.func132, Tryz.ntmps132
  go_wp2
  go_loop [3, 4] (fun vk vn => ∃ j : Nat, j ≤ d ∧ vk = .int .i64 j ∧ vn = .int .i64 (M.ipow p (j + 1))) (fun vk _ => (29 - (intOf vk).toNat))
  case atStart => exact ⟨0, by omega, rfl, by simp [M.ipow]⟩
  case round =>
    obtain ⟨j, hj, rfl, rfl⟩ := hrel
    have h1 := M.ipow_pos (show 1 ≤ p by omega) (j + 1)
    by_cases hlt : j < d
    · have h2 := (hi (j + 1)).2 hlt
      have h3 := M.mul_nn (x := M.ipow p (j + 1)) (y := p) (m := 1000000000) (n := 1000) (by omega) h2 (by omega) p2
      clear hi
      go_wp2
      go_round
      case rel => exact ⟨j + 1, by omega, by go_num, rfl⟩
      case measure => simp [intOf]; omega
    · obtain rfl : j = d := by omega
      have h2 : ¬ (M.ipow p (j + 1) ≤ 1000000000) := by have := h.2; omega
      clear hi
      go_wp2
      go_ret
      exact ⟨rfl, rfl⟩
theorem loDepth_c (p : Int) (d : Nat) (w : World) (p1 : 2 ≤ p) (p2 : p ≤ 1000) (h : M.IsDep p d) (hd : d ≤ 29) :
    Calls Tryz.prog 128 #[.int .i64 p] w fun e w' => e = .returned (.int .i64 d) ∧ w = w' := by
  have hi := fun j => h.iff (j := j) (by omega)
  have hq := fun x : Int => Int.le_ediv_iff_mul_le (a := x) (b := 1000000000) (c := p) (by omega)
  have hg0 : 0 ≤ 1000000000 / p := Int.ediv_nonneg (by omega) (by omega)
  go_enter Tryz.func128, Tryz.ntmps128
  go_wp2
  go_loop [3, 4] (fun vk vn => ∃ j : Nat, j ≤ d ∧ vk = .int .i64 j ∧ vn = .int .i64 (M.ipow p j)) (fun vk _ => (29 - (intOf vk).toNat))
  case atStart => exact ⟨0, by omega, rfl, by simp [M.ipow]⟩
  case round =>
    obtain ⟨j, hj, rfl, rfl⟩ := hrel
    have h1 := M.ipow_pos (show 1 ≤ p by omega) j
    by_cases hlt : j < d
    · have h2 := (hi (j + 1)).2 hlt
      have h2' : M.ipow p j ≤ 1000000000 / p := (hq _).2 h2
      have h2'' : M.ipow p j ≤ 1000000000 := (hi j).2 (by omega)
      have h3 := M.mul_nn (x := M.ipow p j) (y := p) (m := 1000000000) (n := 1000) (by omega) h2'' (by omega) p2
      clear hi hq
      go_wp2
      go_round
      case rel => exact ⟨j + 1, by omega, by go_num, rfl⟩
      case measure => simp [intOf]; omega
    · obtain rfl : j = d := by omega
      have h2 : ¬ (M.ipow p j ≤ 1000000000 / p) := by
        rw [hq]
        have := h.2
        simp only [M.ipow] at this
        omega
      clear hi hq
      go_wp2
      go_ret
      exact ⟨rfl, rfl⟩
theorem mdValuation_c (a p : Int) (w : World) (ha : a ≠ 0) (h1 : 2 ≤ p) (h2 : -4000000000000000000 ≤ a) (h3 : a ≤ 4000000000000000000) :
    Calls Tryz.prog 100 #[.int .i64 a, .int .i64 p] w fun e w' => e = .returned (.int .i64 (M.valn a p)) ∧ w = w' := by
  go_enter Tryz.func100, Tryz.ntmps100
  go_wp2
  go_loop [0, 5] (fun va vn => ∃ x n : Int, ∃ f : Nat, va = .int .i64 x ∧ vn = .int .i64 n ∧ x ≠ 0 ∧ x.natAbs ≤ 4000000000000000000 ∧ x.natAbs ≤ f ∧ f ≤ 4000000000000000000 ∧ 0 ≤ n ∧ n + f ≤ 4000000000000000000 ∧ n + M.valF p f x = M.valn a p) (fun va _ => (intOf va).natAbs)
  case atStart => exact ⟨a, 0, a.natAbs, rfl, rfl, ha, by omega, by omega, by omega, by omega, by omega, by simp [M.valn]⟩
  case round =>
    obtain ⟨x, n, f, rfl, rfl, hx, hx2, hf, hf2, hn, hnf, hv⟩ := hrel
    have Hv := Lib.hid hv
    clear hv
    by_cases hd : x % p = 0
    · have hlt := M.abs_div h1 hx hd
      have e1 := M.tmod_zero.2 hd
      have e2 := M.tdiv_exact (by omega) hd
      have hs := Lib.hid (M.valF_step h1 hx hf hd)
      have hd' := Lib.hid hd
      clear hd
      go_wp2
      go_round
      case rel => exact ⟨x / p, n + 1, f - 1, rfl, rfl, hlt.2, by omega, by omega, by omega, by omega, by omega, by rw [← Hv.out, hs.out]; omega⟩
      case measure => simp [intOf]; omega
    · have e1 : ¬ x.tmod p = 0 := fun h => hd (M.tmod_zero.1 h)
      have hs := Lib.hid (M.valF_stop (f := f) hd)
      go_wp2
      go_ret; exact ⟨ret_i (by rw [← Hv.out, hs.out]; omega), rfl⟩
theorem l1Least_c (a b : Int) (w : World) :
    Calls Tryz.prog 146 #[.int .i64 a, .int .i64 b] w fun e w' => e = .returned (.int .i64 (min a b)) ∧ w = w' := by
  by_cases h : a < b
  · have h2 : min a b = a := by omega
    rw [h2]
    go_enter Tryz.func146, Tryz.ntmps146
    go_wp2
    go_ret; exact ⟨rfl, rfl⟩
  · have h2 : min a b = b := by omega
    rw [h2]
    go_enter Tryz.func146, Tryz.ntmps146
    go_wp2
    go_ret; exact ⟨rfl, rfl⟩
theorem loOften_c (x p : Int) (k : Nat) (w : World) (hp : 2 ≤ p) (h0 : 0 ≤ x) (h1 : x < M.ipow p k) (h2 : x ≤ 1000000000) :
    Calls Tryz.prog 147 #[.int .i64 x, .int .i64 p, .int .i64 k] w fun e w' => e = .returned (.int .i64 (M.ofn x p k)) ∧ w = w' := by
  unfold M.ofn
  by_cases hx : x = 0
  · rw [if_pos hx]
    go_enter Tryz.func147, Tryz.ntmps147
    go_wp2
    go_ret; exact ⟨rfl, rfl⟩
  · rw [if_neg hx]
    have hv := (M.valn_res hp hx h0 h1).2.1
    have hm : min (k : Int) (M.valn x p) = M.valn x p := by omega
    have T := fun W => l1Least_c (k : Int) (M.valn x p) W
    rw [hm] at T
    have U := fun W => mdValuation_c x p W hx hp (by omega) (by omega)
    have T := Lib.hid T
    have U := Lib.hid U
    clear hm hv
    go_enter Tryz.func147, Tryz.ntmps147
    go_wp2_with (first | (go_at_call 100; (with_reducible refine (U.out _).mono ?_); rintro e w' ⟨rfl, rfl⟩) | (go_at_call 146; (with_reducible refine (T.out _).mono ?_); rintro e w' ⟨rfl, rfl⟩))
    go_ret; exact ⟨rfl, rfl⟩
set_option maxHeartbeats 1000000 in
theorem squareModulo_c (n p : Int) (k : Nat) (w : World) (hp : 2 ≤ p) (hp2 : p ≤ 1000) (hk : M.ipow p k ≤ 1000000000) (hk2 : k ≤ 29) (hk1 : 1 ≤ k) :
    Calls Tryz.prog 148 #[.int .i64 n, .int .i64 p, .int .i64 k] w fun e w' => e = .returned (.bool (M.sqm (n % M.ipow p k) p k)) ∧ ∃ m, w' = w.drewN m := by
  have hq1 := M.ipow_pos (show 1 ≤ p by omega) k
  have P1 := fun W => intPowerB_c p k W (by omega) (by omega) (by omega)
  have P2 := fun W => modulo_c n (M.ipow p k) W hq1 (by omega)
  have x0 := Int.emod_nonneg n (show M.ipow p k ≠ 0 by omega)
  have x1 := Int.emod_lt_of_pos n (show 0 < M.ipow p k by omega)
  generalize hx : n % M.ipow p k = x at *
  have P1 := Lib.hid P1
  have P2 := Lib.hid P2
  clear hx
  unfold M.sqm
  by_cases hx : x = 0
  · rw [if_pos hx]
    subst hx
    go_enter Tryz.func148, Tryz.ntmps148
    go_wp2_with (first | (go_at_call 139; (with_reducible refine (P1.out _).mono ?_); rintro e w' ⟨rfl, rfl⟩) | (go_at_call 149; (with_reducible refine (P2.out _).mono ?_); rintro e w' ⟨rfl, rfl⟩))
    go_ret; exact ⟨rfl, 0, rfl⟩
  rw [if_neg hx]
  obtain ⟨v0, v1, v2, v3, v4, v5, v6⟩ := M.valn_res hp hx x0 x1
  have P3 := fun W => valuation_c x p W hx hp (by omega) (by omega)
  generalize hvv : M.valn x p = v at *
  obtain ⟨v', rfl⟩ : ∃ v' : Nat, v = v' := ⟨v.toNat, by omega⟩
  rw [Int.toNat_natCast] at *
  have P4 := fun W => intPowerB_c p v' W (by omega) (by omega) (by omega)
  have P5 := fun W => symbol_c (x / M.ipow p v') p W (by omega) (by omega)
  have hd : x.tdiv (M.ipow p v') = x / M.ipow p v' := Int.tdiv_eq_ediv_of_nonneg x0
  have P3 := Lib.hid P3
  have P4 := Lib.hid P4
  clear hvv
  generalize x / M.ipow p v' = u at *
  generalize hQ : M.ipow p v' = Q at *
  have hQ2 := Lib.hid hQ
  clear hQ
  by_cases c1 : (v' : Int) % 2 = 1
  · rw [if_pos c1]
    have e1 : (v' : Int).tmod 2 = 1 := by rw [Int.tmod_eq_emod_of_nonneg v0]; omega
    clear P5
    go_enter Tryz.func148, Tryz.ntmps148
    go_wp2_with (first | (go_at_call 139; (with_reducible refine (P1.out _).mono ?_); rintro e w' ⟨rfl, rfl⟩) | (go_at_call 149; (with_reducible refine (P2.out _).mono ?_); rintro e w' ⟨rfl, rfl⟩) | (go_at_call 85; (with_reducible refine (P3.out _).mono ?_); rintro e w' ⟨rfl, rfl⟩) | (go_at_call 139; (with_reducible refine (P4.out _).mono ?_); rintro e w' ⟨rfl, rfl⟩))
    go_ret; exact ⟨rfl, 0, rfl⟩
  rw [if_neg c1]
  have e1 : ¬ (v' : Int).tmod 2 = 1 := by rw [Int.tmod_eq_emod_of_nonneg v0]; omega
  by_cases c2 : 2 < p
  · rw [if_pos c2]
    generalize M.symb u p = s at *
    have P5 := Lib.hid P5
    go_enter Tryz.func148, Tryz.ntmps148
    go_wp2_with (first | (go_at_call 139; (with_reducible refine (P1.out _).mono ?_); rintro e w' ⟨rfl, rfl⟩) | (go_at_call 149; (with_reducible refine (P2.out _).mono ?_); rintro e w' ⟨rfl, rfl⟩) | (go_at_call 85; (with_reducible refine (P3.out _).mono ?_); rintro e w' ⟨rfl, rfl⟩) | (go_at_call 139; (with_reducible refine (P4.out _).mono ?_); rintro e w' ⟨rfl, rfl⟩) | (go_at_call 153; refine (P5.out _).mono ?_; rintro e w' ⟨rfl, mq, rfl⟩))
    go_ret; exact ⟨ret_b (by simp), mq, rfl⟩
  rw [if_neg c2]
  clear P5
  by_cases c3 : (k : Int) - (v' : Int) = 1
  · rw [if_pos c3]
    go_enter Tryz.func148, Tryz.ntmps148
    go_wp2_with (first | (go_at_call 139; (with_reducible refine (P1.out _).mono ?_); rintro e w' ⟨rfl, rfl⟩) | (go_at_call 149; (with_reducible refine (P2.out _).mono ?_); rintro e w' ⟨rfl, rfl⟩) | (go_at_call 85; (with_reducible refine (P3.out _).mono ?_); rintro e w' ⟨rfl, rfl⟩) | (go_at_call 139; (with_reducible refine (P4.out _).mono ?_); rintro e w' ⟨rfl, rfl⟩))
    go_ret; exact ⟨rfl, 0, rfl⟩
  rw [if_neg c3]
  by_cases c4 : (k : Int) - (v' : Int) = 2
  · rw [if_pos c4]
    have e2 : u.tmod 4 = u % 4 := Int.tmod_eq_emod_of_nonneg v5
    go_enter Tryz.func148, Tryz.ntmps148
    go_wp2_with (first | (go_at_call 139; (with_reducible refine (P1.out _).mono ?_); rintro e w' ⟨rfl, rfl⟩) | (go_at_call 149; (with_reducible refine (P2.out _).mono ?_); rintro e w' ⟨rfl, rfl⟩) | (go_at_call 85; (with_reducible refine (P3.out _).mono ?_); rintro e w' ⟨rfl, rfl⟩) | (go_at_call 139; (with_reducible refine (P4.out _).mono ?_); rintro e w' ⟨rfl, rfl⟩))
    go_ret; exact ⟨ret_b (by simp), 0, rfl⟩
  · rw [if_neg c4]
    have e2 : u.tmod 8 = u % 8 := Int.tmod_eq_emod_of_nonneg v5
    go_enter Tryz.func148, Tryz.ntmps148
    go_wp2_with (first | (go_at_call 139; (with_reducible refine (P1.out _).mono ?_); rintro e w' ⟨rfl, rfl⟩) | (go_at_call 149; (with_reducible refine (P2.out _).mono ?_); rintro e w' ⟨rfl, rfl⟩) | (go_at_call 85; (with_reducible refine (P3.out _).mono ?_); rintro e w' ⟨rfl, rfl⟩) | (go_at_call 139; (with_reducible refine (P4.out _).mono ?_); rintro e w' ⟨rfl, rfl⟩))
    go_ret; exact ⟨ret_b (by simp), 0, rfl⟩
set_option maxHeartbeats 1000000 in
theorem loSquare_c (x p : Int) (k : Nat) (w : World) (hpr : M.prime p = true) (hp : 2 ≤ p) (hp2 : p ≤ 997) (x0 : 0 ≤ x) (x1 : x < M.ipow p k) (hk : M.ipow p k ≤ 1000000000) (hk2 : k ≤ 29) :
    Calls Tryz.prog 145 #[.int .i64 x, .int .i64 p, .int .i64 k] w fun e w' => e = .returned (.bool (M.sqm x p k)) ∧ w = w' := by
  have P1 := fun W => loOften_c x p k W hp x0 x1 (by omega)
  unfold M.sqm
  unfold M.ofn at P1
  by_cases hx : x = 0
  · rw [if_pos hx]
    subst hx
    simp only [if_true] at P1
    have P1 := Lib.hid P1
    go_enter Tryz.func145, Tryz.ntmps145
    go_wp2_with (first | (go_at_call 147; (with_reducible refine (P1.out _).mono ?_); rintro e w' ⟨rfl, rfl⟩))
    go_ret; exact ⟨rfl, rfl⟩
  rw [if_neg hx]
  simp only [if_neg hx] at P1
  obtain ⟨v0, v1, v2, v3, v4, v5, v6⟩ := M.valn_res hp hx x0 x1
  generalize hvv : M.valn x p = v at *
  obtain ⟨v', rfl⟩ : ∃ v' : Nat, v = v' := ⟨v.toNat, by omega⟩
  rw [Int.toNat_natCast] at *
  have P4 := fun W => loPowerB_c p v' W (by omega) (by omega) (by omega)
  have hd : x.tdiv (M.ipow p v') = x / M.ipow p v' := Int.tdiv_eq_ediv_of_nonneg x0
  have P1 := Lib.hid P1
  have P4 := Lib.hid P4
  have hne : ¬ (v' : Int) = (k : Int) := by omega
  clear hvv
  generalize x / M.ipow p v' = u at *
  generalize hQ : M.ipow p v' = Q at *
  have hQ2 := Lib.hid hQ
  clear hQ
  by_cases c1 : (v' : Int) % 2 = 1
  · rw [if_pos c1]
    have e1 : ¬ (v' : Int).tmod 2 = 0 := by rw [Int.tmod_eq_emod_of_nonneg v0]; omega
    go_enter Tryz.func145, Tryz.ntmps145
    go_wp2_with (first | (go_at_call 147; (with_reducible refine (P1.out _).mono ?_); rintro e w' ⟨rfl, rfl⟩) | (go_at_call 137; (with_reducible refine (P4.out _).mono ?_); rintro e w' ⟨rfl, rfl⟩))
    go_ret; exact ⟨rfl, rfl⟩
  rw [if_neg c1]
  have e1 : (v' : Int).tmod 2 = 0 := by rw [Int.tmod_eq_emod_of_nonneg v0]; omega
  by_cases c2 : 2 < p
  · rw [if_pos c2]
    have P5 := fun W => mdSymbol_c u p W hpr (by omega) hp2
    generalize M.symb u p = s at *
    have P5 := Lib.hid P5
    go_enter Tryz.func145, Tryz.ntmps145
    go_wp2_with (first | (go_at_call 147; (with_reducible refine (P1.out _).mono ?_); rintro e w' ⟨rfl, rfl⟩) | (go_at_call 137; (with_reducible refine (P4.out _).mono ?_); rintro e w' ⟨rfl, rfl⟩) | (go_at_call 152; (with_reducible refine (P5.out _).mono ?_); rintro e w' ⟨rfl, rfl⟩))
    go_ret; exact ⟨ret_b (by simp), rfl⟩
  rw [if_neg c2]
  obtain rfl : p = 2 := by omega
  have fin : ∀ (j : Nat) (m : Int), min (3 : Int) ((k : Int) - v') = j → M.ipow 2 j = m → 1 ≤ m → m ≤ 8 → ∀ w : World, Calls Tryz.prog 145 #[.int .i64 x, .int .i64 2, .int .i64 k] w fun e w' => e = .returned (.bool (u % m == 1)) ∧ w = w' := by
    intro j m hj hm m1 m8 w
    have P6 := fun W => l1Least_c 3 ((k : Int) - v') W
    rw [hj] at P6
    have P7 := fun W => loPowerB_c 2 j W (by omega) (by omega) (by omega)
    rw [hm] at P7
    have e2 : u.tmod m = u % m := Int.tmod_eq_emod_of_nonneg v5
    have P6 := Lib.hid P6
    have P7 := Lib.hid P7
    clear hj hm
    go_enter Tryz.func145, Tryz.ntmps145
    go_wp2_with (first | (go_at_call 147; (with_reducible refine (P1.out _).mono ?_); rintro e w' ⟨rfl, rfl⟩) | (go_at_call 137; (with_reducible refine (P4.out _).mono ?_); rintro e w' ⟨rfl, rfl⟩) | (go_at_call 146; (with_reducible refine (P6.out _).mono ?_); rintro e w' ⟨rfl, rfl⟩) | (go_at_call 137; (with_reducible refine (P7.out _).mono ?_); rintro e w' ⟨rfl, rfl⟩))
    go_ret; exact ⟨ret_b (by simp), rfl⟩
  by_cases c3 : (k : Int) - (v' : Int) = 1
  · rw [if_pos c3]
    refine (fin 1 2 (by omega) rfl (by omega) (by omega) w).mono ?_
    rintro e w' ⟨rfl, rfl⟩
    exact ⟨ret_b (by simp; omega), rfl⟩
  rw [if_neg c3]
  by_cases c4 : (k : Int) - (v' : Int) = 2
  · rw [if_pos c4]
    exact fin 2 4 (by omega) rfl (by omega) (by omega) w
  · rw [if_neg c4]
    exact fin 3 8 (by omega) rfl (by omega) (by omega) w
end Go.Proofs.YtmipenpeebmjkaaGreat
