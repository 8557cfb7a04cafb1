/-
  Contracts: primes, twist numbers and curves that are drawn.
-/
import Derived.Test.YtodgfechhielaaaGreatDoorJ2
import Derived.Test.YtodgfechhielaaaGreatDoorC2
import Derived.Deep.DeepCutAuto
namespace Go.Proofs.YtodgfechhielaaaGreatDoor
set_option linter.unusedSimpArgs false
set_option linter.unusedVariables false
open Go.RowKit

/-- a curve that is drawn -/
def CurvePost (w : World) (g B : Nat) (v : Value) (n K : Nat) (e : Ending) (w' : World) : Prop :=
  ∃ a b : Int, e = .returned (.agg #[.int .i64 a, .int .i64 b]) ∧ CurK w' g B v n K ∧ w.grownBy w' (some g)
set_option maxHeartbeats 4000000 in
theorem curve_c (g B : Nat) (v : Value) (n K : Nat) (w : World) (h : CurK w g B v n K) (hk : K ≤ 700000000) :
    Calls Tryz.prog 60 #[.pointer (some ⟨g, 0, none⟩)] w (CurvePost w g B v n (K + 40)) := by
  have st := (St.start h).alloc (.cells #[.int .i64 0, .int .i64 0] 24)
  have zr := Box.new w 0 0 24
  have nzr : w.heap.size ≠ g := by have := h.size; omega
  have hl := h.size
  have hB := st.lt
  clear h
  go_enter Tryz.func60, Tryz.ntmps60
  go_wp2_with fail
  refine (pick_c g B v n _ 41 _ st.cur (by omega) (by omega) (by omega)).mono ?_; rintro e w_x1 ⟨x1, rfl, ⟨x1_lo, x1_hi⟩, hc_, hg_⟩
  replace st := st.call hc_ hg_
  have sz_x1 := hg_.size
  replace zr := zr.keepG hg_ nzr
  clear hc_ hg_
  go_wp2_with fail
  refine (pick_c g B v n _ 2001 _ st.cur (by omega) (by omega) (by omega)).mono ?_; rintro e w_x2 ⟨x2, rfl, ⟨x2_lo, x2_hi⟩, hc_, hg_⟩
  replace st := st.call hc_ hg_
  have sz_x2 := hg_.size
  replace zr := zr.keepG hg_ nzr
  clear hc_ hg_
  go_wp2_with fail
  have st_ := st
  replace st := st.alloc (.cells #[.int .i64 (-16), .int .i64 (-1), .int .i64 0, .int .i64 1, .int .i64 (-2), .int .i64 (-7), .int .i64 (-25), .int .i64 4, .int .i64 (x1 - 20), .int .i64 (x2 - 1000)] 3)
  replace zr := zr.alloc (.cells #[.int .i64 (-16), .int .i64 (-1), .int .i64 0, .int .i64 1, .int .i64 (-2), .int .i64 (-7), .int .i64 (-25), .int .i64 4, .int .i64 (x1 - 20), .int .i64 (x2 - 1000)] 3)
  refine (among_c g B v n _ [-16, -1, 0, 1, -2, -7, -25, 4, x1 - 20, x2 - 1000] (w_x2).heap.size 10 _ st.cur (by omega) rfl (by omega) (by omega) (by have := st_.size; omega) (lit_cells _ _ _)).mono ?_; rintro e w_a ⟨a, rfl, -, hc_, hg_⟩
  replace st := st.call hc_ hg_
  have sz_a := hg_.size
  replace zr := zr.keepG hg_ nzr
  clear st_ hc_ hg_
  go_wp2_with fail
  refine (pick_c g B v n _ 41 _ st.cur (by omega) (by omega) (by omega)).mono ?_; rintro e w_x3 ⟨x3, rfl, ⟨x3_lo, x3_hi⟩, hc_, hg_⟩
  replace st := st.call hc_ hg_
  have sz_x3 := hg_.size
  replace zr := zr.keepG hg_ nzr
  clear hc_ hg_
  go_wp2_with fail
  refine (pick_c g B v n _ 20001 _ st.cur (by omega) (by omega) (by omega)).mono ?_; rintro e w_x4 ⟨x4, rfl, ⟨x4_lo, x4_hi⟩, hc_, hg_⟩
  replace st := st.call hc_ hg_
  have sz_x4 := hg_.size
  replace zr := zr.keepG hg_ nzr
  clear hc_ hg_
  go_wp2_with fail
  have st_ := st
  replace st := st.alloc (.cells #[.int .i64 16, .int .i64 0, .int .i64 0, .int .i64 1, .int .i64 (-1), .int .i64 10, .int .i64 36, .int .i64 (x3 - 20), .int .i64 (x4 - 10000)] 3)
  replace zr := zr.alloc (.cells #[.int .i64 16, .int .i64 0, .int .i64 0, .int .i64 1, .int .i64 (-1), .int .i64 10, .int .i64 36, .int .i64 (x3 - 20), .int .i64 (x4 - 10000)] 3)
  refine (among_c g B v n _ [16, 0, 0, 1, -1, 10, 36, x3 - 20, x4 - 10000] (w_x4).heap.size 9 _ st.cur (by omega) rfl (by omega) (by omega) (by have := st_.size; omega) (lit_cells _ _ _)).mono ?_; rintro e w_b ⟨b, rfl, -, hc_, hg_⟩
  replace st := st.call hc_ hg_
  have sz_b := hg_.size
  replace zr := zr.keepG hg_ nzr
  clear st_ hc_ hg_
  have se := st.size
  have sl := st.le
  have sr := zr.size
  replace st := st.alloc (.cells #[.int .i64 a, .int .i64 b] 24)
  replace zr := zr.alloc (.cells #[.int .i64 a, .int .i64 b] 24)
  have ex := Box.new w_b a b 24
  have nex : w_b.heap.size ≠ g := by omega
  have nrx : w.heap.size ≠ w_b.heap.size := by omega
  have nxr := nrx.symm
  go_wp2_with fail
  generalize hE : w_b.heap.size = E at *
  have hwE : w.heap.size ≤ E := by omega
  have hBE : B ≤ E := by omega
  clear hE
  refine (one_c g B v n _ 8 _ st.cur (by omega) (by omega) (by omega)).mono ?_; rintro e w_t1 ⟨t1, rfl, hc_, hg_⟩
  replace st := st.call hc_ hg_
  have sz_t1 := hg_.size
  replace zr := zr.keepG hg_ nzr
  replace ex := ex.keepG hg_ nex
  clear hc_ hg_
  cases t1
  case false =>
    go_wp2_with fail
    refine (one_c g B v n _ 16 _ st.cur (by omega) (by omega) (by omega)).mono ?_; rintro e w_t2 ⟨t2, rfl, hc_, hg_⟩
    replace st := st.call hc_ hg_
    have sz_t2 := hg_.size
    replace zr := zr.keepG hg_ nzr
    replace ex := ex.keepG hg_ nex
    clear hc_ hg_
    cases t2
    case false =>
      have q_ex0 := ex.c0
      have q_ex1 := ex.c1
      have q_exf := ex.f0
      have q_exg := ex.f1
      have q_exs := ex.size
      go_wp2_with fail
      have HG := fun w => ecGood_c a b w
      cases hg : M.good a b <;> simp only [hg] at HG <;> have HG := Lib.hid HG <;> clear hg
      all_goals
        refine (HG.out _).mono ?_; rintro e w9 ⟨rfl, hb9⟩
        replace st := st.keep hb9
        replace zr := zr.keep hb9
        clear q_ex0 q_ex1 q_exf q_exg q_exs
        replace ex := ex.keep hb9
        clear hb9
        have q_ex0 := ex.c0
        have q_ex1 := ex.c1
        have q_exf := ex.f0
        have q_exg := ex.f1
        have q_exs := ex.size
        have q_zr0 := zr.c0
        have q_zr1 := zr.c1
        have q_zrf := zr.f0
        have q_zrg := zr.f1
        have q_zrs := zr.size
        go_wp2
      · exact bodyPost_ret (v := .agg #[.int .i64 (-16), .int .i64 16]) (by simp [results, Tryz.results60, go_sem, *]) rfl (⟨-16, 16, rfl, (st.store (c := w.heap.size) (x := .int .i64 (-16)) (y := .int .i64 16) (Nat.le_refl _) (by omega) (by omega)).cur.mono (by omega), (st.store (c := w.heap.size) (x := .int .i64 (-16)) (y := .int .i64 16) (Nat.le_refl _) (by omega) (by omega)).gr⟩)
      · exact bodyPost_ret (v := .agg #[.int .i64 a, .int .i64 b]) (by simp [results, Tryz.results60, go_sem, *]) rfl (⟨a, b, rfl, (st.store (c := w.heap.size) (x := .int .i64 a) (y := .int .i64 b) (Nat.le_refl _) (by omega) (by omega)).cur.mono (by omega), (st.store (c := w.heap.size) (x := .int .i64 a) (y := .int .i64 b) (Nat.le_refl _) (by omega) (by omega)).gr⟩)
    case true =>
      go_wp2_with fail
      have st_ := st
      replace st := st.alloc (.cells #[.int .i64 (-1000), .int .i64 1000] 3)
      replace zr := zr.alloc (.cells #[.int .i64 (-1000), .int .i64 1000] 3)
      replace ex := ex.alloc (.cells #[.int .i64 (-1000), .int .i64 1000] 3)
      refine (among_c g B v n _ [-1000, 1000] (w_t2).heap.size 2 _ st.cur (by omega) rfl (by omega) (by omega) (by have := st_.size; omega) (lit_cells _ _ _)).mono ?_; rintro e w_y1 ⟨y1, rfl, -, hc_, hg_⟩
      replace st := st.call hc_ hg_
      have sz_y1 := hg_.size
      replace zr := zr.keepG hg_ nzr
      replace ex := ex.keepG hg_ nex
      clear st_ hc_ hg_
      go_wp2_with fail
      have st_ := st
      replace st := st.alloc (.cells #[.int .i64 (-10000), .int .i64 10000] 3)
      replace zr := zr.alloc (.cells #[.int .i64 (-10000), .int .i64 10000] 3)
      replace ex := ex.alloc (.cells #[.int .i64 (-10000), .int .i64 10000] 3)
      refine (among_c g B v n _ [-10000, 10000] (w_y1).heap.size 2 _ st.cur (by omega) rfl (by omega) (by omega) (by have := st_.size; omega) (lit_cells _ _ _)).mono ?_; rintro e w_y2 ⟨y2, rfl, -, hc_, hg_⟩
      replace st := st.call hc_ hg_
      have sz_y2 := hg_.size
      replace zr := zr.keepG hg_ nzr
      replace ex := ex.keepG hg_ nex
      clear st_ hc_ hg_
      have q_ex0 := ex.c0
      have q_ex1 := ex.c1
      have q_exf := ex.f0
      have q_exg := ex.f1
      have q_exs := ex.size
      have ex2 := ex.store y1 y2
      have zr2 := zr.other nrx (.int .i64 y1) (.int .i64 y2)
      have st2 := st.store (c := E) hwE (by omega) hBE (.int .i64 y1) (.int .i64 y2)
      go_upto_region 6 with fail
      clear q_ex0 q_ex1 q_exf q_exg q_exs
      clear ex zr st
      have ex := ex2
      have zr := zr2
      have st := st2
      clear ex2 zr2 st2
      generalize (w_y2.setCell ⟨E, 0, none⟩ (.int .i64 y1)).setCell ⟨E, 1, none⟩ (.int .i64 y2) = w8 at *
      have q_ex0 := ex.c0
      have q_ex1 := ex.c1
      have q_exf := ex.f0
      have q_exg := ex.f1
      have q_exs := ex.size
      go_wp2_with fail
      have HG := fun w => ecGood_c y1 y2 w
      cases hg : M.good y1 y2 <;> simp only [hg] at HG <;> have HG := Lib.hid HG <;> clear hg
      all_goals
        refine (HG.out _).mono ?_; rintro e w9 ⟨rfl, hb9⟩
        replace st := st.keep hb9
        replace zr := zr.keep hb9
        clear q_ex0 q_ex1 q_exf q_exg q_exs
        replace ex := ex.keep hb9
        clear hb9
        have q_ex0 := ex.c0
        have q_ex1 := ex.c1
        have q_exf := ex.f0
        have q_exg := ex.f1
        have q_exs := ex.size
        have q_zr0 := zr.c0
        have q_zr1 := zr.c1
        have q_zrf := zr.f0
        have q_zrg := zr.f1
        have q_zrs := zr.size
        go_wp2
      · exact bodyPost_ret (v := .agg #[.int .i64 (-16), .int .i64 16]) (by simp [results, Tryz.results60, go_sem, *]) rfl (⟨-16, 16, rfl, (st.store (c := w.heap.size) (x := .int .i64 (-16)) (y := .int .i64 16) (Nat.le_refl _) (by omega) (by omega)).cur.mono (by omega), (st.store (c := w.heap.size) (x := .int .i64 (-16)) (y := .int .i64 16) (Nat.le_refl _) (by omega) (by omega)).gr⟩)
      · exact bodyPost_ret (v := .agg #[.int .i64 y1, .int .i64 y2]) (by simp [results, Tryz.results60, go_sem, *]) rfl (⟨y1, y2, rfl, (st.store (c := w.heap.size) (x := .int .i64 y1) (y := .int .i64 y2) (Nat.le_refl _) (by omega) (by omega)).cur.mono (by omega), (st.store (c := w.heap.size) (x := .int .i64 y1) (y := .int .i64 y2) (Nat.le_refl _) (by omega) (by omega)).gr⟩)
  case true =>
    go_wp2_with fail
    refine (pick_c g B v n _ 21 _ st.cur (by omega) (by omega) (by omega)).mono ?_; rintro e w_u1 ⟨u1, rfl, ⟨u1_lo, u1_hi⟩, hc_, hg_⟩
    replace st := st.call hc_ hg_
    have sz_u1 := hg_.size
    replace zr := zr.keepG hg_ nzr
    replace ex := ex.keepG hg_ nex
    clear hc_ hg_
    go_wp2_with fail
    refine (pick_c g B v n _ 21 _ st.cur (by omega) (by omega) (by omega)).mono ?_; rintro e w_u2 ⟨u2, rfl, ⟨u2_lo, u2_hi⟩, hc_, hg_⟩
    replace st := st.call hc_ hg_
    have sz_u2 := hg_.size
    replace zr := zr.keepG hg_ nzr
    replace ex := ex.keepG hg_ nex
    clear hc_ hg_
    have q_ex0 := ex.c0
    have q_ex1 := ex.c1
    have q_exf := ex.f0
    have q_exg := ex.f1
    have q_exs := ex.size
    have ex2 := ex.store (16 * (u1 - 10)) (64 * (u2 - 10))
    have zr2 := zr.other nrx (.int .i64 (16 * (u1 - 10))) (.int .i64 (64 * (u2 - 10)))
    have st2 := st.store (c := E) hwE (by omega) hBE (.int .i64 (16 * (u1 - 10))) (.int .i64 (64 * (u2 - 10)))
    go_upto_region 4 with fail
    clear q_ex0 q_ex1 q_exf q_exg q_exs
    clear ex zr st
    have ex := ex2
    have zr := zr2
    have st := st2
    clear ex2 zr2 st2
    generalize (w_u2.setCell ⟨E, 0, none⟩ (.int .i64 (16 * (u1 - 10)))).setCell ⟨E, 1, none⟩ (.int .i64 (64 * (u2 - 10))) = w7 at *
    generalize 16 * (u1 - 10) = a2 at *
    generalize 64 * (u2 - 10) = b2 at *
    go_wp2_with fail
    refine (one_c g B v n _ 16 _ st.cur (by omega) (by omega) (by omega)).mono ?_; rintro e w_t2 ⟨t2, rfl, hc_, hg_⟩
    replace st := st.call hc_ hg_
    have sz_t2 := hg_.size
    replace zr := zr.keepG hg_ nzr
    replace ex := ex.keepG hg_ nex
    clear hc_ hg_
    cases t2
    case false =>
      have q_ex0 := ex.c0
      have q_ex1 := ex.c1
      have q_exf := ex.f0
      have q_exg := ex.f1
      have q_exs := ex.size
      go_wp2_with fail
      have HG := fun w => ecGood_c a2 b2 w
      cases hg : M.good a2 b2 <;> simp only [hg] at HG <;> have HG := Lib.hid HG <;> clear hg
      all_goals
        refine (HG.out _).mono ?_; rintro e w9 ⟨rfl, hb9⟩
        replace st := st.keep hb9
        replace zr := zr.keep hb9
        clear q_ex0 q_ex1 q_exf q_exg q_exs
        replace ex := ex.keep hb9
        clear hb9
        have q_ex0 := ex.c0
        have q_ex1 := ex.c1
        have q_exf := ex.f0
        have q_exg := ex.f1
        have q_exs := ex.size
        have q_zr0 := zr.c0
        have q_zr1 := zr.c1
        have q_zrf := zr.f0
        have q_zrg := zr.f1
        have q_zrs := zr.size
        go_wp2
      · exact bodyPost_ret (v := .agg #[.int .i64 (-16), .int .i64 16]) (by simp [results, Tryz.results60, go_sem, *]) rfl (⟨-16, 16, rfl, (st.store (c := w.heap.size) (x := .int .i64 (-16)) (y := .int .i64 16) (Nat.le_refl _) (by omega) (by omega)).cur.mono (by omega), (st.store (c := w.heap.size) (x := .int .i64 (-16)) (y := .int .i64 16) (Nat.le_refl _) (by omega) (by omega)).gr⟩)
      · exact bodyPost_ret (v := .agg #[.int .i64 a2, .int .i64 b2]) (by simp [results, Tryz.results60, go_sem, *]) rfl (⟨a2, b2, rfl, (st.store (c := w.heap.size) (x := .int .i64 a2) (y := .int .i64 b2) (Nat.le_refl _) (by omega) (by omega)).cur.mono (by omega), (st.store (c := w.heap.size) (x := .int .i64 a2) (y := .int .i64 b2) (Nat.le_refl _) (by omega) (by omega)).gr⟩)
    case true =>
      go_wp2_with fail
      have st_ := st
      replace st := st.alloc (.cells #[.int .i64 (-1000), .int .i64 1000] 3)
      replace zr := zr.alloc (.cells #[.int .i64 (-1000), .int .i64 1000] 3)
      replace ex := ex.alloc (.cells #[.int .i64 (-1000), .int .i64 1000] 3)
      refine (among_c g B v n _ [-1000, 1000] (w_t2).heap.size 2 _ st.cur (by omega) rfl (by omega) (by omega) (by have := st_.size; omega) (lit_cells _ _ _)).mono ?_; rintro e w_y1 ⟨y1, rfl, -, hc_, hg_⟩
      replace st := st.call hc_ hg_
      have sz_y1 := hg_.size
      replace zr := zr.keepG hg_ nzr
      replace ex := ex.keepG hg_ nex
      clear st_ hc_ hg_
      go_wp2_with fail
      have st_ := st
      replace st := st.alloc (.cells #[.int .i64 (-10000), .int .i64 10000] 3)
      replace zr := zr.alloc (.cells #[.int .i64 (-10000), .int .i64 10000] 3)
      replace ex := ex.alloc (.cells #[.int .i64 (-10000), .int .i64 10000] 3)
      refine (among_c g B v n _ [-10000, 10000] (w_y1).heap.size 2 _ st.cur (by omega) rfl (by omega) (by omega) (by have := st_.size; omega) (lit_cells _ _ _)).mono ?_; rintro e w_y2 ⟨y2, rfl, -, hc_, hg_⟩
      replace st := st.call hc_ hg_
      have sz_y2 := hg_.size
      replace zr := zr.keepG hg_ nzr
      replace ex := ex.keepG hg_ nex
      clear st_ hc_ hg_
      have q_ex0 := ex.c0
      have q_ex1 := ex.c1
      have q_exf := ex.f0
      have q_exg := ex.f1
      have q_exs := ex.size
      have ex2 := ex.store y1 y2
      have zr2 := zr.other nrx (.int .i64 y1) (.int .i64 y2)
      have st2 := st.store (c := E) hwE (by omega) hBE (.int .i64 y1) (.int .i64 y2)
      go_upto_region 6 with fail
      clear q_ex0 q_ex1 q_exf q_exg q_exs
      clear ex zr st
      have ex := ex2
      have zr := zr2
      have st := st2
      clear ex2 zr2 st2
      generalize (w_y2.setCell ⟨E, 0, none⟩ (.int .i64 y1)).setCell ⟨E, 1, none⟩ (.int .i64 y2) = w8 at *
      have q_ex0 := ex.c0
      have q_ex1 := ex.c1
      have q_exf := ex.f0
      have q_exg := ex.f1
      have q_exs := ex.size
      go_wp2_with fail
      have HG := fun w => ecGood_c y1 y2 w
      cases hg : M.good y1 y2 <;> simp only [hg] at HG <;> have HG := Lib.hid HG <;> clear hg
      all_goals
        refine (HG.out _).mono ?_; rintro e w9 ⟨rfl, hb9⟩
        replace st := st.keep hb9
        replace zr := zr.keep hb9
        clear q_ex0 q_ex1 q_exf q_exg q_exs
        replace ex := ex.keep hb9
        clear hb9
        have q_ex0 := ex.c0
        have q_ex1 := ex.c1
        have q_exf := ex.f0
        have q_exg := ex.f1
        have q_exs := ex.size
        have q_zr0 := zr.c0
        have q_zr1 := zr.c1
        have q_zrf := zr.f0
        have q_zrg := zr.f1
        have q_zrs := zr.size
        go_wp2
      · exact bodyPost_ret (v := .agg #[.int .i64 (-16), .int .i64 16]) (by simp [results, Tryz.results60, go_sem, *]) rfl (⟨-16, 16, rfl, (st.store (c := w.heap.size) (x := .int .i64 (-16)) (y := .int .i64 16) (Nat.le_refl _) (by omega) (by omega)).cur.mono (by omega), (st.store (c := w.heap.size) (x := .int .i64 (-16)) (y := .int .i64 16) (Nat.le_refl _) (by omega) (by omega)).gr⟩)
      · exact bodyPost_ret (v := .agg #[.int .i64 y1, .int .i64 y2]) (by simp [results, Tryz.results60, go_sem, *]) rfl (⟨y1, y2, rfl, (st.store (c := w.heap.size) (x := .int .i64 y1) (y := .int .i64 y2) (Nat.le_refl _) (by omega) (by omega)).cur.mono (by omega), (st.store (c := w.heap.size) (x := .int .i64 y1) (y := .int .i64 y2) (Nat.le_refl _) (by omega) (by omega)).gr⟩)
end Go.Proofs.YtodgfechhielaaaGreatDoor
