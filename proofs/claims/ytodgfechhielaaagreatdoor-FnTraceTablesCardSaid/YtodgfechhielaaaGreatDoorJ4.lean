/-
  Contracts: curves that are drawn, some that are not valid.
-/
import Derived.Test.YtodgfechhielaaaGreatDoorJ3
import Derived.Deep.DeepCutAuto
namespace Go.Proofs.YtodgfechhielaaaGreatDoor
set_option linter.unusedSimpArgs false
set_option linter.unusedVariables false
open Go.RowKit

theorem Box.store0 {w : World} {b : Nat} {m n : Int} (h : Box w b m n) (x : Int) : Box (w.setCell ⟨b, 0, none⟩ (.int .i64 x)) b x n := by
  obtain ⟨h1, h2, h3, h4, h5⟩ := h
  exact ⟨by simp [go_sem, *], by simp [go_sem, *], by simp [go_sem, *], by simp [go_sem, *], by simp [go_sem, *]⟩
theorem Box.store1 {w : World} {b : Nat} {m n : Int} (h : Box w b m n) (x : Int) : Box (w.setCell ⟨b, 1, none⟩ (.int .i64 x)) b m x := by
  obtain ⟨h1, h2, h3, h4, h5⟩ := h
  exact ⟨by simp [go_sem, *], by simp [go_sem, *], by simp [go_sem, *], by simp [go_sem, *], by simp [go_sem, *]⟩
theorem Box.otherI {w : World} {b c o : Nat} {m n : Int} (h : Box w b m n) (hn : b ≠ c) (x : Value) : Box (w.setCell ⟨c, o, none⟩ x) b m n := h.keepG (Gr.set (grown_rf w (some c)) o x) hn
theorem St.storeI {w W : World} {g B n K c o : Nat} {v : Value} (h : St w W g B v n K) (hc : w.heap.size ≤ c) (hg : g ≠ c) (hB : B ≤ c) (x : Value) : St w (W.setCell ⟨c, o, none⟩ x) g B v n K :=
  ⟨h.cur.keepR (Gr.set (grown_rf W (some c)) o x) hg hB, Gr.setNew h.gr hc _, h.lt⟩

set_option maxHeartbeats 4000000 in
theorem anyCurve_c (g B : Nat) (v : Value) (n K : Nat) (w : World) (h : CurK w g B v n K) (hk : K ≤ 600000000) :
    Calls Tryz.prog 27 #[.pointer (some ⟨g, 0, none⟩)] w (CurvePost w g B v n (K + 50)) := by
  have st := (St.start h).alloc (.cells #[.int .i64 0, .int .i64 0] 24)
  have zr := Box.new w 0 0 24
  have nzr : w.heap.size ≠ g := by have := h.size; omega
  have hl := h.size
  have hB := st.lt
  clear h
  go_enter Tryz.func27, Tryz.ntmps27
  go_wp2_with fail
  refine (curve_c g B v n _ _ st.cur (by omega)).mono ?_; rintro e w_c ⟨a, b, rfl, hc_, hg_⟩
  replace st := st.call hc_ hg_
  have sz_c := hg_.size
  replace zr := zr.keepG hg_ nzr
  clear hc_ hg_
  have se := st.size
  have sl := st.le
  have sr := zr.size
  replace st := st.alloc (.cells #[.int .i64 a, .int .i64 b] 24)
  replace zr := zr.alloc (.cells #[.int .i64 a, .int .i64 b] 24)
  have ex := Box.new w_c a b 24
  have nex : w_c.heap.size ≠ g := by omega
  have nrx : w.heap.size ≠ w_c.heap.size := by omega
  have nxr := nrx.symm
  go_wp2_with fail
  generalize hE : w_c.heap.size = E at *
  have hwE : w.heap.size ≤ E := by omega
  have hBE : B ≤ E := by omega
  clear hE
  refine (pick_c g B v n _ 30 _ st.cur (by omega) (by omega) (by omega)).mono ?_; rintro e w_x ⟨x, rfl, ⟨x_lo, x_hi⟩, hc_, hg_⟩
  replace st := st.call hc_ hg_
  have sz_x := hg_.size
  replace zr := zr.keepG hg_ nzr
  replace ex := ex.keepG hg_ nex
  clear hc_ hg_
  by_cases x0 : x = 0
  · subst x0
    go_wp2_with fail
    have st_ := st
    replace st := st.alloc (.cells #[.int .i64 (-1001), .int .i64 (-1000), .int .i64 1000, .int .i64 1001, .int .i64 (-9223372036854775808)] 3)
    replace zr := zr.alloc (.cells #[.int .i64 (-1001), .int .i64 (-1000), .int .i64 1000, .int .i64 1001, .int .i64 (-9223372036854775808)] 3)
    replace ex := ex.alloc (.cells #[.int .i64 (-1001), .int .i64 (-1000), .int .i64 1000, .int .i64 1001, .int .i64 (-9223372036854775808)] 3)
    refine (among_c g B v n _ [-1001, -1000, 1000, 1001, -9223372036854775808] (w_x).heap.size 5 _ st.cur (by omega) rfl (by omega) (by omega) (by have := st_.size; omega) (lit_cells _ _ _)).mono ?_; rintro e w_y ⟨y, rfl, -, hc_, hg_⟩
    replace st := st.call hc_ hg_
    have sz_y := hg_.size
    replace zr := zr.keepG hg_ nzr
    replace ex := ex.keepG hg_ nex
    clear st_ hc_ hg_
    have ex2 := ex.store0 y
    have zr2 := zr.otherI (o := 0) nrx (.int .i64 y)
    have st2 := st.storeI (c := E) (o := 0) hwE (by omega) hBE (.int .i64 y)
    have q_ex0 := ex.c0
    have q_ex1 := ex.c1
    have q_exf := ex.f0
    have q_exg := ex.f1
    have q_exs := ex.size
    go_upto_region 9 with fail
    clear q_ex0 q_ex1 q_exf q_exg q_exs
    clear ex zr st
    have ex := ex2
    have zr := zr2
    have st := st2
    clear ex2 zr2 st2
    generalize w_y.setCell ⟨E, 0, none⟩ (.int .i64 y) = w8 at *
    have q_ex0 := ex.c0
    have q_ex1 := ex.c1
    have q_exf := ex.f0
    have q_exg := ex.f1
    have q_exs := ex.size
    have q_zr0 := zr.c0
    have q_zr1 := zr.c1
    have q_zrf := zr.f0
    have q_zrg := zr.f1
    have q_zrs := zr.size
    go_wp2
    exact bodyPost_ret (v := .agg #[.int .i64 y, .int .i64 b]) (by simp [results, Tryz.results27, go_sem, *]) rfl (⟨y, b, rfl, (st.store (c := w.heap.size) (x := .int .i64 y) (y := .int .i64 b) (Nat.le_refl _) (by omega) (by omega)).cur.mono (by omega), (st.store (c := w.heap.size) (x := .int .i64 y) (y := .int .i64 b) (Nat.le_refl _) (by omega) (by omega)).gr⟩)
  · by_cases x1 : x = 1
    · subst x1
      go_wp2_with fail
      have st_ := st
      replace st := st.alloc (.cells #[.int .i64 (-10001), .int .i64 (-10000), .int .i64 10000, .int .i64 10001, .int .i64 9223372036854775807] 3)
      replace zr := zr.alloc (.cells #[.int .i64 (-10001), .int .i64 (-10000), .int .i64 10000, .int .i64 10001, .int .i64 9223372036854775807] 3)
      replace ex := ex.alloc (.cells #[.int .i64 (-10001), .int .i64 (-10000), .int .i64 10000, .int .i64 10001, .int .i64 9223372036854775807] 3)
      refine (among_c g B v n _ [-10001, -10000, 10000, 10001, 9223372036854775807] (w_x).heap.size 5 _ st.cur (by omega) rfl (by omega) (by omega) (by have := st_.size; omega) (lit_cells _ _ _)).mono ?_; rintro e w_y ⟨y, rfl, -, hc_, hg_⟩
      replace st := st.call hc_ hg_
      have sz_y := hg_.size
      replace zr := zr.keepG hg_ nzr
      replace ex := ex.keepG hg_ nex
      clear st_ hc_ hg_
      have ex2 := ex.store1 y
      have zr2 := zr.otherI (o := 1) nrx (.int .i64 y)
      have st2 := st.storeI (c := E) (o := 1) hwE (by omega) hBE (.int .i64 y)
      have q_ex0 := ex.c0
      have q_ex1 := ex.c1
      have q_exf := ex.f0
      have q_exg := ex.f1
      have q_exs := ex.size
      go_upto_region 9 with fail
      clear q_ex0 q_ex1 q_exf q_exg q_exs
      clear ex zr st
      have ex := ex2
      have zr := zr2
      have st := st2
      clear ex2 zr2 st2
      generalize w_y.setCell ⟨E, 1, none⟩ (.int .i64 y) = w8 at *
      have q_ex0 := ex.c0
      have q_ex1 := ex.c1
      have q_exf := ex.f0
      have q_exg := ex.f1
      have q_exs := ex.size
      have q_zr0 := zr.c0
      have q_zr1 := zr.c1
      have q_zrf := zr.f0
      have q_zrg := zr.f1
      have q_zrs := zr.size
      go_wp2
      exact bodyPost_ret (v := .agg #[.int .i64 a, .int .i64 y]) (by simp [results, Tryz.results27, go_sem, *]) rfl (⟨a, y, rfl, (st.store (c := w.heap.size) (x := .int .i64 a) (y := .int .i64 y) (Nat.le_refl _) (by omega) (by omega)).cur.mono (by omega), (st.store (c := w.heap.size) (x := .int .i64 a) (y := .int .i64 y) (Nat.le_refl _) (by omega) (by omega)).gr⟩)
    · by_cases x2 : x = 2
      · subst x2
        go_wp2_with fail
        have st_ := st
        replace st := st.alloc (.cells #[.int .i64 0, .int .i64 (-3), .int .i64 (-12)] 3)
        replace zr := zr.alloc (.cells #[.int .i64 0, .int .i64 (-3), .int .i64 (-12)] 3)
        replace ex := ex.alloc (.cells #[.int .i64 0, .int .i64 (-3), .int .i64 (-12)] 3)
        refine (among_c g B v n _ [0, -3, -12] (w_x).heap.size 3 _ st.cur (by omega) rfl (by omega) (by omega) (by have := st_.size; omega) (lit_cells _ _ _)).mono ?_; rintro e w_y ⟨y, rfl, -, hc_, hg_⟩
        replace st := st.call hc_ hg_
        have sz_y := hg_.size
        replace zr := zr.keepG hg_ nzr
        replace ex := ex.keepG hg_ nex
        clear st_ hc_ hg_
        go_wp2_with fail
        have st_ := st
        replace st := st.alloc (.cells #[.int .i64 0, .int .i64 2, .int .i64 16] 3)
        replace zr := zr.alloc (.cells #[.int .i64 0, .int .i64 2, .int .i64 16] 3)
        replace ex := ex.alloc (.cells #[.int .i64 0, .int .i64 2, .int .i64 16] 3)
        refine (among_c g B v n _ [0, 2, 16] (w_y).heap.size 3 _ st.cur (by omega) rfl (by omega) (by omega) (by have := st_.size; omega) (lit_cells _ _ _)).mono ?_; rintro e w_z ⟨z, rfl, -, hc_, hg_⟩
        replace st := st.call hc_ hg_
        have sz_z := hg_.size
        replace zr := zr.keepG hg_ nzr
        replace ex := ex.keepG hg_ nex
        clear st_ hc_ hg_
        have ex2 := ex.store y z
        have zr2 := zr.other nrx (.int .i64 y) (.int .i64 z)
        have st2 := st.store (c := E) hwE (by omega) hBE (.int .i64 y) (.int .i64 z)
        have q_ex0 := ex.c0
        have q_ex1 := ex.c1
        have q_exf := ex.f0
        have q_exg := ex.f1
        have q_exs := ex.size
        go_upto_region 9 with fail
        clear q_ex0 q_ex1 q_exf q_exg q_exs
        clear ex zr st
        have ex := ex2
        have zr := zr2
        have st := st2
        clear ex2 zr2 st2
        generalize (w_z.setCell ⟨E, 0, none⟩ (.int .i64 y)).setCell ⟨E, 1, none⟩ (.int .i64 z) = w8 at *
        have q_ex0 := ex.c0
        have q_ex1 := ex.c1
        have q_exf := ex.f0
        have q_exg := ex.f1
        have q_exs := ex.size
        have q_zr0 := zr.c0
        have q_zr1 := zr.c1
        have q_zrf := zr.f0
        have q_zrg := zr.f1
        have q_zrs := zr.size
        go_wp2
        exact bodyPost_ret (v := .agg #[.int .i64 y, .int .i64 z]) (by simp [results, Tryz.results27, go_sem, *]) rfl (⟨y, z, rfl, (st.store (c := w.heap.size) (x := .int .i64 y) (y := .int .i64 z) (Nat.le_refl _) (by omega) (by omega)).cur.mono (by omega), (st.store (c := w.heap.size) (x := .int .i64 y) (y := .int .i64 z) (Nat.le_refl _) (by omega) (by omega)).gr⟩)
      · have b0 : (x == 0) = false := by simpa using x0
        have b1 : (x == 1) = false := by simpa using x1
        have b2 : (x == 2) = false := by simpa using x2
        have q_ex0 := ex.c0
        have q_ex1 := ex.c1
        have q_exf := ex.f0
        have q_exg := ex.f1
        have q_exs := ex.size
        have q_zr0 := zr.c0
        have q_zr1 := zr.c1
        have q_zrf := zr.f0
        have q_zrg := zr.f1
        have q_zrs := zr.size
        go_wp2
        exact bodyPost_ret (v := .agg #[.int .i64 a, .int .i64 b]) (by simp [results, Tryz.results27, go_sem, *]) rfl (⟨a, b, rfl, (st.store (c := w.heap.size) (x := .int .i64 a) (y := .int .i64 b) (Nat.le_refl _) (by omega) (by omega)).cur.mono (by omega), (st.store (c := w.heap.size) (x := .int .i64 a) (y := .int .i64 b) (Nat.le_refl _) (by omega) (by omega)).gr⟩)
end Go.Proofs.YtodgfechhielaaaGreatDoor
