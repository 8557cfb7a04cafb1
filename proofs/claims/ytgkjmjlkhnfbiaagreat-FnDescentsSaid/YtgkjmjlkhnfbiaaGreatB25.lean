/-
  Contracts: two-curves that are drawn (printed by genr62.py).
-/
import Derived.Test.YtgkjmjlkhnfbiaaGreatB2
import Derived.Test.YtgkjmjlkhnfbiaaGreatB22
import Derived.Test.YtgkjmjlkhnfbiaaGreatB24
import Derived.Deep.DeepCutAuto
namespace Go.Proofs.YtgkjmjlkhnfbiaaGreat
set_option linter.unusedSimpArgs false
set_option linter.unusedVariables false
open Go.RowKit
theorem Box.store0 {w : World} {b : Nat} {m n : Int} (h : Box w b m n) (x : Int) : Box (w.setCell ⟨b, 0, none⟩ (.int .i64 x)) b x n := by
  obtain ⟨h1, h2, h3, h4, h5⟩ := h
  exact ⟨by simp [go_sem, *], by simp [go_sem, *], by simp [go_sem, *], by simp [go_sem, *], by simp [go_sem, *]⟩
theorem Box.store1 {w : World} {b : Nat} {m n : Int} (h : Box w b m n) (x : Int) : Box (w.setCell ⟨b, 1, none⟩ (.int .i64 x)) b m x := by
  obtain ⟨h1, h2, h3, h4, h5⟩ := h
  exact ⟨by simp [go_sem, *], by simp [go_sem, *], by simp [go_sem, *], by simp [go_sem, *], by simp [go_sem, *]⟩
theorem Box.otherI {w : World} {b c o : Nat} {m n : Int} (h : Box w b m n) (hn : b ≠ c) (x : Value) : Box (w.setCell ⟨c, o, none⟩ x) b m n := h.keepG (Gr.set (grown_rf w (some c)) o x) hn
theorem St.storeI {w W : World} {g B n K c o : Nat} {v : Value} (h : St w W g B v n K) (hc : w.heap.size ≤ c) (hg : g ≠ c) (hB : B ≤ c) (x : Value) : St w (W.setCell ⟨c, o, none⟩ x) g B v n K :=
  ⟨h.cur.keepR (Gr.set (grown_rf W (some c)) o x) hg hB, Gr.setNew h.gr hc _, h.lt⟩
/-- a two-curve that is drawn -/
def TcPost (w : World) (g B : Nat) (v : Value) (n K : Nat) (e : Ending) (w' : World) : Prop :=
  ∃ a b : Int, e = .returned (.agg #[.int .i64 a, .int .i64 b]) ∧ Hid (M.tc a b → M.Dr a b) ∧ CurK w' g B v n K ∧ w.grownBy w' (some g)
def TcbPost (w : World) (g B : Nat) (v : Value) (n K : Nat) (e : Ending) (w' : World) : Prop :=
  ∃ (a b : Int) (q : Bool), e = .returned (.tuple #[.agg #[.int .i64 a, .int .i64 b], .bool q]) ∧ Hid (M.tc a b → M.Dr a b) ∧ CurK w' g B v n K ∧ w.grownBy w' (some g)
theorem M.Dr_lo {a b : Int} (h1 : -20 ≤ a) (h2 : a ≤ 20) (h3 : -36 ≤ b) (h4 : b ≤ 30) : M.Dr a b := Or.inl ⟨h1, h2, h3, h4⟩

set_option maxHeartbeats 4000000 in
theorem twoCurve_c (g B : Nat) (v : Value) (n K : Nat) (w : World) (h : CurK w g B v n K) (hk : K ≤ 700000000) :
    Calls Tryz.prog 145 #[.pointer (some ⟨g, 0, none⟩)] w (TcPost w g B v n (K + 20)) := by
  have st := (St.start h).alloc (.cells #[.int .i64 0, .int .i64 0] 25)
  have zr := Box.new w 0 0 25
  have nzr : w.heap.size ≠ g := by have := h.size; omega
  have hl := h.size
  have hB := st.lt
  clear h
  go_enter Tryz.func145, Tryz.ntmps145
  go_wp2_with fail
  refine (pick_c g B v n _ 41 _ st.cur (by omega) (by omega) (by omega)).mono ?_; rintro e w_x1 ⟨x1, rfl, ⟨x1_lo, x1_hi⟩, hc_, hg_⟩
  replace st := st.call hc_ hg_
  have sz_x1 := hg_.size
  replace zr := zr.keepG hg_ nzr
  clear hc_ hg_
  go_wp2_with fail
  have st_ := st
  replace st := st.alloc (.cells #[.int .i64 0, .int .i64 0, .int .i64 3, .int .i64 (-6), .int .i64 1, .int .i64 5, .int .i64 (x1 - 20)] 3)
  replace zr := zr.alloc (.cells #[.int .i64 0, .int .i64 0, .int .i64 3, .int .i64 (-6), .int .i64 1, .int .i64 5, .int .i64 (x1 - 20)] 3)
  refine (among_c g B v n _ [0, 0, 3, -6, 1, 5, x1 - 20] (w_x1).heap.size 7 _ st.cur (by omega) rfl (by omega) (by omega) (by have := st_.size; omega) (lit_cells _ _ _)).mono ?_; rintro e w_a ⟨a, rfl, h_a, hc_, hg_⟩
  replace st := st.call hc_ hg_
  have sz_a := hg_.size
  replace zr := zr.keepG hg_ nzr
  clear st_ hc_ hg_
  simp only [List.mem_cons, List.not_mem_nil, or_false] at h_a
  replace h_a := Lib.hid h_a
  go_wp2_with fail
  refine (pick_c g B v n _ 61 _ st.cur (by omega) (by omega) (by omega)).mono ?_; rintro e w_x2 ⟨x2, rfl, ⟨x2_lo, x2_hi⟩, hc_, hg_⟩
  replace st := st.call hc_ hg_
  have sz_x2 := hg_.size
  replace zr := zr.keepG hg_ nzr
  clear hc_ hg_
  go_wp2_with fail
  have st_ := st
  replace st := st.alloc (.cells #[.int .i64 (-25), .int .i64 (-1), .int .i64 4, .int .i64 17, .int .i64 (-36), .int .i64 5, .int .i64 (x2 - 30)] 3)
  replace zr := zr.alloc (.cells #[.int .i64 (-25), .int .i64 (-1), .int .i64 4, .int .i64 17, .int .i64 (-36), .int .i64 5, .int .i64 (x2 - 30)] 3)
  refine (among_c g B v n _ [-25, -1, 4, 17, -36, 5, x2 - 30] (w_x2).heap.size 7 _ st.cur (by omega) rfl (by omega) (by omega) (by have := st_.size; omega) (lit_cells _ _ _)).mono ?_; rintro e w_b ⟨b, rfl, h_b, hc_, hg_⟩
  replace st := st.call hc_ hg_
  have sz_b := hg_.size
  replace zr := zr.keepG hg_ nzr
  clear st_ hc_ hg_
  simp only [List.mem_cons, List.not_mem_nil, or_false] at h_b
  replace h_b := Lib.hid h_b
  have se := st.size
  have sl := st.le
  have sr := zr.size
  replace st := st.alloc (.cells #[.int .i64 a, .int .i64 b] 25)
  replace zr := zr.alloc (.cells #[.int .i64 a, .int .i64 b] 25)
  have ex := Box.new w_b a b 25
  have nex : w_b.heap.size ≠ g := by omega
  have nrx : w.heap.size ≠ w_b.heap.size := by omega
  have nxr := nrx.symm
  go_wp2_with fail
  generalize hE : w_b.heap.size = E at *
  have hwE : w.heap.size ≤ E := by omega
  have hBE : B ≤ E := by omega
  clear hE
  refine (one_c g B v n _ 12 _ st.cur (by omega) (by omega) (by omega)).mono ?_; rintro e w_t1 ⟨t1, rfl, hc_, hg_⟩
  replace st := st.call hc_ hg_
  have sz_t1 := hg_.size
  replace zr := zr.keepG hg_ nzr
  replace ex := ex.keepG hg_ nex
  clear hc_ hg_
  cases t1
  case false =>
    have q_ex0 := ex.c0
    have q_ex1 := ex.c1
    have q_exf := ex.f0
    have q_exg := ex.f1
    have q_exs := ex.size
    have DR := Lib.hid (Lib.hid (fun (_ : M.tc a b) => M.Dr_lo (a := a) (b := b) (by have := h_a.out; omega) (by have := h_a.out; omega) (by have := h_b.out; omega) (by have := h_b.out; omega)))
    go_wp2_with fail
    have HG := fun w => tcGood_c a b w
    cases hg : M.tcb a b <;> simp only [hg] at HG <;> have HG := Lib.hid HG <;> clear hg
    all_goals
      refine (HG.out _).mono ?_; rintro e w9 ⟨rfl, hb9⟩
      replace st := st.keep hb9
      replace zr := zr.keep hb9
      clear q_ex0 q_ex1 q_exf q_exg q_exs
      replace ex := ex.keep hb9
      clear hb9
      have q_ex0 := ex.c0
      have q_ex1 := ex.c1
      have q_exf := ex.f0
      have q_exg := ex.f1
      have q_exs := ex.size
      have q_zr0 := zr.c0
      have q_zr1 := zr.c1
      have q_zrf := zr.f0
      have q_zrg := zr.f1
      have q_zrs := zr.size
      go_wp2
    · skip
      exact bodyPost_ret (v := .agg #[.int .i64 0, .int .i64 (-25)]) (by simp [results, Tryz.results145, go_sem, *]) rfl (⟨0, (-25), rfl, Lib.hid (fun _ => M.Dr_lo (by omega) (by omega) (by omega) (by omega)), (st.store (c := w.heap.size) (x := .int .i64 0) (y := .int .i64 (-25)) (Nat.le_refl _) (by omega) (by omega)).cur.mono (by omega), (st.store (c := w.heap.size) (x := .int .i64 0) (y := .int .i64 (-25)) (Nat.le_refl _) (by omega) (by omega)).gr⟩)
    · skip
      exact bodyPost_ret (v := .agg #[.int .i64 a, .int .i64 b]) (by simp [results, Tryz.results145, go_sem, *]) rfl (⟨a, b, rfl, DR.out, (st.store (c := w.heap.size) (x := .int .i64 a) (y := .int .i64 b) (Nat.le_refl _) (by omega) (by omega)).cur.mono (by omega), (st.store (c := w.heap.size) (x := .int .i64 a) (y := .int .i64 b) (Nat.le_refl _) (by omega) (by omega)).gr⟩)
  case true =>
    go_wp2_with fail
    have st_ := st
    replace st := st.alloc (.cells #[.int .i64 300, .int .i64 (-300), .int .i64 7] 3)
    replace zr := zr.alloc (.cells #[.int .i64 300, .int .i64 (-300), .int .i64 7] 3)
    replace ex := ex.alloc (.cells #[.int .i64 300, .int .i64 (-300), .int .i64 7] 3)
    refine (among_c g B v n _ [300, -300, 7] (w_t1).heap.size 3 _ st.cur (by omega) rfl (by omega) (by omega) (by have := st_.size; omega) (lit_cells _ _ _)).mono ?_; rintro e w_y1 ⟨y1, rfl, h_y1, hc_, hg_⟩
    replace st := st.call hc_ hg_
    have sz_y1 := hg_.size
    replace zr := zr.keepG hg_ nzr
    replace ex := ex.keepG hg_ nex
    clear st_ hc_ hg_
    simp only [List.mem_cons, List.not_mem_nil, or_false] at h_y1
    replace h_y1 := Lib.hid h_y1
    go_wp2_with fail
    have st_ := st
    replace st := st.alloc (.cells #[.int .i64 300, .int .i64 (-300), .int .i64 1] 3)
    replace zr := zr.alloc (.cells #[.int .i64 300, .int .i64 (-300), .int .i64 1] 3)
    replace ex := ex.alloc (.cells #[.int .i64 300, .int .i64 (-300), .int .i64 1] 3)
    refine (among_c g B v n _ [300, -300, 1] (w_y1).heap.size 3 _ st.cur (by omega) rfl (by omega) (by omega) (by have := st_.size; omega) (lit_cells _ _ _)).mono ?_; rintro e w_y2 ⟨y2, rfl, h_y2, hc_, hg_⟩
    replace st := st.call hc_ hg_
    have sz_y2 := hg_.size
    replace zr := zr.keepG hg_ nzr
    replace ex := ex.keepG hg_ nex
    clear st_ hc_ hg_
    simp only [List.mem_cons, List.not_mem_nil, or_false] at h_y2
    replace h_y2 := Lib.hid h_y2
    have q_ex0 := ex.c0
    have q_ex1 := ex.c1
    have q_exf := ex.f0
    have q_exg := ex.f1
    have q_exs := ex.size
    have ex2 := ex.store y1 y2
    have zr2 := zr.other nrx (.int .i64 y1) (.int .i64 y2)
    have st2 := st.store (c := E) hwE (by omega) hBE (.int .i64 y1) (.int .i64 y2)
    go_upto_region 4 with fail
    clear q_ex0 q_ex1 q_exf q_exg q_exs
    clear ex zr st
    have ex := ex2
    have zr := zr2
    have st := st2
    clear ex2 zr2 st2
    generalize (w_y2.setCell ⟨E, 0, none⟩ (.int .i64 y1)).setCell ⟨E, 1, none⟩ (.int .i64 y2) = w8 at *
    have q_ex0 := ex.c0
    have q_ex1 := ex.c1
    have q_exf := ex.f0
    have q_exg := ex.f1
    have q_exs := ex.size
    have DR := Lib.hid (Lib.hid (fun (_ : M.tc y1 y2) => (show M.Dr y1 y2 from Or.inr (Or.inr (Or.inr ⟨h_y1.out, h_y2.out⟩)))))
    go_wp2_with fail
    have HG := fun w => tcGood_c y1 y2 w
    cases hg : M.tcb y1 y2 <;> simp only [hg] at HG <;> have HG := Lib.hid HG <;> clear hg
    all_goals
      refine (HG.out _).mono ?_; rintro e w9 ⟨rfl, hb9⟩
      replace st := st.keep hb9
      replace zr := zr.keep hb9
      clear q_ex0 q_ex1 q_exf q_exg q_exs
      replace ex := ex.keep hb9
      clear hb9
      have q_ex0 := ex.c0
      have q_ex1 := ex.c1
      have q_exf := ex.f0
      have q_exg := ex.f1
      have q_exs := ex.size
      have q_zr0 := zr.c0
      have q_zr1 := zr.c1
      have q_zrf := zr.f0
      have q_zrg := zr.f1
      have q_zrs := zr.size
      go_wp2
    · skip
      exact bodyPost_ret (v := .agg #[.int .i64 0, .int .i64 (-25)]) (by simp [results, Tryz.results145, go_sem, *]) rfl (⟨0, (-25), rfl, Lib.hid (fun _ => M.Dr_lo (by omega) (by omega) (by omega) (by omega)), (st.store (c := w.heap.size) (x := .int .i64 0) (y := .int .i64 (-25)) (Nat.le_refl _) (by omega) (by omega)).cur.mono (by omega), (st.store (c := w.heap.size) (x := .int .i64 0) (y := .int .i64 (-25)) (Nat.le_refl _) (by omega) (by omega)).gr⟩)
    · skip
      exact bodyPost_ret (v := .agg #[.int .i64 y1, .int .i64 y2]) (by simp [results, Tryz.results145, go_sem, *]) rfl (⟨y1, y2, rfl, DR.out, (st.store (c := w.heap.size) (x := .int .i64 y1) (y := .int .i64 y2) (Nat.le_refl _) (by omega) (by omega)).cur.mono (by omega), (st.store (c := w.heap.size) (x := .int .i64 y1) (y := .int .i64 y2) (Nat.le_refl _) (by omega) (by omega)).gr⟩)
theorem M.not_tc1 {a b : Int} (h : a = 301 ∨ a = -301 ∨ a = -9223372036854775808) (ht : M.tc a b) : M.Dr a b := by
  have := ht.1
  omega
theorem M.not_tc2 {a b : Int} (h : b = 0 ∨ b = 301 ∨ b = -301 ∨ b = -9223372036854775808) (ht : M.tc a b) : M.Dr a b := by
  have := ht.2.1
  have := ht.2.2.1
  omega
theorem M.not_tc3 (ht : M.tc 4 4) : M.Dr 4 4 := absurd rfl ht.2.2.2
set_option maxHeartbeats 4000000 in
theorem anyTwoCurve_c (g B : Nat) (v : Value) (n K : Nat) (w : World) (h : CurK w g B v n K) (hk : K ≤ 600000000) :
    Calls Tryz.prog 123 #[.pointer (some ⟨g, 0, none⟩)] w (TcPost w g B v n (K + 40)) := by
  have st := (St.start h).alloc (.cells #[.int .i64 0, .int .i64 0] 25)
  have zr := Box.new w 0 0 25
  have nzr : w.heap.size ≠ g := by have := h.size; omega
  have hl := h.size
  have hB := st.lt
  clear h
  go_enter Tryz.func123, Tryz.ntmps123
  go_wp2_with fail
  refine (twoCurve_c g B v n _ _ st.cur (by omega)).mono ?_; rintro e w_c ⟨a, b, rfl, hDr, hc_, hg_⟩
  replace st := st.call hc_ hg_
  have sz_c := hg_.size
  replace zr := zr.keepG hg_ nzr
  clear hc_ hg_
  have se := st.size
  have sl := st.le
  have sr := zr.size
  replace st := st.alloc (.cells #[.int .i64 a, .int .i64 b] 25)
  replace zr := zr.alloc (.cells #[.int .i64 a, .int .i64 b] 25)
  have ex := Box.new w_c a b 25
  have nex : w_c.heap.size ≠ g := by omega
  have nrx : w.heap.size ≠ w_c.heap.size := by omega
  have nxr := nrx.symm
  go_wp2_with fail
  generalize hE : w_c.heap.size = E at *
  have hwE : w.heap.size ≤ E := by omega
  have hBE : B ≤ E := by omega
  clear hE
  refine (pick_c g B v n _ 30 _ st.cur (by omega) (by omega) (by omega)).mono ?_; rintro e w_x ⟨x, rfl, ⟨x_lo, x_hi⟩, hc_, hg_⟩
  replace st := st.call hc_ hg_
  have sz_x := hg_.size
  replace zr := zr.keepG hg_ nzr
  replace ex := ex.keepG hg_ nex
  clear hc_ hg_
  by_cases x0 : x = 0
  · subst x0
    go_wp2_with fail
    have st_ := st
    replace st := st.alloc (.cells #[.int .i64 301, .int .i64 (-301), .int .i64 (-9223372036854775808)] 3)
    replace zr := zr.alloc (.cells #[.int .i64 301, .int .i64 (-301), .int .i64 (-9223372036854775808)] 3)
    replace ex := ex.alloc (.cells #[.int .i64 301, .int .i64 (-301), .int .i64 (-9223372036854775808)] 3)
    refine (among_c g B v n _ [301, -301, -9223372036854775808] (w_x).heap.size 3 _ st.cur (by omega) rfl (by omega) (by omega) (by have := st_.size; omega) (lit_cells _ _ _)).mono ?_; rintro e w_y ⟨y, rfl, h_y, hc_, hg_⟩
    replace st := st.call hc_ hg_
    have sz_y := hg_.size
    replace zr := zr.keepG hg_ nzr
    replace ex := ex.keepG hg_ nex
    clear st_ hc_ hg_
    simp only [List.mem_cons, List.not_mem_nil, or_false] at h_y
    replace h_y := Lib.hid h_y
    have ex2 := ex.store0 y
    have zr2 := zr.otherI (o := 0) nrx (.int .i64 y)
    have st2 := st.storeI (c := E) (o := 0) hwE (by omega) hBE (.int .i64 y)
    have q_ex0 := ex.c0
    have q_ex1 := ex.c1
    have q_exf := ex.f0
    have q_exg := ex.f1
    have q_exs := ex.size
    go_upto_region 9 with fail
    clear q_ex0 q_ex1 q_exf q_exg q_exs
    clear ex zr st
    have ex := ex2
    have zr := zr2
    have st := st2
    clear ex2 zr2 st2
    generalize w_y.setCell ⟨E, 0, none⟩ (.int .i64 y) = w8 at *
    have q_ex0 := ex.c0
    have q_ex1 := ex.c1
    have q_exf := ex.f0
    have q_exg := ex.f1
    have q_exs := ex.size
    have q_zr0 := zr.c0
    have q_zr1 := zr.c1
    have q_zrf := zr.f0
    have q_zrg := zr.f1
    have q_zrs := zr.size
    have DR := Lib.hid (Lib.hid (fun h : M.tc y b => M.not_tc1 h_y.out h))
    go_wp2
    exact bodyPost_ret (v := .agg #[.int .i64 y, .int .i64 b]) (by simp [results, Tryz.results123, go_sem, *]) rfl (⟨y, b, rfl, DR.out, (st.store (c := w.heap.size) (x := .int .i64 y) (y := .int .i64 b) (Nat.le_refl _) (by omega) (by omega)).cur.mono (by omega), (st.store (c := w.heap.size) (x := .int .i64 y) (y := .int .i64 b) (Nat.le_refl _) (by omega) (by omega)).gr⟩)
  · by_cases x1 : x = 1
    · subst x1
      go_wp2_with fail
      have st_ := st
      replace st := st.alloc (.cells #[.int .i64 0, .int .i64 301, .int .i64 (-301), .int .i64 (-9223372036854775808)] 3)
      replace zr := zr.alloc (.cells #[.int .i64 0, .int .i64 301, .int .i64 (-301), .int .i64 (-9223372036854775808)] 3)
      replace ex := ex.alloc (.cells #[.int .i64 0, .int .i64 301, .int .i64 (-301), .int .i64 (-9223372036854775808)] 3)
      refine (among_c g B v n _ [0, 301, -301, -9223372036854775808] (w_x).heap.size 4 _ st.cur (by omega) rfl (by omega) (by omega) (by have := st_.size; omega) (lit_cells _ _ _)).mono ?_; rintro e w_y ⟨y, rfl, h_y, hc_, hg_⟩
      replace st := st.call hc_ hg_
      have sz_y := hg_.size
      replace zr := zr.keepG hg_ nzr
      replace ex := ex.keepG hg_ nex
      clear st_ hc_ hg_
      simp only [List.mem_cons, List.not_mem_nil, or_false] at h_y
      replace h_y := Lib.hid h_y
      have ex2 := ex.store1 y
      have zr2 := zr.otherI (o := 1) nrx (.int .i64 y)
      have st2 := st.storeI (c := E) (o := 1) hwE (by omega) hBE (.int .i64 y)
      have q_ex0 := ex.c0
      have q_ex1 := ex.c1
      have q_exf := ex.f0
      have q_exg := ex.f1
      have q_exs := ex.size
      go_upto_region 9 with fail
      clear q_ex0 q_ex1 q_exf q_exg q_exs
      clear ex zr st
      have ex := ex2
      have zr := zr2
      have st := st2
      clear ex2 zr2 st2
      generalize w_y.setCell ⟨E, 1, none⟩ (.int .i64 y) = w8 at *
      have q_ex0 := ex.c0
      have q_ex1 := ex.c1
      have q_exf := ex.f0
      have q_exg := ex.f1
      have q_exs := ex.size
      have q_zr0 := zr.c0
      have q_zr1 := zr.c1
      have q_zrf := zr.f0
      have q_zrg := zr.f1
      have q_zrs := zr.size
      have DR := Lib.hid (Lib.hid (fun h : M.tc a y => M.not_tc2 h_y.out h))
      go_wp2
      exact bodyPost_ret (v := .agg #[.int .i64 a, .int .i64 y]) (by simp [results, Tryz.results123, go_sem, *]) rfl (⟨a, y, rfl, DR.out, (st.store (c := w.heap.size) (x := .int .i64 a) (y := .int .i64 y) (Nat.le_refl _) (by omega) (by omega)).cur.mono (by omega), (st.store (c := w.heap.size) (x := .int .i64 a) (y := .int .i64 y) (Nat.le_refl _) (by omega) (by omega)).gr⟩)
    · by_cases x2 : x = 2
      · subst x2
        have ex2 := ex.store 4 4
        have zr2 := zr.other nrx (.int .i64 4) (.int .i64 4)
        have st2 := st.store (c := E) hwE (by omega) hBE (.int .i64 4) (.int .i64 4)
        have q_ex0 := ex.c0
        have q_ex1 := ex.c1
        have q_exf := ex.f0
        have q_exg := ex.f1
        have q_exs := ex.size
        go_upto_region 9 with fail
        clear q_ex0 q_ex1 q_exf q_exg q_exs
        clear ex zr st
        have ex := ex2
        have zr := zr2
        have st := st2
        clear ex2 zr2 st2
        generalize (w_x.setCell ⟨E, 0, none⟩ (.int .i64 4)).setCell ⟨E, 1, none⟩ (.int .i64 4) = w8 at *
        have q_ex0 := ex.c0
        have q_ex1 := ex.c1
        have q_exf := ex.f0
        have q_exg := ex.f1
        have q_exs := ex.size
        have q_zr0 := zr.c0
        have q_zr1 := zr.c1
        have q_zrf := zr.f0
        have q_zrg := zr.f1
        have q_zrs := zr.size
        have DR := Lib.hid (Lib.hid (fun h : M.tc 4 4 => M.not_tc3 h))
        go_wp2
        exact bodyPost_ret (v := .agg #[.int .i64 4, .int .i64 4]) (by simp [results, Tryz.results123, go_sem, *]) rfl (⟨4, 4, rfl, DR.out, (st.store (c := w.heap.size) (x := .int .i64 4) (y := .int .i64 4) (Nat.le_refl _) (by omega) (by omega)).cur.mono (by omega), (st.store (c := w.heap.size) (x := .int .i64 4) (y := .int .i64 4) (Nat.le_refl _) (by omega) (by omega)).gr⟩)
      · have b0 : (x == 0) = false := by simpa using x0
        have b1 : (x == 1) = false := by simpa using x1
        have b2 : (x == 2) = false := by simpa using x2
        have q_ex0 := ex.c0
        have q_ex1 := ex.c1
        have q_exf := ex.f0
        have q_exg := ex.f1
        have q_exs := ex.size
        have q_zr0 := zr.c0
        have q_zr1 := zr.c1
        have q_zrf := zr.f0
        have q_zrg := zr.f1
        have q_zrs := zr.size
        have DR := Lib.hid (hDr)
        go_wp2
        exact bodyPost_ret (v := .agg #[.int .i64 a, .int .i64 b]) (by simp [results, Tryz.results123, go_sem, *]) rfl (⟨a, b, rfl, DR.out, (st.store (c := w.heap.size) (x := .int .i64 a) (y := .int .i64 b) (Nat.le_refl _) (by omega) (by omega)).cur.mono (by omega), (st.store (c := w.heap.size) (x := .int .i64 a) (y := .int .i64 b) (Nat.le_refl _) (by omega) (by omega)).gr⟩)
set_option maxHeartbeats 4000000 in
theorem sided_c (g B : Nat) (v : Value) (n K : Nat) (w : World) (h : CurK w g B v n K) (hk : K ≤ 500000000) :
    Calls Tryz.prog 95 #[.pointer (some ⟨g, 0, none⟩)] w (TcbPost w g B v n (K + 60)) := by
  have st := (St.start h).alloc (.cells #[.int .i64 0, .int .i64 0] 25)
  have zr := Box.new w 0 0 25
  have nzr : w.heap.size ≠ g := by have := h.size; omega
  have hl := h.size
  have hB := st.lt
  clear h
  go_enter Tryz.func95, Tryz.ntmps95
  go_wp2_with fail
  refine (one_c g B v n _ 2 _ st.cur (by omega) (by omega) (by omega)).mono ?_; rintro e w_q ⟨q, rfl, hc_, hg_⟩
  replace st := st.call hc_ hg_
  have sz_q := hg_.size
  replace zr := zr.keepG hg_ nzr
  clear hc_ hg_
  go_wp2_with fail
  refine (one_c g B v n _ 5 _ st.cur (by omega) (by omega) (by omega)).mono ?_; rintro e w_t1 ⟨t1, rfl, hc_, hg_⟩
  replace st := st.call hc_ hg_
  have sz_t1 := hg_.size
  replace zr := zr.keepG hg_ nzr
  clear hc_ hg_
  cases t1
  case true =>
    go_wp2_with fail
    refine (anyTwoCurve_c g B v n _ _ st.cur (by omega)).mono ?_; rintro e w_c ⟨a, b, rfl, hDr, hc_, hg_⟩
    replace st := st.call hc_ hg_
    have sz_c := hg_.size
    replace zr := zr.keepG hg_ nzr
    clear hc_ hg_
    have q_zr0 := zr.c0
    have q_zr1 := zr.c1
    have q_zrf := zr.f0
    have q_zrg := zr.f1
    have q_zrs := zr.size
    go_wp2
    exact bodyPost_ret (v := .tuple #[.agg #[.int .i64 a, .int .i64 b], .bool q]) (by simp [results, Tryz.results95, go_sem, *]) rfl (⟨a, b, q, rfl, hDr, (st.store (c := w.heap.size) (x := .int .i64 a) (y := .int .i64 b) (Nat.le_refl _) (by omega) (by omega)).cur.mono (by omega), (st.store (c := w.heap.size) (x := .int .i64 a) (y := .int .i64 b) (Nat.le_refl _) (by omega) (by omega)).gr⟩)
  case false =>
    go_wp2_with fail
    refine (pick_c g B v n _ 21 _ st.cur (by omega) (by omega) (by omega)).mono ?_; rintro e w_x1 ⟨x1, rfl, ⟨x1_lo, x1_hi⟩, hc_, hg_⟩
    replace st := st.call hc_ hg_
    have sz_x1 := hg_.size
    replace zr := zr.keepG hg_ nzr
    clear hc_ hg_
    go_wp2_with fail
    have st_ := st
    replace st := st.alloc (.cells #[.int .i64 0, .int .i64 0, .int .i64 0, .int .i64 1, .int .i64 (-2), .int .i64 3, .int .i64 (x1 - 10)] 3)
    replace zr := zr.alloc (.cells #[.int .i64 0, .int .i64 0, .int .i64 0, .int .i64 1, .int .i64 (-2), .int .i64 3, .int .i64 (x1 - 10)] 3)
    refine (among_c g B v n _ [0, 0, 0, 1, -2, 3, x1 - 10] (w_x1).heap.size 7 _ st.cur (by omega) rfl (by omega) (by omega) (by have := st_.size; omega) (lit_cells _ _ _)).mono ?_; rintro e w_a ⟨a, rfl, h_a, hc_, hg_⟩
    replace st := st.call hc_ hg_
    have sz_a := hg_.size
    replace zr := zr.keepG hg_ nzr
    clear st_ hc_ hg_
    simp only [List.mem_cons, List.not_mem_nil, or_false] at h_a
    replace h_a := Lib.hid h_a
    go_wp2_with fail
    refine (pick_c g B v n _ 41 _ st.cur (by omega) (by omega) (by omega)).mono ?_; rintro e w_x2 ⟨x2, rfl, ⟨x2_lo, x2_hi⟩, hc_, hg_⟩
    replace st := st.call hc_ hg_
    have sz_x2 := hg_.size
    replace zr := zr.keepG hg_ nzr
    clear hc_ hg_
    go_wp2_with fail
    have st_ := st
    replace st := st.alloc (.cells #[.int .i64 (-25), .int .i64 (-1), .int .i64 4, .int .i64 17, .int .i64 (-36), .int .i64 5, .int .i64 (-49), .int .i64 (x2 - 20)] 3)
    replace zr := zr.alloc (.cells #[.int .i64 (-25), .int .i64 (-1), .int .i64 4, .int .i64 17, .int .i64 (-36), .int .i64 5, .int .i64 (-49), .int .i64 (x2 - 20)] 3)
    refine (among_c g B v n _ [-25, -1, 4, 17, -36, 5, -49, x2 - 20] (w_x2).heap.size 8 _ st.cur (by omega) rfl (by omega) (by omega) (by have := st_.size; omega) (lit_cells _ _ _)).mono ?_; rintro e w_b ⟨b, rfl, h_b, hc_, hg_⟩
    replace st := st.call hc_ hg_
    have sz_b := hg_.size
    replace zr := zr.keepG hg_ nzr
    clear st_ hc_ hg_
    simp only [List.mem_cons, List.not_mem_nil, or_false] at h_b
    replace h_b := Lib.hid h_b
    have se := st.size
    have sl := st.le
    have sr := zr.size
    replace st := st.alloc (.cells #[.int .i64 a, .int .i64 b] 25)
    replace zr := zr.alloc (.cells #[.int .i64 a, .int .i64 b] 25)
    have ex := Box.new w_b a b 25
    have nex : w_b.heap.size ≠ g := by omega
    have nrx : w.heap.size ≠ w_b.heap.size := by omega
    have nxr := nrx.symm
    go_wp2_with fail
    generalize hE : w_b.heap.size = E at *
    have hwE : w.heap.size ≤ E := by omega
    have hBE : B ≤ E := by omega
    clear hE
    have DS : Hid (M.tc a b → M.Dr a b) := Lib.hid (fun _ => by have h1 := h_a.out; have h2 := h_b.out; by_cases hb : b = -49; exact Or.inr (Or.inl ⟨hb, by omega, by omega⟩); exact M.Dr_lo (by omega) (by omega) (by omega) (by omega))
    have HG := fun w => tcGood_c a b w
    cases hg : M.tcb a b <;> simp only [hg] at HG <;> have HG := Lib.hid HG <;> clear hg
    all_goals
      refine (HG.out _).mono ?_; rintro e w9 ⟨rfl, hb9⟩
      replace st := st.keep hb9
      replace zr := zr.keep hb9
      replace ex := ex.keep hb9
      clear hb9
      have q_ex0 := ex.c0
      have q_ex1 := ex.c1
      have q_exf := ex.f0
      have q_exg := ex.f1
      have q_exs := ex.size
      have q_zr0 := zr.c0
      have q_zr1 := zr.c1
      have q_zrf := zr.f0
      have q_zrg := zr.f1
      have q_zrs := zr.size
      go_wp2
    · skip
      exact bodyPost_ret (v := .tuple #[.agg #[.int .i64 0, .int .i64 (-25)], .bool q]) (by simp [results, Tryz.results95, go_sem, *]) rfl (⟨0, (-25), q, rfl, Lib.hid (fun _ => M.Dr_lo (by omega) (by omega) (by omega) (by omega)), (st.store (c := w.heap.size) (x := .int .i64 0) (y := .int .i64 (-25)) (Nat.le_refl _) (by omega) (by omega)).cur.mono (by omega), (st.store (c := w.heap.size) (x := .int .i64 0) (y := .int .i64 (-25)) (Nat.le_refl _) (by omega) (by omega)).gr⟩)
    · skip
      exact bodyPost_ret (v := .tuple #[.agg #[.int .i64 a, .int .i64 b], .bool q]) (by simp [results, Tryz.results95, go_sem, *]) rfl (⟨a, b, q, rfl, DS, (st.store (c := w.heap.size) (x := .int .i64 a) (y := .int .i64 b) (Nat.le_refl _) (by omega) (by omega)).cur.mono (by omega), (st.store (c := w.heap.size) (x := .int .i64 a) (y := .int .i64 b) (Nat.le_refl _) (by omega) (by omega)).gr⟩)
set_option maxHeartbeats 4000000 in
theorem descended_c (g B : Nat) (v : Value) (n K : Nat) (w : World) (h : CurK w g B v n K) (hk : K ≤ 400000000) :
    Calls Tryz.prog 88 #[.pointer (some ⟨g, 0, none⟩)] w (TcPost w g B v n (K + 80)) := by
  have st := (St.start h).alloc (.cells #[.int .i64 0, .int .i64 0] 25)
  have zr := Box.new w 0 0 25
  have nzr : w.heap.size ≠ g := by have := h.size; omega
  have hl := h.size
  have hB := st.lt
  clear h
  go_enter Tryz.func88, Tryz.ntmps88
  go_wp2_with fail
  refine (one_c g B v n _ 4 _ st.cur (by omega) (by omega) (by omega)).mono ?_; rintro e w_t1 ⟨t1, rfl, hc_, hg_⟩
  replace st := st.call hc_ hg_
  have sz_t1 := hg_.size
  replace zr := zr.keepG hg_ nzr
  clear hc_ hg_
  cases t1
  case true =>
    go_wp2_with fail
    refine (sided_c g B v n _ _ st.cur (by omega)).mono ?_; rintro e w_c ⟨a, b, q, rfl, hDr, hc_, hg_⟩
    replace st := st.call hc_ hg_
    have sz_c := hg_.size
    replace zr := zr.keepG hg_ nzr
    clear hc_ hg_
    have se := st.size
    have sl := st.le
    have sr := zr.size
    replace st := st.alloc (.cells #[.int .i64 a, .int .i64 b] 25)
    replace zr := zr.alloc (.cells #[.int .i64 a, .int .i64 b] 25)
    have ex := Box.new w_c a b 25
    have nrx : w.heap.size ≠ w_c.heap.size := by omega
    go_upto_region 3 with fail
    generalize w_c.alloc (.cells #[.int .i64 a, .int .i64 b] 25) = w7 at *
    generalize hE : w_c.heap.size = E at *
    clear hE
    have q_zr0 := zr.c0
    have q_zr1 := zr.c1
    have q_zrf := zr.f0
    have q_zrg := zr.f1
    have q_zrs := zr.size
    have q_ex0 := ex.c0
    have q_ex1 := ex.c1
    have q_exf := ex.f0
    have q_exg := ex.f1
    have q_exs := ex.size
    go_wp2
    exact bodyPost_ret (v := .agg #[.int .i64 a, .int .i64 b]) (by simp [results, Tryz.results88, go_sem, *]) rfl (⟨a, b, rfl, hDr, (st.store (c := w.heap.size) (x := .int .i64 a) (y := .int .i64 b) (Nat.le_refl _) (by omega) (by omega)).cur.mono (by omega), (st.store (c := w.heap.size) (x := .int .i64 a) (y := .int .i64 b) (Nat.le_refl _) (by omega) (by omega)).gr⟩)
  case false =>
    go_wp2_with fail
    have st_ := st
    replace st := st.alloc (.cells #[.int .i64 0, .int .i64 0, .int .i64 0, .int .i64 1, .int .i64 (-3), .int .i64 6] 3)
    replace zr := zr.alloc (.cells #[.int .i64 0, .int .i64 0, .int .i64 0, .int .i64 1, .int .i64 (-3), .int .i64 6] 3)
    refine (among_c g B v n _ [0, 0, 0, 1, -3, 6] (w_t1).heap.size 6 _ st.cur (by omega) rfl (by omega) (by omega) (by have := st_.size; omega) (lit_cells _ _ _)).mono ?_; rintro e w_a ⟨a, rfl, h_a, hc_, hg_⟩
    replace st := st.call hc_ hg_
    have sz_a := hg_.size
    replace zr := zr.keepG hg_ nzr
    clear st_ hc_ hg_
    simp only [List.mem_cons, List.not_mem_nil, or_false] at h_a
    replace h_a := Lib.hid h_a
    go_wp2_with fail
    have st_ := st
    replace st := st.alloc (.cells #[.int .i64 (-25), .int .i64 (-1), .int .i64 1, .int .i64 4, .int .i64 17, .int .i64 (-36), .int .i64 5, .int .i64 (-49), .int .i64 (-5), .int .i64 7, .int .i64 (-17), .int .i64 (-82)] 3)
    replace zr := zr.alloc (.cells #[.int .i64 (-25), .int .i64 (-1), .int .i64 1, .int .i64 4, .int .i64 17, .int .i64 (-36), .int .i64 5, .int .i64 (-49), .int .i64 (-5), .int .i64 7, .int .i64 (-17), .int .i64 (-82)] 3)
    refine (among_c g B v n _ [-25, -1, 1, 4, 17, -36, 5, -49, -5, 7, -17, -82] (w_a).heap.size 12 _ st.cur (by omega) rfl (by omega) (by omega) (by have := st_.size; omega) (lit_cells _ _ _)).mono ?_; rintro e w_b ⟨b, rfl, h_b, hc_, hg_⟩
    replace st := st.call hc_ hg_
    have sz_b := hg_.size
    replace zr := zr.keepG hg_ nzr
    clear st_ hc_ hg_
    simp only [List.mem_cons, List.not_mem_nil, or_false] at h_b
    replace h_b := Lib.hid h_b
    have DS : Hid (M.tc a b → M.Dr a b) := Lib.hid (fun _ => by have h1 := h_a.out; have h2 := h_b.out; by_cases hb : b = -49; exact Or.inr (Or.inl ⟨hb, by omega, by omega⟩); by_cases hb2 : b = -82; exact Or.inr (Or.inr (Or.inl ⟨hb2, by omega⟩)); exact M.Dr_lo (by omega) (by omega) (by omega) (by omega))
    have q_zr0 := zr.c0
    have q_zr1 := zr.c1
    have q_zrf := zr.f0
    have q_zrg := zr.f1
    have q_zrs := zr.size
    go_wp2
    exact bodyPost_ret (v := .agg #[.int .i64 a, .int .i64 b]) (by simp [results, Tryz.results88, go_sem, *]) rfl (⟨a, b, rfl, DS, (st.store (c := w.heap.size) (x := .int .i64 a) (y := .int .i64 b) (Nat.le_refl _) (by omega) (by omega)).cur.mono (by omega), (st.store (c := w.heap.size) (x := .int .i64 a) (y := .int .i64 b) (Nat.le_refl _) (by omega) (by omega)).gr⟩)
theorem searchMost_c (g B : Nat) (v : Value) (n K : Nat) (w : World) (h : CurK w g B v n K) (hk : K ≤ 800000000) :
    Calls Tryz.prog 90 #[.pointer (some ⟨g, 0, none⟩)] w fun e w' => ∃ x : Int, e = .returned (.int .i64 x) ∧ CurK w' g B v n (K + 4) ∧ w.grownBy w' (some g) := by
  have st := St.start h
  go_enter Tryz.func90, Tryz.ntmps90
  go_wp2_with fail
  have st_ := st
  replace st := st.alloc (.cells #[.int .i64 0, .int .i64 61] 3)
  refine (among_c g B v n _ [0, 61] (w).heap.size 2 _ st.cur (by omega) rfl (by omega) (by omega) (by have := st_.size; omega) (lit_cells _ _ _)).mono ?_; rintro e w_x1 ⟨x1, rfl, -, hc_, hg_⟩
  replace st := st.call hc_ hg_
  have sz_x1 := hg_.size
  clear st_ hc_ hg_
  go_wp2_with fail
  have st_ := st
  replace st := st.alloc (.cells #[.int .i64 1, .int .i64 2, .int .i64 4, .int .i64 5, .int .i64 12, .int .i64 60, .int .i64 x1] 3)
  refine (among_c g B v n _ [1, 2, 4, 5, 12, 60, x1] (w_x1).heap.size 7 _ st.cur (by omega) rfl (by omega) (by omega) (by have := st_.size; omega) (lit_cells _ _ _)).mono ?_; rintro e w_x2 ⟨x2, rfl, -, hc_, hg_⟩
  replace st := st.call hc_ hg_
  have sz_x2 := hg_.size
  clear st_ hc_ hg_
  go_wp2
  go_ret
  exact ⟨x2, rfl, st.cur, st.gr⟩
end Go.Proofs.YtgkjmjlkhnfbiaaGreat
