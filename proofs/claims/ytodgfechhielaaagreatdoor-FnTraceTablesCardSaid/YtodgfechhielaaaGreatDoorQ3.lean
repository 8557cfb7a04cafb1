/-
  Contracts: two-curves that are drawn; the draw of two curves and a limit.
-/
import Derived.Test.YtodgfechhielaaaGreatDoorQ2
import Derived.Deep.RegionHeld3
import Derived.Deep.DeepCutAuto
namespace Go.Proofs.YtodgfechhielaaaGreatDoor
set_option linter.unusedSimpArgs false
set_option linter.unusedVariables false
open Go.RowKit

theorem CurK.set2Q {w : World} {g B n K c : Nat} {v : Value} (h : CurK w g B v n K) (hc : g ≠ c) (hB : B ≤ c) (x y : Value) : CurK ((w.setCell ⟨c, 0, none⟩ x).setCell ⟨c, 1, none⟩ y) g B v n K := h.keepR (set2_grown w c x y) hc hB
theorem cellDrQ {W : World} {p : Addr} {v : Value} (h : W.cell? p = some v) : (W.drew).cell? p = some v := h
theorem CurK.drewQ {w : World} {g B n K : Nat} {v : Value} (h : CurK w g B v n K) : CurK w.drew g B v n K := h.keep ((Below.refl _ _).drew)
def TwoPost (w : World) (g B : Nat) (v : Value) (n K : Nat) (e : Ending) (w' : World) : Prop :=
  ∃ a b : Int, e = .returned (.agg #[.int .i64 a, .int .i64 b]) ∧ (-300 ≤ a ∧ a ≤ 300) ∧ (-300 ≤ b ∧ b ≤ 300) ∧ CurK w' g B v n K ∧ w.grownBy w' (some g)
set_option maxHeartbeats 4000000 in
theorem twoCurve_c (g B : Nat) (v : Value) (n K : Nat) (w : World) (h : CurK w g B v n K) (hk : K ≤ 700000000) :
    Calls Tryz.prog 52 #[.pointer (some ⟨g, 0, none⟩)] w (TwoPost w g B v n (K + 16)) := by
  have st := (St.start h).alloc (.cells #[.int .i64 0, .int .i64 0] 75)
  have zr := Box.new w 0 0 75
  have nzr : w.heap.size ≠ g := by have := h.size; omega
  have hl := h.size
  have hB := st.lt
  clear h
  go_enter Tryz.func52, Tryz.ntmps52
  go_wp2_with fail
  refine (pick_c g B v n _ 41 _ st.cur (by omega) (by omega) (by omega)).mono ?_; rintro e w_x1 ⟨x1, rfl, ⟨x1_lo, x1_hi⟩, hc_, hg_⟩
  replace st := st.call hc_ hg_
  have sz_x1 := hg_.size
  replace zr := zr.keepG hg_ nzr
  clear hc_ hg_
  go_wp2_with fail
  have st_ := st
  replace st := st.alloc (.cells #[.int .i64 0, .int .i64 0, .int .i64 3, .int .i64 (-6), .int .i64 1, .int .i64 5, .int .i64 (x1 - 20)] 3)
  replace zr := zr.alloc (.cells #[.int .i64 0, .int .i64 0, .int .i64 3, .int .i64 (-6), .int .i64 1, .int .i64 5, .int .i64 (x1 - 20)] 3)
  refine (among_c g B v n _ [0, 0, 3, -6, 1, 5, x1 - 20] (w_x1).heap.size 7 _ st.cur (by omega) rfl (by omega) (by omega) (by have := st_.size; omega) (lit_cells _ _ _)).mono ?_; rintro e w_a ⟨a, rfl, -, hc_, hg_⟩
  replace st := st.call hc_ hg_
  have sz_a := hg_.size
  replace zr := zr.keepG hg_ nzr
  clear st_ hc_ hg_
  go_wp2_with fail
  refine (pick_c g B v n _ 61 _ st.cur (by omega) (by omega) (by omega)).mono ?_; rintro e w_x2 ⟨x2, rfl, ⟨x2_lo, x2_hi⟩, hc_, hg_⟩
  replace st := st.call hc_ hg_
  have sz_x2 := hg_.size
  replace zr := zr.keepG hg_ nzr
  clear hc_ hg_
  go_wp2_with fail
  have st_ := st
  replace st := st.alloc (.cells #[.int .i64 (-25), .int .i64 (-1), .int .i64 4, .int .i64 17, .int .i64 (-36), .int .i64 5, .int .i64 (x2 - 30)] 3)
  replace zr := zr.alloc (.cells #[.int .i64 (-25), .int .i64 (-1), .int .i64 4, .int .i64 17, .int .i64 (-36), .int .i64 5, .int .i64 (x2 - 30)] 3)
  refine (among_c g B v n _ [-25, -1, 4, 17, -36, 5, x2 - 30] (w_x2).heap.size 7 _ st.cur (by omega) rfl (by omega) (by omega) (by have := st_.size; omega) (lit_cells _ _ _)).mono ?_; rintro e w_b ⟨b, rfl, -, hc_, hg_⟩
  replace st := st.call hc_ hg_
  have sz_b := hg_.size
  replace zr := zr.keepG hg_ nzr
  clear st_ hc_ hg_
  have se := st.size
  have sl := st.le
  have sr := zr.size
  replace st := st.alloc (.cells #[.int .i64 a, .int .i64 b] 75)
  replace zr := zr.alloc (.cells #[.int .i64 a, .int .i64 b] 75)
  have ex := Box.new w_b a b 75
  have nex : w_b.heap.size ≠ g := by omega
  have nrx : w.heap.size ≠ w_b.heap.size := by omega
  have nxr := nrx.symm
  go_wp2_with fail
  generalize hE : w_b.heap.size = E at *
  have hwE : w.heap.size ≤ E := by omega
  have hBE : B ≤ E := by omega
  clear hE
  refine (one_c g B v n _ 12 _ st.cur (by omega) (by omega) (by omega)).mono ?_; rintro e w_t1 ⟨t1, rfl, hc_, hg_⟩
  replace st := st.call hc_ hg_
  have sz_t1 := hg_.size
  replace zr := zr.keepG hg_ nzr
  replace ex := ex.keepG hg_ nex
  clear hc_ hg_
  cases t1
  case false =>
    have q_ex0 := ex.c0
    have q_ex1 := ex.c1
    have q_exf := ex.f0
    have q_exg := ex.f1
    have q_exs := ex.size
    go_wp2_with fail
    refine (tcGood_c a b _).mono ?_; rintro e w9 ⟨ok, rfl, hok, hb9⟩
    have Hok := Lib.hid hok
    clear hok
    replace st := st.keep hb9
    replace zr := zr.keep hb9
    clear q_ex0 q_ex1 q_exf q_exg q_exs
    replace ex := ex.keep hb9
    clear hb9
    have q_ex0 := ex.c0
    have q_ex1 := ex.c1
    have q_exf := ex.f0
    have q_exg := ex.f1
    have q_exs := ex.size
    have q_zr0 := zr.c0
    have q_zr1 := zr.c1
    have q_zrf := zr.f0
    have q_zrg := zr.f1
    have q_zrs := zr.size
    cases ok
    · skip
      go_wp2
      exact bodyPost_ret (v := .agg #[.int .i64 0, .int .i64 (-25)]) (by simp [results, Tryz.results52, go_sem, *]) rfl (⟨0, (-25), rfl, (by omega), (by omega), (st.store (c := w.heap.size) (x := .int .i64 0) (y := .int .i64 (-25)) (Nat.le_refl _) (by omega) (by omega)).cur.mono (by omega), (st.store (c := w.heap.size) (x := .int .i64 0) (y := .int .i64 (-25)) (Nat.le_refl _) (by omega) (by omega)).gr⟩)
    · skip
      have hbd := Hok.out rfl
      go_wp2
      exact bodyPost_ret (v := .agg #[.int .i64 a, .int .i64 b]) (by simp [results, Tryz.results52, go_sem, *]) rfl (⟨a, b, rfl, hbd.1, hbd.2, (st.store (c := w.heap.size) (x := .int .i64 a) (y := .int .i64 b) (Nat.le_refl _) (by omega) (by omega)).cur.mono (by omega), (st.store (c := w.heap.size) (x := .int .i64 a) (y := .int .i64 b) (Nat.le_refl _) (by omega) (by omega)).gr⟩)
  case true =>
    go_wp2_with fail
    have st_ := st
    replace st := st.alloc (.cells #[.int .i64 300, .int .i64 (-300), .int .i64 7] 3)
    replace zr := zr.alloc (.cells #[.int .i64 300, .int .i64 (-300), .int .i64 7] 3)
    replace ex := ex.alloc (.cells #[.int .i64 300, .int .i64 (-300), .int .i64 7] 3)
    refine (among_c g B v n _ [300, -300, 7] (w_t1).heap.size 3 _ st.cur (by omega) rfl (by omega) (by omega) (by have := st_.size; omega) (lit_cells _ _ _)).mono ?_; rintro e w_y ⟨y, rfl, -, hc_, hg_⟩
    replace st := st.call hc_ hg_
    have sz_y := hg_.size
    replace zr := zr.keepG hg_ nzr
    replace ex := ex.keepG hg_ nex
    clear st_ hc_ hg_
    go_wp2_with fail
    have st_ := st
    replace st := st.alloc (.cells #[.int .i64 300, .int .i64 (-300), .int .i64 1] 3)
    replace zr := zr.alloc (.cells #[.int .i64 300, .int .i64 (-300), .int .i64 1] 3)
    replace ex := ex.alloc (.cells #[.int .i64 300, .int .i64 (-300), .int .i64 1] 3)
    refine (among_c g B v n _ [300, -300, 1] (w_y).heap.size 3 _ st.cur (by omega) rfl (by omega) (by omega) (by have := st_.size; omega) (lit_cells _ _ _)).mono ?_; rintro e w_z ⟨z, rfl, -, hc_, hg_⟩
    replace st := st.call hc_ hg_
    have sz_z := hg_.size
    replace zr := zr.keepG hg_ nzr
    replace ex := ex.keepG hg_ nex
    clear st_ hc_ hg_
    have ex2 := ex.store y z
    have zr2 := zr.other nrx (.int .i64 y) (.int .i64 z)
    have st2 := st.store (c := E) hwE (by omega) hBE (.int .i64 y) (.int .i64 z)
    have q_ex0 := ex.c0
    have q_ex1 := ex.c1
    have q_exf := ex.f0
    have q_exg := ex.f1
    have q_exs := ex.size
    go_upto_region 4 with fail
    clear q_ex0 q_ex1 q_exf q_exg q_exs
    clear ex zr st
    have ex := ex2
    have zr := zr2
    have st := st2
    clear ex2 zr2 st2
    generalize (w_z.setCell ⟨E, 0, none⟩ (.int .i64 y)).setCell ⟨E, 1, none⟩ (.int .i64 z) = w8 at *
    have q_ex0 := ex.c0
    have q_ex1 := ex.c1
    have q_exf := ex.f0
    have q_exg := ex.f1
    have q_exs := ex.size
    go_wp2_with fail
    refine (tcGood_c y z _).mono ?_; rintro e w9 ⟨ok, rfl, hok, hb9⟩
    have Hok := Lib.hid hok
    clear hok
    replace st := st.keep hb9
    replace zr := zr.keep hb9
    clear q_ex0 q_ex1 q_exf q_exg q_exs
    replace ex := ex.keep hb9
    clear hb9
    have q_ex0 := ex.c0
    have q_ex1 := ex.c1
    have q_exf := ex.f0
    have q_exg := ex.f1
    have q_exs := ex.size
    have q_zr0 := zr.c0
    have q_zr1 := zr.c1
    have q_zrf := zr.f0
    have q_zrg := zr.f1
    have q_zrs := zr.size
    cases ok
    · skip
      go_wp2
      exact bodyPost_ret (v := .agg #[.int .i64 0, .int .i64 (-25)]) (by simp [results, Tryz.results52, go_sem, *]) rfl (⟨0, (-25), rfl, (by omega), (by omega), (st.store (c := w.heap.size) (x := .int .i64 0) (y := .int .i64 (-25)) (Nat.le_refl _) (by omega) (by omega)).cur.mono (by omega), (st.store (c := w.heap.size) (x := .int .i64 0) (y := .int .i64 (-25)) (Nat.le_refl _) (by omega) (by omega)).gr⟩)
    · skip
      have hbd := Hok.out rfl
      go_wp2
      exact bodyPost_ret (v := .agg #[.int .i64 y, .int .i64 z]) (by simp [results, Tryz.results52, go_sem, *]) rfl (⟨y, z, rfl, hbd.1, hbd.2, (st.store (c := w.heap.size) (x := .int .i64 y) (y := .int .i64 z) (Nat.le_refl _) (by omega) (by omega)).cur.mono (by omega), (st.store (c := w.heap.size) (x := .int .i64 y) (y := .int .i64 z) (Nat.le_refl _) (by omega) (by omega)).gr⟩)
def DrawCCI (w : World) (e : Ending) (w' : World) : Prop := ∃ a b c d n : Int, e = .returned (.tuple #[.agg #[.int .i64 a, .int .i64 b], .agg #[.int .i64 c, .int .i64 d], .int .i64 n]) ∧ Below w.heap.size w w'
set_option maxRecDepth 100000 in
set_option maxHeartbeats 8000000 in
theorem drawHaveSameTraces_c (v : Value) (n : Nat) (w : World) (h : Bytes w w.heap.size v n) :
    Calls Tryz.prog 16 #[v] w (DrawCCI w) := by
  obtain ⟨A, cap, rfl, hn, hb_⟩ := h
  have h : Bytes w w.heap.size (.slice A n cap) n := ⟨A, cap, rfl, hn, hb_⟩
  clear hb_ hn
  have st := St.new h (W := (w.alloc (.cells #[.int .i64 0, .int .i64 0] 24)).alloc (.cells #[.int .i64 0, .int .i64 0] 24)) (by exact ((Below.refl _ _).alloc (Nat.le_refl _) _).alloc (by rw [World.size_alloc]; omega) _) 58
  rw [World.size_alloc, World.size_alloc] at st
  have zr := ((Box.new w 0 0 24).alloc (.cells #[.int .i64 0, .int .i64 0] 24)).alloc (.cells #[.slice A n cap, .int .i64 0, .int .u64 0] 58)
  have zs := (Box.new (w.alloc (.cells #[.int .i64 0, .int .i64 0] 24)) 0 0 24).alloc (.cells #[.slice A n cap, .int .i64 0, .int .u64 0] 58)
  rw [World.size_alloc] at zs
  have nzr : w.heap.size ≠ w.heap.size + 1 + 1 := by omega
  have nzs : w.heap.size + 1 ≠ w.heap.size + 1 + 1 := by omega
  clear h
  go_enter Tryz.func16, Tryz.ntmps16
  go_wp2_with fail
  refine (anyCurve_c _ w.heap.size _ n _ _ st.cur (by omega)).mono ?_; rintro e w_c ⟨a, b, rfl, hc_, hg_⟩
  replace st := st.call hc_ hg_
  replace zr := zr.keepG hg_ nzr
  replace zs := zs.keepG hg_ nzs
  clear hc_ hg_
  have se := st.size
  have sr := zr.size
  have ss := zs.size
  have szr_ex := zr.size
  have szs_ex := zs.size
  have sc_ex := st.size
  replace st := st.alloc (.cells #[.int .i64 a, .int .i64 b] 24)
  replace zr := zr.alloc (.cells #[.int .i64 a, .int .i64 b] 24)
  replace zs := zs.alloc (.cells #[.int .i64 a, .int .i64 b] 24)
  have ex := Box.new w_c a b 24
  have nex : w_c.heap.size ≠ w.heap.size + 1 + 1 := by omega
  have hwc := st.le
  go_wp2_with fail
  generalize hE : w_c.heap.size = E at *
  have nEr : E ≠ w.heap.size := by omega
  have nEs : E ≠ w.heap.size + 1 := by omega
  clear hE
  refine (traceLimit_c _ w.heap.size _ n _ _ st.cur (by omega)).mono ?_; rintro e w_d ⟨d, rfl, hc_, hg_⟩
  replace st := st.call hc_ hg_
  replace zr := zr.keepG hg_ nzr
  replace zs := zs.keepG hg_ nzs
  replace ex := ex.keepG hg_ nex
  clear hc_ hg_
  go_wp2_with fail
  refine (pick_c _ w.heap.size _ n _ 4 _ st.cur (by omega) (by omega) (by omega)).mono ?_; rintro e w_x ⟨x, rfl, ⟨x_lo, x_hi⟩, hc_, hg_⟩
  replace st := st.call hc_ hg_
  replace zr := zr.keepG hg_ nzr
  replace zs := zs.keepG hg_ nzs
  replace ex := ex.keepG hg_ nex
  clear hc_ hg_
  clear se sr ss sc_ex szr_ex szs_ex hwc
  by_cases x0 : x = 0
  · subst x0
    have q_ex0 := ex.c0
    have q_ex1 := ex.c1
    have q_exf := ex.f0
    have q_exg := ex.f1
    have q_exs := ex.size
    go_wp2_with fail
    refine (scaleCurve_c a b _).mono ?_; rintro e w_s ⟨c1, c2, ok, rfl, hb_⟩
    clear q_ex0 q_ex1 q_exf q_exg q_exs
    replace st := st.keep hb_
    replace zr := zr.keep hb_
    replace zs := zs.keep hb_
    replace ex := ex.keep hb_
    clear hb_
    have szr_sx := zr.size
    have szs_sx := zs.size
    have sex_sx := ex.size
    have sc_sx := st.size
    replace st := st.alloc (.cells #[.int .i64 c1, .int .i64 c2] 24)
    replace zr := zr.alloc (.cells #[.int .i64 c1, .int .i64 c2] 24)
    replace zs := zs.alloc (.cells #[.int .i64 c1, .int .i64 c2] 24)
    replace ex := ex.alloc (.cells #[.int .i64 c1, .int .i64 c2] 24)
    have sx := Box.new w_s c1 c2 24
    have nsx : w_s.heap.size ≠ w.heap.size + 1 + 1 := by omega
    have sle := st.le
    cases ok
    · skip
      clear sx
      have q_ex0 := ex.c0
      have q_ex1 := ex.c1
      have q_exf := ex.f0
      have q_exg := ex.f1
      have q_exs := ex.size
      have q_zr0 := zr.c0
      have q_zr1 := zr.c1
      have q_zrf := zr.f0
      have q_zrg := zr.f1
      have q_zrs := zr.size
      have q_zs0 := zs.c0
      have q_zs1 := zs.c1
      have q_zsf := zs.f0
      have q_zsg := zs.f1
      have q_zss := zs.size
      have hC := st.cur
      have hsC := st.cur.size
      have hG0 := st.gr
      go_upto_region 17 with fail
      go_cut [4] from 76 (fun s4 wx => s4 = .int .i64 d ∧ ∃ x y : Int, Box wx w.heap.size a b ∧ Box wx (w.heap.size + 1) x y ∧ w.grownBy wx (some (w.heap.size + 1 + 1)))
      case first =>
        clear st ex
        go_region_held3 (fun W => W.cell? ⟨E, 0, none⟩ = some (.int .i64 a) ∧ W.cell? ⟨E, 1, none⟩ = some (.int .i64 b)) (first | (refine ⟨?_, ?_⟩ <;> (first | (with_reducible assumption) | (with_reducible exact cellDrQ (by assumption)) | (with_reducible exact Gr.cellK hg_ (by assumption) nex) | (with_reducible exact Gr.cellK hg_ (cellDrQ (by assumption)) nex) | (simp [go_sem, *]; done))) | (go_split_ands; (refine ⟨?_, ?_⟩ <;> (first | (with_reducible assumption) | (with_reducible exact cellDrQ (by assumption)) | (with_reducible exact Gr.cellK hg_ (by assumption) nex) | (with_reducible exact Gr.cellK hg_ (cellDrQ (by assumption)) nex) | (simp [go_sem, *]; done)))) | go_keep) (first | (go_at_call 27; refine (anyCurve_c (w.heap.size + 1 + 1) w.heap.size (.slice A n cap) n (0 + 50 + 4 + 2) _ (by first | (with_reducible exact hC) | (with_reducible exact hC.drewQ) | (with_reducible exact hC.set2Q (by omega) (by omega) _ _) | (with_reducible exact (hC.set2Q (by omega) (by omega) _ _).drewQ) | (with_reducible exact hC.drewQ.set2Q (by omega) (by omega) _ _) | (with_reducible exact (hC.drewQ.set2Q (by omega) (by omega) _ _).drewQ) | fail) (by omega)).mono ?_; rintro e w' ⟨x_, y_, rfl, hc_, hg_⟩; have hs_ := hc_.size; have hz_ := hg_.size; (try simp only [World.size_alloc, heap_drew, World.heap_drewN, size_setCell] at hz_); (first | have zr_ := zr.keepG hg_ (by omega) | have zr_ := zr.drew.keepG hg_ (by omega) | have zr_ := (zr.store a b).keepG hg_ (by omega) | have zr_ := (zr.store a b).drew.keepG hg_ (by omega) | have zr_ := (zr.drew.store a b).keepG hg_ (by omega) | have zr_ := (zr.drew.store a b).drew.keepG hg_ (by omega) | fail); (first | have zs_ := zs.keepG hg_ (by omega) | have zs_ := zs.drew.keepG hg_ (by omega) | have zs_ := (zs.other (by omega) _ _).keepG hg_ (by omega) | have zs_ := (zs.other (by omega) _ _).drew.keepG hg_ (by omega) | have zs_ := (zs.drew.other (by omega) _ _).keepG hg_ (by omega) | have zs_ := (zs.drew.other (by omega) _ _).drew.keepG hg_ (by omega) | fail); have za0 := zr_.c0; have za1 := zr_.c1; have za2 := zr_.f0; have za3 := zr_.f1; have za4 := zr_.size; have zb0 := zs_.c0; have zb1 := zs_.c1; have zb2 := zs_.f0; have zb3 := zs_.f1; have zb4 := zs_.size) | fail)
        all_goals
          go_wp2_with fail
          go_meet
          first | exact ⟨rfl, x_, y_, (zr_.store a b).other (by omega) _ _, (zs_.other (by omega) _ _).store x_ y_, (by repeat (first | exact hG0 | refine grown_tr ?_ (by assumption) | refine Gr.setNew ?_ (by (try simp only [World.size_alloc, heap_drew, World.heap_drewN, size_setCell]); omega) _ | refine Gr.drew ?_))⟩ | exact ⟨rfl, x_, y_, zr_.other (by omega) _ _, zs_.store x_ y_, (by repeat (first | exact hG0 | refine grown_tr ?_ (by assumption) | refine Gr.setNew ?_ (by (try simp only [World.size_alloc, heap_drew, World.heap_drewN, size_setCell]); omega) _ | refine Gr.drew ?_))⟩ | exact ⟨rfl, x_, y_, (zr_.other (by omega) _ _).store a b, (zs_.store x_ y_).other (by omega) _ _, (by repeat (first | exact hG0 | refine grown_tr ?_ (by assumption) | refine Gr.setNew ?_ (by (try simp only [World.size_alloc, heap_drew, World.heap_drewN, size_setCell]); omega) _ | refine Gr.drew ?_))⟩ | fail
      case rest =>
        clear q_ex0 q_ex1 q_exf q_exg q_exs
        clear q_zr0 q_zr1 q_zrf q_zrg q_zrs
        clear q_zs0 q_zs1 q_zsf q_zsg q_zss
        clear hC hsC hG0
        obtain ⟨rfl, x, y, zr, zs, hgx⟩ := hcut
        have hBL : Below w.heap.size w wc := Gr.toBelow (Below.refl _ _) hgx (Nat.le_refl _) (by omega)
        have q_zr0 := zr.c0
        have q_zr1 := zr.c1
        have q_zrf := zr.f0
        have q_zrg := zr.f1
        have q_zrs := zr.size
        have q_zs0 := zs.c0
        have q_zs1 := zs.c1
        have q_zsf := zs.f0
        have q_zsg := zs.f1
        have q_zss := zs.size
        go_wp2
        exact bodyPost_ret (v := .tuple #[.agg #[.int .i64 a, .int .i64 b], .agg #[.int .i64 x, .int .i64 y], .int .i64 d]) (by simp [results, Tryz.results16, go_sem, *]) rfl (⟨a, b, x, y, d, rfl, (by repeat (first | exact Below.refl _ _ | refine below_alloc ?_ _ | refine below_step ?_ (by assumption) | refine Below.drew ?_ | refine Below.setCell ?_ (by first | exact Nat.le_refl _ | exact Nat.le_add_right _ _ | (simp <;> omega)) _ | refine below_drewN ?_ _))⟩)
    · skip
      have nsr : w_s.heap.size ≠ w.heap.size := by omega
      have nss : w_s.heap.size ≠ w.heap.size + 1 := by omega
      go_upto_region 8 with fail
      generalize w_s.alloc (.cells #[.int .i64 c1, .int .i64 c2] 24) = W8 at *
      generalize w_s.heap.size = S8 at *
      have q_ex0 := ex.c0
      have q_ex1 := ex.c1
      have q_exf := ex.f0
      have q_exg := ex.f1
      have q_exs := ex.size
      have q_sx0 := sx.c0
      have q_sx1 := sx.c1
      have q_sxf := sx.f0
      have q_sxg := sx.f1
      have q_sxs := sx.size
      have q_zr0 := zr.c0
      have q_zr1 := zr.c1
      have q_zrf := zr.f0
      have q_zrg := zr.f1
      have q_zrs := zr.size
      have q_zs0 := zs.c0
      have q_zs1 := zs.c1
      have q_zsf := zs.f0
      have q_zsg := zs.f1
      have q_zss := zs.size
      have hBL := st.below (Nat.le_trans (Nat.le_succ _) (Nat.le_succ _))
      go_wp2_with fail
      go_region
      all_goals
        go_wp2
        exact bodyPost_ret (v := .tuple #[.agg #[.int .i64 a, .int .i64 b], .agg #[.int .i64 c1, .int .i64 c2], .int .i64 d]) (by simp [results, Tryz.results16, go_sem, *]) rfl (⟨a, b, c1, c2, d, rfl, (by repeat (first | exact Below.refl _ _ | refine below_alloc ?_ _ | refine below_step ?_ (by assumption) | refine Below.drew ?_ | refine Below.setCell ?_ (by first | exact Nat.le_refl _ | exact Nat.le_add_right _ _ | (simp <;> omega)) _ | refine below_drewN ?_ _))⟩)
  · by_cases x1 : x = 1
    · subst x1
      go_wp2_with fail
      refine (twoCurve_c _ w.heap.size _ n _ _ st.cur (by omega)).mono ?_; rintro e w_t ⟨t1, t2, rfl, ht1, ht2, hc_, hg_⟩
      replace st := st.call hc_ hg_
      replace zr := zr.keepG hg_ nzr
      replace zs := zs.keepG hg_ nzs
      replace ex := ex.keepG hg_ nex
      clear hc_ hg_
      have hkb : -100 ≤ t1.tdiv 3 ∧ t1.tdiv 3 ≤ 100 := by rw [Int.tdiv_eq_ediv, show Int.sign 3 = 1 from rfl]; split <;> omega
      go_upto_region 12 with fail
      have szr_tx := zr.size
      have szs_tx := zs.size
      have sex_tx := ex.size
      have sc_tx := st.size
      replace st := st.alloc (.cells #[.int .i64 (3 * t1.tdiv 3), .int .i64 t2] 75)
      replace zr := zr.alloc (.cells #[.int .i64 (3 * t1.tdiv 3), .int .i64 t2] 75)
      replace zs := zs.alloc (.cells #[.int .i64 (3 * t1.tdiv 3), .int .i64 t2] 75)
      replace ex := ex.alloc (.cells #[.int .i64 (3 * t1.tdiv 3), .int .i64 t2] 75)
      have tx := Box.new w_t (3 * t1.tdiv 3) t2 75
      have ntx : w_t.heap.size ≠ w.heap.size + 1 + 1 := by omega
      have sle := st.le
      have nxt : E ≠ w_t.heap.size := by omega
      have nrt : w.heap.size ≠ w_t.heap.size := by omega
      have nst : w.heap.size + 1 ≠ w_t.heap.size := by omega
      have nt1 : w.heap.size ≤ w_t.heap.size := by omega
      generalize t1.tdiv 3 = k at *
      have q_tx0 := tx.c0
      have q_tx1 := tx.c1
      have q_txf := tx.f0
      have q_txg := tx.f1
      have q_txs := tx.size
      go_wp2_with fail
      refine (tcPlainQ_c (3 * k) k t2 _ rfl (by omega) (by omega) (by omega) (by omega)).mono ?_; rintro e w_1 ⟨u1, u2, u3, u4, rfl, hb_⟩
      clear q_tx0 q_tx1 q_txf q_txg q_txs
      replace st := st.keep hb_
      replace zr := zr.keep hb_
      replace zs := zs.keep hb_
      replace ex := ex.keep hb_
      replace tx := tx.keep hb_
      clear hb_
      have szr_ox := zr.size
      have szs_ox := zs.size
      have sex_ox := ex.size
      have stx_ox := tx.size
      have sc_ox := st.size
      replace st := st.alloc (.cells #[.int .i64 u1, .int .i64 u2] 24)
      replace zr := zr.alloc (.cells #[.int .i64 u1, .int .i64 u2] 24)
      replace zs := zs.alloc (.cells #[.int .i64 u1, .int .i64 u2] 24)
      replace ex := ex.alloc (.cells #[.int .i64 u1, .int .i64 u2] 24)
      replace tx := tx.alloc (.cells #[.int .i64 u1, .int .i64 u2] 24)
      have ox := Box.new w_1 u1 u2 24
      have nox : w_1.heap.size ≠ w.heap.size + 1 + 1 := by omega
      have sle1 := st.le
      have nor : w_1.heap.size ≠ w.heap.size := by omega
      have nos : w_1.heap.size ≠ w.heap.size + 1 := by omega
      have q_tx0 := tx.c0
      have q_tx1 := tx.c1
      have q_txf := tx.f0
      have q_txg := tx.f1
      have q_txs := tx.size
      go_wp2_with fail
      refine (tcDual_c (3 * k) t2 _ (by omega) (by omega) (by omega) (by omega)).mono ?_; rintro e w_2 ⟨y2, rfl, hy2, hb_⟩
      clear q_tx0 q_tx1 q_txf q_txg q_txs
      replace st := st.keep hb_
      replace zr := zr.keep hb_
      replace zs := zs.keep hb_
      replace ex := ex.keep hb_
      replace tx := tx.keep hb_
      replace ox := ox.keep hb_
      clear hb_
      go_wp2_with fail
      refine (tcPlainQ_c (-2 * (3 * k)) (-2 * k) y2 _ (by omega) (by omega) (by omega) (by omega) (by omega)).mono ?_; rintro e w_3 ⟨v1, v2, v3, v4, rfl, hb_⟩
      replace st := st.keep hb_
      replace zr := zr.keep hb_
      replace zs := zs.keep hb_
      replace ex := ex.keep hb_
      replace tx := tx.keep hb_
      replace ox := ox.keep hb_
      clear hb_
      have szr_px := zr.size
      have szs_px := zs.size
      have sex_px := ex.size
      have stx_px := tx.size
      have sox_px := ox.size
      have sc_px := st.size
      replace st := st.alloc (.cells #[.int .i64 v1, .int .i64 v2] 24)
      replace zr := zr.alloc (.cells #[.int .i64 v1, .int .i64 v2] 24)
      replace zs := zs.alloc (.cells #[.int .i64 v1, .int .i64 v2] 24)
      replace ex := ex.alloc (.cells #[.int .i64 v1, .int .i64 v2] 24)
      replace tx := tx.alloc (.cells #[.int .i64 v1, .int .i64 v2] 24)
      replace ox := ox.alloc (.cells #[.int .i64 v1, .int .i64 v2] 24)
      have px := Box.new w_3 v1 v2 24
      have npx : w_3.heap.size ≠ w.heap.size + 1 + 1 := by omega
      have sle3 := st.le
      have npr : w_3.heap.size ≠ w.heap.size := by omega
      have nps : w_3.heap.size ≠ w.heap.size + 1 := by omega
      have q_ox0 := ox.c0
      have q_ox1 := ox.c1
      have q_oxf := ox.f0
      have q_oxg := ox.f1
      have q_oxs := ox.size
      go_wp2_with fail
      refine (ecGood_c u1 u2 _).mono ?_; rintro e w_4 ⟨rfl, hb_⟩
      generalize M.good u1 u2 = g1
      clear q_ox0 q_ox1 q_oxf q_oxg q_oxs
      replace st := st.keep hb_
      replace zr := zr.keep hb_
      replace zs := zs.keep hb_
      replace ex := ex.keep hb_
      replace tx := tx.keep hb_
      replace ox := ox.keep hb_
      replace px := px.keep hb_
      clear hb_
      cases g1
      · skip
        clear tx ox px
        have q_ex0 := ex.c0
        have q_ex1 := ex.c1
        have q_exf := ex.f0
        have q_exg := ex.f1
        have q_exs := ex.size
        have q_zr0 := zr.c0
        have q_zr1 := zr.c1
        have q_zrf := zr.f0
        have q_zrg := zr.f1
        have q_zrs := zr.size
        have q_zs0 := zs.c0
        have q_zs1 := zs.c1
        have q_zsf := zs.f0
        have q_zsg := zs.f1
        have q_zss := zs.size
        have hC := st.cur
        have hsC := st.cur.size
        have hG0 := st.gr
        go_upto_region 17 with fail
        go_cut [4] from 76 (fun s4 wx => s4 = .int .i64 d ∧ ∃ x y : Int, Box wx w.heap.size a b ∧ Box wx (w.heap.size + 1) x y ∧ w.grownBy wx (some (w.heap.size + 1 + 1)))
        case first =>
          clear st ex
          go_region_held3 (fun W => W.cell? ⟨E, 0, none⟩ = some (.int .i64 a) ∧ W.cell? ⟨E, 1, none⟩ = some (.int .i64 b)) (first | (refine ⟨?_, ?_⟩ <;> (first | (with_reducible assumption) | (with_reducible exact cellDrQ (by assumption)) | (with_reducible exact Gr.cellK hg_ (by assumption) nex) | (with_reducible exact Gr.cellK hg_ (cellDrQ (by assumption)) nex) | (simp [go_sem, *]; done))) | (go_split_ands; (refine ⟨?_, ?_⟩ <;> (first | (with_reducible assumption) | (with_reducible exact cellDrQ (by assumption)) | (with_reducible exact Gr.cellK hg_ (by assumption) nex) | (with_reducible exact Gr.cellK hg_ (cellDrQ (by assumption)) nex) | (simp [go_sem, *]; done)))) | go_keep) (first | (go_at_call 27; refine (anyCurve_c (w.heap.size + 1 + 1) w.heap.size (.slice A n cap) n (0 + 50 + 4 + 2 + 16) _ (by first | (with_reducible exact hC) | (with_reducible exact hC.drewQ) | (with_reducible exact hC.set2Q (by omega) (by omega) _ _) | (with_reducible exact (hC.set2Q (by omega) (by omega) _ _).drewQ) | (with_reducible exact hC.drewQ.set2Q (by omega) (by omega) _ _) | (with_reducible exact (hC.drewQ.set2Q (by omega) (by omega) _ _).drewQ) | fail) (by omega)).mono ?_; rintro e w' ⟨x_, y_, rfl, hc_, hg_⟩; have hs_ := hc_.size; have hz_ := hg_.size; (try simp only [World.size_alloc, heap_drew, World.heap_drewN, size_setCell] at hz_); (first | have zr_ := zr.keepG hg_ (by omega) | have zr_ := zr.drew.keepG hg_ (by omega) | have zr_ := (zr.store a b).keepG hg_ (by omega) | have zr_ := (zr.store a b).drew.keepG hg_ (by omega) | have zr_ := (zr.drew.store a b).keepG hg_ (by omega) | have zr_ := (zr.drew.store a b).drew.keepG hg_ (by omega) | fail); (first | have zs_ := zs.keepG hg_ (by omega) | have zs_ := zs.drew.keepG hg_ (by omega) | have zs_ := (zs.other (by omega) _ _).keepG hg_ (by omega) | have zs_ := (zs.other (by omega) _ _).drew.keepG hg_ (by omega) | have zs_ := (zs.drew.other (by omega) _ _).keepG hg_ (by omega) | have zs_ := (zs.drew.other (by omega) _ _).drew.keepG hg_ (by omega) | fail); have za0 := zr_.c0; have za1 := zr_.c1; have za2 := zr_.f0; have za3 := zr_.f1; have za4 := zr_.size; have zb0 := zs_.c0; have zb1 := zs_.c1; have zb2 := zs_.f0; have zb3 := zs_.f1; have zb4 := zs_.size) | fail)
          all_goals
            go_wp2_with fail
            go_meet
            first | exact ⟨rfl, x_, y_, (zr_.store a b).other (by omega) _ _, (zs_.other (by omega) _ _).store x_ y_, (by repeat (first | exact hG0 | refine grown_tr ?_ (by assumption) | refine Gr.setNew ?_ (by (try simp only [World.size_alloc, heap_drew, World.heap_drewN, size_setCell]); omega) _ | refine Gr.drew ?_))⟩ | exact ⟨rfl, x_, y_, zr_.other (by omega) _ _, zs_.store x_ y_, (by repeat (first | exact hG0 | refine grown_tr ?_ (by assumption) | refine Gr.setNew ?_ (by (try simp only [World.size_alloc, heap_drew, World.heap_drewN, size_setCell]); omega) _ | refine Gr.drew ?_))⟩ | exact ⟨rfl, x_, y_, (zr_.other (by omega) _ _).store a b, (zs_.store x_ y_).other (by omega) _ _, (by repeat (first | exact hG0 | refine grown_tr ?_ (by assumption) | refine Gr.setNew ?_ (by (try simp only [World.size_alloc, heap_drew, World.heap_drewN, size_setCell]); omega) _ | refine Gr.drew ?_))⟩ | fail
        case rest =>
          clear q_ex0 q_ex1 q_exf q_exg q_exs
          clear q_zr0 q_zr1 q_zrf q_zrg q_zrs
          clear q_zs0 q_zs1 q_zsf q_zsg q_zss
          clear hC hsC hG0
          obtain ⟨rfl, x, y, zr, zs, hgx⟩ := hcut
          have hBL : Below w.heap.size w wc := Gr.toBelow (Below.refl _ _) hgx (Nat.le_refl _) (by omega)
          have q_zr0 := zr.c0
          have q_zr1 := zr.c1
          have q_zrf := zr.f0
          have q_zrg := zr.f1
          have q_zrs := zr.size
          have q_zs0 := zs.c0
          have q_zs1 := zs.c1
          have q_zsf := zs.f0
          have q_zsg := zs.f1
          have q_zss := zs.size
          go_wp2
          exact bodyPost_ret (v := .tuple #[.agg #[.int .i64 a, .int .i64 b], .agg #[.int .i64 x, .int .i64 y], .int .i64 d]) (by simp [results, Tryz.results16, go_sem, *]) rfl (⟨a, b, x, y, d, rfl, (by repeat (first | exact Below.refl _ _ | refine below_alloc ?_ _ | refine below_step ?_ (by assumption) | refine Below.drew ?_ | refine Below.setCell ?_ (by first | exact Nat.le_refl _ | exact Nat.le_add_right _ _ | (simp <;> omega)) _ | refine below_drewN ?_ _))⟩)
      · skip
        have q_px0 := px.c0
        have q_px1 := px.c1
        have q_pxf := px.f0
        have q_pxg := px.f1
        have q_pxs := px.size
        go_wp2_with fail
        refine (ecGood_c v1 v2 _).mono ?_; rintro e w_5 ⟨rfl, hb_⟩
        generalize M.good v1 v2 = g2
        clear q_px0 q_px1 q_pxf q_pxg q_pxs
        replace st := st.keep hb_
        replace zr := zr.keep hb_
        replace zs := zs.keep hb_
        replace ex := ex.keep hb_
        replace tx := tx.keep hb_
        replace ox := ox.keep hb_
        replace px := px.keep hb_
        clear hb_
        cases g2
        · skip
          clear tx ox px
          have q_ex0 := ex.c0
          have q_ex1 := ex.c1
          have q_exf := ex.f0
          have q_exg := ex.f1
          have q_exs := ex.size
          have q_zr0 := zr.c0
          have q_zr1 := zr.c1
          have q_zrf := zr.f0
          have q_zrg := zr.f1
          have q_zrs := zr.size
          have q_zs0 := zs.c0
          have q_zs1 := zs.c1
          have q_zsf := zs.f0
          have q_zsg := zs.f1
          have q_zss := zs.size
          have hC := st.cur
          have hsC := st.cur.size
          have hG0 := st.gr
          go_upto_region 17 with fail
          go_cut [4] from 76 (fun s4 wx => s4 = .int .i64 d ∧ ∃ x y : Int, Box wx w.heap.size a b ∧ Box wx (w.heap.size + 1) x y ∧ w.grownBy wx (some (w.heap.size + 1 + 1)))
          case first =>
            clear st ex
            go_region_held3 (fun W => W.cell? ⟨E, 0, none⟩ = some (.int .i64 a) ∧ W.cell? ⟨E, 1, none⟩ = some (.int .i64 b)) (first | (refine ⟨?_, ?_⟩ <;> (first | (with_reducible assumption) | (with_reducible exact cellDrQ (by assumption)) | (with_reducible exact Gr.cellK hg_ (by assumption) nex) | (with_reducible exact Gr.cellK hg_ (cellDrQ (by assumption)) nex) | (simp [go_sem, *]; done))) | (go_split_ands; (refine ⟨?_, ?_⟩ <;> (first | (with_reducible assumption) | (with_reducible exact cellDrQ (by assumption)) | (with_reducible exact Gr.cellK hg_ (by assumption) nex) | (with_reducible exact Gr.cellK hg_ (cellDrQ (by assumption)) nex) | (simp [go_sem, *]; done)))) | go_keep) (first | (go_at_call 27; refine (anyCurve_c (w.heap.size + 1 + 1) w.heap.size (.slice A n cap) n (0 + 50 + 4 + 2 + 16) _ (by first | (with_reducible exact hC) | (with_reducible exact hC.drewQ) | (with_reducible exact hC.set2Q (by omega) (by omega) _ _) | (with_reducible exact (hC.set2Q (by omega) (by omega) _ _).drewQ) | (with_reducible exact hC.drewQ.set2Q (by omega) (by omega) _ _) | (with_reducible exact (hC.drewQ.set2Q (by omega) (by omega) _ _).drewQ) | fail) (by omega)).mono ?_; rintro e w' ⟨x_, y_, rfl, hc_, hg_⟩; have hs_ := hc_.size; have hz_ := hg_.size; (try simp only [World.size_alloc, heap_drew, World.heap_drewN, size_setCell] at hz_); (first | have zr_ := zr.keepG hg_ (by omega) | have zr_ := zr.drew.keepG hg_ (by omega) | have zr_ := (zr.store a b).keepG hg_ (by omega) | have zr_ := (zr.store a b).drew.keepG hg_ (by omega) | have zr_ := (zr.drew.store a b).keepG hg_ (by omega) | have zr_ := (zr.drew.store a b).drew.keepG hg_ (by omega) | fail); (first | have zs_ := zs.keepG hg_ (by omega) | have zs_ := zs.drew.keepG hg_ (by omega) | have zs_ := (zs.other (by omega) _ _).keepG hg_ (by omega) | have zs_ := (zs.other (by omega) _ _).drew.keepG hg_ (by omega) | have zs_ := (zs.drew.other (by omega) _ _).keepG hg_ (by omega) | have zs_ := (zs.drew.other (by omega) _ _).drew.keepG hg_ (by omega) | fail); have za0 := zr_.c0; have za1 := zr_.c1; have za2 := zr_.f0; have za3 := zr_.f1; have za4 := zr_.size; have zb0 := zs_.c0; have zb1 := zs_.c1; have zb2 := zs_.f0; have zb3 := zs_.f1; have zb4 := zs_.size) | fail)
            all_goals
              go_wp2_with fail
              go_meet
              first | exact ⟨rfl, x_, y_, (zr_.store a b).other (by omega) _ _, (zs_.other (by omega) _ _).store x_ y_, (by repeat (first | exact hG0 | refine grown_tr ?_ (by assumption) | refine Gr.setNew ?_ (by (try simp only [World.size_alloc, heap_drew, World.heap_drewN, size_setCell]); omega) _ | refine Gr.drew ?_))⟩ | exact ⟨rfl, x_, y_, zr_.other (by omega) _ _, zs_.store x_ y_, (by repeat (first | exact hG0 | refine grown_tr ?_ (by assumption) | refine Gr.setNew ?_ (by (try simp only [World.size_alloc, heap_drew, World.heap_drewN, size_setCell]); omega) _ | refine Gr.drew ?_))⟩ | exact ⟨rfl, x_, y_, (zr_.other (by omega) _ _).store a b, (zs_.store x_ y_).other (by omega) _ _, (by repeat (first | exact hG0 | refine grown_tr ?_ (by assumption) | refine Gr.setNew ?_ (by (try simp only [World.size_alloc, heap_drew, World.heap_drewN, size_setCell]); omega) _ | refine Gr.drew ?_))⟩ | fail
          case rest =>
            clear q_ex0 q_ex1 q_exf q_exg q_exs
            clear q_zr0 q_zr1 q_zrf q_zrg q_zrs
            clear q_zs0 q_zs1 q_zsf q_zsg q_zss
            clear hC hsC hG0
            obtain ⟨rfl, x, y, zr, zs, hgx⟩ := hcut
            have hBL : Below w.heap.size w wc := Gr.toBelow (Below.refl _ _) hgx (Nat.le_refl _) (by omega)
            have q_zr0 := zr.c0
            have q_zr1 := zr.c1
            have q_zrf := zr.f0
            have q_zrg := zr.f1
            have q_zrs := zr.size
            have q_zs0 := zs.c0
            have q_zs1 := zs.c1
            have q_zsf := zs.f0
            have q_zsg := zs.f1
            have q_zss := zs.size
            go_wp2
            exact bodyPost_ret (v := .tuple #[.agg #[.int .i64 a, .int .i64 b], .agg #[.int .i64 x, .int .i64 y], .int .i64 d]) (by simp [results, Tryz.results16, go_sem, *]) rfl (⟨a, b, x, y, d, rfl, (by repeat (first | exact Below.refl _ _ | refine below_alloc ?_ _ | refine below_step ?_ (by assumption) | refine Below.drew ?_ | refine Below.setCell ?_ (by first | exact Nat.le_refl _ | exact Nat.le_add_right _ _ | (simp <;> omega)) _ | refine below_drewN ?_ _))⟩)
        · skip
          clear tx ex
          have q_ox0 := ox.c0
          have q_ox1 := ox.c1
          have q_oxf := ox.f0
          have q_oxg := ox.f1
          have q_oxs := ox.size
          have q_px0 := px.c0
          have q_px1 := px.c1
          have q_pxf := px.f0
          have q_pxg := px.f1
          have q_pxs := px.size
          have q_zr0 := zr.c0
          have q_zr1 := zr.c1
          have q_zrf := zr.f0
          have q_zrg := zr.f1
          have q_zrs := zr.size
          have q_zs0 := zs.c0
          have q_zs1 := zs.c1
          have q_zsf := zs.f0
          have q_zsg := zs.f1
          have q_zss := zs.size
          have hBL := st.below (Nat.le_trans (Nat.le_succ _) (Nat.le_succ _))
          go_wp2_with fail
          go_region
          all_goals
            go_wp2
            exact bodyPost_ret (v := .tuple #[.agg #[.int .i64 u1, .int .i64 u2], .agg #[.int .i64 v1, .int .i64 v2], .int .i64 d]) (by simp [results, Tryz.results16, go_sem, *]) rfl (⟨u1, u2, v1, v2, d, rfl, (by repeat (first | exact Below.refl _ _ | refine below_alloc ?_ _ | refine below_step ?_ (by assumption) | refine Below.drew ?_ | refine Below.setCell ?_ (by first | exact Nat.le_refl _ | exact Nat.le_add_right _ _ | (simp <;> omega)) _ | refine below_drewN ?_ _))⟩)
    · have b0 : (x == 0) = false := by simpa using x0
      have b1 : (x == 1) = false := by simpa using x1
      have q_ex0 := ex.c0
      have q_ex1 := ex.c1
      have q_exf := ex.f0
      have q_exg := ex.f1
      have q_exs := ex.size
      have q_zr0 := zr.c0
      have q_zr1 := zr.c1
      have q_zrf := zr.f0
      have q_zrg := zr.f1
      have q_zrs := zr.size
      have q_zs0 := zs.c0
      have q_zs1 := zs.c1
      have q_zsf := zs.f0
      have q_zsg := zs.f1
      have q_zss := zs.size
      have hC := st.cur
      have hsC := st.cur.size
      have hG0 := st.gr
      go_upto_region 17 with fail
      go_cut [4] from 76 (fun s4 wx => s4 = .int .i64 d ∧ ∃ x y : Int, Box wx w.heap.size a b ∧ Box wx (w.heap.size + 1) x y ∧ w.grownBy wx (some (w.heap.size + 1 + 1)))
      case first =>
        clear st ex
        go_region_held3 (fun W => W.cell? ⟨E, 0, none⟩ = some (.int .i64 a) ∧ W.cell? ⟨E, 1, none⟩ = some (.int .i64 b)) (first | (refine ⟨?_, ?_⟩ <;> (first | (with_reducible assumption) | (with_reducible exact cellDrQ (by assumption)) | (with_reducible exact Gr.cellK hg_ (by assumption) nex) | (with_reducible exact Gr.cellK hg_ (cellDrQ (by assumption)) nex) | (simp [go_sem, *]; done))) | (go_split_ands; (refine ⟨?_, ?_⟩ <;> (first | (with_reducible assumption) | (with_reducible exact cellDrQ (by assumption)) | (with_reducible exact Gr.cellK hg_ (by assumption) nex) | (with_reducible exact Gr.cellK hg_ (cellDrQ (by assumption)) nex) | (simp [go_sem, *]; done)))) | go_keep) (first | (go_at_call 27; refine (anyCurve_c (w.heap.size + 1 + 1) w.heap.size (.slice A n cap) n (0 + 50 + 4 + 2) _ (by first | (with_reducible exact hC) | (with_reducible exact hC.drewQ) | (with_reducible exact hC.set2Q (by omega) (by omega) _ _) | (with_reducible exact (hC.set2Q (by omega) (by omega) _ _).drewQ) | (with_reducible exact hC.drewQ.set2Q (by omega) (by omega) _ _) | (with_reducible exact (hC.drewQ.set2Q (by omega) (by omega) _ _).drewQ) | fail) (by omega)).mono ?_; rintro e w' ⟨x_, y_, rfl, hc_, hg_⟩; have hs_ := hc_.size; have hz_ := hg_.size; (try simp only [World.size_alloc, heap_drew, World.heap_drewN, size_setCell] at hz_); (first | have zr_ := zr.keepG hg_ (by omega) | have zr_ := zr.drew.keepG hg_ (by omega) | have zr_ := (zr.store a b).keepG hg_ (by omega) | have zr_ := (zr.store a b).drew.keepG hg_ (by omega) | have zr_ := (zr.drew.store a b).keepG hg_ (by omega) | have zr_ := (zr.drew.store a b).drew.keepG hg_ (by omega) | fail); (first | have zs_ := zs.keepG hg_ (by omega) | have zs_ := zs.drew.keepG hg_ (by omega) | have zs_ := (zs.other (by omega) _ _).keepG hg_ (by omega) | have zs_ := (zs.other (by omega) _ _).drew.keepG hg_ (by omega) | have zs_ := (zs.drew.other (by omega) _ _).keepG hg_ (by omega) | have zs_ := (zs.drew.other (by omega) _ _).drew.keepG hg_ (by omega) | fail); have za0 := zr_.c0; have za1 := zr_.c1; have za2 := zr_.f0; have za3 := zr_.f1; have za4 := zr_.size; have zb0 := zs_.c0; have zb1 := zs_.c1; have zb2 := zs_.f0; have zb3 := zs_.f1; have zb4 := zs_.size) | fail)
        all_goals
          go_wp2_with fail
          go_meet
          first | exact ⟨rfl, x_, y_, (zr_.store a b).other (by omega) _ _, (zs_.other (by omega) _ _).store x_ y_, (by repeat (first | exact hG0 | refine grown_tr ?_ (by assumption) | refine Gr.setNew ?_ (by (try simp only [World.size_alloc, heap_drew, World.heap_drewN, size_setCell]); omega) _ | refine Gr.drew ?_))⟩ | exact ⟨rfl, x_, y_, zr_.other (by omega) _ _, zs_.store x_ y_, (by repeat (first | exact hG0 | refine grown_tr ?_ (by assumption) | refine Gr.setNew ?_ (by (try simp only [World.size_alloc, heap_drew, World.heap_drewN, size_setCell]); omega) _ | refine Gr.drew ?_))⟩ | exact ⟨rfl, x_, y_, (zr_.other (by omega) _ _).store a b, (zs_.store x_ y_).other (by omega) _ _, (by repeat (first | exact hG0 | refine grown_tr ?_ (by assumption) | refine Gr.setNew ?_ (by (try simp only [World.size_alloc, heap_drew, World.heap_drewN, size_setCell]); omega) _ | refine Gr.drew ?_))⟩ | fail
      case rest =>
        clear q_ex0 q_ex1 q_exf q_exg q_exs
        clear q_zr0 q_zr1 q_zrf q_zrg q_zrs
        clear q_zs0 q_zs1 q_zsf q_zsg q_zss
        clear hC hsC hG0
        obtain ⟨rfl, x, y, zr, zs, hgx⟩ := hcut
        have hBL : Below w.heap.size w wc := Gr.toBelow (Below.refl _ _) hgx (Nat.le_refl _) (by omega)
        have q_zr0 := zr.c0
        have q_zr1 := zr.c1
        have q_zrf := zr.f0
        have q_zrg := zr.f1
        have q_zrs := zr.size
        have q_zs0 := zs.c0
        have q_zs1 := zs.c1
        have q_zsf := zs.f0
        have q_zsg := zs.f1
        have q_zss := zs.size
        go_wp2
        exact bodyPost_ret (v := .tuple #[.agg #[.int .i64 a, .int .i64 b], .agg #[.int .i64 x, .int .i64 y], .int .i64 d]) (by simp [results, Tryz.results16, go_sem, *]) rfl (⟨a, b, x, y, d, rfl, (by repeat (first | exact Below.refl _ _ | refine below_alloc ?_ _ | refine below_step ?_ (by assumption) | refine Below.drew ?_ | refine Below.setCell ?_ (by first | exact Nat.le_refl _ | exact Nat.le_add_right _ _ | (simp <;> omega)) _ | refine below_drewN ?_ _))⟩)
end Go.Proofs.YtodgfechhielaaaGreatDoor
