/-
  Contracts for the law on tables of traces: lists compared, limits and curves that are drawn.
-/
import Derived.Test.YtodgfechhielaaaGreatDoorJ5
import Derived.Test.YtodgfechhielaaaGreatDoorS4
import Derived.Test.YtodgfechhielaaaGreatDoorC9
namespace Go.Proofs.YtodgfechhielaaaGreatDoor
set_option linter.unusedSimpArgs false
set_option linter.unusedVariables false
open Go.RowKit

theorem qAbsT_c (n : Int) (w : World) (h1 : -1000000000000 ≤ n) (h2 : n ≤ 1000000000000) :
    Calls Tryz.prog 26 #[.int .i64 n] w fun e w' => e = .returned (.int .i64 (n.natAbs : Int)) ∧ w = w' := by
  by_cases h : n < 0
  all_goals
    go_enter Tryz.func26, Tryz.ntmps26
    go_wp2
    go_ret
    exact ⟨ret_i (by omega), rfl⟩
theorem qInts_c (v u : Value) (xs : List Int) (h1 h2 : Nat) (w : World) (hx : SeenI w h1 v xs) (hy : SeenI w h2 u xs) :
    Calls Tryz.prog 22 #[v, u] w fun e w' => e = .returned (.bool true) ∧ Below w.heap.size w w' := by
  obtain ⟨A, cap, rfl, hm, hv⟩ := hx
  obtain ⟨A', cap', rfl, -, hv'⟩ := hy
  go_enter Tryz.func22, Tryz.ntmps22
  go_wp2
  go_loopw [13] (fun vi wr => ∃ k : Nat, k ≤ xs.length ∧ vi = .int .i64 k ∧ Below w.heap.size w wr ∧ (∀ p, wr.cell? p = w.cell? p)) (fun vi _ => xs.length - (intOf vi).toNat)
  case atStart => exact ⟨0, by omega, rfl, Below.refl _ _, fun _ => rfl⟩
  case round =>
    obtain ⟨k, hk, rfl, hbr, hc⟩ := hrel
    have Hc := Lib.hid hc
    clear hc
    by_cases hlt : k < xs.length
    · obtain ⟨g, x, rfl, hg, hx, hcell⟩ := hv k hlt
      obtain ⟨g', x', rfl, hg', hx', hcell'⟩ := hv' k hlt
      obtain rfl := Option.some.inj (hx.out.symm.trans hx'.out)
      have q0 := (Hc.out _).trans hcell
      have q1 := (Hc.out _).trans hcell'
      clear hv hv' hcell hcell'
      go_wp2
      go_quiet (fail)
      go_wp2
      go_roundw
      case rel => exact ⟨k + 1, by omega, by go_num, below_drewN hbr _, fun p => Hc.out p⟩
      case measure => simp [intOf]; omega
    · obtain rfl : k = xs.length := by omega
      clear hv hv'
      go_wp2
      go_ret
      exact ⟨rfl, hbr⟩
theorem qLists_c (v u : Value) (xs : List (List Int)) (w : World) (h1 h2 : Nat) (hx : SeenII w h1 v xs) (hy : SeenII w h2 u xs) (hh1 : h1 ≤ w.heap.size) (hh2 : h2 ≤ w.heap.size) :
    Calls Tryz.prog 21 #[v, u] w fun e w' => e = .returned (.bool true) ∧ Below w.heap.size w w' := by
  obtain ⟨a, cap, rfl, hm, hv⟩ := hx
  obtain ⟨a', cap', rfl, -, hv'⟩ := hy
  go_enter Tryz.func21, Tryz.ntmps21
  go_wp2
  go_loopw [13] (fun vi wr => ∃ k : Nat, k ≤ xs.length ∧ vi = .int .i64 k ∧ Below w.heap.size w wr) (fun vi _ => xs.length - (intOf vi).toNat)
  case atStart => exact ⟨0, by omega, rfl, Below.refl _ _⟩
  case round =>
    obtain ⟨k, hk, rfl, hbr⟩ := hrel
    by_cases hlt : k < xs.length
    · obtain ⟨g, z, r, rfl, hg, hr, hcell, hz⟩ := hv k hlt
      obtain ⟨g', z', r', rfl, hg', hr', hcell', hz'⟩ := hv' k hlt
      obtain rfl := Option.some.inj (hr.out.symm.trans hr'.out)
      have e1 := (hbr.cell (p := ⟨g, k, none⟩) (by show g < _; omega)).trans hcell
      have e2 := (hbr.cell (p := ⟨g', k, none⟩) (by show g' < _; omega)).trans hcell'
      clear hv hv' hcell hcell'
      have E := fun (w' : World) (hb : Below wr.heap.size wr w') => qInts_c z z' r h1 h2 w' (hz.below ((hbr.mono hh1).trans (hb.mono (Nat.le_trans hh1 hbr.size)))) (hz'.below ((hbr.mono hh2).trans (hb.mono (Nat.le_trans hh2 hbr.size))))
      have E := Lib.hid E
      clear hr hr' hz hz'
      go_wp2
      first | go_region_held3 (fun W => W.cell? ⟨g, k, none⟩ = some z ∧ W.cell? ⟨g', k, none⟩ = some z') (first | exact ⟨keepCell (by assumption) (by assumption), keepCell (by assumption) (by assumption)⟩ | (go_split_ands; exact ⟨keepCell (by assumption) (by assumption), keepCell (by assumption) (by assumption)⟩) | go_keep) ((go_at_call 22; (with_reducible refine (E.out _ (by repeat (first | exact Below.refl _ _ | refine below_alloc ?_ _ | refine below_step ?_ (by assumption) | refine Below.drew ?_ | refine Below.setCell ?_ (by first | exact Nat.le_refl _ | exact Nat.le_add_right _ _ | (simp <;> omega)) _ | refine below_drewN ?_ _))).mono ?_); rintro e w3 ⟨rfl, hb3⟩)) | fail
      go_wp2
      go_roundw
      case rel => exact ⟨k + 1, by omega, by go_num, by have := hbr; exact (by repeat (first | exact Below.refl _ _ | refine below_alloc ?_ _ | refine below_step ?_ (by assumption) | refine Below.drew ?_ | refine Below.setCell ?_ (by first | exact Nat.le_refl _ | exact Nat.le_add_right _ _ | (simp <;> omega)) _ | refine below_drewN ?_ _))⟩
      case measure => simp [intOf]; omega
    · obtain rfl : k = xs.length := by omega
      clear hv hv'
      go_wp2
      go_ret
      exact ⟨rfl, hbr⟩
theorem qHas_c (v : Value) (xs : List Int) (n : Int) (h1 : Nat) (w : World) (hx : SeenI w h1 v xs) :
    Calls Tryz.prog 25 #[v, .int .i64 n] w fun e w' => e = .returned (.bool (decide (n ∈ xs))) ∧ Below w.heap.size w w' := by
  obtain ⟨A, cap, rfl, hm, hv⟩ := hx
  go_enter Tryz.func25, Tryz.ntmps25
  go_wp2
  go_loopw [6, 9] (fun _ vi wr => ∃ k : Nat, k ≤ xs.length ∧ vi = .int .i64 k ∧ (∀ j x, j < k → xs[j]? = some x → x ≠ n) ∧ Below w.heap.size w wr ∧ (∀ p, wr.cell? p = w.cell? p)) (fun _ vi _ => xs.length - (intOf vi).toNat)
  case atStart => exact ⟨0, by omega, rfl, fun j x h => by omega, Below.refl _ _, fun _ => rfl⟩
  case round =>
    obtain ⟨k, hk, rfl, hall, hbr, hc⟩ := hrel
    have Hc := Lib.hid hc
    have Hall := Lib.hid hall
    clear hc hall
    by_cases hlt : k < xs.length
    · obtain ⟨g, x, rfl, hg, hx, hcell⟩ := hv k hlt
      have q0 := (Hc.out _).trans hcell
      clear hv hcell
      by_cases hxn : x = n
      · subst hxn
        go_wp2
        go_ret
        exact ⟨ret_b (by symm; rw [decide_eq_true_eq]; exact List.mem_of_getElem? hx.out), hbr⟩
      · have hne : (x == n) = false := by simpa using hxn
        go_wp2
        go_roundw
        case rel => exact ⟨k + 1, by omega, by go_num, fun j y hj hy => by
          rcases Nat.lt_or_ge j k with hh | hh
          · exact Hall.out j y hh hy
          · obtain rfl : j = k := by omega
            obtain rfl := Option.some.inj (hx.out.symm.trans hy)
            exact hxn, hbr, fun p => Hc.out p⟩
        case measure => simp [intOf]; omega
    · obtain rfl : k = xs.length := by omega
      clear hv
      go_wp2
      go_ret
      refine ⟨ret_b ?_, hbr⟩
      symm
      rw [decide_eq_false_iff_not]
      intro hmem
      obtain ⟨j, hj⟩ := List.getElem?_of_mem hmem
      exact Hall.out j n (by have := (List.getElem?_eq_some_iff.1 hj).1; omega) hj rfl
theorem traceLimit_c (g B : Nat) (v : Value) (n K : Nat) (w : World) (h : CurK w g B v n K) (hk : K ≤ 800000000) :
    Calls Tryz.prog 28 #[.pointer (some ⟨g, 0, none⟩)] w fun e w' => ∃ x : Int, e = .returned (.int .i64 x) ∧ CurK w' g B v n (K + 4) ∧ w.grownBy w' (some g) := by
  have st := St.start h
  go_enter Tryz.func28, Tryz.ntmps28
  go_wp2_with fail
  have st := st.alloc (.cells #[.int .i64 4, .int .i64 201, .int .i64 (-1)] 3)
  refine (among_c g B v n _ [4, 201, -1] w.heap.size 3 _ st.cur (by omega) rfl (by omega) (by omega) (by have := h.size; omega) (lit_cells _ _ _)).mono ?_; rintro e w1 ⟨x, rfl, hx, hc1, hg1⟩
  have st := st.call hc1 hg1
  go_wp2_with fail
  have st2 := st.alloc (.cells #[.int .i64 5, .int .i64 6, .int .i64 13, .int .i64 30, .int .i64 50, .int .i64 200, .int .i64 x] 3)
  refine (among_c g B v n _ [5, 6, 13, 30, 50, 200, x] w1.heap.size 7 _ st2.cur (by omega) rfl (by omega) (by omega) (by have := st.size; omega) (lit_cells _ _ _)).mono ?_; rintro e w2 ⟨y, rfl, hy, hc2, hg2⟩
  have st := st2.call hc2 hg2
  go_wp2
  go_ret
  exact ⟨y, rfl, st.cur, st.gr⟩
set_option maxHeartbeats 4000000 in
theorem drawTracesUpTo_c (v : Value) (n : Nat) (w : World) (h : Bytes w w.heap.size v n) :
    Calls Tryz.prog 4 #[v] w (DrawCI w) := by
  obtain ⟨A, cap, rfl, hn, hb_⟩ := h
  have h : Bytes w w.heap.size (.slice A n cap) n := ⟨A, cap, rfl, hn, hb_⟩
  clear hb_ hn
  have st := St.new h (W := w.alloc (.cells #[.int .i64 0, .int .i64 0] 24)) (by exact (Below.refl _ _).alloc (Nat.le_refl _) _) 58
  rw [World.size_alloc] at st
  have zr := (Box.new w 0 0 24).alloc (.cells #[.slice A n cap, .int .i64 0, .int .u64 0] 58)
  have nzr : w.heap.size ≠ w.heap.size + 1 := by omega
  clear h
  go_enter Tryz.func4, Tryz.ntmps4
  go_wp2_with fail
  refine (anyCurve_c _ w.heap.size _ n _ _ st.cur (by omega)).mono ?_; rintro e w_c ⟨a, b, rfl, hc_, hg_⟩
  replace st := st.call hc_ hg_
  have sz_c := hg_.size
  replace zr := zr.keepG hg_ nzr
  clear hc_ hg_
  go_wp2_with fail
  refine (traceLimit_c _ w.heap.size _ n _ _ st.cur (by omega)).mono ?_; rintro e w_d ⟨d, rfl, hc_, hg_⟩
  replace st := st.call hc_ hg_
  have sz_d := hg_.size
  replace zr := zr.keepG hg_ nzr
  clear hc_ hg_
  have q_zr0 := zr.c0
  have q_zr1 := zr.c1
  have q_zrf := zr.f0
  have q_zrg := zr.f1
  have q_zrs := zr.size
  have hBL := st.below (Nat.le_succ _)
  go_wp2
  exact bodyPost_ret (v := .tuple #[.agg #[.int .i64 a, .int .i64 b], .int .i64 d]) (by simp [results, Tryz.results4, go_sem, *]) rfl (⟨a, b, d, rfl, (by repeat (first | exact Below.refl _ _ | refine below_alloc ?_ _ | refine below_step ?_ (by assumption) | refine Below.drew ?_ | refine Below.setCell ?_ (by first | exact Nat.le_refl _ | exact Nat.le_add_right _ _ | (simp <;> omega)) _ | refine below_drewN ?_ _))⟩)
set_option maxHeartbeats 4000000 in
theorem drawPrimesWithTrace_c (v : Value) (n : Nat) (w : World) (h : Bytes w w.heap.size v n) :
    Calls Tryz.prog 13 #[v] w (DrawCII w) := by
  obtain ⟨A, cap, rfl, hn, hb_⟩ := h
  have h : Bytes w w.heap.size (.slice A n cap) n := ⟨A, cap, rfl, hn, hb_⟩
  clear hb_ hn
  have st := St.new h (W := w.alloc (.cells #[.int .i64 0, .int .i64 0] 24)) (by exact (Below.refl _ _).alloc (Nat.le_refl _) _) 58
  rw [World.size_alloc] at st
  have zr := (Box.new w 0 0 24).alloc (.cells #[.slice A n cap, .int .i64 0, .int .u64 0] 58)
  have nzr : w.heap.size ≠ w.heap.size + 1 := by omega
  clear h
  go_enter Tryz.func13, Tryz.ntmps13
  go_wp2_with fail
  refine (anyCurve_c _ w.heap.size _ n _ _ st.cur (by omega)).mono ?_; rintro e w_d ⟨a, b, rfl, hc_, hg_⟩
  replace st := st.call hc_ hg_
  have sz_c := hg_.size
  replace zr := zr.keepG hg_ nzr
  clear hc_ hg_
  have s1 := st.size
  go_wp2_with fail
  replace st := st.alloc (.cells #[.int .i64 100, .int .i64 101, .int .i64 (-101)] 3)
  replace zr := zr.alloc (.cells #[.int .i64 100, .int .i64 101, .int .i64 (-101)] 3)
  refine (among_c _ w.heap.size _ n _ [100, 101, -101] w_d.heap.size 3 _ st.cur (by omega) rfl (by omega) (by omega) (by omega) (lit_cells _ _ _)).mono ?_; rintro e w_1 ⟨x, rfl, -, hc_, hg_⟩
  replace st := st.call hc_ hg_
  have sz_1 := hg_.size
  replace zr := zr.keepG hg_ nzr
  clear hc_ hg_
  have s2 := st.size
  go_wp2_with fail
  replace st := st.alloc (.cells #[.int .i64 0, .int .i64 0, .int .i64 1, .int .i64 (-1), .int .i64 2, .int .i64 (-4), .int .i64 x] 3)
  replace zr := zr.alloc (.cells #[.int .i64 0, .int .i64 0, .int .i64 1, .int .i64 (-1), .int .i64 2, .int .i64 (-4), .int .i64 x] 3)
  refine (among_c _ w.heap.size _ n _ [0, 0, 1, -1, 2, -4, x] w_1.heap.size 7 _ st.cur (by omega) rfl (by omega) (by omega) (by omega) (lit_cells _ _ _)).mono ?_; rintro e w_2 ⟨t, rfl, -, hc_, hg_⟩
  replace st := st.call hc_ hg_
  have sz_2 := hg_.size
  replace zr := zr.keepG hg_ nzr
  clear hc_ hg_
  go_wp2_with fail
  refine (traceLimit_c _ w.heap.size _ n _ _ st.cur (by omega)).mono ?_; rintro e w_3 ⟨d, rfl, hc_, hg_⟩
  replace st := st.call hc_ hg_
  have sz_3 := hg_.size
  replace zr := zr.keepG hg_ nzr
  clear hc_ hg_
  have q_zr0 := zr.c0
  have q_zr1 := zr.c1
  have q_zrf := zr.f0
  have q_zrg := zr.f1
  have q_zrs := zr.size
  have hBL := st.below (Nat.le_succ _)
  go_wp2
  exact bodyPost_ret (v := .tuple #[.agg #[.int .i64 a, .int .i64 b], .int .i64 t, .int .i64 d]) (by simp [results, Tryz.results13, go_sem, *]) rfl (⟨a, b, t, d, rfl, (by repeat (first | exact Below.refl _ _ | refine below_alloc ?_ _ | refine below_step ?_ (by assumption) | refine Below.drew ?_ | refine Below.setCell ?_ (by first | exact Nat.le_refl _ | exact Nat.le_add_right _ _ | (simp <;> omega)) _ | refine below_drewN ?_ _))⟩)
theorem scaleCurve_c (a b : Int) (w : World) :
    Calls Tryz.prog 51 #[.agg #[.int .i64 a, .int .i64 b], .int .i64 2] w fun e w' => ∃ (x y : Int) (ok : Bool), e = .returned (.tuple #[.agg #[.int .i64 x, .int .i64 y], .bool ok]) ∧ Below w.heap.size w w' := by
  cases h1 : M.good a b
  · go_enter Tryz.func51, Tryz.ntmps51
    go_wp2_with (go_at_call 55; refine (ecGood_c _ _ _).mono ?_; rintro e w' ⟨rfl, hb⟩; have hz_ := hb.size; (try simp only [World.size_alloc, heap_drew, World.heap_drewN, size_setCell] at hz_); have hs0_ : w.heap.size < w'.heap.size := (by omega); have hk0_ := fun o => (bcell hb).1 (w.heap.size) o (by (try simp only [World.size_alloc, heap_drew, World.heap_drewN, size_setCell]); omega); have hl0_ := fun o => (bcell hb).2.1 (w.heap.size) o (by (try simp only [World.size_alloc, heap_drew, World.heap_drewN, size_setCell]); omega); have hs1_ : w.heap.size + 1 < w'.heap.size := (by omega); have hk1_ := fun o => (bcell hb).1 (w.heap.size + 1) o (by (try simp only [World.size_alloc, heap_drew, World.heap_drewN, size_setCell]); omega); have hl1_ := fun o => (bcell hb).2.1 (w.heap.size + 1) o (by (try simp only [World.size_alloc, heap_drew, World.heap_drewN, size_setCell]); omega))
    exact bodyPost_ret (v := .tuple #[.agg #[.int .i64 0, .int .i64 0], .bool false]) (by simp [results, Tryz.results51, go_sem, *]) rfl (⟨_, _, _, rfl, (by repeat (first | exact Below.refl _ _ | refine below_alloc ?_ _ | refine below_step ?_ (by assumption) | refine Below.drew ?_ | refine Below.setCell ?_ (by first | exact Nat.le_refl _ | exact Nat.le_add_right _ _ | (simp <;> omega)) _ | refine below_drewN ?_ _))⟩)
  · obtain ⟨b1, b2, b3, b4⟩ := M.inCurve_bd (M.good_in h1)
    have G1 := fun w => ecGood_c a b w
    rw [h1] at G1
    have L1 := fun w => l1In_c 2 1 5 w
    rw [show M.ins 2 1 5 = true from by decide] at L1
    have G1 := Lib.hid G1
    have L1 := Lib.hid L1
    clear h1
    go_enter Tryz.func51, Tryz.ntmps51
    go_wp2_with fail
    refine (G1.out _).mono ?_; rintro e w2 ⟨rfl, hb2⟩
    have hz_ := hb2.size; (try simp only [World.size_alloc, heap_drew, World.heap_drewN, size_setCell] at hz_); have hs0_ : w.heap.size < w2.heap.size := (by omega); have hk0_ := fun o => (bcell hb2).1 (w.heap.size) o (by (try simp only [World.size_alloc, heap_drew, World.heap_drewN, size_setCell]); omega); have hl0_ := fun o => (bcell hb2).2.1 (w.heap.size) o (by (try simp only [World.size_alloc, heap_drew, World.heap_drewN, size_setCell]); omega); have hs1_ : w.heap.size + 1 < w2.heap.size := (by omega); have hk1_ := fun o => (bcell hb2).1 (w.heap.size + 1) o (by (try simp only [World.size_alloc, heap_drew, World.heap_drewN, size_setCell]); omega); have hl1_ := fun o => (bcell hb2).2.1 (w.heap.size + 1) o (by (try simp only [World.size_alloc, heap_drew, World.heap_drewN, size_setCell]); omega)
    go_wp2_with (go_at_call 49; refine (L1.out _).mono ?_; rintro e w' ⟨rfl, rfl⟩)
    refine (ecGood_c _ _ _).mono ?_; rintro e w3 ⟨rfl, hb3⟩
    have hz_ := hb3.size; (try simp only [World.size_alloc, heap_drew, World.heap_drewN, size_setCell] at hz_); have hs0_ : w.heap.size < w3.heap.size := (by omega); have hk0_ := fun o => (bcell hb3).1 (w.heap.size) o (by (try simp only [World.size_alloc, heap_drew, World.heap_drewN, size_setCell]); omega); have hl0_ := fun o => (bcell hb3).2.1 (w.heap.size) o (by (try simp only [World.size_alloc, heap_drew, World.heap_drewN, size_setCell]); omega); have hs1_ : w.heap.size + 1 < w3.heap.size := (by omega); have hk1_ := fun o => (bcell hb3).1 (w.heap.size + 1) o (by (try simp only [World.size_alloc, heap_drew, World.heap_drewN, size_setCell]); omega); have hl1_ := fun o => (bcell hb3).2.1 (w.heap.size + 1) o (by (try simp only [World.size_alloc, heap_drew, World.heap_drewN, size_setCell]); omega); have hs2_ : w2.heap.size < w3.heap.size := (by omega); have hk2_ := fun o => (bcell hb3).1 (w2.heap.size) o (by (try simp only [World.size_alloc, heap_drew, World.heap_drewN, size_setCell]); omega); have hl2_ := fun o => (bcell hb3).2.1 (w2.heap.size) o (by (try simp only [World.size_alloc, heap_drew, World.heap_drewN, size_setCell]); omega)
    generalize M.good _ _ = q
    cases q
    · go_wp2
      exact bodyPost_ret (v := .tuple #[.agg #[.int .i64 0, .int .i64 0], .bool false]) (by simp [results, Tryz.results51, go_sem, *]) rfl (⟨_, _, _, rfl, (by repeat (first | exact Below.refl _ _ | refine below_alloc ?_ _ | refine below_step ?_ (by assumption) | refine Below.drew ?_ | refine Below.setCell ?_ (by first | exact Nat.le_refl _ | exact Nat.le_add_right _ _ | (simp <;> omega)) _ | refine below_drewN ?_ _))⟩)
    · go_wp2
      exact bodyPost_ret (v := .tuple #[.agg #[.int .i64 (a * 2 * 2 * 2 * 2), .int .i64 (b * 2 * 2 * 2 * 2 * 2 * 2)], .bool true]) (by simp [results, Tryz.results51, go_sem, *]) rfl (⟨_, _, _, rfl, (by repeat (first | exact Below.refl _ _ | refine below_alloc ?_ _ | refine below_step ?_ (by assumption) | refine Below.drew ?_ | refine Below.setCell ?_ (by first | exact Nat.le_refl _ | exact Nat.le_add_right _ _ | (simp <;> omega)) _ | refine below_drewN ?_ _))⟩)
theorem tcGood_c (a b : Int) (w : World) :
    Calls Tryz.prog 77 #[.agg #[.int .i64 a, .int .i64 b]] w fun e w' => ∃ ok : Bool, e = .returned (.bool ok) ∧ (ok = true → (-300 ≤ a ∧ a ≤ 300) ∧ (-300 ≤ b ∧ b ≤ 300)) ∧ Below w.heap.size w w' := by
  cases h1 : M.ins a (-300) 300
  · go_enter Tryz.func77, Tryz.ntmps77
    go_wp2_with (go_at_call 49; refine (l1In_c _ _ _ _).mono ?_; rintro e w' ⟨rfl, rfl⟩)
    go_ret; exact ⟨false, rfl, by simp, (by repeat (first | exact Below.refl _ _ | refine below_alloc ?_ _ | refine below_step ?_ (by assumption) | refine Below.drew ?_ | refine Below.setCell ?_ (by first | exact Nat.le_refl _ | exact Nat.le_add_right _ _ | (simp <;> omega)) _ | refine below_drewN ?_ _))⟩
  · cases h2 : M.ins b (-300) 300
    · go_enter Tryz.func77, Tryz.ntmps77
      go_wp2_with (go_at_call 49; refine (l1In_c _ _ _ _).mono ?_; rintro e w' ⟨rfl, rfl⟩)
      go_ret; exact ⟨false, rfl, by simp, (by repeat (first | exact Below.refl _ _ | refine below_alloc ?_ _ | refine below_step ?_ (by assumption) | refine Below.drew ?_ | refine Below.setCell ?_ (by first | exact Nat.le_refl _ | exact Nat.le_add_right _ _ | (simp <;> omega)) _ | refine below_drewN ?_ _))⟩
    · have i1 := M.ins_t h1
      have i2 := M.ins_t h2
      have hs := M.mul_bd i1.1 i1.2 i1.1 i1.2
      go_enter Tryz.func77, Tryz.ntmps77
      go_wp2_with (go_at_call 49; refine (l1In_c _ _ _ _).mono ?_; rintro e w' ⟨rfl, rfl⟩)
      all_goals (go_ret; exact ⟨_, rfl, fun _ => ⟨i1, i2⟩, (by repeat (first | exact Below.refl _ _ | refine below_alloc ?_ _ | refine below_step ?_ (by assumption) | refine Below.drew ?_ | refine Below.setCell ?_ (by first | exact Nat.le_refl _ | exact Nat.le_add_right _ _ | (simp <;> omega)) _ | refine below_drewN ?_ _))⟩)
theorem tcDual_c (a b : Int) (w : World) (a1 : -300 ≤ a) (a2 : a ≤ 300) (b1 : -300 ≤ b) (b2 : b ≤ 300) :
    Calls Tryz.prog 54 #[.agg #[.int .i64 a, .int .i64 b]] w fun e w' => ∃ y : Int, e = .returned (.tuple #[.int .i64 (-2 * a), .int .i64 y]) ∧ (-100000 ≤ y ∧ y ≤ 100000) ∧ Below w.heap.size w w' := by
  have hs := M.mul_bd a1 a2 a1 a2
  go_enter Tryz.func54, Tryz.ntmps54
  go_wp2
  go_quiet (fail)
  go_wp2
  go_ret2
  exact ⟨a * a - 4 * b, rfl, by omega, (by repeat (first | exact Below.refl _ _ | refine below_alloc ?_ _ | refine below_step ?_ (by assumption) | refine Below.drew ?_ | refine Below.setCell ?_ (by first | exact Nat.le_refl _ | exact Nat.le_add_right _ _ | (simp <;> omega)) _ | refine below_drewN ?_ _))⟩
theorem tcPlain_c (k b : Int) (w : World) (a1 : -300 ≤ k) (a2 : k ≤ 300) (b1 : -100000 ≤ b) (b2 : b ≤ 100000) :
    Calls Tryz.prog 53 #[.agg #[.int .i64 (3 * k), .int .i64 b]] w fun e w' => ∃ x y p q : Int, e = .returned (.tuple #[.agg #[.int .i64 x, .int .i64 y], .int .i64 p, .int .i64 q]) ∧ Below w.heap.size w w' := by
  have h1 := M.mul_bd (x := 3 * k) (y := k) (m := 900) (n := 300) (by omega) (by omega) a1 a2
  have h2 := M.mul_bd (x := 2 * k) (y := k) (m := 600) (n := 300) (by omega) (by omega) a1 a2
  have h3 := M.mul_bd (x := 2 * k * k) (y := k) (m := 180000) (n := 300) (by omega) (by omega) a1 a2
  have h4 := M.mul_bd (x := k) (y := b) (m := 300) (n := 100000) a1 a2 b1 b2
  have t1 : Int.tmod (3 * k) 3 = 0 := by simp
  have t2 : Int.tdiv (3 * k) 3 = k := by simp
  go_enter Tryz.func53, Tryz.ntmps53
  go_wp2
  clear t1 t2 h1 h2 h3 h4
  exact bodyPost_ret (v := .tuple #[.agg #[.int .i64 (b - 3 * k * k), .int .i64 (2 * k * k * k - k * b)], .int .i64 1, .int .i64 k]) (by simp [results, Tryz.results53, go_sem, *]) rfl (⟨_, _, _, _, rfl, (by repeat (first | exact Below.refl _ _ | refine below_alloc ?_ _ | refine below_step ?_ (by assumption) | refine Below.drew ?_ | refine Below.setCell ?_ (by first | exact Nat.le_refl _ | exact Nat.le_add_right _ _ | (simp <;> omega)) _ | refine below_drewN ?_ _))⟩)
theorem tcPlainQ_c (a k b : Int) (w : World) (ha : a = 3 * k) (a1 : -300 ≤ k) (a2 : k ≤ 300) (b1 : -100000 ≤ b) (b2 : b ≤ 100000) :
    Calls Tryz.prog 53 #[.agg #[.int .i64 a, .int .i64 b]] w fun e w' => ∃ x y p q : Int, e = .returned (.tuple #[.agg #[.int .i64 x, .int .i64 y], .int .i64 p, .int .i64 q]) ∧ Below w.heap.size w w' := by
  subst ha
  exact tcPlain_c k b w a1 a2 b1 b2
end Go.Proofs.YtodgfechhielaaaGreatDoor
