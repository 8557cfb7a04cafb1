/-
  Contracts for the law on traces: primes that are drawn, counts.
-/
import Derived.Test.YtjolmigpeghaoaaJ5
import Derived.Test.YtjolmigpeghaoaaM5
namespace Go.Proofs.Ytjolmigpeghaoaa
set_option linter.unusedSimpArgs false
set_option linter.unusedVariables false
open Go.RowKit

theorem primeOfM_c (g B : Nat) (v : Value) (n K : Nat) (w : World) (h : CurK w g B v n K) (hk : K ≤ 800000000) :
    Calls Try.prog 41 #[.pointer (some ⟨g, 0, none⟩)] w fun e w' => ∃ x : Int, e = .returned (.int .i64 x) ∧ dP x ∧ CurK w' g B v n (K + 4) ∧ w.grownBy w' (some g) := by
  have st := St.start h
  go_enter Try.func41, Try.ntmps41
  go_wp2_with fail
  have st := st.alloc (.cells #[.int .i64 0, .int .i64 1, .int .i64 4, .int .i64 91, .int .i64 1009, .int .i64 (-7)] 3)
  refine (among_c g B v n _ [0, 1, 4, 91, 1009, -7] w.heap.size 6 _ st.cur (by omega) rfl (by omega) (by omega) (by have := h.size; omega) (lit_cells _ _ _)).mono ?_; rintro e w1 ⟨x, rfl, hx, hc1, hg1⟩
  have st := st.call hc1 hg1
  have Hx := Lib.hid hx
  clear hx
  go_wp2_with fail
  have st2 := st.alloc (.cells #[.int .i64 2, .int .i64 3, .int .i64 5, .int .i64 7, .int .i64 11, .int .i64 13, .int .i64 17, .int .i64 31, .int .i64 97, .int .i64 101, .int .i64 991, .int .i64 997, .int .i64 x] 3)
  refine (among_c g B v n _ [2, 3, 5, 7, 11, 13, 17, 31, 97, 101, 991, 997, x] w1.heap.size 13 _ st2.cur (by omega) rfl (by omega) (by omega) (by have := st.size; omega) (lit_cells _ _ _)).mono ?_; rintro e w2 ⟨y, rfl, hy, hc2, hg2⟩
  have st := st2.call hc2 hg2
  have Hy : Hid (dP y) := Lib.hid (by
    have hx := Hx.out
    unfold dP
    simp only [List.mem_cons, List.not_mem_nil, or_false] at hx hy ⊢
    omega)
  clear hy
  go_wp2
  go_ret
  exact ⟨y, rfl, Hy.out, st.cur, st.gr⟩
theorem goodPrimeOf_c (g B : Nat) (v : Value) (n K : Nat) (w : World) (h : CurK w g B v n K) (hk : K ≤ 700000000) :
    Calls Try.prog 20 #[.pointer (some ⟨g, 0, none⟩)] w fun e w' => ∃ x : Int, e = .returned (.int .i64 x) ∧ dG x ∧ CurK w' g B v n (K + 6) ∧ w.grownBy w' (some g) := by
  have st := St.start h
  go_enter Try.func20, Try.ntmps20
  go_wp2_with fail
  refine (primeOfM_c g B v n _ _ st.cur (by omega)).mono ?_; rintro e w1 ⟨x, rfl, hx, hc1, hg1⟩
  have st := st.call hc1 hg1
  have Hx := Lib.hid hx
  clear hx
  go_wp2_with fail
  have st2 := st.alloc (.cells #[.int .i64 5, .int .i64 7, .int .i64 11, .int .i64 13, .int .i64 17, .int .i64 19, .int .i64 23, .int .i64 97, .int .i64 x] 3)
  refine (among_c g B v n _ [5, 7, 11, 13, 17, 19, 23, 97, x] w1.heap.size 9 _ st2.cur (by omega) rfl (by omega) (by omega) (by have := st.size; omega) (lit_cells _ _ _)).mono ?_; rintro e w2 ⟨y, rfl, hy, hc2, hg2⟩
  have st := st2.call hc2 hg2
  have Hy : Hid (dG y) := Lib.hid (by
    have hx := Hx.out
    unfold dG
    simp only [List.mem_cons, List.not_mem_nil, or_false] at hy ⊢
    rcases hy with rfl | rfl | rfl | rfl | rfl | rfl | rfl | rfl | rfl <;> first | exact Or.inr hx | (left; omega))
  clear hy
  go_wp2
  go_ret
  exact ⟨y, rfl, Hy.out, st.cur, st.gr⟩
def DrawCG (w : World) (e : Ending) (w' : World) : Prop := ∃ a b d : Int, e = .returned (.tuple #[.agg #[.int .i64 a, .int .i64 b], .int .i64 d]) ∧ dG d ∧ Below w.heap.size w w'
set_option maxHeartbeats 4000000 in
theorem drawTraceAt_c (v : Value) (n : Nat) (w : World) (h : Bytes w w.heap.size v n) :
    Calls Try.prog 4 #[v] w (DrawCG w) := by
  obtain ⟨A, cap, rfl, hn, hb_⟩ := h
  have h : Bytes w w.heap.size (.slice A n cap) n := ⟨A, cap, rfl, hn, hb_⟩
  clear hb_ hn
  have st := St.new h (W := w.alloc (.cells #[.int .i64 0, .int .i64 0] 24)) (by exact (Below.refl _ _).alloc (Nat.le_refl _) _) 40
  rw [World.size_alloc] at st
  have zr := (Box.new w 0 0 24).alloc (.cells #[.slice A n cap, .int .i64 0, .int .u64 0] 40)
  have nzr : w.heap.size ≠ w.heap.size + 1 := by omega
  clear h
  go_enter Try.func4, Try.ntmps4
  go_wp2_with fail
  refine (anyCurve_c _ w.heap.size _ n _ _ st.cur (by omega)).mono ?_; rintro e w_c ⟨a, b, rfl, hc_, hg_⟩
  replace st := st.call hc_ hg_
  have sz_c := hg_.size
  replace zr := zr.keepG hg_ nzr
  clear hc_ hg_
  go_wp2_with fail
  refine (goodPrimeOf_c _ w.heap.size _ n _ _ st.cur (by omega)).mono ?_; rintro e w_d ⟨d, rfl, hd, hc_, hg_⟩
  have Hd := Lib.hid hd
  replace st := st.call hc_ hg_
  have sz_d := hg_.size
  replace zr := zr.keepG hg_ nzr
  clear hc_ hg_ hd
  have q_zr0 := zr.c0
  have q_zr1 := zr.c1
  have q_zrf := zr.f0
  have q_zrg := zr.f1
  have q_zrs := zr.size
  have hBL := st.below (Nat.le_succ _)
  go_wp2
  exact bodyPost_ret (v := .tuple #[.agg #[.int .i64 a, .int .i64 b], .int .i64 d]) (by simp [results, Try.results4, go_sem, *]) rfl (⟨a, b, d, rfl, Hd.out, (by repeat (first | exact Below.refl _ _ | refine below_alloc ?_ _ | refine below_step ?_ (by assumption) | refine Below.drew ?_ | refine Below.setCell ?_ (by first | exact Nat.le_refl _ | exact Nat.le_add_right _ _ | (simp <;> omega)) _ | refine below_drewN ?_ _))⟩)
set_option maxHeartbeats 4000000 in
theorem drawCountOver_c (v : Value) (n : Nat) (w : World) (h : Bytes w w.heap.size v n) :
    Calls Try.prog 11 #[v] w (DrawCII w) := by
  obtain ⟨A, cap, rfl, hn, hb_⟩ := h
  have h : Bytes w w.heap.size (.slice A n cap) n := ⟨A, cap, rfl, hn, hb_⟩
  clear hb_ hn
  have st := St.new h (W := w.alloc (.cells #[.int .i64 0, .int .i64 0] 24)) (by exact (Below.refl _ _).alloc (Nat.le_refl _) _) 40
  rw [World.size_alloc] at st
  have zr := (Box.new w 0 0 24).alloc (.cells #[.slice A n cap, .int .i64 0, .int .u64 0] 40)
  have nzr : w.heap.size ≠ w.heap.size + 1 := by omega
  clear h
  go_enter Try.func11, Try.ntmps11
  go_wp2_with fail
  refine (anyCurve_c _ w.heap.size _ n _ _ st.cur (by omega)).mono ?_; rintro e w_c ⟨a, b, rfl, hc_, hg_⟩
  replace st := st.call hc_ hg_
  have sz_c := hg_.size
  replace zr := zr.keepG hg_ nzr
  clear hc_ hg_
  go_wp2_with fail
  refine (goodPrimeOf_c _ w.heap.size _ n _ _ st.cur (by omega)).mono ?_; rintro e w_d ⟨d, rfl, -, hc_, hg_⟩
  replace st := st.call hc_ hg_
  have sz_d := hg_.size
  replace zr := zr.keepG hg_ nzr
  clear hc_ hg_
  have s1 := st.size
  go_wp2_with fail
  replace st := st.alloc (.cells #[.int .i64 0, .int .i64 5] 3)
  replace zr := zr.alloc (.cells #[.int .i64 0, .int .i64 5] 3)
  refine (among_c _ w.heap.size _ n _ [0, 5] w_d.heap.size 2 _ st.cur (by omega) rfl (by omega) (by omega) (by omega) (lit_cells _ _ _)).mono ?_; rintro e w_1 ⟨x, rfl, -, hc_, hg_⟩
  replace st := st.call hc_ hg_
  have sz_1 := hg_.size
  replace zr := zr.keepG hg_ nzr
  clear hc_ hg_
  have s2 := st.size
  go_wp2_with fail
  replace st := st.alloc (.cells #[.int .i64 1, .int .i64 2, .int .i64 3, .int .i64 4, .int .i64 x] 3)
  replace zr := zr.alloc (.cells #[.int .i64 1, .int .i64 2, .int .i64 3, .int .i64 4, .int .i64 x] 3)
  refine (among_c _ w.heap.size _ n _ [1, 2, 3, 4, x] w_1.heap.size 5 _ st.cur (by omega) rfl (by omega) (by omega) (by omega) (lit_cells _ _ _)).mono ?_; rintro e w_2 ⟨k, rfl, -, hc_, hg_⟩
  replace st := st.call hc_ hg_
  have sz_2 := hg_.size
  replace zr := zr.keepG hg_ nzr
  clear hc_ hg_
  have q_zr0 := zr.c0
  have q_zr1 := zr.c1
  have q_zrf := zr.f0
  have q_zrg := zr.f1
  have q_zrs := zr.size
  have hBL := st.below (Nat.le_succ _)
  go_wp2
  exact bodyPost_ret (v := .tuple #[.agg #[.int .i64 a, .int .i64 b], .int .i64 d, .int .i64 k]) (by simp [results, Try.results11, go_sem, *]) rfl (⟨a, b, d, k, rfl, (by repeat (first | exact Below.refl _ _ | refine below_alloc ?_ _ | refine below_step ?_ (by assumption) | refine Below.drew ?_ | refine Below.setCell ?_ (by first | exact Nat.le_refl _ | exact Nat.le_add_right _ _ | (simp <;> omega)) _ | refine below_drewN ?_ _))⟩)
theorem implCountPoints_c (a b p : Int) (w : World) (h1 : M.good a b = true) (h2 : M.goodp a b p = true) :
    Calls Try.prog 16 #[.agg #[.int .i64 a, .int .i64 b], .int .i64 p] w fun e w' => e = .returned (.tuple #[.int .i64 (M.count a b p), .bool true]) ∧ Below w.heap.size w w' := by
  have hin := M.good_in h1
  obtain ⟨p1, p2, -⟩ := M.goodp_bd h2
  have G1 := fun w => isCurve_c a b w
  have G2 := fun w => isGood_c a b p w hin
  have G3 := fun w => countPoints_c a b p w hin (by omega) (by omega)
  rw [h1] at G1
  rw [h2] at G2
  have G1 := Lib.hid G1
  have G2 := Lib.hid G2
  have G3 := Lib.hid G3
  clear h1 h2 hin
  generalize M.count a b p = c at *
  go_enter Try.func16, Try.ntmps16
  go_wp2_with (first | (go_at_call 21; refine (G1.out _).mono ?_; rintro e w' ⟨rfl, hb⟩; have hz_ := hb.size; (try simp only [World.size_alloc, heap_drew, World.heap_drewN, size_setCell] at hz_); have hs0_ : w.heap.size < w'.heap.size := (by omega); have hk0_ := fun o => (bcell hb).1 (w.heap.size) o (by (try simp only [World.size_alloc, heap_drew, World.heap_drewN, size_setCell]); omega); have hl0_ := fun o => (bcell hb).2.1 (w.heap.size) o (by (try simp only [World.size_alloc, heap_drew, World.heap_drewN, size_setCell]); omega)) | (go_at_call 22; refine (G2.out _).mono ?_; rintro e w' ⟨rfl, hb⟩; have hz_ := hb.size; (try simp only [World.size_alloc, heap_drew, World.heap_drewN, size_setCell] at hz_); have hs0_ : w.heap.size < w'.heap.size := (by omega); have hk0_ := fun o => (bcell hb).1 (w.heap.size) o (by (try simp only [World.size_alloc, heap_drew, World.heap_drewN, size_setCell]); omega); have hl0_ := fun o => (bcell hb).2.1 (w.heap.size) o (by (try simp only [World.size_alloc, heap_drew, World.heap_drewN, size_setCell]); omega)) | (go_at_call 37; refine (G3.out _).mono ?_; rintro e w' ⟨rfl, hb⟩; have hz_ := hb.size; (try simp only [World.size_alloc, heap_drew, World.heap_drewN, size_setCell] at hz_); have hs0_ : w.heap.size < w'.heap.size := (by omega); have hk0_ := fun o => (bcell hb).1 (w.heap.size) o (by (try simp only [World.size_alloc, heap_drew, World.heap_drewN, size_setCell]); omega); have hl0_ := fun o => (bcell hb).2.1 (w.heap.size) o (by (try simp only [World.size_alloc, heap_drew, World.heap_drewN, size_setCell]); omega)))
  go_ret2; exact ⟨rfl, (by repeat (first | exact Below.refl _ _ | refine below_alloc ?_ _ | refine below_step ?_ (by assumption) | refine Below.drew ?_ | refine Below.setCell ?_ (by first | exact Nat.le_refl _ | exact Nat.le_add_right _ _ | (simp <;> omega)) _ | refine below_drewN ?_ _))⟩
theorem specCountPoints_c (a b p : Int) (w : World) (h1 : M.good a b = true) (h2 : M.goodp a b p = true) :
    Calls Try.prog 18 #[.agg #[.int .i64 a, .int .i64 b], .int .i64 p] w fun e w' => e = .returned (.tuple #[.int .i64 (M.count a b p), .bool true]) ∧ Below w.heap.size w w' := by
  have hin := M.good_in h1
  obtain ⟨p1, p2, p3⟩ := M.goodp_bd h2
  have G1 := fun w => fmGood_c a b p w
  have G3 := fun w => fmCount_c a b p w hin p3 (by omega) (by omega)
  rw [h1, h2] at G1
  have G1 := Lib.hid G1
  have G3 := Lib.hid G3
  clear h1 h2 hin p3
  generalize M.count a b p = c at *
  go_enter Try.func18, Try.ntmps18
  go_wp2_with (first | (go_at_call 24; refine (G1.out _).mono ?_; rintro e w' ⟨rfl, hb⟩; have hz_ := hb.size; (try simp only [World.size_alloc, heap_drew, World.heap_drewN, size_setCell] at hz_); have hs0_ : w.heap.size < w'.heap.size := (by omega); have hk0_ := fun o => (bcell hb).1 (w.heap.size) o (by (try simp only [World.size_alloc, heap_drew, World.heap_drewN, size_setCell]); omega); have hl0_ := fun o => (bcell hb).2.1 (w.heap.size) o (by (try simp only [World.size_alloc, heap_drew, World.heap_drewN, size_setCell]); omega)) | (go_at_call 38; refine (G3.out _).mono ?_; rintro e w' ⟨rfl, hb⟩; have hz_ := hb.size; (try simp only [World.size_alloc, heap_drew, World.heap_drewN, size_setCell] at hz_); have hs0_ : w.heap.size < w'.heap.size := (by omega); have hk0_ := fun o => (bcell hb).1 (w.heap.size) o (by (try simp only [World.size_alloc, heap_drew, World.heap_drewN, size_setCell]); omega); have hl0_ := fun o => (bcell hb).2.1 (w.heap.size) o (by (try simp only [World.size_alloc, heap_drew, World.heap_drewN, size_setCell]); omega)))
  go_ret2; exact ⟨rfl, (by repeat (first | exact Below.refl _ _ | refine below_alloc ?_ _ | refine below_step ?_ (by assumption) | refine Below.drew ?_ | refine Below.setCell ?_ (by first | exact Nat.le_refl _ | exact Nat.le_add_right _ _ | (simp <;> omega)) _ | refine below_drewN ?_ _))⟩
theorem qAbs_c (n : Int) (w : World) (h1 : -1000000000000 ≤ n) (h2 : n ≤ 1000000000000) :
    Calls Try.prog 17 #[.int .i64 n] w fun e w' => e = .returned (.int .i64 (n.natAbs : Int)) ∧ w = w' := by
  by_cases h : n < 0
  all_goals
    go_enter Try.func17, Try.ntmps17
    go_wp2
    go_ret
    exact ⟨ret_i (by omega), rfl⟩
end Go.Proofs.Ytjolmigpeghaoaa
