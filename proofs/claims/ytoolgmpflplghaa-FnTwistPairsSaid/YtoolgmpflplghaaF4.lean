/-
  Contracts: the twist of the least discriminant.
-/
import Derived.Test.YtoolgmpflplghaaF3



import Derived.Test.YtoolgmpflplghaaPlain10
namespace Go.Proofs.Ytoolgmpflplghaa
set_option linter.unusedSimpArgs false
set_option linter.unusedVariables false
open Go.RowKit Go.Shelf

theorem grown_set {w0 w : World} {g : Nat} (h : w0.grownBy w (some g)) (o : Nat) (v : Value) : w0.grownBy (w.setCell ⟨g, o, none⟩ v) (some g) := by
  refine ⟨h.os, h.tape, h.output, by simpa [World.setCell] using h.size, fun i hi hne => ?_⟩
  exact (Below.heap_setCell _ _ _ _ (by rintro rfl; exact hne rfl)).trans (h.block i hi hne)
theorem grown_frozen {w w' : World} {row : Option Nat} (hg : w.grownBy w' row) {a : Addr} (hl : a.block < w.heap.size) (hne : some a.block ≠ row) : w'.frozen? a = w.frozen? a :=
  World.frozen?_of_block (hg.block _ hl hne)
theorem grown_drew {a b : World} {r : Option Nat} (h : a.grownBy b r) : a.grownBy b.drew r := grown_dr h 1
theorem below_gr {a b c : World} {r : Option Nat} (h : a.grownBy b r) (k : Below b.heap.size b c) : a.grownBy c r := grown_tr h (below_grown k r)

set_option maxHeartbeats 1000000 in
theorem specLeastTwist_c (a b : Int) (w : World) :
    Calls Try.prog 38 #[.agg #[.int .i64 a, .int .i64 b]] w fun r w' => r = .returned (.tuple #[.int .i64 (M.ltW a b).1, .agg #[.int .i64 (M.ltW a b).2.1, .int .i64 (M.ltW a b).2.2], .bool (M.good a b)]) ∧ Below w.heap.size w w' := by
  unfold M.ltW
  cases h1 : M.good a b
  · go_enter Try.func38, Try.ntmps38
    go_wp2_with (go_at_call 50; refine (ecGood_c _ _ _).mono ?_; rintro e w' ⟨rfl, hb⟩; have hz_ := hb.size; (try simp only [World.size_alloc, heap_drew, World.heap_drewN, size_setCell] at hz_); have hs0_ : w.heap.size < w'.heap.size := (by omega); have hk0_ := fun o => (bcell hb).1 (w.heap.size) o (by (try simp only [World.size_alloc, heap_drew, World.heap_drewN, size_setCell]); omega); have hl0_ := fun o => (bcell hb).2.1 (w.heap.size) o (by (try simp only [World.size_alloc, heap_drew, World.heap_drewN, size_setCell]); omega); have hs1_ : w.heap.size + 1 < w'.heap.size := (by omega); have hk1_ := fun o => (bcell hb).1 (w.heap.size + 1) o (by (try simp only [World.size_alloc, heap_drew, World.heap_drewN, size_setCell]); omega); have hl1_ := fun o => (bcell hb).2.1 (w.heap.size + 1) o (by (try simp only [World.size_alloc, heap_drew, World.heap_drewN, size_setCell]); omega))
    exact bodyPost_ret (v := .tuple #[.int .i64 0, .agg #[.int .i64 0, .int .i64 0], .bool false]) (by simp [results, Try.results38, go_sem, *]) rfl (⟨by simp [M.lt0], (by repeat (first | exact Below.refl _ _ | refine below_alloc ?_ _ | refine below_step ?_ (by assumption) | refine Below.drew ?_ | refine Below.setCell ?_ (by first | exact Nat.le_refl _ | exact Nat.le_add_right _ _ | (simp <;> omega)) _ | refine below_drewN ?_ _))⟩)
  · have hbq := Lib.hid (M.ltw_near a b)
    have HN := Lib.hid fun w => twNumbers_c w
    go_enter Try.func38, Try.ntmps38
    go_wp2_with (go_at_call 50; refine (ecGood_c _ _ _).mono ?_; rintro e w' ⟨rfl, hb⟩; have hz_ := hb.size; (try simp only [World.size_alloc, heap_drew, World.heap_drewN, size_setCell] at hz_); have hs0_ : w.heap.size < w'.heap.size := (by omega); have hk0_ := fun o => (bcell hb).1 (w.heap.size) o (by (try simp only [World.size_alloc, heap_drew, World.heap_drewN, size_setCell]); omega); have hl0_ := fun o => (bcell hb).2.1 (w.heap.size) o (by (try simp only [World.size_alloc, heap_drew, World.heap_drewN, size_setCell]); omega); have hs1_ : w.heap.size + 1 < w'.heap.size := (by omega); have hk1_ := fun o => (bcell hb).1 (w.heap.size + 1) o (by (try simp only [World.size_alloc, heap_drew, World.heap_drewN, size_setCell]); omega); have hl1_ := fun o => (bcell hb).2.1 (w.heap.size + 1) o (by (try simp only [World.size_alloc, heap_drew, World.heap_drewN, size_setCell]); omega))
    refine (HN.out _).mono ?_; rintro r w3 ⟨v3, rfl, hown3, hb3⟩
    have hz_ := hb3.size; (try simp only [World.size_alloc, heap_drew, World.heap_drewN, size_setCell] at hz_); have hs0_ : w.heap.size < w3.heap.size := (by omega); have hk0_ := fun o => (bcell hb3).1 (w.heap.size) o (by (try simp only [World.size_alloc, heap_drew, World.heap_drewN, size_setCell]); omega); have hl0_ := fun o => (bcell hb3).2.1 (w.heap.size) o (by (try simp only [World.size_alloc, heap_drew, World.heap_drewN, size_setCell]); omega); have hs1_ : w.heap.size + 1 < w3.heap.size := (by omega); have hk1_ := fun o => (bcell hb3).1 (w.heap.size + 1) o (by (try simp only [World.size_alloc, heap_drew, World.heap_drewN, size_setCell]); omega); have hl1_ := fun o => (bcell hb3).2.1 (w.heap.size + 1) o (by (try simp only [World.size_alloc, heap_drew, World.heap_drewN, size_setCell]); omega); have hs2_ : w'.heap.size < w3.heap.size := (by omega); have hk2_ := fun o => (bcell hb3).1 (w'.heap.size) o (by (try simp only [World.size_alloc, heap_drew, World.heap_drewN, size_setCell]); omega); have hl2_ := fun o => (bcell hb3).2.1 (w'.heap.size) o (by (try simp only [World.size_alloc, heap_drew, World.heap_drewN, size_setCell]); omega)
    have z3 : w.heap.size + 1 < w3.heap.size := by omega
    have zL : w'.heap.size < w3.heap.size := by omega
    have B3 : Below w.heap.size w w3 := (by repeat (first | exact Below.refl _ _ | refine below_alloc ?_ _ | refine below_step ?_ (by assumption) | refine Below.drew ?_ | refine Below.setCell ?_ (by first | exact Nat.le_refl _ | exact Nat.le_add_right _ _ | (simp <;> omega)) _ | refine below_drewN ?_ _))
    have d0 : w3.cell? ⟨w.heap.size, 0, none⟩ = some (.int .i64 a) := by simp [go_sem, *]
    have d1 : w3.cell? ⟨w.heap.size, 1, none⟩ = some (.int .i64 b) := by simp [go_sem, *]
    have d2 : w3.cell? ⟨w'.heap.size, 0, none⟩ = some (.int .i64 0) := by simp [go_sem, *]
    have d3 : w3.cell? ⟨w'.heap.size, 1, none⟩ = some (.int .i64 0) := by simp [go_sem, *]
    have d4 : w3.frozen? ⟨w'.heap.size, 0, none⟩ = false := by simp [go_sem, *]
    have d5 : w3.frozen? ⟨w'.heap.size, 1, none⟩ = false := by simp [go_sem, *]
    have d6 : w3.frozen? ⟨w.heap.size + 1, 0, none⟩ = false := by simp [go_sem, *]
    have d7 : w3.frozen? ⟨w.heap.size + 1, 1, none⟩ = false := by simp [go_sem, *]
    have d8 : w3.cell? ⟨w.heap.size + 1, 0, none⟩ = some (.int .i64 0) := by simp [go_sem, *]
    have d9 : w3.cell? ⟨w.heap.size + 1, 1, none⟩ = some (.int .i64 0) := by simp [go_sem, *]
    obtain ⟨A, cap, rfl, hm, hv⟩ := hown3.seen
    have hA3 : ∀ g, A = some ⟨g, 0, none⟩ → w'.heap.size < g := fun g e => by
      subst e
      have := (OwnI.lt hown3 g rfl).1
      simp at this
      omega
    clear hown3
    go_wp2
    have nL1 : w.heap.size ≠ w'.heap.size := by omega
    have nL2 : w.heap.size + 1 ≠ w'.heap.size := by omega
    clear hb hz_ hs0_ hk0_ hl0_ hs1_ hk1_ hl1_ hs2_ hk2_ hl2_ hb3
    clear hk0_ hl0_ hk1_ hl1_
    generalize hL : w'.heap.size = L at *
    clear hL
    go_loopw [5, 18] (fun vd vi wr => ∃ k : Nat, ∃ s0 s1 s2 : Int, k ≤ (M.near 30).length ∧ vi = .int .i64 k ∧ vd = .int .i64 s0 ∧ ((M.near 30).take k).foldl (M.ltStep' a b) M.lt0 = (s0, s1, s2) ∧ M.ltI (s0, s1, s2) ∧ wr.cell? ⟨L, 0, none⟩ = some (.int .i64 s1) ∧ wr.cell? ⟨L, 1, none⟩ = some (.int .i64 s2) ∧ wr.frozen? ⟨L, 0, none⟩ = false ∧ wr.frozen? ⟨L, 1, none⟩ = false ∧ w3.grownBy wr (some L)) (fun _ vi _ => (M.near 30).length - (intOf vi).toNat)
    case atStart => exact ⟨0, 0, 0, 0, by omega, rfl, rfl, rfl, Or.inl rfl, d2, d3, d4, d5, grown_rf _ _⟩
    case round =>
      obtain ⟨k, s0, s1, s2, hk, rfl, rfl, hs, hI, c0, c1, c2, c3, hg⟩ := hrel
      have Hs := Lib.hid hs
      clear hs
      have f0 := hg.cell d0 (by simp; omega)
      have f1 := hg.cell d1 (by simp; omega)
      have hzr := hg.size
      have n0 : w.heap.size < wr.heap.size := by omega
      have n1 : L < wr.heap.size := by omega
      by_cases hlt : k < (M.near 30).length
      · obtain ⟨g, d, rfl, hgl, hx, hcell⟩ := hv k hlt
        have hgL : L < g := hA3 g rfl
        have e0 := hg.cell hcell (by simp; omega)
        clear hv hcell hA3
        have hmn := (M.mem_near 30 d).1 (List.mem_of_getElem? hx.out)
        have m2 : -30 ≤ d := by omega
        have m3 : d ≤ 30 := by omega
        have hfn := Lib.hid ((M.foldl_next (M.ltStep' a b) M.lt0 hx.out).trans (by rw [Hs.out]))
        cases m1 : M.good (a * d * d) (b * d * d * d)
        · have HTW := Lib.hid fun w => twOf_f a b d w (M.good_in h1) m2 m3 m1
          go_wp2_with fail
          refine (HTW.out _).mono ?_; rintro r w4 ⟨rfl, hb4⟩
          go_wp2
          go_roundw
          case rel => exact ⟨k + 1, s0, s1, s2, by omega, by go_num, rfl, by rw [hfn.out]; simp [M.ltStep', M.twOk, m1], hI, keepCell (below_alloc hb4 _) c0, keepCell (below_alloc hb4 _) c1, keepFrz (below_alloc hb4 _) n1 c2, keepFrz (below_alloc hb4 _) n1 c3, below_gr hg (below_alloc hb4 _)⟩
          case measure => simp [intOf]; omega
        · have HTW := Lib.hid fun w => twOf_t a b d w (M.good_in h1) m2 m3 m1
          have HSM := Lib.hid fun w => ecSmallest_c (a * d * d) (b * d * d * d) w m1
          have hmg := M.sm_good m1
          have hlm : M.ltM a b d = (M.smA (a * d * d) (b * d * d * d), M.smB (a * d * d) (b * d * d * d)) := rfl
          generalize M.smA (a * d * d) (b * d * d * d) = x1 at *
          generalize M.smB (a * d * d) (b * d * d * d) = x2 at *
          generalize M.sm (a * d * d) (b * d * d * d) = x3 at *
          have Hlm := Lib.hid hlm
          clear hlm
          go_wp2_with fail
          refine (HTW.out _).mono ?_; rintro r w4 ⟨rfl, hb4⟩
          go_wp2_with fail
          refine (HSM.out _).mono ?_; rintro r w5 ⟨rfl, hb5⟩
          have hb6 : Below wr.heap.size wr w5 := (below_alloc hb4 _).trans (hb5.mono (by have := hb4.size; simp; omega))
          have z4 := hb4.size
          have z5 := hb5.size
          simp at z5
          have p0 := (hb5.cell (p := ⟨w4.heap.size, 0, none⟩) (by simp)).trans (box_cell w4 #[.int .i64 (a * d * d), .int .i64 (b * d * d * d)] 23 0)
          have p1 := (hb5.cell (p := ⟨w4.heap.size, 1, none⟩) (by simp)).trans (box_cell w4 #[.int .i64 (a * d * d), .int .i64 (b * d * d * d)] 23 1)
          have p2 : w5.frozen? ⟨w4.heap.size, 0, none⟩ = false := (hb5.frozen (by simp)).trans (by simp [go_sem])
          have p3 : w5.frozen? ⟨w4.heap.size, 1, none⟩ = false := (hb5.frozen (by simp)).trans (by simp [go_sem])
          have zp : w4.heap.size < w5.heap.size := by omega
          have p4 := keepCell hb6 c0
          have p5 := keepCell hb6 c1
          have p6 := keepFrz hb6 n1 c2
          have p7 := keepFrz hb6 n1 c3
          have np : L ≠ w4.heap.size := by omega
          have np' : w4.heap.size ≠ L := by omega
          go_wp2
          have hb7 : Below wr.heap.size wr ((w5.setCell ⟨w4.heap.size, 0, none⟩ (.int .i64 x1)).setCell ⟨w4.heap.size, 1, none⟩ (.int .i64 x2)) := (hb6.setCell (by simp; omega) _).setCell (by simp; omega) _
          have q0 : ((w5.setCell ⟨w4.heap.size, 0, none⟩ (.int .i64 x1)).setCell ⟨w4.heap.size, 1, none⟩ (.int .i64 x2)).cell? ⟨w4.heap.size, 0, none⟩ = some (.int .i64 x1) := by simp [go_sem, *]
          have q1 : ((w5.setCell ⟨w4.heap.size, 0, none⟩ (.int .i64 x1)).setCell ⟨w4.heap.size, 1, none⟩ (.int .i64 x2)).cell? ⟨w4.heap.size, 1, none⟩ = some (.int .i64 x2) := by simp [go_sem, *]
          have z6 : ((w5.setCell ⟨w4.heap.size, 0, none⟩ (.int .i64 x1)).setCell ⟨w4.heap.size, 1, none⟩ (.int .i64 x2)).heap.size = w5.heap.size := by simp [World.setCell]
          generalize (w5.setCell ⟨w4.heap.size, 0, none⟩ (.int .i64 x1)).setCell ⟨w4.heap.size, 1, none⟩ (.int .i64 x2) = w6 at *
          clear p0 p1 p2 p3 p4 p5 p6 p7 hb6
          have p4 := keepCell hb7 c0
          have p5 := keepCell hb7 c1
          have p6 := keepFrz hb7 n1 c2
          have p7 := keepFrz hb7 n1 c3
          have n6 : w4.heap.size < w6.heap.size := by omega
          by_cases hz : s0 = 0
          · have hst := Lib.hid (show M.ltStep' a b (s0, s1, s2) d = (d, x1, x2) by simp [M.ltStep', M.ltStep, M.twOk, M.ltT, m1, hz, Hlm.out])
            subst hz
            go_quiet (fail)
            go_wp2
            go_roundw
            case rel => exact ⟨k + 1, d, x1, x2, by omega, by go_num, rfl, by rw [hfn.out, hst.out], Or.inr hmg, by simp [go_sem, *], by simp [go_sem, *], by simp [go_sem, *], by simp [go_sem, *], grown_set (grown_set (below_gr hg (below_drewN hb7 _)) _ _) _ _⟩
            case measure => simp [intOf]; omega
          · have hi2 : M.inCurve s1 s2 = true := M.good_in (hI.resolve_left hz)
            have hi1 := M.good_in hmg
            have e1 := disc_bd hi1
            have e2 := disc_bd hi2
            have hzb : (s0 == 0) = false := by simpa using hz
            cases hd : decide ((M.disc x1 x2).natAbs < (M.disc s1 s2).natAbs)
            · have hst := Lib.hid (show M.ltStep' a b (s0, s1, s2) d = (s0, s1, s2) by simp [M.ltStep', M.ltStep, M.twOk, M.ltT, M.absd, m1, hz, Hlm.out]; (have hd2 := of_decide_eq_false hd); intro h; omega)
              first | go_region_held3 (fun W => W.cell? ⟨w4.heap.size, 0, none⟩ = some (.int .i64 x1) ∧ W.cell? ⟨w4.heap.size, 1, none⟩ = some (.int .i64 x2) ∧ W.cell? ⟨L, 0, none⟩ = some (.int .i64 s1) ∧ W.cell? ⟨L, 1, none⟩ = some (.int .i64 s2)) (first | exact ⟨keepCell (by assumption) (by assumption), keepCell (by assumption) (by assumption), keepCell (by assumption) (by assumption), keepCell (by assumption) (by assumption)⟩ | (go_split_ands; exact ⟨keepCell (by assumption) (by assumption), keepCell (by assumption) (by assumption), keepCell (by assumption) (by assumption), keepCell (by assumption) (by assumption)⟩) | go_keep) ((first | (go_at_call 86; refine (ecDisc_c _ _ _ (by assumption)).mono ?_; rintro e w' ⟨rfl, hb⟩) | (go_at_call 85; refine (l1Abs_c _ _ (by omega) (by omega)).mono ?_; rintro e w' ⟨rfl, rfl⟩))) | fail
              have hbr : Below wr.heap.size wr w' := (by repeat (first | exact Below.refl _ _ | refine below_alloc ?_ _ | refine below_step ?_ (by assumption) | refine Below.drew ?_ | refine Below.setCell ?_ (by first | exact Nat.le_refl _ | exact Nat.le_add_right _ _ | (simp <;> omega)) _ | refine below_drewN ?_ _))
              go_wp2
              go_roundw
              case rel => exact ⟨k + 1, s0, s1, s2, by omega, by go_num, rfl, by rw [hfn.out, hst.out], hI, keepCell hbr c0, keepCell hbr c1, keepFrz hbr n1 c2, keepFrz hbr n1 c3, below_gr hg hbr⟩
              case measure => simp [intOf]; omega
            · have hst := Lib.hid (show M.ltStep' a b (s0, s1, s2) d = (d, x1, x2) by simp [M.ltStep', M.ltStep, M.twOk, M.ltT, M.absd, m1, hz, Hlm.out]; intro h; exact absurd h (by simpa using hd))
              first | go_region_held3 (fun W => W.cell? ⟨w4.heap.size, 0, none⟩ = some (.int .i64 x1) ∧ W.cell? ⟨w4.heap.size, 1, none⟩ = some (.int .i64 x2) ∧ W.cell? ⟨L, 0, none⟩ = some (.int .i64 s1) ∧ W.cell? ⟨L, 1, none⟩ = some (.int .i64 s2)) (first | exact ⟨keepCell (by assumption) (by assumption), keepCell (by assumption) (by assumption), keepCell (by assumption) (by assumption), keepCell (by assumption) (by assumption)⟩ | (go_split_ands; exact ⟨keepCell (by assumption) (by assumption), keepCell (by assumption) (by assumption), keepCell (by assumption) (by assumption), keepCell (by assumption) (by assumption)⟩) | go_keep) ((first | (go_at_call 86; refine (ecDisc_c _ _ _ (by assumption)).mono ?_; rintro e w' ⟨rfl, hb⟩) | (go_at_call 85; refine (l1Abs_c _ _ (by omega) (by omega)).mono ?_; rintro e w' ⟨rfl, rfl⟩))) | fail
              have hbr : Below wr.heap.size wr w' := (by repeat (first | exact Below.refl _ _ | refine below_alloc ?_ _ | refine below_step ?_ (by assumption) | refine Below.drew ?_ | refine Below.setCell ?_ (by first | exact Nat.le_refl _ | exact Nat.le_add_right _ _ | (simp <;> omega)) _ | refine below_drewN ?_ _))
              have r4 := keepCell hbr c0
              have r5 := keepCell hbr c1
              have r6 := keepFrz hbr n1 c2
              have r7 := keepFrz hbr n1 c3
              have nw : L < w'.heap.size := by have := hbr.size; omega
              go_wp2
              go_roundw
              case rel => exact ⟨k + 1, d, x1, x2, by omega, by go_num, rfl, by rw [hfn.out, hst.out], Or.inr hmg, by simp [go_sem, *], by simp [go_sem, *], by simp [go_sem, *], by simp [go_sem, *], grown_set (grown_set (below_gr hg hbr) _ _) _ _⟩
              case measure => simp [intOf]; omega
      · obtain rfl : k = (M.near 30).length := by omega
        have r4 : wr.frozen? ⟨w.heap.size + 1, 0, none⟩ = false := (grown_frozen hg (by show _ < _; omega) (by simp; omega)).trans d6
        have r5 : wr.frozen? ⟨w.heap.size + 1, 1, none⟩ = false := (grown_frozen hg (by show _ < _; omega) (by simp; omega)).trans d7
        have r6 := hg.cell d8 (by simp; omega)
        have r7 := hg.cell d9 (by simp; omega)
        have nw : w.heap.size + 1 < wr.heap.size := by omega
        have hst := Lib.hid (show M.ltw a b = (s0, s1, s2) by rw [hbq.out, ← Hs.out, List.take_length])
        have hbr : Below w.heap.size w wr := B3.grown hg (by omega) fun k hk => by cases hk; omega
        clear hv hA3
        go_wp2
        go_region
        all_goals
          go_wp2
          exact bodyPost_ret (v := .tuple #[.int .i64 s0, .agg #[.int .i64 s1, .int .i64 s2], .bool true]) (by simp [results, Try.results38, go_sem, *]) rfl (⟨by rw [hst.out], (hbr.drew.setCell (by simp) _).setCell (by simp) _⟩)
set_option maxHeartbeats 1000000 in
theorem implLeastTwist_c (a b : Int) (w : World) :
    Calls Try.prog 37 #[.agg #[.int .i64 a, .int .i64 b]] w fun r w' => r = .returned (.tuple #[.int .i64 (M.ltW a b).1, .agg #[.int .i64 (M.ltW a b).2.1, .int .i64 (M.ltW a b).2.2], .bool (M.good a b)]) ∧ Below w.heap.size w w' := by
  unfold M.ltW
  cases h1 : M.good a b
  · go_enter Try.func37, Try.ntmps37
    go_wp2_with (go_at_call 46; refine (isCurve_c _ _ _).mono ?_; rintro e w' ⟨rfl, hb⟩; have hz_ := hb.size; (try simp only [World.size_alloc, heap_drew, World.heap_drewN, size_setCell] at hz_); have hs0_ : w.heap.size < w'.heap.size := (by omega); have hk0_ := fun o => (bcell hb).1 (w.heap.size) o (by (try simp only [World.size_alloc, heap_drew, World.heap_drewN, size_setCell]); omega); have hl0_ := fun o => (bcell hb).2.1 (w.heap.size) o (by (try simp only [World.size_alloc, heap_drew, World.heap_drewN, size_setCell]); omega); have hs1_ : w.heap.size + 1 < w'.heap.size := (by omega); have hk1_ := fun o => (bcell hb).1 (w.heap.size + 1) o (by (try simp only [World.size_alloc, heap_drew, World.heap_drewN, size_setCell]); omega); have hl1_ := fun o => (bcell hb).2.1 (w.heap.size + 1) o (by (try simp only [World.size_alloc, heap_drew, World.heap_drewN, size_setCell]); omega))
    exact bodyPost_ret (v := .tuple #[.int .i64 0, .agg #[.int .i64 0, .int .i64 0], .bool false]) (by simp [results, Try.results37, go_sem, *]) rfl (⟨by simp [M.lt0], (by repeat (first | exact Below.refl _ _ | refine below_alloc ?_ _ | refine below_step ?_ (by assumption) | refine Below.drew ?_ | refine Below.setCell ?_ (by first | exact Nat.le_refl _ | exact Nat.le_add_right _ _ | (simp <;> omega)) _ | refine below_drewN ?_ _))⟩)
  · have hbq := Lib.hid (show M.ltw a b = (M.nearOk a b).foldl (M.ltStep a b) M.lt0 from rfl)
    have HT := Lib.hid fun w => twistsOf_c a b w (M.good_in h1)
    go_enter Try.func37, Try.ntmps37
    go_wp2_with (go_at_call 46; refine (isCurve_c _ _ _).mono ?_; rintro e w' ⟨rfl, hb⟩; have hz_ := hb.size; (try simp only [World.size_alloc, heap_drew, World.heap_drewN, size_setCell] at hz_); have hs0_ : w.heap.size < w'.heap.size := (by omega); have hk0_ := fun o => (bcell hb).1 (w.heap.size) o (by (try simp only [World.size_alloc, heap_drew, World.heap_drewN, size_setCell]); omega); have hl0_ := fun o => (bcell hb).2.1 (w.heap.size) o (by (try simp only [World.size_alloc, heap_drew, World.heap_drewN, size_setCell]); omega); have hs1_ : w.heap.size + 1 < w'.heap.size := (by omega); have hk1_ := fun o => (bcell hb).1 (w.heap.size + 1) o (by (try simp only [World.size_alloc, heap_drew, World.heap_drewN, size_setCell]); omega); have hl1_ := fun o => (bcell hb).2.1 (w.heap.size + 1) o (by (try simp only [World.size_alloc, heap_drew, World.heap_drewN, size_setCell]); omega))
    refine (HT.out _).mono ?_; rintro r w2 ⟨v2, rfl, hown2, hb2⟩
    have z2 := hb2.size
    go_wp2_with fail
    refine (nearestFirst_c a b _ _ _ hown2 z2).mono ?_; rintro r w3 ⟨rfl, hown3, hb23⟩
    have hb3 := hb2.trans hb23
    clear hb2 hb23 hown2 z2
    have hz_ := hb3.size; (try simp only [World.size_alloc, heap_drew, World.heap_drewN, size_setCell] at hz_); have hs0_ : w.heap.size < w3.heap.size := (by omega); have hk0_ := fun o => (bcell hb3).1 (w.heap.size) o (by (try simp only [World.size_alloc, heap_drew, World.heap_drewN, size_setCell]); omega); have hl0_ := fun o => (bcell hb3).2.1 (w.heap.size) o (by (try simp only [World.size_alloc, heap_drew, World.heap_drewN, size_setCell]); omega); have hs1_ : w.heap.size + 1 < w3.heap.size := (by omega); have hk1_ := fun o => (bcell hb3).1 (w.heap.size + 1) o (by (try simp only [World.size_alloc, heap_drew, World.heap_drewN, size_setCell]); omega); have hl1_ := fun o => (bcell hb3).2.1 (w.heap.size + 1) o (by (try simp only [World.size_alloc, heap_drew, World.heap_drewN, size_setCell]); omega); have hs2_ : w'.heap.size < w3.heap.size := (by omega); have hk2_ := fun o => (bcell hb3).1 (w'.heap.size) o (by (try simp only [World.size_alloc, heap_drew, World.heap_drewN, size_setCell]); omega); have hl2_ := fun o => (bcell hb3).2.1 (w'.heap.size) o (by (try simp only [World.size_alloc, heap_drew, World.heap_drewN, size_setCell]); omega)
    have z3 : w.heap.size + 1 < w3.heap.size := by omega
    have zL : w'.heap.size < w3.heap.size := by omega
    have B3 : Below w.heap.size w w3 := (by repeat (first | exact Below.refl _ _ | refine below_alloc ?_ _ | refine below_step ?_ (by assumption) | refine Below.drew ?_ | refine Below.setCell ?_ (by first | exact Nat.le_refl _ | exact Nat.le_add_right _ _ | (simp <;> omega)) _ | refine below_drewN ?_ _))
    have d0 : w3.cell? ⟨w.heap.size, 0, none⟩ = some (.int .i64 a) := by simp [go_sem, *]
    have d1 : w3.cell? ⟨w.heap.size, 1, none⟩ = some (.int .i64 b) := by simp [go_sem, *]
    have d2 : w3.cell? ⟨w'.heap.size, 0, none⟩ = some (.int .i64 0) := by simp [go_sem, *]
    have d3 : w3.cell? ⟨w'.heap.size, 1, none⟩ = some (.int .i64 0) := by simp [go_sem, *]
    have d4 : w3.frozen? ⟨w'.heap.size, 0, none⟩ = false := by simp [go_sem, *]
    have d5 : w3.frozen? ⟨w'.heap.size, 1, none⟩ = false := by simp [go_sem, *]
    have d6 : w3.frozen? ⟨w.heap.size + 1, 0, none⟩ = false := by simp [go_sem, *]
    have d7 : w3.frozen? ⟨w.heap.size + 1, 1, none⟩ = false := by simp [go_sem, *]
    have d8 : w3.cell? ⟨w.heap.size + 1, 0, none⟩ = some (.int .i64 0) := by simp [go_sem, *]
    have d9 : w3.cell? ⟨w.heap.size + 1, 1, none⟩ = some (.int .i64 0) := by simp [go_sem, *]
    obtain ⟨A, cap, rfl, hm, hv⟩ := hown3.seen
    have hA3 : ∀ g, A = some ⟨g, 0, none⟩ → w'.heap.size < g := fun g e => by
      subst e
      have := (OwnI.lt hown3 g rfl).1
      simp at this
      omega
    clear hown3
    go_wp2
    have nL1 : w.heap.size ≠ w'.heap.size := by omega
    have nL2 : w.heap.size + 1 ≠ w'.heap.size := by omega
    clear hb hz_ hs0_ hk0_ hl0_ hs1_ hk1_ hl1_ hs2_ hk2_ hl2_ hb3
    clear hk0_ hl0_ hk1_ hl1_
    generalize hL : w'.heap.size = L at *
    clear hL
    go_loopw [5, 22] (fun vd vi wr => ∃ k : Nat, ∃ s0 s1 s2 : Int, k ≤ (M.nearOk a b).length ∧ vi = .int .i64 k ∧ vd = .int .i64 s0 ∧ ((M.nearOk a b).take k).foldl (M.ltStep a b) M.lt0 = (s0, s1, s2) ∧ M.ltI (s0, s1, s2) ∧ wr.cell? ⟨L, 0, none⟩ = some (.int .i64 s1) ∧ wr.cell? ⟨L, 1, none⟩ = some (.int .i64 s2) ∧ wr.frozen? ⟨L, 0, none⟩ = false ∧ wr.frozen? ⟨L, 1, none⟩ = false ∧ w3.grownBy wr (some L)) (fun _ vi _ => (M.nearOk a b).length - (intOf vi).toNat)
    case atStart => exact ⟨0, 0, 0, 0, by omega, rfl, rfl, rfl, Or.inl rfl, d2, d3, d4, d5, grown_rf _ _⟩
    case round =>
      obtain ⟨k, s0, s1, s2, hk, rfl, rfl, hs, hI, c0, c1, c2, c3, hg⟩ := hrel
      have Hs := Lib.hid hs
      clear hs
      have f0 := hg.cell d0 (by simp; omega)
      have f1 := hg.cell d1 (by simp; omega)
      have hzr := hg.size
      have n0 : w.heap.size < wr.heap.size := by omega
      have n1 : L < wr.heap.size := by omega
      by_cases hlt : k < (M.nearOk a b).length
      · obtain ⟨g, d, rfl, hgl, hx, hcell⟩ := hv k hlt
        have hgL : L < g := hA3 g rfl
        have e0 := hg.cell hcell (by simp; omega)
        clear hv hcell hA3
        obtain ⟨m1, m2, m3⟩ := M.nearOk_mem hx.out
        have hfn := Lib.hid ((M.foldl_next (M.ltStep a b) M.lt0 hx.out).trans (by rw [Hs.out]))
        have HTW := Lib.hid fun w => twist_t a b d w (M.good_in h1) m2 m3 m1
        have HSM := Lib.hid fun w => smallest_c (a * d * d) (b * d * d * d) w m1
        have hmg := M.sm_good m1
        have hlm : M.ltM a b d = (M.smA (a * d * d) (b * d * d * d), M.smB (a * d * d) (b * d * d * d)) := rfl
        generalize M.smA (a * d * d) (b * d * d * d) = x1 at *
        generalize M.smB (a * d * d) (b * d * d * d) = x2 at *
        generalize M.sm (a * d * d) (b * d * d * d) = x3 at *
        have Hlm := Lib.hid hlm
        clear hlm
        go_wp2_with fail
        refine (HTW.out _).mono ?_; rintro r w4 ⟨rfl, hb4⟩
        go_wp2_with fail
        refine (HSM.out _).mono ?_; rintro r w5 ⟨rfl, hb5⟩
        have hb6 : Below wr.heap.size wr w5 := (below_alloc hb4 _).trans (hb5.mono (by have := hb4.size; simp; omega))
        have z4 := hb4.size
        have z5 := hb5.size
        simp at z5
        have np : L ≠ w5.heap.size := by omega
        have np' : w5.heap.size ≠ L := by omega
        go_wp2
        have hb7 : Below wr.heap.size wr (w5.alloc (.cells #[.int .i64 x1, .int .i64 x2] 23)) := below_alloc hb6 _
        have q0 := box_cell w5 #[.int .i64 x1, .int .i64 x2] 23 0
        have q1 := box_cell w5 #[.int .i64 x1, .int .i64 x2] 23 1
        have z6 : (w5.alloc (.cells #[.int .i64 x1, .int .i64 x2] 23)).heap.size = w5.heap.size + 1 := by simp
        generalize w5.alloc (.cells #[.int .i64 x1, .int .i64 x2] 23) = w6 at *
        clear hb6
        simp at q0 q1
        have p4 := keepCell hb7 c0
        have p5 := keepCell hb7 c1
        have p6 := keepFrz hb7 n1 c2
        have p7 := keepFrz hb7 n1 c3
        have n6 : w5.heap.size < w6.heap.size := by omega
        by_cases hz : s0 = 0
        · have hst := Lib.hid (show M.ltStep a b (s0, s1, s2) d = (d, x1, x2) by simp [M.ltStep, M.ltT, m1, hz, Hlm.out])
          subst hz
          go_quiet (fail)
          go_wp2
          go_region
          go_wp2
          go_roundw
          case rel => exact ⟨k + 1, d, x1, x2, by omega, by go_num, rfl, by rw [hfn.out, hst.out], Or.inr hmg, by simp [go_sem, *], by simp [go_sem, *], by simp [go_sem, *], by simp [go_sem, *], grown_set (grown_set (below_gr hg (below_drewN hb7 _)) _ _) _ _⟩
          case measure => simp [intOf]; omega
        · have hi2 : M.inCurve s1 s2 = true := M.good_in (hI.resolve_left hz)
          have hi1 := M.good_in hmg
          have e1 := disc_bd hi1
          have e2 := disc_bd hi2
          have hzb : (s0 == 0) = false := by simpa using hz
          cases hd : decide (max (M.disc x1 x2) (-M.disc x1 x2) < max (M.disc s1 s2) (-M.disc s1 s2))
          · have hst := Lib.hid (show M.ltStep a b (s0, s1, s2) d = (s0, s1, s2) by simp [M.ltStep, M.ltT, M.absd, m1, hz, Hlm.out]; (have hd2 := of_decide_eq_false hd); intro h; omega)
            have k1 := IntWalk.i64_in (-M.disc x1 x2) (by omega)
            have k2 := IntWalk.i64_in (-M.disc s1 s2) (by omega)
            first | go_region_held3 (fun W => W.cell? ⟨w5.heap.size, 0, none⟩ = some (.int .i64 x1) ∧ W.cell? ⟨w5.heap.size, 1, none⟩ = some (.int .i64 x2) ∧ W.cell? ⟨L, 0, none⟩ = some (.int .i64 s1) ∧ W.cell? ⟨L, 1, none⟩ = some (.int .i64 s2)) (first | exact ⟨keepCell (by assumption) (by assumption), keepCell (by assumption) (by assumption), keepCell (by assumption) (by assumption), keepCell (by assumption) (by assumption)⟩ | (go_split_ands; exact ⟨keepCell (by assumption) (by assumption), keepCell (by assumption) (by assumption), keepCell (by assumption) (by assumption), keepCell (by assumption) (by assumption)⟩) | go_keep) (((go_at_call 84; refine (core_c _ _ _ (by assumption)).mono ?_; rintro e w' ⟨rfl, hb⟩))) | fail
            all_goals
              clear k1 k2
              have hbr : Below wr.heap.size wr w' := (by repeat (first | exact Below.refl _ _ | refine below_alloc ?_ _ | refine below_step ?_ (by assumption) | refine Below.drew ?_ | refine Below.setCell ?_ (by first | exact Nat.le_refl _ | exact Nat.le_add_right _ _ | (simp <;> omega)) _ | refine below_drewN ?_ _))
              go_wp2
              go_roundw
              case rel => exact ⟨k + 1, s0, s1, s2, by omega, by go_num, rfl, by rw [hfn.out, hst.out], hI, keepCell hbr c0, keepCell hbr c1, keepFrz hbr n1 c2, keepFrz hbr n1 c3, below_gr hg hbr⟩
              case measure => simp [intOf]; omega
          · have hst := Lib.hid (show M.ltStep a b (s0, s1, s2) d = (d, x1, x2) by simp [M.ltStep, M.ltT, M.absd, m1, hz, Hlm.out]; have hd2 := of_decide_eq_true hd; intro h; omega)
            have k1 := IntWalk.i64_in (-M.disc x1 x2) (by omega)
            have k2 := IntWalk.i64_in (-M.disc s1 s2) (by omega)
            first | go_region_held3 (fun W => W.cell? ⟨w5.heap.size, 0, none⟩ = some (.int .i64 x1) ∧ W.cell? ⟨w5.heap.size, 1, none⟩ = some (.int .i64 x2) ∧ W.cell? ⟨L, 0, none⟩ = some (.int .i64 s1) ∧ W.cell? ⟨L, 1, none⟩ = some (.int .i64 s2)) (first | exact ⟨keepCell (by assumption) (by assumption), keepCell (by assumption) (by assumption), keepCell (by assumption) (by assumption), keepCell (by assumption) (by assumption)⟩ | (go_split_ands; exact ⟨keepCell (by assumption) (by assumption), keepCell (by assumption) (by assumption), keepCell (by assumption) (by assumption), keepCell (by assumption) (by assumption)⟩) | go_keep) (((go_at_call 84; refine (core_c _ _ _ (by assumption)).mono ?_; rintro e w' ⟨rfl, hb⟩))) | fail
            all_goals
              clear k1 k2
              have hbr : Below wr.heap.size wr w' := (by repeat (first | exact Below.refl _ _ | refine below_alloc ?_ _ | refine below_step ?_ (by assumption) | refine Below.drew ?_ | refine Below.setCell ?_ (by first | exact Nat.le_refl _ | exact Nat.le_add_right _ _ | (simp <;> omega)) _ | refine below_drewN ?_ _))
              have r4 := keepCell hbr c0
              have r5 := keepCell hbr c1
              have r6 := keepFrz hbr n1 c2
              have r7 := keepFrz hbr n1 c3
              have nw : L < w'.heap.size := by have := hbr.size; omega
              go_wp2
              go_region
              go_wp2
              go_roundw
              case rel => exact ⟨k + 1, d, x1, x2, by omega, by go_num, rfl, by rw [hfn.out, hst.out], Or.inr hmg, by simp [go_sem, *], by simp [go_sem, *], by simp [go_sem, *], by simp [go_sem, *], grown_drew (grown_set (grown_set (below_gr hg hbr) _ _) _ _)⟩
              case measure => simp [intOf]; omega
      · obtain rfl : k = (M.nearOk a b).length := by omega
        have r4 : wr.frozen? ⟨w.heap.size + 1, 0, none⟩ = false := (grown_frozen hg (by show _ < _; omega) (by simp; omega)).trans d6
        have r5 : wr.frozen? ⟨w.heap.size + 1, 1, none⟩ = false := (grown_frozen hg (by show _ < _; omega) (by simp; omega)).trans d7
        have r6 := hg.cell d8 (by simp; omega)
        have r7 := hg.cell d9 (by simp; omega)
        have nw : w.heap.size + 1 < wr.heap.size := by omega
        have hst := Lib.hid (show M.ltw a b = (s0, s1, s2) by rw [hbq.out, ← Hs.out, List.take_length])
        have hbr : Below w.heap.size w wr := B3.grown hg (by omega) fun k hk => by cases hk; omega
        clear hv hA3
        go_wp2
        go_region
        all_goals
          go_wp2
          exact bodyPost_ret (v := .tuple #[.int .i64 s0, .agg #[.int .i64 s1, .int .i64 s2], .bool true]) (by simp [results, Try.results37, go_sem, *]) rfl (⟨by rw [hst.out], (hbr.drew.setCell (by simp) _).setCell (by simp) _⟩)
end Go.Proofs.Ytoolgmpflplghaa
