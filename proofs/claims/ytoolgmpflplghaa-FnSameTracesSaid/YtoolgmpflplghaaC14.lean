/-
  Contracts: neighbours.
-/
import Derived.Test.YtoolgmpflplghaaC13
namespace Go.Proofs.Ytoolgmpflplghaa
set_option linter.unusedSimpArgs false
set_option linter.unusedVariables false
open Go.RowKit

def nbAsk (a b e : Int) : Bool := M.good a b && M.order2 a b e
theorem nbAsk_t {a b e : Int} (h : nbAsk a b e = true) : M.good a b = true ∧ M.order2 a b e = true ∧ -200 ≤ e ∧ e ≤ 200 ∧ M.val a b e = 0 := by
  simp only [nbAsk, Bool.and_eq_true] at h
  have h2 := h.2
  simp only [M.order2, Bool.and_eq_true, M.ins_iff, M.root3, beq_iff_eq] at h2
  exact ⟨h.1, h.2, h2.1.1, h2.1.2, h2.2⟩

set_option maxHeartbeats 6000000 in
theorem neighbourAt_c (a b e : Int) (w : World) (h : nbAsk a b e = true) :
    Calls Try.prog 90 #[.agg #[.int .i64 a, .int .i64 b], .int .i64 e] w fun r w' => r = .returned (cvOk (M.good (M.nb3 (M.rawA a e, M.rawB a b e)).1 (M.nb3 (M.rawA a e, M.rawB a b e)).2) (M.nb3 (M.rawA a e, M.rawB a b e)).1 (M.nb3 (M.rawA a e, M.rawB a b e)).2) ∧ Below w.heap.size w w' := by
  obtain ⟨h1, h2, e1, e2, hv⟩ := nbAsk_t h
  have hne := M.raw_ne h1 hv
  obtain ⟨-, -, -, -, -, b6, b7⟩ := M.raw_bd (M.good_in h1) e1 e2
  have hraw := fun w => rawNeighbour_c a b e w (M.good_in h1) e1 e2
  clear h h2 hv
  generalize M.rawA a e = A at *
  generalize M.rawB a b e = B at *
  have RW := Lib.hid hraw
  clear hraw
  have hp := Lib.hid (M.nb_props (x := (A, B)) hne)
  go_enter Try.func90, Try.ntmps90
  go_wp2_with (go_at_call 121; refine (RW.out _).mono ?_; rintro e w' ⟨rfl, hb⟩; have hz_ := hb.size; (try simp only [World.size_alloc, heap_drew, World.heap_drewN, size_setCell] at hz_); have hs0_ : w.heap.size < w'.heap.size := (by omega); have hk0_ := fun o => (bcell hb).1 (w.heap.size) o (by (try simp only [World.size_alloc, heap_drew, World.heap_drewN, size_setCell]); omega); have hl0_ := fun o => (bcell hb).2.1 (w.heap.size) o (by (try simp only [World.size_alloc, heap_drew, World.heap_drewN, size_setCell]); omega); have hs1_ : w.heap.size + 1 < w'.heap.size := (by omega); have hk1_ := fun o => (bcell hb).1 (w.heap.size + 1) o (by (try simp only [World.size_alloc, heap_drew, World.heap_drewN, size_setCell]); omega); have hl1_ := fun o => (bcell hb).2.1 (w.heap.size + 1) o (by (try simp only [World.size_alloc, heap_drew, World.heap_drewN, size_setCell]); omega))
  go_loopw [6, 7, 19] (fun va vb vi wr => ∃ k x y : Int, 0 ≤ k ∧ k ≤ 3 ∧ vi = .int .i64 k ∧ va = .int .i64 x ∧ vb = .int .i64 y ∧ (x, y) = M.nbI (A, B) k.toNat ∧ Below (w'.heap.size + 1) (w'.alloc (.cells #[.int .i64 2, .int .i64 3, .int .i64 5] 3)) wr) (fun _ _ vi _ => (3 - intOf vi).toNat)
  case atStart => exact ⟨0, A, B, by omega, by omega, rfl, rfl, rfl, rfl, Below.refl _ _⟩
  case round =>
    obtain ⟨k, x, y, hk0, hk, rfl, rfl, rfl, hxy, hbr⟩ := hrel
    obtain ⟨q1, q2, q3, q4, q5, q6, q7, q8, q9, q10⟩ := hp.out
    have hz0 : w'.heap.size + 1 ≤ wr.heap.size := by have := hbr.size; simpa using this
    have d0 : wr.cell? ⟨w'.heap.size, 0, none⟩ = some (.int .i64 2) := (hbr.cell (Nat.lt_succ_self _)).trans (box_cell _ _ _ _)
    have d1 : wr.cell? ⟨w'.heap.size, 1, none⟩ = some (.int .i64 3) := (hbr.cell (Nat.lt_succ_self _)).trans (box_cell _ _ _ _)
    have d2 : wr.cell? ⟨w'.heap.size, 2, none⟩ = some (.int .i64 5) := (hbr.cell (Nat.lt_succ_self _)).trans (box_cell _ _ _ _)
    rcases (show k = 0 ∨ k = 1 ∨ k = 2 ∨ k = 3 by omega) with rfl | rfl | rfl | rfl
    · have hne' : x ≠ 0 ∨ y ≠ 0 := by
        have : (x, y) = (A, B) := hxy
        have e1 : x = ((A, B)).1 := congrArg Prod.fst this
        have e2 : y = ((A, B)).2 := congrArg Prod.snd this
        rw [e1, e2]; exact hne
      have hs0 := M.SRel.start (u4 := 16) (u6 := 64) (p := (A, B)) hxy hne'
      have hpA : ((A, B)).1.natAbs ≤ A.natAbs := Nat.le_refl _
      have hpB : ((A, B)).2.natAbs ≤ B.natAbs := Nat.le_refl _
      have hxy' := Lib.hid hxy
      clear hxy hne'
      obtain ⟨wo, rfl⟩ : ∃ wo : World, wo = wr := ⟨_, rfl⟩
      go_wp2
      go_loopw [6, 7] (fun va vb w2 => ∃ x' y' : Int, va = .int .i64 x' ∧ vb = .int .i64 y' ∧ M.SRel 16 64 ((A, B)) x' y' ∧ ∃ m, w2 = wo.drewN m) (fun va vb _ => (intOf va).natAbs + (intOf vb).natAbs)
      case atStart => exact ⟨x, y, rfl, rfl, hs0, 0, rfl⟩
      case round =>
        obtain ⟨x', y', rfl, rfl, hs, m, rfl⟩ := hrel
        have hbx := hs.bx
        have hby := hs.bY
        by_cases hx : x' % 16 = 0
        · by_cases hy : y' % 64 = 0
          · have f1 := M.tmod_zero.2 hx
            have f2 := M.tmod_zero.2 hy
            have f3 := M.tdiv_exact (by omega) hx
            have f4 := M.tdiv_exact (by omega) hy
            have g1 := (M.abs_div0 (by omega) hx).1
            have g2 := (M.abs_div0 (by omega) hy).1
            have hless := Lib.hid (hs.less (by omega) (by omega) hx hy)
            have hnext := hs.step (by omega) (by omega) hx hy
            have v1 := IntWalk.i64_in (x' / 16) (by omega)
            have v2 := IntWalk.i64_in (y' / 64) (by omega)
            have hnx := hs.ne
            clear hx hy hs hs0
            by_cases hx0 : x' = 0
            · subst hx0
              have hy0 : ¬ y' = 0 := by omega
              go_wp2
              go_quiet (fail)
              clear v1 v2
              go_wp2
              go_roundw
              case rel => exact ⟨_, _, rfl, rfl, hnext, _, World.drewN_drewN _ _ _⟩
              case measure => have := hless.out; simp [intOf] at this ⊢; omega
            · go_wp2
              go_quiet (fail)
              clear v1 v2
              go_wp2
              go_roundw
              case rel => exact ⟨_, _, rfl, rfl, hnext, _, World.drewN_drewN _ _ _⟩
              case measure => have := hless.out; simp [intOf]; omega
          · have hstop := Lib.hid (hs.stop (fun h => hy h.2))
            have f1 := M.tmod_zero.2 hx
            have f2 : (y'.tmod 64 == 0) = false := by simpa using fun h => hy (M.tmod_zero.1 h)
            have hnx := hs.ne
            clear hx hy hs hs0
            by_cases hx0 : x' = 0
            · subst hx0
              have hy0 : ¬ y' = 0 := by omega
              go_wp2
              go_roundw
              case rel => first | exact ⟨1, _, _, by omega, by omega, rfl, rfl, rfl, hstop.out, hbr.trans ((below_drewN (Below.refl _ _) _).mono hz0)⟩ | ((repeat apply Exists.intro); exact ⟨⟨1, _, _, by omega, by omega, rfl, rfl, rfl, hstop.out, hbr.trans ((below_drewN (Below.refl _ _) _).mono hz0)⟩, rfl⟩)
              case measure => simp [intOf]
            · go_wp2
              go_roundw
              case rel => first | exact ⟨1, _, _, by omega, by omega, rfl, rfl, rfl, hstop.out, hbr.trans ((below_drewN (Below.refl _ _) _).mono hz0)⟩ | ((repeat apply Exists.intro); exact ⟨⟨1, _, _, by omega, by omega, rfl, rfl, rfl, hstop.out, hbr.trans ((below_drewN (Below.refl _ _) _).mono hz0)⟩, rfl⟩)
              case measure => simp [intOf]
        · have hstop := Lib.hid (hs.stop (fun h => hx h.1))
          have f1 : (x'.tmod 16 == 0) = false := by simpa using fun h => hx (M.tmod_zero.1 h)
          have hx0 : ¬ x' = 0 := fun h => hx (by rw [h]; rfl)
          clear hx hs hs0
          go_wp2
          go_roundw
          case rel => first | exact ⟨1, _, _, by omega, by omega, rfl, rfl, rfl, hstop.out, hbr.trans ((below_drewN (Below.refl _ _) _).mono hz0)⟩ | ((repeat apply Exists.intro); exact ⟨⟨1, _, _, by omega, by omega, rfl, rfl, rfl, hstop.out, hbr.trans ((below_drewN (Below.refl _ _) _).mono hz0)⟩, rfl⟩)
          case measure => simp [intOf]
    · have hne' : x ≠ 0 ∨ y ≠ 0 := by
        have : (x, y) = M.nb1 (A, B) := hxy
        have e1 : x = (M.nb1 (A, B)).1 := congrArg Prod.fst this
        have e2 : y = (M.nb1 (A, B)).2 := congrArg Prod.snd this
        rw [e1, e2]; exact q1
      have hs0 := M.SRel.start (u4 := 81) (u6 := 729) (p := M.nb1 (A, B)) hxy hne'
      have hpA : (M.nb1 (A, B)).1.natAbs ≤ A.natAbs := q4
      have hpB : (M.nb1 (A, B)).2.natAbs ≤ B.natAbs := q5
      have hxy' := Lib.hid hxy
      clear hxy hne'
      obtain ⟨wo, rfl⟩ : ∃ wo : World, wo = wr := ⟨_, rfl⟩
      go_wp2
      go_loopw [6, 7] (fun va vb w2 => ∃ x' y' : Int, va = .int .i64 x' ∧ vb = .int .i64 y' ∧ M.SRel 81 729 (M.nb1 (A, B)) x' y' ∧ ∃ m, w2 = wo.drewN m) (fun va vb _ => (intOf va).natAbs + (intOf vb).natAbs)
      case atStart => exact ⟨x, y, rfl, rfl, hs0, 0, rfl⟩
      case round =>
        obtain ⟨x', y', rfl, rfl, hs, m, rfl⟩ := hrel
        have hbx := hs.bx
        have hby := hs.bY
        by_cases hx : x' % 81 = 0
        · by_cases hy : y' % 729 = 0
          · have f1 := M.tmod_zero.2 hx
            have f2 := M.tmod_zero.2 hy
            have f3 := M.tdiv_exact (by omega) hx
            have f4 := M.tdiv_exact (by omega) hy
            have g1 := (M.abs_div0 (by omega) hx).1
            have g2 := (M.abs_div0 (by omega) hy).1
            have hless := Lib.hid (hs.less (by omega) (by omega) hx hy)
            have hnext := hs.step (by omega) (by omega) hx hy
            have v1 := IntWalk.i64_in (x' / 81) (by omega)
            have v2 := IntWalk.i64_in (y' / 729) (by omega)
            have hnx := hs.ne
            clear hx hy hs hs0
            by_cases hx0 : x' = 0
            · subst hx0
              have hy0 : ¬ y' = 0 := by omega
              go_wp2
              go_quiet (fail)
              clear v1 v2
              go_wp2
              go_roundw
              case rel => exact ⟨_, _, rfl, rfl, hnext, _, World.drewN_drewN _ _ _⟩
              case measure => have := hless.out; simp [intOf] at this ⊢; omega
            · go_wp2
              go_quiet (fail)
              clear v1 v2
              go_wp2
              go_roundw
              case rel => exact ⟨_, _, rfl, rfl, hnext, _, World.drewN_drewN _ _ _⟩
              case measure => have := hless.out; simp [intOf]; omega
          · have hstop := Lib.hid (hs.stop (fun h => hy h.2))
            have f1 := M.tmod_zero.2 hx
            have f2 : (y'.tmod 729 == 0) = false := by simpa using fun h => hy (M.tmod_zero.1 h)
            have hnx := hs.ne
            clear hx hy hs hs0
            by_cases hx0 : x' = 0
            · subst hx0
              have hy0 : ¬ y' = 0 := by omega
              go_wp2
              go_roundw
              case rel => first | exact ⟨2, _, _, by omega, by omega, rfl, rfl, rfl, hstop.out, hbr.trans ((below_drewN (Below.refl _ _) _).mono hz0)⟩ | ((repeat apply Exists.intro); exact ⟨⟨2, _, _, by omega, by omega, rfl, rfl, rfl, hstop.out, hbr.trans ((below_drewN (Below.refl _ _) _).mono hz0)⟩, rfl⟩)
              case measure => simp [intOf]
            · go_wp2
              go_roundw
              case rel => first | exact ⟨2, _, _, by omega, by omega, rfl, rfl, rfl, hstop.out, hbr.trans ((below_drewN (Below.refl _ _) _).mono hz0)⟩ | ((repeat apply Exists.intro); exact ⟨⟨2, _, _, by omega, by omega, rfl, rfl, rfl, hstop.out, hbr.trans ((below_drewN (Below.refl _ _) _).mono hz0)⟩, rfl⟩)
              case measure => simp [intOf]
        · have hstop := Lib.hid (hs.stop (fun h => hx h.1))
          have f1 : (x'.tmod 81 == 0) = false := by simpa using fun h => hx (M.tmod_zero.1 h)
          have hx0 : ¬ x' = 0 := fun h => hx (by rw [h]; rfl)
          clear hx hs hs0
          go_wp2
          go_roundw
          case rel => first | exact ⟨2, _, _, by omega, by omega, rfl, rfl, rfl, hstop.out, hbr.trans ((below_drewN (Below.refl _ _) _).mono hz0)⟩ | ((repeat apply Exists.intro); exact ⟨⟨2, _, _, by omega, by omega, rfl, rfl, rfl, hstop.out, hbr.trans ((below_drewN (Below.refl _ _) _).mono hz0)⟩, rfl⟩)
          case measure => simp [intOf]
    · have hne' : x ≠ 0 ∨ y ≠ 0 := by
        have : (x, y) = M.nb2 (A, B) := hxy
        have e1 : x = (M.nb2 (A, B)).1 := congrArg Prod.fst this
        have e2 : y = (M.nb2 (A, B)).2 := congrArg Prod.snd this
        rw [e1, e2]; exact q2
      have hs0 := M.SRel.start (u4 := 625) (u6 := 15625) (p := M.nb2 (A, B)) hxy hne'
      have hpA : (M.nb2 (A, B)).1.natAbs ≤ A.natAbs := q6
      have hpB : (M.nb2 (A, B)).2.natAbs ≤ B.natAbs := q7
      have hxy' := Lib.hid hxy
      clear hxy hne'
      obtain ⟨wo, rfl⟩ : ∃ wo : World, wo = wr := ⟨_, rfl⟩
      go_wp2
      go_loopw [6, 7] (fun va vb w2 => ∃ x' y' : Int, va = .int .i64 x' ∧ vb = .int .i64 y' ∧ M.SRel 625 15625 (M.nb2 (A, B)) x' y' ∧ ∃ m, w2 = wo.drewN m) (fun va vb _ => (intOf va).natAbs + (intOf vb).natAbs)
      case atStart => exact ⟨x, y, rfl, rfl, hs0, 0, rfl⟩
      case round =>
        obtain ⟨x', y', rfl, rfl, hs, m, rfl⟩ := hrel
        have hbx := hs.bx
        have hby := hs.bY
        by_cases hx : x' % 625 = 0
        · by_cases hy : y' % 15625 = 0
          · have f1 := M.tmod_zero.2 hx
            have f2 := M.tmod_zero.2 hy
            have f3 := M.tdiv_exact (by omega) hx
            have f4 := M.tdiv_exact (by omega) hy
            have g1 := (M.abs_div0 (by omega) hx).1
            have g2 := (M.abs_div0 (by omega) hy).1
            have hless := Lib.hid (hs.less (by omega) (by omega) hx hy)
            have hnext := hs.step (by omega) (by omega) hx hy
            have v1 := IntWalk.i64_in (x' / 625) (by omega)
            have v2 := IntWalk.i64_in (y' / 15625) (by omega)
            have hnx := hs.ne
            clear hx hy hs hs0
            by_cases hx0 : x' = 0
            · subst hx0
              have hy0 : ¬ y' = 0 := by omega
              go_wp2
              go_quiet (fail)
              clear v1 v2
              go_wp2
              go_roundw
              case rel => exact ⟨_, _, rfl, rfl, hnext, _, World.drewN_drewN _ _ _⟩
              case measure => have := hless.out; simp [intOf] at this ⊢; omega
            · go_wp2
              go_quiet (fail)
              clear v1 v2
              go_wp2
              go_roundw
              case rel => exact ⟨_, _, rfl, rfl, hnext, _, World.drewN_drewN _ _ _⟩
              case measure => have := hless.out; simp [intOf]; omega
          · have hstop := Lib.hid (hs.stop (fun h => hy h.2))
            have f1 := M.tmod_zero.2 hx
            have f2 : (y'.tmod 15625 == 0) = false := by simpa using fun h => hy (M.tmod_zero.1 h)
            have hnx := hs.ne
            clear hx hy hs hs0
            by_cases hx0 : x' = 0
            · subst hx0
              have hy0 : ¬ y' = 0 := by omega
              go_wp2
              go_roundw
              case rel => first | exact ⟨3, _, _, by omega, by omega, rfl, rfl, rfl, hstop.out, hbr.trans ((below_drewN (Below.refl _ _) _).mono hz0)⟩ | ((repeat apply Exists.intro); exact ⟨⟨3, _, _, by omega, by omega, rfl, rfl, rfl, hstop.out, hbr.trans ((below_drewN (Below.refl _ _) _).mono hz0)⟩, rfl⟩)
              case measure => simp [intOf]
            · go_wp2
              go_roundw
              case rel => first | exact ⟨3, _, _, by omega, by omega, rfl, rfl, rfl, hstop.out, hbr.trans ((below_drewN (Below.refl _ _) _).mono hz0)⟩ | ((repeat apply Exists.intro); exact ⟨⟨3, _, _, by omega, by omega, rfl, rfl, rfl, hstop.out, hbr.trans ((below_drewN (Below.refl _ _) _).mono hz0)⟩, rfl⟩)
              case measure => simp [intOf]
        · have hstop := Lib.hid (hs.stop (fun h => hx h.1))
          have f1 : (x'.tmod 625 == 0) = false := by simpa using fun h => hx (M.tmod_zero.1 h)
          have hx0 : ¬ x' = 0 := fun h => hx (by rw [h]; rfl)
          clear hx hs hs0
          go_wp2
          go_roundw
          case rel => first | exact ⟨3, _, _, by omega, by omega, rfl, rfl, rfl, hstop.out, hbr.trans ((below_drewN (Below.refl _ _) _).mono hz0)⟩ | ((repeat apply Exists.intro); exact ⟨⟨3, _, _, by omega, by omega, rfl, rfl, rfl, hstop.out, hbr.trans ((below_drewN (Below.refl _ _) _).mono hz0)⟩, rfl⟩)
          case measure => simp [intOf]
    · have e1 : x = (M.nb3 (A, B)).1 := congrArg Prod.fst (show (x, y) = M.nb3 (A, B) from hxy)
      have e2 : y = (M.nb3 (A, B)).2 := congrArg Prod.snd (show (x, y) = M.nb3 (A, B) from hxy)
      have E1 := Lib.hid e1
      have E2 := Lib.hid e2
      clear e1 e2 hxy
      have hW : ∀ o, (w'.alloc (.cells #[.int .i64 2, .int .i64 3, .int .i64 5] 3)).cell? ⟨w.heap.size + 1, o, none⟩ = w'.cell? ⟨w.heap.size + 1, o, none⟩ := fun o => World.cell?_alloc_past _ _ _ hs1_
      have hF : ∀ o, (w'.alloc (.cells #[.int .i64 2, .int .i64 3, .int .i64 5] 3)).frozen? ⟨w.heap.size + 1, o, none⟩ = w'.frozen? ⟨w.heap.size + 1, o, none⟩ := fun o => World.frozen?_alloc_past _ _ _ hs1_
      have hK : ∀ o, w'.cell? ⟨w.heap.size + 1, o, none⟩ = (#[Value.int .i64 0, Value.int .i64 0])[o]? := fun o => (hk1_ o).trans (World.cell?_alloc_at _ _ _ _ (by simp))
      have hL : ∀ o, w'.frozen? ⟨w.heap.size + 1, o, none⟩ = false := fun o => (hl1_ o).trans (World.frozen?_alloc_at _ _ _ _ (by simp))
      have r0 : wr.frozen? ⟨w.heap.size + 1, 0, none⟩ = false := (hbr.frozen (show w.heap.size + 1 < w'.heap.size + 1 by omega)).trans ((hF 0).trans (hL 0))
      have r1 : wr.frozen? ⟨w.heap.size + 1, 1, none⟩ = false := (hbr.frozen (show w.heap.size + 1 < w'.heap.size + 1 by omega)).trans ((hF 1).trans (hL 1))
      have r2 : wr.cell? ⟨w.heap.size + 1, 0, none⟩ = some (.int .i64 0) := (hbr.cell (show w.heap.size + 1 < w'.heap.size + 1 by omega)).trans ((hW 0).trans (hK 0))
      have r3 : wr.cell? ⟨w.heap.size + 1, 1, none⟩ = some (.int .i64 0) := (hbr.cell (show w.heap.size + 1 < w'.heap.size + 1 by omega)).trans ((hW 1).trans (hK 1))
      have hbw' : Below w.heap.size w w' := (by repeat (first | exact Below.refl _ _ | refine below_alloc ?_ _ | refine below_step ?_ (by assumption) | refine Below.drew ?_ | refine Below.setCell ?_ (by first | exact Nat.le_refl _ | exact Nat.le_add_right _ _ | (simp <;> omega)) _ | refine below_drewN ?_ _))
      have hbw : Below w.heap.size w wr := (below_alloc hbw' _).trans (hbr.mono (by omega))
      have hsz : w.heap.size + 1 < wr.heap.size := by omega
      clear hb hbr hbw' hk1_ hl1_ hk0_ hl0_ hW hF hK hL d0 d1 d2
      cases hG : M.good x y
      · go_wp2_with (go_at_call 64; refine (curveResult_f _ _ _ hG).mono ?_; rintro e w5 ⟨rfl, hb5⟩; have hz_ := hb5.size; (try simp only [World.size_alloc, heap_drew, World.heap_drewN, size_setCell] at hz_); have hs0_ : w.heap.size < w5.heap.size := (by omega); have hk0_ := fun o => (bcell hb5).1 (w.heap.size) o (by (try simp only [World.size_alloc, heap_drew, World.heap_drewN, size_setCell]); omega); have hl0_ := fun o => (bcell hb5).2.1 (w.heap.size) o (by (try simp only [World.size_alloc, heap_drew, World.heap_drewN, size_setCell]); omega); have hs1_ : w.heap.size + 1 < w5.heap.size := (by omega); have hk1_ := fun o => (bcell hb5).1 (w.heap.size + 1) o (by (try simp only [World.size_alloc, heap_drew, World.heap_drewN, size_setCell]); omega); have hl1_ := fun o => (bcell hb5).2.1 (w.heap.size + 1) o (by (try simp only [World.size_alloc, heap_drew, World.heap_drewN, size_setCell]); omega))
        exact bodyPost_ret (v := .tuple #[.agg #[.int .i64 0, .int .i64 0], .bool false]) (by simp [results, Try.results90, go_sem, *]) rfl (⟨by rw [← E1.out, ← E2.out, hG]; rfl, (by repeat (first | exact Below.refl _ _ | refine below_alloc ?_ _ | refine below_step ?_ (by assumption) | refine Below.drew ?_ | refine Below.setCell ?_ (by first | exact Nat.le_refl _ | exact Nat.le_add_right _ _ | (simp <;> omega)) _ | refine below_drewN ?_ _))⟩)
      · go_wp2_with (go_at_call 64; refine (curveResult_t _ _ _ hG).mono ?_; rintro e w5 ⟨rfl, hb5⟩; have hz_ := hb5.size; (try simp only [World.size_alloc, heap_drew, World.heap_drewN, size_setCell] at hz_); have hs0_ : w.heap.size < w5.heap.size := (by omega); have hk0_ := fun o => (bcell hb5).1 (w.heap.size) o (by (try simp only [World.size_alloc, heap_drew, World.heap_drewN, size_setCell]); omega); have hl0_ := fun o => (bcell hb5).2.1 (w.heap.size) o (by (try simp only [World.size_alloc, heap_drew, World.heap_drewN, size_setCell]); omega); have hs1_ : w.heap.size + 1 < w5.heap.size := (by omega); have hk1_ := fun o => (bcell hb5).1 (w.heap.size + 1) o (by (try simp only [World.size_alloc, heap_drew, World.heap_drewN, size_setCell]); omega); have hl1_ := fun o => (bcell hb5).2.1 (w.heap.size + 1) o (by (try simp only [World.size_alloc, heap_drew, World.heap_drewN, size_setCell]); omega))
        exact bodyPost_ret (v := .tuple #[.agg #[.int .i64 x, .int .i64 y], .bool true]) (by simp [results, Try.results90, go_sem, *]) rfl (⟨by rw [← E1.out, ← E2.out, hG]; rfl, (by repeat (first | exact Below.refl _ _ | refine below_alloc ?_ _ | refine below_step ?_ (by assumption) | refine Below.drew ?_ | refine Below.setCell ?_ (by first | exact Nat.le_refl _ | exact Nat.le_add_right _ _ | (simp <;> omega)) _ | refine below_drewN ?_ _))⟩)
end Go.Proofs.Ytoolgmpflplghaa
