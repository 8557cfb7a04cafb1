/-
  Contracts: neighbours of the reference.
-/
import Derived.Test.YtoolgmpflplghaaC14
namespace Go.Proofs.Ytoolgmpflplghaa
set_option linter.unusedSimpArgs false
set_option linter.unusedVariables false
open Go.RowKit

set_option maxHeartbeats 6000000 in
theorem icNeighbour_c (a b e : Int) (w : World) (h : nbAsk a b e = true) :
    Calls Try.prog 97 #[.agg #[.int .i64 a, .int .i64 b], .int .i64 e] w fun r w' => r = .returned (cvOk (M.good (M.nb3 (M.rawA a e, M.rawB a b e)).1 (M.nb3 (M.rawA a e, M.rawB a b e)).2) (M.nb3 (M.rawA a e, M.rawB a b e)).1 (M.nb3 (M.rawA a e, M.rawB a b e)).2) ∧ Below w.heap.size w w' := by
  obtain ⟨h1, h2, e1, e2, hv⟩ := nbAsk_t h
  have hne := M.raw_ne h1 hv
  obtain ⟨-, -, -, -, -, b6, b7⟩ := M.raw_bd (M.good_in h1) e1 e2
  have hraw := fun w => icRaw_c a b e w (M.good_in h1) e1 e2
  clear h h2 hv
  generalize M.rawA a e = A at *
  generalize M.rawB a b e = B at *
  have RW := Lib.hid hraw
  clear hraw
  have hp := Lib.hid (M.nb_props (x := (A, B)) hne)
  go_enter Try.func97, Try.ntmps97
  go_wp2_with (go_at_call 125; refine (RW.out _).mono ?_; rintro e w' ⟨rfl, hb⟩; have hz_ := hb.size; (try simp only [World.size_alloc, heap_drew, World.heap_drewN, size_setCell] at hz_); have hs0_ : w.heap.size < w'.heap.size := (by omega); have hk0_ := fun o => (bcell hb).1 (w.heap.size) o (by (try simp only [World.size_alloc, heap_drew, World.heap_drewN, size_setCell]); omega); have hl0_ := fun o => (bcell hb).2.1 (w.heap.size) o (by (try simp only [World.size_alloc, heap_drew, World.heap_drewN, size_setCell]); omega); have hs1_ : w.heap.size + 1 < w'.heap.size := (by omega); have hk1_ := fun o => (bcell hb).1 (w.heap.size + 1) o (by (try simp only [World.size_alloc, heap_drew, World.heap_drewN, size_setCell]); omega); have hl1_ := fun o => (bcell hb).2.1 (w.heap.size + 1) o (by (try simp only [World.size_alloc, heap_drew, World.heap_drewN, size_setCell]); omega))
  go_loop [6, 7, 8] (fun va vb vi => ∃ k x y : Int, 0 ≤ k ∧ k ≤ 4 ∧ vi = .int .i64 (2 + k) ∧ va = .int .i64 x ∧ vb = .int .i64 y ∧ (x, y) = M.nbS (A, B) k.toNat) (fun _ _ vi => (6 - intOf vi).toNat)
  case atStart => exact ⟨0, A, B, by omega, by omega, rfl, rfl, rfl, rfl⟩
  case round =>
    obtain ⟨k, x, y, hk0, hk, rfl, rfl, rfl, hxy⟩ := hrel
    obtain ⟨q1, q2, q3, q4, q5, q6, q7, q8, q9, q10⟩ := hp.out
    rcases (show k = 0 ∨ k = 1 ∨ k = 2 ∨ k = 3 ∨ k = 4 by omega) with rfl | rfl | rfl | rfl | rfl
    · have hne' : x ≠ 0 ∨ y ≠ 0 := by
        have : (x, y) = (A, B) := hxy
        have e1 : x = ((A, B)).1 := congrArg Prod.fst this
        have e2 : y = ((A, B)).2 := congrArg Prod.snd this
        rw [e1, e2]; exact hne
      have hs0 := M.SRel.start (u4 := 16) (u6 := 64) (p := (A, B)) hxy hne'
      have hpA : ((A, B)).1.natAbs ≤ A.natAbs := Nat.le_refl _
      have hpB : ((A, B)).2.natAbs ≤ B.natAbs := Nat.le_refl _
      have hxy' := Lib.hid hxy
      clear hxy hne'
      have k2 : (2 : Int) + 0 = 2 := rfl
      rw [k2]
      clear k2
      go_wp2
      go_loop [6, 7] (fun va vb => ∃ x' y' : Int, va = .int .i64 x' ∧ vb = .int .i64 y' ∧ M.SRel 16 64 ((A, B)) x' y') (fun va vb => (intOf va).natAbs + (intOf vb).natAbs)
      case atStart => exact ⟨x, y, rfl, rfl, hs0⟩
      case round =>
        obtain ⟨x', y', rfl, rfl, hs⟩ := hrel
        have hbx := hs.bx
        have hby := hs.bY
        by_cases hx : x' % 16 = 0
        · by_cases hy : y' % 64 = 0
          · have f1 := M.tmod_zero.2 hx
            have f2 := M.tmod_zero.2 hy
            have f3 := M.tdiv_exact (by omega) hx
            have f4 := M.tdiv_exact (by omega) hy
            have g1 := (M.abs_div0 (by omega) hx).1
            have g2 := (M.abs_div0 (by omega) hy).1
            have hless := Lib.hid (hs.less (by omega) (by omega) hx hy)
            have hnext := hs.step (by omega) (by omega) hx hy
            clear hx hy hs hs0
            go_wp2
            go_round
            case rel => first | exact ⟨_, _, rfl, rfl, hnext⟩ | ((repeat apply Exists.intro); exact ⟨⟨_, _, rfl, rfl, hnext⟩, rfl⟩)
            case measure => have := hless.out; simp [intOf]; omega
          · have hstop := Lib.hid (hs.stop (fun h => hy h.2))
            have f1 := M.tmod_zero.2 hx
            have f2 : (y'.tmod 64 == 0) = false := by simpa using fun h => hy (M.tmod_zero.1 h)
            clear hx hy hs hs0
            go_wp2
            go_round
            case rel => exact ⟨1, _, _, by omega, by omega, rfl, rfl, rfl, hstop.out⟩
            case measure => simp [intOf]
        · have hstop := Lib.hid (hs.stop (fun h => hx h.1))
          have f1 : (x'.tmod 16 == 0) = false := by simpa using fun h => hx (M.tmod_zero.1 h)
          clear hx hs hs0
          go_wp2
          go_round
          case rel => exact ⟨1, _, _, by omega, by omega, rfl, rfl, rfl, hstop.out⟩
          case measure => simp [intOf]
    · have hne' : x ≠ 0 ∨ y ≠ 0 := by
        have : (x, y) = M.nb1 (A, B) := hxy
        have e1 : x = (M.nb1 (A, B)).1 := congrArg Prod.fst this
        have e2 : y = (M.nb1 (A, B)).2 := congrArg Prod.snd this
        rw [e1, e2]; exact q1
      have hs0 := M.SRel.start (u4 := 81) (u6 := 729) (p := M.nb1 (A, B)) hxy hne'
      have hpA : (M.nb1 (A, B)).1.natAbs ≤ A.natAbs := q4
      have hpB : (M.nb1 (A, B)).2.natAbs ≤ B.natAbs := q5
      have hxy' := Lib.hid hxy
      clear hxy hne'
      have k2 : (2 : Int) + 1 = 3 := rfl
      rw [k2]
      clear k2
      go_wp2
      go_loop [6, 7] (fun va vb => ∃ x' y' : Int, va = .int .i64 x' ∧ vb = .int .i64 y' ∧ M.SRel 81 729 (M.nb1 (A, B)) x' y') (fun va vb => (intOf va).natAbs + (intOf vb).natAbs)
      case atStart => exact ⟨x, y, rfl, rfl, hs0⟩
      case round =>
        obtain ⟨x', y', rfl, rfl, hs⟩ := hrel
        have hbx := hs.bx
        have hby := hs.bY
        by_cases hx : x' % 81 = 0
        · by_cases hy : y' % 729 = 0
          · have f1 := M.tmod_zero.2 hx
            have f2 := M.tmod_zero.2 hy
            have f3 := M.tdiv_exact (by omega) hx
            have f4 := M.tdiv_exact (by omega) hy
            have g1 := (M.abs_div0 (by omega) hx).1
            have g2 := (M.abs_div0 (by omega) hy).1
            have hless := Lib.hid (hs.less (by omega) (by omega) hx hy)
            have hnext := hs.step (by omega) (by omega) hx hy
            clear hx hy hs hs0
            go_wp2
            go_round
            case rel => first | exact ⟨_, _, rfl, rfl, hnext⟩ | ((repeat apply Exists.intro); exact ⟨⟨_, _, rfl, rfl, hnext⟩, rfl⟩)
            case measure => have := hless.out; simp [intOf]; omega
          · have hstop := Lib.hid (hs.stop (fun h => hy h.2))
            have f1 := M.tmod_zero.2 hx
            have f2 : (y'.tmod 729 == 0) = false := by simpa using fun h => hy (M.tmod_zero.1 h)
            clear hx hy hs hs0
            go_wp2
            go_round
            case rel => exact ⟨2, _, _, by omega, by omega, rfl, rfl, rfl, hstop.out⟩
            case measure => simp [intOf]
        · have hstop := Lib.hid (hs.stop (fun h => hx h.1))
          have f1 : (x'.tmod 81 == 0) = false := by simpa using fun h => hx (M.tmod_zero.1 h)
          clear hx hs hs0
          go_wp2
          go_round
          case rel => exact ⟨2, _, _, by omega, by omega, rfl, rfl, rfl, hstop.out⟩
          case measure => simp [intOf]
    · have hne' : x ≠ 0 ∨ y ≠ 0 := by
        have : (x, y) = M.nb2 (A, B) := hxy
        have e1 : x = (M.nb2 (A, B)).1 := congrArg Prod.fst this
        have e2 : y = (M.nb2 (A, B)).2 := congrArg Prod.snd this
        rw [e1, e2]; exact q2
      have hs0 := M.SRel.start (u4 := 256) (u6 := 4096) (p := M.nb2 (A, B)) hxy hne'
      have hpA : (M.nb2 (A, B)).1.natAbs ≤ A.natAbs := q6
      have hpB : (M.nb2 (A, B)).2.natAbs ≤ B.natAbs := q7
      have hxy' := Lib.hid hxy
      clear hxy hne'
      have k2 : (2 : Int) + 2 = 4 := rfl
      rw [k2]
      clear k2
      go_wp2
      go_loop [6, 7] (fun va vb => ∃ x' y' : Int, va = .int .i64 x' ∧ vb = .int .i64 y' ∧ M.SRel 256 4096 (M.nb2 (A, B)) x' y') (fun va vb => (intOf va).natAbs + (intOf vb).natAbs)
      case atStart => exact ⟨x, y, rfl, rfl, hs0⟩
      case round =>
        obtain ⟨x', y', rfl, rfl, hs⟩ := hrel
        have hbx := hs.bx
        have hby := hs.bY
        by_cases hx : x' % 256 = 0
        · by_cases hy : y' % 4096 = 0
          · have f1 := M.tmod_zero.2 hx
            have f2 := M.tmod_zero.2 hy
            have f3 := M.tdiv_exact (by omega) hx
            have f4 := M.tdiv_exact (by omega) hy
            have g1 := (M.abs_div0 (by omega) hx).1
            have g2 := (M.abs_div0 (by omega) hy).1
            have hless := Lib.hid (hs.less (by omega) (by omega) hx hy)
            have hnext := hs.step (by omega) (by omega) hx hy
            clear hx hy hs hs0
            go_wp2
            go_round
            case rel => first | exact ⟨_, _, rfl, rfl, hnext⟩ | ((repeat apply Exists.intro); exact ⟨⟨_, _, rfl, rfl, hnext⟩, rfl⟩)
            case measure => have := hless.out; simp [intOf]; omega
          · have hstop := Lib.hid (hs.stop (fun h => hy h.2))
            have f1 := M.tmod_zero.2 hx
            have f2 : (y'.tmod 4096 == 0) = false := by simpa using fun h => hy (M.tmod_zero.1 h)
            clear hx hy hs hs0
            go_wp2
            go_round
            case rel => exact ⟨3, _, _, by omega, by omega, rfl, rfl, rfl, by rw [hstop.out, M.nb_noop q10]; rfl⟩
            case measure => simp [intOf]
        · have hstop := Lib.hid (hs.stop (fun h => hx h.1))
          have f1 : (x'.tmod 256 == 0) = false := by simpa using fun h => hx (M.tmod_zero.1 h)
          clear hx hs hs0
          go_wp2
          go_round
          case rel => exact ⟨3, _, _, by omega, by omega, rfl, rfl, rfl, by rw [hstop.out, M.nb_noop q10]; rfl⟩
          case measure => simp [intOf]
    · have hne' : x ≠ 0 ∨ y ≠ 0 := by
        have : (x, y) = M.nb2 (A, B) := hxy
        have e1 : x = (M.nb2 (A, B)).1 := congrArg Prod.fst this
        have e2 : y = (M.nb2 (A, B)).2 := congrArg Prod.snd this
        rw [e1, e2]; exact q2
      have hs0 := M.SRel.start (u4 := 625) (u6 := 15625) (p := M.nb2 (A, B)) hxy hne'
      have hpA : (M.nb2 (A, B)).1.natAbs ≤ A.natAbs := q6
      have hpB : (M.nb2 (A, B)).2.natAbs ≤ B.natAbs := q7
      have hxy' := Lib.hid hxy
      clear hxy hne'
      have k2 : (2 : Int) + 3 = 5 := rfl
      rw [k2]
      clear k2
      go_wp2
      go_loop [6, 7] (fun va vb => ∃ x' y' : Int, va = .int .i64 x' ∧ vb = .int .i64 y' ∧ M.SRel 625 15625 (M.nb2 (A, B)) x' y') (fun va vb => (intOf va).natAbs + (intOf vb).natAbs)
      case atStart => exact ⟨x, y, rfl, rfl, hs0⟩
      case round =>
        obtain ⟨x', y', rfl, rfl, hs⟩ := hrel
        have hbx := hs.bx
        have hby := hs.bY
        by_cases hx : x' % 625 = 0
        · by_cases hy : y' % 15625 = 0
          · have f1 := M.tmod_zero.2 hx
            have f2 := M.tmod_zero.2 hy
            have f3 := M.tdiv_exact (by omega) hx
            have f4 := M.tdiv_exact (by omega) hy
            have g1 := (M.abs_div0 (by omega) hx).1
            have g2 := (M.abs_div0 (by omega) hy).1
            have hless := Lib.hid (hs.less (by omega) (by omega) hx hy)
            have hnext := hs.step (by omega) (by omega) hx hy
            clear hx hy hs hs0
            go_wp2
            go_round
            case rel => first | exact ⟨_, _, rfl, rfl, hnext⟩ | ((repeat apply Exists.intro); exact ⟨⟨_, _, rfl, rfl, hnext⟩, rfl⟩)
            case measure => have := hless.out; simp [intOf]; omega
          · have hstop := Lib.hid (hs.stop (fun h => hy h.2))
            have f1 := M.tmod_zero.2 hx
            have f2 : (y'.tmod 15625 == 0) = false := by simpa using fun h => hy (M.tmod_zero.1 h)
            clear hx hy hs hs0
            go_wp2
            go_round
            case rel => exact ⟨4, _, _, by omega, by omega, rfl, rfl, rfl, hstop.out⟩
            case measure => simp [intOf]
        · have hstop := Lib.hid (hs.stop (fun h => hx h.1))
          have f1 : (x'.tmod 625 == 0) = false := by simpa using fun h => hx (M.tmod_zero.1 h)
          clear hx hs hs0
          go_wp2
          go_round
          case rel => exact ⟨4, _, _, by omega, by omega, rfl, rfl, rfl, hstop.out⟩
          case measure => simp [intOf]
    · have e1 : x = (M.nb3 (A, B)).1 := congrArg Prod.fst (show (x, y) = M.nb3 (A, B) from hxy)
      have e2 : y = (M.nb3 (A, B)).2 := congrArg Prod.snd (show (x, y) = M.nb3 (A, B) from hxy)
      have E1 := Lib.hid e1
      have E2 := Lib.hid e2
      clear e1 e2 hxy
      cases hG : M.good x y
      · go_wp2_with (go_at_call 50; refine (ecGood_c _ _ _).mono ?_; rintro e w5 ⟨rfl, hb5⟩; have hz_ := hb5.size; (try simp only [World.size_alloc, heap_drew, World.heap_drewN, size_setCell] at hz_); have hs0_ : w.heap.size < w5.heap.size := (by omega); have hk0_ := fun o => (bcell hb5).1 (w.heap.size) o (by (try simp only [World.size_alloc, heap_drew, World.heap_drewN, size_setCell]); omega); have hl0_ := fun o => (bcell hb5).2.1 (w.heap.size) o (by (try simp only [World.size_alloc, heap_drew, World.heap_drewN, size_setCell]); omega); have hs1_ : w.heap.size + 1 < w5.heap.size := (by omega); have hk1_ := fun o => (bcell hb5).1 (w.heap.size + 1) o (by (try simp only [World.size_alloc, heap_drew, World.heap_drewN, size_setCell]); omega); have hl1_ := fun o => (bcell hb5).2.1 (w.heap.size + 1) o (by (try simp only [World.size_alloc, heap_drew, World.heap_drewN, size_setCell]); omega); have hs2_ : w'.heap.size < w5.heap.size := (by omega); have hk2_ := fun o => (bcell hb5).1 (w'.heap.size) o (by (try simp only [World.size_alloc, heap_drew, World.heap_drewN, size_setCell]); omega); have hl2_ := fun o => (bcell hb5).2.1 (w'.heap.size) o (by (try simp only [World.size_alloc, heap_drew, World.heap_drewN, size_setCell]); omega))
        exact bodyPost_ret (v := .tuple #[.agg #[.int .i64 0, .int .i64 0], .bool false]) (by simp [results, Try.results97, go_sem, *]) rfl (⟨by rw [← E1.out, ← E2.out, hG]; rfl, (by repeat (first | exact Below.refl _ _ | refine below_alloc ?_ _ | refine below_step ?_ (by assumption) | refine Below.drew ?_ | refine Below.setCell ?_ (by first | exact Nat.le_refl _ | exact Nat.le_add_right _ _ | (simp <;> omega)) _ | refine below_drewN ?_ _))⟩)
      · go_wp2_with (go_at_call 50; refine (ecGood_c _ _ _).mono ?_; rintro e w5 ⟨rfl, hb5⟩; have hz_ := hb5.size; (try simp only [World.size_alloc, heap_drew, World.heap_drewN, size_setCell] at hz_); have hs0_ : w.heap.size < w5.heap.size := (by omega); have hk0_ := fun o => (bcell hb5).1 (w.heap.size) o (by (try simp only [World.size_alloc, heap_drew, World.heap_drewN, size_setCell]); omega); have hl0_ := fun o => (bcell hb5).2.1 (w.heap.size) o (by (try simp only [World.size_alloc, heap_drew, World.heap_drewN, size_setCell]); omega); have hs1_ : w.heap.size + 1 < w5.heap.size := (by omega); have hk1_ := fun o => (bcell hb5).1 (w.heap.size + 1) o (by (try simp only [World.size_alloc, heap_drew, World.heap_drewN, size_setCell]); omega); have hl1_ := fun o => (bcell hb5).2.1 (w.heap.size + 1) o (by (try simp only [World.size_alloc, heap_drew, World.heap_drewN, size_setCell]); omega); have hs2_ : w'.heap.size < w5.heap.size := (by omega); have hk2_ := fun o => (bcell hb5).1 (w'.heap.size) o (by (try simp only [World.size_alloc, heap_drew, World.heap_drewN, size_setCell]); omega); have hl2_ := fun o => (bcell hb5).2.1 (w'.heap.size) o (by (try simp only [World.size_alloc, heap_drew, World.heap_drewN, size_setCell]); omega))
        exact bodyPost_ret (v := .tuple #[.agg #[.int .i64 x, .int .i64 y], .bool true]) (by simp [results, Try.results97, go_sem, *]) rfl (⟨by rw [← E1.out, ← E2.out, hG]; rfl, (by repeat (first | exact Below.refl _ _ | refine below_alloc ?_ _ | refine below_step ?_ (by assumption) | refine Below.drew ?_ | refine Below.setCell ?_ (by first | exact Nat.le_refl _ | exact Nat.le_add_right _ _ | (simp <;> omega)) _ | refine below_drewN ?_ _))⟩)
end Go.Proofs.Ytoolgmpflplghaa
