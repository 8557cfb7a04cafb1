/-
  Joined texts: contracts and plain laws.
-/
import Derived.Test.YtgkjmjlkhnfbiaaGreatB12
import Derived.Test.YtgkjmjlkhnfbiaaGreatB9
import Derived.Test.YtgkjmjlkhnfbiaaGreatB3
import Derived.Shelf.SlSortCmp.Whole1
namespace Go.Proofs.YtgkjmjlkhnfbiaaGreat
set_option linter.unusedSimpArgs false
set_option linter.unusedVariables false
open Go.RowKit
namespace M
theorem any_at {α : Type} (f : α → Bool) (l : List α) (n : Nat) {x : α} (h : l[n]? = some x) : (l.take (n + 1)).any f = ((l.take n).any f || f x) := by
  rw [List.take_add_one, h, List.any_append]
  simp
end M
set_option maxRecDepth 100000 in
set_option maxHeartbeats 4000000 in
theorem localPair_c (D A C : Int) (p d : Nat) (w : World) (hp : 2 ≤ p) (hp2 : p ≤ 997) (hd : M.IsDep p d) (hd1 : 1 ≤ d) (hd2 : d ≤ 29) :
    Calls Tryz.prog 103 #[.agg #[.int .i64 D, .int .i64 A, .int .i64 C], .int .i64 p] w (LocPost D A C p d w) := by
  have PD := fun W => depth_c (p : Int) d W (by omega) (by omega) hd hd2
  have P1 := fun W => firstPairs_c D A C p W hp hp2
  have hle := fun (j : Nat) (hj : j ≤ d) => hd.le (by omega) hj
  have hll := fun (j : Nat) => M.lst_len p (M.qok D A C p) hp j
  have hin := fun (j : Nat) (hj : j < d) x hx => M.lst_in (ok := M.qok D A C p) hp (i := j) (x := x) hx
  have PL := fun (j : Nat) (hj : j < d) (u v : Int) W => lifts_c D A C u v p (j + 1) W (by omega) (by omega) (hle (j + 1) hj) (by omega) (by omega)
  have hbd := fun (j : Nat) (hj : j + 1 < d) => show ∀ x ∈ M.lst p (M.qok D A C p) j, (0 ≤ x.1 ∧ x.1 ≤ 1000000000) ∧ (0 ≤ x.2 ∧ x.2 ≤ 1000000000) from fun x hx => by
    have h1 := hin j (by omega) x hx
    have h2 := hle (j + 1) (by omega)
    omega
  have hcl := fun (j : Nat) (hj : j + 1 < d) => show (M.cands p (M.lst p (M.qok D A C p) j) (j + 1)).length ≤ 10000000000 from by
    rw [M.cands_len]
    have h1 := hll j
    have h2 := hle (j + 2) (by omega)
    have h3 : (p : Int) * (2 * M.ipow p (j + 1)) = 2 * M.ipow p (j + 2) := by
      show _ = 2 * (M.ipow p (j + 1) * p)
      rw [Int.mul_comm, Int.mul_assoc]
    have h4 : ((p * (M.lst p (M.qok D A C p) j).length : Nat) : Int) ≤ p * (2 * M.ipow p (j + 1)) := by
      rw [Int.natCast_mul]
      exact Int.mul_le_mul_of_nonneg_left h1 (by omega)
    omega
  have PF := fun (j : Nat) (hj : j + 1 < d) a cap W hs => firstLift_c D A C p (j + 1) (M.lst p (M.qok D A C p) j) a cap W hp hp2 (hle (j + 2) hj) (by omega) (hbd j hj) hs
  have PN := fun (j : Nat) (hj : j + 1 < d) a cap W hs => nextPairs_c D A C p (j + 1) (M.lst p (M.qok D A C p) j) a cap W hp hp2 (hle (j + 2) hj) (by omega) (hbd j hj) hs (hcl j hj)
  simp only [M.lf_next hp] at PF
  simp only [M.lst_next hp] at PN
  have hlen := fun (j : Nat) (hj : j < d) => show (M.lst p (M.qok D A C p) j).length ≤ 2000000000 from by
    have h1 := hll j
    have h2 := hle (j + 1) hj
    omega
  have hhere := fun (j : Nat) => M.lf_here (D := D) (A := A) (C := C) hp (i := j)
  have PD := Lib.hid PD
  have P1 := Lib.hid P1
  have PL := Lib.hid PL
  have PF := Lib.hid PF
  have PN := Lib.hid PN
  have hlen := Lib.hid hlen
  have hhere := Lib.hid hhere
  obtain ⟨c0, c1, c2⟩ := box3 w D A C 35
  clear hd hle hll hin hbd hcl
  go_enter Tryz.func103, Tryz.ntmps103
  go_upto_region 1 with fail
  have hbw : Below w.heap.size w (w.alloc (.cells #[.int .i64 D, .int .i64 A, .int .i64 C] 35)) := (by repeat (first | exact Below.refl _ _ | refine below_alloc ?_ _ | refine below_step ?_ (by assumption) | refine Below.drew ?_ | refine Below.setCell ?_ (by first | exact Nat.le_refl _ | exact Nat.le_add_right _ _ | (simp <;> omega)) _ | refine below_drewN ?_ _))
  have hsz : (w.alloc (.cells #[.int .i64 D, .int .i64 A, .int .i64 C] 35)).heap.size = w.heap.size + 1 := by simp
  generalize w.alloc (.cells #[.int .i64 D, .int .i64 A, .int .i64 C] 35) = w1 at *
  go_wp2_with (go_at_call 130; (with_reducible refine (P1.out _).mono ?_); rintro e w2 ⟨v0, rfl, hown0, hb0⟩)
  go_loopw [8, 9] (fun vl vk wr => ∃ j : Nat, j < d ∧ vk = .int .i64 ((j : Int) + 1) ∧ Rw.Own EP wr w1.heap.size vl (M.lst p (M.qok D A C p) j) ∧ (List.range j).any (M.Lf D A C p) = false ∧ Below w1.heap.size w1 wr) (fun _ vk _ => d + 1 - (intOf vk).toNat)
  case atStart => exact ⟨0, by omega, rfl, hown0, rfl, hb0⟩
  case round =>
    clear hown0 hb0
    obtain ⟨j, hj, rfl, hown, hno, hbr⟩ := hrel
    have z2 := hbr.size
    have e0 := keepCell hbr c0
    have e1 := keepCell hbr c1
    have e2 := keepCell hbr c2
    have hlj := hlen.out j hj
    have hst := Lib.hid (M.any_succ (M.Lf D A C p) j)
    have hlf := Lib.hid (hhere.out j)
    have hno := Lib.hid hno
    have hne : Hid (M.Ne D A C p j = !(M.lst p (M.qok D A C p) j).isEmpty) := Lib.hid rfl
    have PLj : ∀ (u v : Int) W, Calls Tryz.prog 131 #[.agg #[.int .i64 D, .int .i64 A, .int .i64 C], .int .i64 u, .int .i64 v, .int .i64 p, .int .i64 ((j : Int) + 1)] W fun e' w' => e' = .returned (.bool (M.lift D A C u v p (j + 1))) ∧ Below W.heap.size W w' := fun u v W => PL.out j hj u v W
    have PFj : ∀ (h : j + 1 < d) a cap W (hs : Rw.Seen EP W W.heap.size (.slice a (M.lst p (M.qok D A C p) j).length cap) (M.lst p (M.qok D A C p) j)), Calls Tryz.prog 133 #[.agg #[.int .i64 D, .int .i64 A, .int .i64 C], .slice a (M.lst p (M.qok D A C p) j).length cap, .int .i64 p, .int .i64 ((j : Int) + 1 + 1)] W fun e w' => ∃ x y : Int, e = .returned (.tuple #[.agg #[.int .i64 x, .int .i64 y], .bool (M.Lf D A C p (j + 1))]) ∧ Below W.heap.size W w' := fun h a cap W hs => PF.out j h a cap W hs
    have PNj : ∀ (h : j + 1 < d) a cap W (hs : Rw.Seen EP W W.heap.size (.slice a (M.lst p (M.qok D A C p) j).length cap) (M.lst p (M.qok D A C p) j)), Calls Tryz.prog 134 #[.agg #[.int .i64 D, .int .i64 A, .int .i64 C], .slice a (M.lst p (M.qok D A C p) j).length cap, .int .i64 p, .int .i64 ((j : Int) + 1 + 1)] W fun e w' => ∃ v, e = .returned v ∧ Rw.Own EP w' W.heap.size v (M.lst p (M.qok D A C p) (j + 1)) ∧ Below W.heap.size W w' := fun h a cap W hs => PN.out j h a cap W hs
    have PLj := Lib.hid PLj
    have PFj := Lib.hid PFj
    have PNj := Lib.hid PNj
    clear PL PF PN hlen hhere P1
    generalize M.lst p (M.qok D A C p) j = l at *
    have hown9 := Lib.hid hown
    obtain ⟨a, cap, rfl, hcap, hcap2, hv⟩ := hown.seen
    have hv := Lib.hid hv
    clear hown
    go_wp2
    generalize wr = wa at *
    go_loopw [21] (fun vi wr => ∃ k : Nat, k ≤ l.length ∧ vi = .int .i64 k ∧ (l.take k).any (fun y => M.lift D A C y.1 y.2 p (j + 1)) = false ∧ Below wa.heap.size wa wr) (fun vi _ => l.length - (intOf vi).toNat)
    case atStart => exact ⟨0, by omega, rfl, by simp, Below.refl _ _⟩
    case round =>
      obtain ⟨k, hk, rfl, hany, hbq⟩ := hrel
      have z3 := hbq.size
      have hwq := hbr.trans (hbq.mono z2)
      have f0 := keepCell hwq c0
      have f1 := keepCell hwq c1
      have f2 := keepCell hwq c2
      have hany := Lib.hid hany
      by_cases hkt : k < l.length
      · obtain ⟨g, x, rfl, hg, hx, hcell⟩ := hv.out k hkt
        have x0 : wr.cell? ⟨g, k * 2, none⟩ = some (.int .i64 x.1) := keepCell hbq (hcell 0 _ rfl)
        have x1 : wr.cell? ⟨g, k * 2 + 1, none⟩ = some (.int .i64 x.2) := keepCell hbq (hcell 1 _ rfl)
        have hat := Lib.hid (M.any_at (fun y : Int × Int => M.lift D A C y.1 y.2 p (j + 1)) l k hx.out)
        have PX := fun W => PLj.out x.1 x.2 W
        have hmem := Lib.hid (List.mem_of_getElem? hx.out)
        obtain ⟨u, v⟩ := x
        simp only at x0 x1 PX hat
        have hBn : Below wr.heap.size wr (wr.alloc (.cells #[.int .i64 u, .int .i64 v] 103)) := (Below.refl _ wr).alloc (Nat.le_refl _) _
        have fa0 := keepCell hBn f0
        have fa1 := keepCell hBn f1
        have fa2 := keepCell hBn f2
        have ha0 : (wr.alloc (.cells #[.int .i64 u, .int .i64 v] 103)).cell? ⟨wr.heap.size, 0, none⟩ = some (.int .i64 u) := by simp [go_sem]
        have ha1 : (wr.alloc (.cells #[.int .i64 u, .int .i64 v] 103)).cell? ⟨wr.heap.size, 1, none⟩ = some (.int .i64 v) := by simp [go_sem]
        cases hl : M.lift D A C u v p (j + 1)
        · rw [hl] at PX
          have PX := Lib.hid PX
          have hl := Lib.hid hl
          go_wp2_with (go_at_call 131; (with_reducible refine (PX.out _).mono ?_); rintro e w5 ⟨rfl, hb5⟩)
          go_roundw
          case rel => exact ⟨k + 1, by omega, by go_num, by rw [hat.out, hany.out, hl.out]; rfl, by have := hbq; exact (by repeat (first | exact Below.refl _ _ | refine below_alloc ?_ _ | refine below_step ?_ (by assumption) | refine Below.drew ?_ | refine Below.setCell ?_ (by first | exact Nat.le_refl _ | exact Nat.le_add_right _ _ | (simp <;> omega)) _ | refine below_drewN ?_ _))⟩
          case measure => simp [intOf]; omega
        · rw [hl] at PX
          have PX := Lib.hid PX
          have hl := Lib.hid hl
          go_wp2_with (go_at_call 131; (with_reducible refine (PX.out _).mono ?_); rintro e w5 ⟨rfl, hb5⟩; (have y0 := keepCell hb5 ha0); (have y1 := keepCell hb5 ha1))
          go_quiet (fail)
          go_wp2
          refine bodyPost_ret (results_tmp4 rfl _ _ _) rfl ?_
          exact LocPost.yes hj (by rw [← hlf.out]; exact List.any_eq_true.2 ⟨_, hmem.out, hl.out⟩) (by omega) (below_drewN (hbw.trans ((hwq.trans ((hBn.trans (hb5.mono (by simp))).mono (by omega))).mono hbw.size)) _)
      · obtain rfl : k = l.length := by omega
        have hlf0 : Hid (M.Lf D A C p j = false) := Lib.hid (by rw [← hlf.out, ← hany.out, List.take_length])
        have hown2 := Lib.hid (hown9.out.below hbq)
        have hseen := Lib.hid hown2.out.seen
        have hln : Hid (l.isEmpty = decide (l.length = 0)) := Lib.hid (by cases l <;> simp)
        clear hv hown9 hlf hany
        by_cases hjd : j + 1 = d
        · have PD1 : ∀ W, Calls Tryz.prog 132 #[.int .i64 p] W fun e w' => e = .returned (.int .i64 ((j : Int) + 1)) ∧ W = w' := fun W => by
            have := PD.out W
            rw [← hjd] at this
            exact this
          have PD1 := Lib.hid PD1
          clear PD PFj PNj
          by_cases hl0 : l.length = 0
          · go_wp2_with (first | (go_at_call 132; (with_reducible refine (PD1.out _).mono ?_); rintro e w' ⟨rfl, rfl⟩))
            refine bodyPost_ret (results_tmp4 rfl _ _ _) rfl ?_
            have := LocPost.no (x := 0) (y := 0) hno.out (show M.Ne D A C p j = false by rw [hne.out, hln.out, hl0] <;> rfl) hj (hbw.trans (hwq.mono hbw.size))
            simpa [hl0] using this
          · have hl1 : (0 : Int) < l.length := by omega
            go_wp2_with (first | (go_at_call 132; (with_reducible refine (PD1.out _).mono ?_); rintro e w' ⟨rfl, rfl⟩))
            refine bodyPost_ret (results_tmp4 rfl _ _ _) rfl ?_
            have h8 : (List.range d).any (M.Lf D A C p) = false := by rw [← hjd, hst.out, hno.out, hlf0.out]; rfl
            have := LocPost.open_ (x := 0) (y := 0) h8 (show M.Ne D A C p (d - 1) = true by rw [← hjd, Nat.add_sub_cancel, hne.out, hln.out]; simp [hl0]) (hbw.trans (hwq.mono hbw.size))
            have hl4 : 0 < l.length := by omega
            simpa [hl4] using this
        · have hjd2 : ¬ (j : Int) + 1 = (d : Int) := by omega
          have hjd3 : j + 1 < d := by omega
          by_cases hl0 : l.length = 0
          · go_wp2_with (first | (go_at_call 132; (with_reducible refine (PD.out _).mono ?_); rintro e w' ⟨rfl, rfl⟩))
            refine bodyPost_ret (results_tmp4 rfl _ _ _) rfl ?_
            have := LocPost.no (x := 0) (y := 0) hno.out (show M.Ne D A C p j = false by rw [hne.out, hln.out, hl0] <;> rfl) hj (hbw.trans (hwq.mono hbw.size))
            simpa [hl0] using this
          · have hl1 : (0 : Int) < l.length := by omega
            have hl2 : ¬ (l.length : Int) = 0 := by omega
            have hl3 : ¬ l = [] := fun h => hl0 (by rw [h]; rfl)
            have hl5 : ((l.length : Int) == 0) = false := by simpa using hl0
            have hl6 : ((j : Int) + 1 == (d : Int)) = false := by simpa using hjd2
            have P5 := fun W hs => PFj.out hjd3 a cap W hs
            have P6 := fun W hs => PNj.out hjd3 a cap W hs
            clear PFj PNj
            cases hnx : M.Lf D A C p (j + 1)
            · rw [hnx] at P5
              have P5 := Lib.hid P5
              have P6 := Lib.hid P6
              have hnx := Lib.hid hnx
              go_wp2_with (first
                | (go_at_call 132; (with_reducible refine (PD.out _).mono ?_); rintro e w' ⟨rfl, rfl⟩)
                | (go_at_call 133; (with_reducible refine (P5.out _ hseen.out).mono ?_); rintro e w5 ⟨xx, yy, rfl, hb5⟩; (have hbz : Below w5.heap.size w5 (w5.alloc (.cells #[.int .i64 xx, .int .i64 yy] 103)) := (Below.refl _ _).alloc (Nat.le_refl _) _); (have q5 := hb5.size); (have g0 := keepCell hbz (keepCell hb5 f0)); (have g1 := keepCell hbz (keepCell hb5 f1)); (have g2 := keepCell hbz (keepCell hb5 f2)); (have hown5 := (hown2.out.below hb5).below hbz); (have hb6 := (hb5.trans (hbz.mono q5))))
                | (go_at_call 134; (with_reducible refine (P6.out _ hown5.seen).mono ?_); rintro e w7 ⟨v7, rfl, hown7, hb7⟩))
              have q7 := hb6.size
              have q8 := hwq.size
              go_roundw
              case rel => exact ⟨j + 1, by omega, by go_num, hown7.down (by omega), by rw [hst.out, hno.out, hlf0.out]; rfl, hwq.trans ((hb6.trans (hb7.mono q7)).mono q8)⟩
              case measure => simp [intOf]; omega
            · rw [hnx] at P5
              have P5 := Lib.hid P5
              have hnx := Lib.hid hnx
              go_wp2_with (first
                | (go_at_call 132; (with_reducible refine (PD.out _).mono ?_); rintro e w' ⟨rfl, rfl⟩)
                | (go_at_call 133; (with_reducible refine (P5.out _ hseen.out).mono ?_); rintro e w5 ⟨xx, yy, rfl, hb5⟩; (have hbz : Below w5.heap.size w5 (w5.alloc (.cells #[.int .i64 xx, .int .i64 yy] 103)) := (Below.refl _ _).alloc (Nat.le_refl _) _); (have q5 := hb5.size); (have g0 : (w5.alloc (.cells #[.int .i64 xx, .int .i64 yy] 103)).cell? ⟨w5.heap.size, 0, none⟩ = some (.int .i64 xx) := by simp [go_sem]); (have g1 : (w5.alloc (.cells #[.int .i64 xx, .int .i64 yy] 103)).cell? ⟨w5.heap.size, 1, none⟩ = some (.int .i64 yy) := by simp [go_sem]); (have hb6 := (hb5.trans (hbz.mono q5)))))
              go_quiet (fail)
              go_wp2
              refine bodyPost_ret (results_tmp4 rfl _ _ _) rfl ?_
              exact LocPost.yes hjd3 hnx.out (by omega) (below_drewN (hbw.trans ((hwq.trans (hb6.mono hwq.size)).mono hbw.size)) _)
end Go.Proofs.YtgkjmjlkhnfbiaaGreat

namespace Go.Proofs.YtgkjmjlkhnfbiaaGreat
set_option linter.unusedSimpArgs false
set_option linter.unusedVariables false
open Go.RowKit
set_option maxHeartbeats 1000000 in
theorem soluble_c (D A C : Int) (p d : Nat) (w : World) (hp : 2 ≤ p) (hp2 : p ≤ 997) (hd : M.IsDep p d) (hd1 : 1 ≤ d) (hd2 : d ≤ 29) :
    Calls Tryz.prog 63 #[.agg #[.int .i64 D, .int .i64 A, .int .i64 C], .int .i64 p] w fun e w' => e = .returned (.tuple #[.bool (M.solv D A C p d), .bool (M.told D A C p d)]) ∧ Below w.heap.size w w' := by
  have PL := fun W => localPair_c D A C p d W hp hp2 hd hd1 hd2
  have PL := Lib.hid PL
  clear hd
  obtain ⟨c0, c1, c2⟩ := box3 w D A C 35
  have hbw : Below w.heap.size w (w.alloc (.cells #[.int .i64 D, .int .i64 A, .int .i64 C] 35)) := (by repeat (first | exact Below.refl _ _ | refine below_alloc ?_ _ | refine below_step ?_ (by assumption) | refine Below.drew ?_ | refine Below.setCell ?_ (by first | exact Nat.le_refl _ | exact Nat.le_add_right _ _ | (simp <;> omega)) _ | refine below_drewN ?_ _))
  go_enter Tryz.func63, Tryz.ntmps63
  go_wp2_with fail
  with_reducible refine (PL.out _).mono ?_
  rintro e w2 ⟨x, y, kk, op, rfl, h1, h2, hb⟩
  have hb2 := hbw.trans (hb.mono hbw.size)
  have h1 := Lib.hid h1
  have h2 := Lib.hid h2
  by_cases hk : 0 < kk
  · cases op
    all_goals
      go_wp2
      go_ret2
      exact ⟨by rw [← h2.out, ← h1.out]; simp [hk], hb2⟩
  · have hk2 : (0 < kk) = False := by simpa using hk
    cases op
    all_goals
      go_wp2
      go_ret2
      exact ⟨by rw [← h2.out, ← h1.out]; simp [hk], hb2⟩
set_option maxHeartbeats 1000000 in
theorem loSolves_c (D A C : Int) (p d : Nat) (w : World) (hpr : M.prime p = true) (hp : 2 ≤ p) (hp2 : p ≤ 997) (hd : M.IsDep p d) (hd1 : 1 ≤ d) (hd2 : d ≤ 29) :
    Calls Tryz.prog 128 #[.agg #[.int .i64 D, .int .i64 A, .int .i64 C], .int .i64 p] w fun e w' => e = .returned (.tuple #[.bool (M.solv D A C p d), .bool (M.told D A C p d)]) ∧ Below w.heap.size w w' := by
  have PL := fun W => loFind_c D A C p d W hpr hp hp2 hd hd1 hd2
  have PL := Lib.hid PL
  clear hd hpr
  obtain ⟨c0, c1, c2⟩ := box3 w D A C 35
  have hbw : Below w.heap.size w (w.alloc (.cells #[.int .i64 D, .int .i64 A, .int .i64 C] 35)) := (by repeat (first | exact Below.refl _ _ | refine below_alloc ?_ _ | refine below_step ?_ (by assumption) | refine Below.drew ?_ | refine Below.setCell ?_ (by first | exact Nat.le_refl _ | exact Nat.le_add_right _ _ | (simp <;> omega)) _ | refine below_drewN ?_ _))
  go_enter Tryz.func128, Tryz.ntmps128
  go_wp2_with fail
  with_reducible refine (PL.out _).mono ?_
  rintro e w2 ⟨x, y, kk, op, rfl, h1, h2, hb⟩
  have hb2 := hbw.trans (hb.mono hbw.size)
  have h1 := Lib.hid h1
  have h2 := Lib.hid h2
  by_cases hk : 0 < kk
  · cases op
    all_goals
      go_wp2
      go_ret2
      exact ⟨by rw [← h2.out, ← h1.out]; simp [hk], hb2⟩
  · have hk2 : (0 < kk) = False := by simpa using hk
    cases op
    all_goals
      go_wp2
      go_ret2
      exact ⟨by rw [← h2.out, ← h1.out]; simp [hk], hb2⟩
/-- whether a quartic has real points -/
def M.real (D A C : Int) : Bool := decide (0 < D) || decide (0 < C) || (decide (0 < A) && decide (4 * D * C ≤ A * A))
/-- bounds of a quartic of a descent -/
def M.din (D A C : Int) : Prop := (-100000 ≤ D ∧ D ≤ 100000) ∧ (-1000 ≤ A ∧ A ≤ 1000) ∧ (-100000 ≤ C ∧ C ≤ 100000)
set_option maxHeartbeats 1000000 in
theorem isReal_c (D A C : Int) (w : World) (h : M.din D A C) :
    Calls Tryz.prog 60 #[.agg #[.int .i64 D, .int .i64 A, .int .i64 C]] w fun e w' => e = .returned (.bool (M.real D A C)) ∧ Below w.heap.size w w' := by
  obtain ⟨⟨d1, d2⟩, ⟨a1, a2⟩, e1, e2⟩ := h
  have x1 := M.mul_bd (x := A) (y := A) (m := 1000) (n := 1000) a1 a2 (by omega) (by omega)
  have x2 := M.mul_bd (x := 4 * D) (y := C) (m := 400000) (n := 100000) (by omega) (by omega) (by omega) (by omega)
  obtain ⟨c0, c1, c2⟩ := box3 w D A C 35
  unfold M.real
  by_cases h1 : 0 < D
  · go_enter Tryz.func60, Tryz.ntmps60
    go_wp2
    go_ret
    exact ⟨ret_b (by first | (simp [h1]; done) | (simp [h1]; omega)), (by repeat (first | exact Below.refl _ _ | refine below_alloc ?_ _ | refine below_step ?_ (by assumption) | refine Below.drew ?_ | refine Below.setCell ?_ (by first | exact Nat.le_refl _ | exact Nat.le_add_right _ _ | (simp <;> omega)) _ | refine below_drewN ?_ _))⟩
  · by_cases h2 : 0 < C
    · go_enter Tryz.func60, Tryz.ntmps60
      go_wp2
      go_ret
      exact ⟨ret_b (by first | (simp [h1, h2]; done) | (simp [h1, h2]; omega)), (by repeat (first | exact Below.refl _ _ | refine below_alloc ?_ _ | refine below_step ?_ (by assumption) | refine Below.drew ?_ | refine Below.setCell ?_ (by first | exact Nat.le_refl _ | exact Nat.le_add_right _ _ | (simp <;> omega)) _ | refine below_drewN ?_ _))⟩
    · by_cases h3 : 0 < A
      · go_enter Tryz.func60, Tryz.ntmps60
        go_wp2
        go_ret
        exact ⟨ret_b (by first | (simp [h1, h2, h3]; done) | (simp [h1, h2, h3]; omega)), (by repeat (first | exact Below.refl _ _ | refine below_alloc ?_ _ | refine below_step ?_ (by assumption) | refine Below.drew ?_ | refine Below.setCell ?_ (by first | exact Nat.le_refl _ | exact Nat.le_add_right _ _ | (simp <;> omega)) _ | refine below_drewN ?_ _))⟩
      · go_enter Tryz.func60, Tryz.ntmps60
        go_wp2
        go_ret
        exact ⟨ret_b (by first | (simp [h1, h2, h3]; done) | (simp [h1, h2, h3]; omega)), (by repeat (first | exact Below.refl _ _ | refine below_alloc ?_ _ | refine below_step ?_ (by assumption) | refine Below.drew ?_ | refine Below.setCell ?_ (by first | exact Nat.le_refl _ | exact Nat.le_add_right _ _ | (simp <;> omega)) _ | refine below_drewN ?_ _))⟩
set_option maxHeartbeats 1000000 in
theorem loReal_c (D A C : Int) (w : World) (h : M.din D A C) :
    Calls Tryz.prog 101 #[.agg #[.int .i64 D, .int .i64 A, .int .i64 C]] w fun e w' => e = .returned (.bool (M.real D A C)) ∧ Below w.heap.size w w' := by
  obtain ⟨⟨d1, d2⟩, ⟨a1, a2⟩, e1, e2⟩ := h
  have x1 := M.mul_bd (x := A) (y := A) (m := 1000) (n := 1000) a1 a2 (by omega) (by omega)
  have x2 := M.mul_bd (x := 4 * D) (y := C) (m := 400000) (n := 100000) (by omega) (by omega) (by omega) (by omega)
  obtain ⟨c0, c1, c2⟩ := box3 w D A C 35
  unfold M.real
  by_cases h1 : 0 < D
  · go_enter Tryz.func101, Tryz.ntmps101
    go_wp2
    go_ret
    exact ⟨ret_b (by first | (simp [h1]; done) | (simp [h1]; omega)), (by repeat (first | exact Below.refl _ _ | refine below_alloc ?_ _ | refine below_step ?_ (by assumption) | refine Below.drew ?_ | refine Below.setCell ?_ (by first | exact Nat.le_refl _ | exact Nat.le_add_right _ _ | (simp <;> omega)) _ | refine below_drewN ?_ _))⟩
  · by_cases h2 : 0 < C
    · go_enter Tryz.func101, Tryz.ntmps101
      go_wp2
      go_ret
      exact ⟨ret_b (by first | (simp [h1, h2]; done) | (simp [h1, h2]; omega)), (by repeat (first | exact Below.refl _ _ | refine below_alloc ?_ _ | refine below_step ?_ (by assumption) | refine Below.drew ?_ | refine Below.setCell ?_ (by first | exact Nat.le_refl _ | exact Nat.le_add_right _ _ | (simp <;> omega)) _ | refine below_drewN ?_ _))⟩
    · by_cases h3 : 0 < A
      · go_enter Tryz.func101, Tryz.ntmps101
        go_wp2
        go_ret
        exact ⟨ret_b (by first | (simp [h1, h2, h3]; done) | (simp [h1, h2, h3]; omega)), (by repeat (first | exact Below.refl _ _ | refine below_alloc ?_ _ | refine below_step ?_ (by assumption) | refine Below.drew ?_ | refine Below.setCell ?_ (by first | exact Nat.le_refl _ | exact Nat.le_add_right _ _ | (simp <;> omega)) _ | refine below_drewN ?_ _))⟩
      · go_enter Tryz.func101, Tryz.ntmps101
        go_wp2
        go_ret
        exact ⟨ret_b (by first | (simp [h1, h2, h3]; done) | (simp [h1, h2, h3]; omega)), (by repeat (first | exact Below.refl _ _ | refine below_alloc ?_ _ | refine below_step ?_ (by assumption) | refine Below.drew ?_ | refine Below.setCell ?_ (by first | exact Nat.le_refl _ | exact Nat.le_add_right _ _ | (simp <;> omega)) _ | refine below_drewN ?_ _))⟩
end Go.Proofs.YtgkjmjlkhnfbiaaGreat

namespace Go.Proofs.YtgkjmjlkhnfbiaaGreat
set_option linter.unusedSimpArgs false
set_option linter.unusedVariables false
open Go.RowKit
namespace M
theorem valn_abs {n p : Int} (hp : 2 ≤ p) (hn : n ≠ 0) : valn (n.natAbs : Int) p = valn n p := by
  rcases Int.lt_or_le n 0 with h | h
  · have e : (n.natAbs : Int) = -n := by omega
    obtain ⟨u, h1, h2⟩ := valn_pow hp hn
    have hnn := valn_nn n p
    have := valn_uniq (v := (valn n p).toNat) (a := -n) (u := -u) hp (by
      generalize (valn n p).toNat = k at *
      rw [Int.mul_neg, ← h1]) (fun hz => h2 (by
        have := Int.dvd_of_emod_eq_zero hz
        exact Int.emod_eq_zero_of_dvd (Int.dvd_neg.1 this))) (by omega)
    rw [e, this]
    omega
  · rw [show (n.natAbs : Int) = n from by omega]
theorem fac_get {N : Int} {l : List Int} {k : Nat} {r : List Int} (h : (fac N l)[k]? = some r) : ∃ p, l[k]? = some p ∧ r = [p, valn N p] := by
  unfold fac at h
  rw [List.getElem?_map] at h
  cases hp : l[k]? with
  | none => rw [hp] at h; cases h
  | some p =>
    rw [hp] at h
    exact ⟨p, rfl, (Option.some.inj h).symm⟩
end M
theorem l1Sign_c (n : Int) (w : World) (h : n ≠ 0) :
    Calls Tryz.prog 144 #[.int .i64 n] w fun e w' => e = .returned (.int .i64 (M.sgn1 n)) ∧ w = w' := by
  by_cases h1 : 0 < n
  · have h2 : ¬ n < 0 := by omega
    go_enter Tryz.func144, Tryz.ntmps144
    go_wp2
    go_ret
    exact ⟨ret_i (by simp [M.sgn1, h2]), rfl⟩
  · have h2 : n < 0 := by omega
    go_enter Tryz.func144, Tryz.ntmps144
    go_wp2
    go_ret
    exact ⟨ret_i (by simp [M.sgn1, h2]), rfl⟩
set_option maxHeartbeats 1000000 in
theorem tcClass_c (n : Int) (w : World) (h0 : n ≠ 0) (h2 : -10000000 ≤ n) (h3 : n ≤ 10000000) :
    Calls Tryz.prog 120 #[.int .i64 n] w fun e w' => e = .returned (.int .i64 (M.sqfree n)) ∧ Below w.heap.size w w' := by
  have PF := fun W => mdFactors_c n.natAbs W (by omega) (by omega)
  rw [← M.primesOf_abs n] at PF
  have hval := fun p (hp : p ∈ M.primesOf n) => M.valn_abs (n := n) (mem_primesOf hp).1 h0
  have hval := Lib.hid hval
  have hlen : (M.fac n.natAbs (M.primesOf n)).length = (M.primesOf n).length := by simp [M.fac]
  have PA := fun W => l1Abs_c n W (by omega) (by omega)
  have PS := fun W => l1Sign_c n W h0
  have PF := Lib.hid PF
  have PA := Lib.hid PA
  have PS := Lib.hid PS
  go_enter Tryz.func120, Tryz.ntmps120
  go_wp2_with (first
    | (go_at_call 126; (with_reducible refine (PA.out _).mono ?_); rintro e w' ⟨rfl, rfl⟩)
    | (go_at_call 144; (with_reducible refine (PS.out _).mono ?_); rintro e w' ⟨rfl, rfl⟩)
    | (go_at_call 125; (with_reducible refine (PF.out _).mono ?_); rintro e w1 ⟨v, rfl, ⟨vs, hov⟩, hb⟩; obtain ⟨a, cap, rfl, hm, hv⟩ := hov.view))
  have hv := Lib.hid hv

  go_loop [3, 5, 12] (fun vo _ vi => ∃ k : Nat, k ≤ (M.primesOf n).length ∧ vi = .int .i64 k ∧ vo = .int .i64 (((M.primesOf n).take k).foldl (M.sfStep n) (M.sgn1 n))) (fun _ _ vi => (M.primesOf n).length - (intOf vi).toNat)
  case atStart => exact ⟨0, by omega, rfl, by simp⟩
  case round =>
    obtain ⟨k, hk, rfl, rfl⟩ := hrel
    by_cases hlt : k < (M.primesOf n).length
    · obtain ⟨g, u, r, rfl, hg, hr, -, hcell, hown⟩ := hv.out k (by rw [hlen]; exact hlt)
      obtain ⟨p, hp, rfl⟩ := M.fac_get hr.out
      have hvp := hval.out p (List.mem_of_getElem? hp)
      rw [hvp] at hown
      obtain ⟨a2, cap2, rfl, hm2, hv2⟩ := hown.view
      obtain ⟨g2, x0, rfl, hg2, hx0, hc0⟩ := hv2 0 (by simp)
      obtain ⟨g3, x1, e3, hg3, hx1, hc1⟩ := hv2 1 (by simp)
      obtain rfl : p = x0 := by simpa using hx0.out
      obtain rfl : M.valn n p = x1 := by simpa using hx1.out
      injection e3 with e3
      injection e3 with e3
      subst e3
      have hf := Lib.hid (foldl_next (M.sfStep n) (M.sgn1 n) hp)
      have hnn := M.valn_nn n p
      clear hv2 hr hvp hown hx0 hx1 hp hm2
      by_cases ho : M.valn n p % 2 = 1
      · have ho' := Lib.hid ho
        go_wp2
        go_round
        case rel => exact ⟨k + 1, by omega, by go_num, by rw [hf.out]; rw [M.sfStep_odd ho'.out]⟩
        case measure => simp [intOf]; omega
      · go_wp2
        go_round
        case rel => exact ⟨k + 1, by omega, by go_num, by rw [hf.out]; rw [M.sfStep_even ho]⟩
        case measure => simp [intOf]; omega
    · obtain rfl : k = (M.primesOf n).length := by omega
      go_wp2
      go_ret
      exact ⟨ret_i rfl, hb⟩
end Go.Proofs.YtgkjmjlkhnfbiaaGreat

namespace Go.Proofs.YtgkjmjlkhnfbiaaGreat
set_option linter.unusedSimpArgs false
set_option linter.unusedVariables false
namespace M
/-- strictly increasing -/
def Inc (l : List Int) : Prop := l.Pairwise (· < ·)
theorem Inc.ext : ∀ {l m : List Int}, Inc l → Inc m → (∀ x, x ∈ l ↔ x ∈ m) → l = m
  | [], [], _, _, _ => rfl
  | [], y :: m, _, _, h => absurd ((h y).2 List.mem_cons_self) (by simp)
  | x :: l, [], _, _, h => absurd ((h x).1 List.mem_cons_self) (by simp)
  | x :: l, y :: m, h1, h2, h => by
    obtain ⟨a1, b1⟩ := List.pairwise_cons.1 h1
    obtain ⟨a2, b2⟩ := List.pairwise_cons.1 h2
    have hxy : x = y := by
      rcases List.mem_cons.1 ((h x).1 List.mem_cons_self) with e | e
      · exact e
      · rcases List.mem_cons.1 ((h y).2 List.mem_cons_self) with e' | e'
        · exact e'.symm
        · have := a1 y e'
          have := a2 x e
          omega
    subst hxy
    congr 1
    refine Inc.ext b1 b2 fun z => ⟨fun hz => ?_, fun hz => ?_⟩
    · rcases List.mem_cons.1 ((h z).1 (List.mem_cons_of_mem _ hz)) with e | e
      · have := a1 z hz; omega
      · exact e
    · rcases List.mem_cons.1 ((h z).2 (List.mem_cons_of_mem _ hz)) with e | e
      · have := a2 z hz; omega
      · exact e
theorem inc_upto (lo : Int) (k : Nat) : Inc (upto lo k) := by
  unfold Inc upto
  rw [List.pairwise_map]
  exact List.Pairwise.imp (fun h => by omega) List.pairwise_lt_range
theorem inc_sel (p : Int → Bool) (lo : Int) (k : Nat) : Inc (sel p lo k) := List.Pairwise.filter _ (inc_upto lo k)
/-- the place of a number, and the list with it -/
def place (xs : List Int) (n : Int) : Nat := (xs.takeWhile (decide <| · < n)).length
def put (xs : List Int) (n : Int) : List Int := if xs[place xs n]? = some n then xs else xs.take (place xs n) ++ [n] ++ xs.drop (place xs n)
theorem place_le (xs : List Int) (n : Int) : place xs n ≤ xs.length := by
  have := (List.takeWhile_prefix (decide <| · < n) (l := xs)).length_le
  exact this
theorem place_eq : ∀ (xs : List Int) (n : Int) (k : Nat), k ≤ xs.length → (∀ j y, j < k → xs[j]? = some y → y < n) → (∀ y, xs[k]? = some y → ¬ y < n) → k = place xs n
  | [], n, k, hk, _, _ => by simp at hk; simp [place, hk]
  | x :: xs, n, 0, _, _, h => by
    have := h x rfl
    simp [place, List.takeWhile_cons, this]
  | x :: xs, n, k + 1, hk, h1, h2 => by
    have hx := h1 0 x (by omega) rfl
    have ih := place_eq xs n k (by simpa using hk) (fun j y hj hy => h1 (j + 1) y (by omega) (by simpa using hy)) (fun y hy => h2 y (by simpa using hy))
    simp only [place, List.takeWhile_cons, hx, decide_true, if_true, List.length_cons]
    unfold place at ih
    omega
theorem inc_put {xs : List Int} {n : Int} (h : Inc xs) : Inc (put xs n) ∧ ∀ x, x ∈ put xs n ↔ x ∈ xs ∨ x = n := by
  have hp := place_le xs n
  have h1 : ∀ y ∈ xs.take (place xs n), y < n := by
    intro y hy
    have e : xs.take (place xs n) = xs.takeWhile (decide <| · < n) := by
      have := List.takeWhile_prefix (decide <| · < n) (l := xs)
      exact (List.prefix_iff_eq_take.1 this).symm
    rw [e] at hy
    have := List.all_takeWhile (p := (decide <| · < n)) (l := xs)
    have := List.all_eq_true.1 this y hy
    simpa using this
  have h2 : ∀ y, xs[place xs n]? = some y → ¬ y < n := by
    intro y hy
    have hd : xs.dropWhile (decide <| · < n) = xs.drop (place xs n) := by
      have e1 := List.takeWhile_append_dropWhile (p := (decide <| · < n)) (l := xs)
      have e2 : (xs.takeWhile (decide <| · < n) ++ xs.dropWhile (decide <| · < n)).drop (place xs n) = xs.dropWhile (decide <| · < n) := List.drop_left' rfl
      rw [e1] at e2
      exact e2.symm
    have hh := List.head?_dropWhile_not (p := (decide <| · < n)) (l := xs)
    rw [hd, List.head?_drop, hy] at hh
    simpa using hh
  have hs : xs = xs.take (place xs n) ++ xs.drop (place xs n) := (List.take_append_drop _ _).symm
  unfold put
  split
  · rename_i he
    refine ⟨h, fun x => ⟨Or.inl, fun hx => ?_⟩⟩
    rcases hx with hx | rfl
    · exact hx
    · exact List.mem_of_getElem? he
  · rename_i he
    have hgt : ∀ y ∈ xs.drop (place xs n), n < y := by
      intro y hy
      cases hd : xs.drop (place xs n) with
      | nil => rw [hd] at hy; cases hy
      | cons z zs =>
        have hz : xs[place xs n]? = some z := by rw [← List.head?_drop, hd]; rfl
        have hzn : n < z := by
          have := h2 z hz
          have : z ≠ n := fun e => he (by rw [hz, e])
          omega
        have hinc : Inc (xs.drop (place xs n)) := List.Pairwise.sublist (List.drop_sublist _ _) h
        rw [hd] at hinc hy
        rcases List.mem_cons.1 hy with e | e
        · omega
        · have := (List.pairwise_cons.1 hinc).1 y e
          omega
    refine ⟨?_, fun x => ?_⟩
    · unfold Inc
      rw [List.append_assoc, List.pairwise_append]
      refine ⟨List.Pairwise.sublist (List.take_sublist _ _) h, ?_, fun a ha b hb => ?_⟩
      · rw [List.pairwise_append]
        refine ⟨by simp, List.Pairwise.sublist (List.drop_sublist _ _) h, fun a ha b hb => ?_⟩
        simp only [List.mem_singleton] at ha
        subst ha
        exact hgt b hb
      · have ha' := h1 a ha
        rcases List.mem_append.1 hb with hb | hb
        · simp only [List.mem_singleton] at hb
          omega
        · have := hgt b hb; omega
    · simp only [List.mem_append, List.mem_singleton]
      constructor
      · rintro ((hx | hx) | hx)
        · exact Or.inl (List.mem_of_mem_take hx)
        · exact Or.inr hx
        · exact Or.inl (List.mem_of_mem_drop hx)
      · rintro (hx | hx)
        · rw [hs, List.mem_append] at hx
          rcases hx with hx | hx
          · exact Or.inl (Or.inl hx)
          · exact Or.inr hx
        · exact Or.inl (Or.inr hx)
theorem put_le (xs : List Int) (n : Int) : (put xs n).length ≤ xs.length + 1 := by
  have hp := place_le xs n
  unfold put
  split
  · omega
  · simp only [List.length_append, List.length_take, List.length_drop, List.length_singleton]
    omega
/-- put one after the other, those that pass a test -/
def puts (f : Int → Bool) (l : List Int) : List Int := l.foldl (fun acc d => if f d then put acc d else acc) []
theorem inc_puts (f : Int → Bool) : ∀ (l : List Int) (acc : List Int), Inc acc → Inc (l.foldl (fun acc d => if f d then put acc d else acc) acc) ∧ ∀ x, x ∈ l.foldl (fun acc d => if f d then put acc d else acc) acc ↔ x ∈ acc ∨ x ∈ l ∧ f x = true
  | [], acc, h => ⟨h, by simp⟩
  | d :: l, acc, h => by
    have hs : Inc (if f d then put acc d else acc) ∧ ∀ x, x ∈ (if f d then put acc d else acc) ↔ x ∈ acc ∨ x = d ∧ f d = true := by
      split
      · rename_i hf
        have := inc_put (n := d) h
        exact ⟨this.1, fun x => by rw [this.2]; simp [hf]⟩
      · rename_i hf
        exact ⟨h, fun x => by simp [hf]⟩
    have ih := inc_puts f l _ hs.1
    rw [List.foldl_cons]
    refine ⟨ih.1, fun x => ?_⟩
    rw [ih.2, hs.2, List.mem_cons]
    constructor
    · rintro ((h | ⟨rfl, h⟩) | ⟨h, h'⟩)
      · exact Or.inl h
      · exact Or.inr ⟨Or.inl rfl, h⟩
      · exact Or.inr ⟨Or.inr h, h'⟩
    · rintro (h | ⟨rfl | h, h'⟩)
      · exact Or.inl (Or.inl h)
      · exact Or.inl (Or.inr ⟨rfl, h'⟩)
      · exact Or.inr ⟨h, h'⟩
/-- twist numbers, the nearest to 0 first, negative ones before -/
def near : Nat → List Int
  | 0 => []
  | k + 1 => near k ++ if tw ((k : Int) + 1) then [-((k : Int) + 1), (k : Int) + 1] else []
theorem tw_neg (d : Int) : tw (-d) = tw d := by
  rw [Bool.eq_iff_iff, tw_iff, tw_iff]
  omega
theorem mem_near : ∀ (k : Nat) (x : Int), x ∈ near k ↔ tw x = true ∧ x.natAbs ≤ k
  | 0, x => by
    simp only [near, List.not_mem_nil, false_iff]
    rintro ⟨h1, h2⟩
    have := (tw_iff.1 h1).1
    omega
  | k + 1, x => by
    rw [near, List.mem_append, mem_near k x]
    split
    · rename_i ht
      simp only [List.mem_cons, List.not_mem_nil, or_false]
      constructor
      · rintro (⟨h1, h2⟩ | rfl | rfl)
        · exact ⟨h1, by omega⟩
        · exact ⟨by rw [tw_neg]; exact ht, by omega⟩
        · exact ⟨ht, by omega⟩
      · rintro ⟨h1, h2⟩
        rcases Nat.lt_or_ge x.natAbs (k + 1) with h | h
        · exact Or.inl ⟨h1, by omega⟩
        · right; omega
    · rename_i ht
      simp only [List.not_mem_nil, or_false]
      constructor
      · rintro ⟨h1, h2⟩
        exact ⟨h1, by omega⟩
      · rintro ⟨h1, h2⟩
        refine ⟨h1, ?_⟩
        rcases Nat.lt_or_ge x.natAbs (k + 1) with h | h
        · omega
        · exfalso
          apply ht
          rcases (show x = (k : Int) + 1 ∨ x = -((k : Int) + 1) by omega) with e | e
          · rw [← e]; exact h1
          · rw [← tw_neg, ← e]; exact h1
theorem near_le : ∀ k : Nat, (near k).length ≤ 2 * k
  | 0 => by simp [near]
  | k + 1 => by
    have := near_le k
    rw [near, List.length_append]
    split <;> simp <;> omega
/-- those with a valid twist -/
def twOk (a b d : Int) : Bool := good (a * d * d) (b * d * d * d)
def twp (a b d : Int) : Bool := tw d && twOk a b d
def tws (a b : Int) : List Int := sel (twp a b) (-30) 61
theorem tws_puts (a b : Int) : puts (twOk a b) (near 30) = tws a b := by
  have h := inc_puts (twOk a b) (near 30) [] List.Pairwise.nil
  refine Inc.ext h.1 (inc_sel _ _ _) fun x => ?_
  refine (h.2 x).trans ?_
  rw [mem_near, tws, mem_sel]
  simp only [List.not_mem_nil, false_or, twp, Bool.and_eq_true]
  constructor
  · rintro ⟨⟨h1, h2⟩, h3⟩
    exact ⟨by omega, h1, h3⟩
  · rintro ⟨h1, h2, h3⟩
    have := tw_iff.1 h2
    exact ⟨⟨h2, by omega⟩, h3⟩
end M
end Go.Proofs.YtgkjmjlkhnfbiaaGreat

namespace Go.Proofs.YtgkjmjlkhnfbiaaGreat
set_option linter.unusedSimpArgs false
set_option linter.unusedVariables false
open Go.RowKit

theorem seen_take {w : World} {hi : Nat} {g : Option Addr} {n : Nat} {xs : List Int} (h : ∀ k, k < xs.length → ∃ b x, g = some ⟨b, 0, none⟩ ∧ b < hi ∧ Hid (xs[k]? = some x) ∧ w.cell? ⟨b, k, none⟩ = some (.int .i64 x)) {w' : World} (hb : Below hi w w') :
    ∀ j y, (xs.take n)[j]? = some y → ∃ ad, g = some ad ∧ w'.cell? (ad.add j) = some (.int .i64 y) := by
  have hadd : ∀ b i : Nat, (⟨b, 0, none⟩ : Addr).add i = ⟨b, i, none⟩ := fun b i => by unfold Addr.add; split <;> simp_all
  intro j y hy
  rw [List.getElem?_take] at hy
  split at hy
  · have hj := (List.getElem?_eq_some_iff.1 hy).1
    obtain ⟨b, x, e1, e2, e3, e4⟩ := h j hj
    obtain rfl := Option.some.inj (e3.out.symm.trans hy)
    exact ⟨_, e1, by rw [hadd]; exact (hb.cell (p := ⟨b, j, none⟩) e2).trans e4⟩
  · cases hy
theorem seen_drop {w : World} {hi g n : Nat} {xs : List Int} (h : ∀ k, k < xs.length → ∃ b x, some (⟨g, 0, none⟩ : Addr) = some ⟨b, 0, none⟩ ∧ b < hi ∧ Hid (xs[k]? = some x) ∧ w.cell? ⟨b, k, none⟩ = some (.int .i64 x)) {w' : World} (hb : Below hi w w') :
    ∀ j y, (xs.drop n)[j]? = some y → ∃ ad, some (⟨g, n, none⟩ : Addr) = some ad ∧ w'.cell? (ad.add j) = some (.int .i64 y) := by
  have hadd2 : ∀ b i j : Nat, (⟨b, i, none⟩ : Addr).add j = ⟨b, i + j, none⟩ := fun b i j => by unfold Addr.add; split <;> simp_all
  intro j y hy
  rw [List.getElem?_drop] at hy
  have hj := (List.getElem?_eq_some_iff.1 hy).1
  obtain ⟨b, x, e1, e2, e3, e4⟩ := h (n + j) hj
  obtain rfl := Option.some.inj (e3.out.symm.trans hy)
  simp only [Option.some.injEq, Addr.mk.injEq, and_true] at e1
  subst e1
  exact ⟨_, rfl, by rw [hadd2]; exact (hb.cell (p := ⟨g, n + j, none⟩) e2).trans e4⟩

set_option maxHeartbeats 400000 in
theorem l1Put_c (xs : List Int) (v : Value) (n : Int) (w : World) (base : Nat) (hown : OwnI w base v xs) (hbs : base ≤ w.heap.size) (hlen : xs.length ≤ 1000000000) :
    Calls Tryz.prog 115 #[v, .int .i64 n] w fun e w' => ∃ v', e = .returned v' ∧ OwnI w' base v' (M.put xs n) ∧ Below w.heap.size w w' := by
  obtain ⟨a, cap, rfl, hm, hv⟩ := hown.seen
  go_enter Tryz.func115, Tryz.ntmps115
  go_wp2
  have hcap := hown.cap
  go_loop [5] (fun vi => ∃ k : Nat, k ≤ xs.length ∧ vi = .int .i64 k ∧ ∀ j y, j < k → xs[j]? = some y → y < n) (fun vi => xs.length - (intOf vi).toNat)
  case atStart => exact ⟨0, by omega, rfl, fun j y h => by omega⟩
  case round =>
    obtain ⟨k, hk, rfl, hall⟩ := hrel
    have Hall := Lib.hid hall
    clear hall
    have hkc : (k : Int) ≤ cap := by omega
    by_cases hlt : k < xs.length
    · obtain ⟨g, x, rfl, hg, hx, hcell⟩ := hv k hlt
      by_cases hxn : x < n
      · have hnx : Hid (∀ j y, j < k + 1 → xs[j]? = some y → y < n) := Lib.hid fun j y hj hy => by
          rcases Nat.lt_or_ge j k with q | q
          · exact Hall.out j y q hy
          · obtain rfl : j = k := by omega
            obtain rfl := Option.some.inj (hx.out.symm.trans hy)
            exact hxn
        clear hv
        go_wp2
        go_round
        case rel => exact ⟨k + 1, by omega, by go_num, hnx.out⟩
        case measure => simp [intOf]; omega
      · have hpl : Hid (k = M.place xs n) := Lib.hid (M.place_eq xs n k (by omega) Hall.out fun y hy => by
          obtain rfl := Option.some.inj (hx.out.symm.trans hy)
          exact hxn)
        by_cases hxe : x = n
        · have hb : (x == n) = true := by simpa using hxe
          have hput : Hid (M.put xs n = xs) := Lib.hid (by unfold M.put; rw [← hpl.out, hx.out, hxe, if_pos rfl])
          clear hv
          have hxe := Lib.hid hxe
          go_wp2
          go_ret
          exact ⟨_, rfl, by rw [hput.out]; exact hown, Below.refl _ _⟩
        · have hb : (x == n) = false := by simpa using hxe
          have hput : Hid (M.put xs n = xs.take k ++ [n] ++ xs.drop k) := Lib.hid (by unfold M.put; rw [← hpl.out, hx.out, if_neg (by intro h; exact hxe (Option.some.inj h))])
          have hs1 := Lib.hid fun w' (hb : Below w.heap.size w w') => seen_take (n := k) hv hb
          have hs2 := Lib.hid fun w' (hb : Below w.heap.size w w') => seen_drop (n := k) hv hb
          clear hv
          have hc0 : ¬ cap = k := by omega
          have hl1 : Hid ((xs.take k).length = k) := Lib.hid (by rw [List.length_take]; omega)
          have hl2 : Hid ((xs.drop k).length = xs.length - k) := Lib.hid (by rw [List.length_drop])
          go_wp2_with (first
            | (at_builtin; refine push_seg (W := w) w.heap.size (xs.take k) [] _ (some ⟨g, 0, none⟩) k cap hl1.out rfl (.tmp 34) (.tmp 37) rfl rfl rfl (hs1.out _ (by repeat (first | exact Below.refl _ _ | refine below_alloc ?_ _ | refine below_step ?_ (by assumption) | refine Below.drew ?_ | refine Below.setCell ?_ (by first | exact Nat.le_refl _ | exact Nat.le_add_right _ _ | (simp <;> omega)) _ | refine below_drewN ?_ _))) (OwnI.lit0 _ _ (Nat.le_refl _)) (by repeat (first | exact Below.refl _ _ | refine below_alloc ?_ _ | refine below_step ?_ (by assumption) | refine Below.drew ?_ | refine Below.setCell ?_ (by first | exact Nat.le_refl _ | exact Nat.le_add_right _ _ | (simp <;> omega)) _ | refine below_drewN ?_ _)) (by simp) (by rw [hl1.out]; simp; omega) ?_; rintro v1 w1 hown1 hb1)
            | (at_builtin; refine push_int w.heap.size n (xs.take k) v1 rfl (.tmp 39) (.tmp 41) rfl rfl rfl hown1 hb1 hb1.size (by rw [hl1.out]; omega) ?_; rintro v2 w2 hown2 hb2)
            | (at_builtin; refine push_seg (W := w) w.heap.size (xs.drop k) (xs.take k ++ [n]) v2 (some ⟨g, k, none⟩) (xs.length - k) (cap - k) hl2.out rfl (.tmp 43) (.tmp 46) rfl rfl rfl (hs2.out _ hb2) hown2 hb2 hb2.size (by rw [List.length_append, hl1.out, hl2.out]; simp; omega) ?_; rintro v3 w3 hown3 hb3))
          go_ret
          exact ⟨_, rfl, by rw [hput.out]; exact hown3.base hbs, hb3⟩
    · obtain rfl : k = xs.length := by omega
      have hpl : Hid (xs.length = M.place xs n) := Lib.hid (M.place_eq xs n xs.length (by omega) Hall.out fun y hy => by simp at hy)
      have hput : Hid (M.put xs n = xs.take xs.length ++ [n] ++ []) := Lib.hid (by unfold M.put; rw [← hpl.out]; simp)
      have hs1 := Lib.hid fun w' (hb : Below w.heap.size w w') => seen_take (n := xs.length) hv hb
      clear hv
      have hl1 : Hid ((xs.take xs.length).length = xs.length) := Lib.hid (by rw [List.length_take]; omega)
      have h00 : Hid (([] : List Int).length = xs.length - xs.length) := Lib.hid (by simp)
      rcases hown.forms with ⟨h1, h2⟩ | ⟨g, cap', h1, hg⟩
      · injection h1 with e1 e2 e3
        subst e1 e3 h2
        clear e2
        go_wp2_with (first
          | (at_builtin; refine push_seg (W := w) w.heap.size [] [] _ none 0 0 rfl rfl (.tmp 34) (.tmp 37) rfl rfl rfl (by intro j y hy; cases hy) (OwnI.lit0 _ _ (Nat.le_refl _)) (by repeat (first | exact Below.refl _ _ | refine below_alloc ?_ _ | refine below_step ?_ (by assumption) | refine Below.drew ?_ | refine Below.setCell ?_ (by first | exact Nat.le_refl _ | exact Nat.le_add_right _ _ | (simp <;> omega)) _ | refine below_drewN ?_ _)) (by simp) (by simp) ?_; rintro v1 w1 hown1 hb1)
          | (at_builtin; refine push_int w.heap.size n [] v1 rfl (.tmp 39) (.tmp 41) rfl rfl rfl hown1 hb1 hb1.size (by simp) ?_; rintro v2 w2 hown2 hb2)
          | (at_builtin; refine push_seg (W := w) w.heap.size [] [n] v2 none 0 0 rfl rfl (.tmp 43) (.tmp 46) rfl rfl rfl (by intro j y hy; cases hy) hown2 hb2 hb2.size (by simp) ?_; rintro v3 w3 hown3 hb3))
        go_ret
        exact ⟨_, rfl, by rw [hput.out]; exact hown3.base hbs, hb3⟩
      · injection h1 with e1 e2 e3
        subst e1 e3
        clear e2
        by_cases hcx : cap = xs.length
        all_goals
          go_wp2_with (first
            | (at_builtin; refine push_seg (W := w) w.heap.size (xs.take xs.length) [] _ (some ⟨g, 0, none⟩) xs.length _ hl1.out rfl (.tmp 34) (.tmp 37) rfl rfl rfl (hs1.out _ (by repeat (first | exact Below.refl _ _ | refine below_alloc ?_ _ | refine below_step ?_ (by assumption) | refine Below.drew ?_ | refine Below.setCell ?_ (by first | exact Nat.le_refl _ | exact Nat.le_add_right _ _ | (simp <;> omega)) _ | refine below_drewN ?_ _))) (OwnI.lit0 _ _ (Nat.le_refl _)) (by repeat (first | exact Below.refl _ _ | refine below_alloc ?_ _ | refine below_step ?_ (by assumption) | refine Below.drew ?_ | refine Below.setCell ?_ (by first | exact Nat.le_refl _ | exact Nat.le_add_right _ _ | (simp <;> omega)) _ | refine below_drewN ?_ _)) (by simp) (by rw [hl1.out]; simp; omega) ?_; rintro v1 w1 hown1 hb1)
            | (at_builtin; refine push_int w.heap.size n (xs.take xs.length) v1 rfl (.tmp 39) (.tmp 41) rfl rfl rfl hown1 hb1 hb1.size (by rw [hl1.out]; omega) ?_; rintro v2 w2 hown2 hb2)
            | (at_builtin; refine push_seg (W := w) w.heap.size [] (xs.take xs.length ++ [n]) v2 _ 0 _ rfl rfl (.tmp 43) (.tmp 46) rfl rfl rfl (by intro j y hy; cases hy) hown2 hb2 hb2.size (by rw [List.length_append, hl1.out]; simp; omega) ?_; rintro v3 w3 hown3 hb3))
          go_ret
          exact ⟨_, rfl, by rw [hput.out]; exact hown3.base hbs, hb3⟩
end Go.Proofs.YtgkjmjlkhnfbiaaGreat

namespace Go.Proofs.YtgkjmjlkhnfbiaaGreat
set_option linter.unusedSimpArgs false
set_option linter.unusedVariables false
open Go.RowKit Go.Shelf Go.Sort
variable {α : Type} [Inhabited α]

/-- the elements of d lie as numbers -/
theorem OwnI.holds {w : World} {base g n cap : Nat} {xs : List Int} (f : α → Int) (d : Array α) (hd : d.toList.map f = xs) (hn : n = xs.length) (h : OwnI w base (.slice (some ⟨g, 0, none⟩) n cap) xs) : Holds (fun x => Value.int .i64 (f x)) w g 0 d := by
  intro j hj
  subst hn hd
  have hj' : j < (d.toList.map f).length := by simpa using hj
  have h1 := World.ownsRow.cellAt (g := g) (cap := cap) (n := (d.toList.map f).length) h j (by omega)
  have h2 := World.ownsRow.frozenAt (g := g) (cap := cap) (n := (d.toList.map f).length) h j
  rw [Nat.zero_add]
  refine ⟨?_, h2⟩
  rw [h1, List.getElem?_map, List.getElem?_map, Array.getElem?_toList, Array.getElem?_eq_getElem hj, getElem!_pos d j hj]
  rfl

theorem OwnI.sorted {w : World} {base g cap n m : Nat} {xs : List Int} (f : α → Int) {d' : Array α} {os : Array Obj} (hn : n = xs.length) (h : OwnI w base (.slice (some ⟨g, 0, none⟩) n cap) xs) (hd : d'.size = xs.length) (hbs : base ≤ w.heap.size) :
    OwnI (sortWorld (fun x => Value.int .i64 (f x)) w g 0 m d' os) base (.slice (some ⟨g, 0, none⟩) n cap) (d'.toList.map f) ∧ Below base w (sortWorld (fun x => Value.int .i64 (f x)) w g 0 m d' os) := by
  subst hn
  have hlt := (OwnI.lt h g rfl)
  obtain ⟨h1, h2⟩ := h
  rcases h2 with ⟨e, -⟩ | ⟨g', cap', cur, e, hg, hh, hc, hm, hs, ht⟩
  · cases e
  · injection e with e1 e2 e3
    simp only [Option.some.injEq, Addr.mk.injEq, and_true] at e1
    subst e1 e3
    have hheap : ∀ k, k < w.heap.size → (sortWorld (fun x => Value.int .i64 (f x)) w g 0 m d' os).heap[k]? = if g = k then some (.cells (Sort.putCells (fun x => Value.int .i64 (f x)) 0 d' cur) 3 (0, 0)) else w.heap[k]? := by
      intro k hk
      unfold sortWorld Sort.grow Sort.putRow Sort.mapBlock
      rw [Array.getElem?_append_left (by simpa [Sort.ahead] using hk)]
      simp only [Array.getElem?_modify, Sort.ahead]
      by_cases hgk : g = k
      · subst hgk
        simp [hh, Sort.onCells]
      · simp [hgk]
    refine ⟨⟨by simp, Or.inr ⟨g, cap, _, by simp [hd], hg, (hheap g hlt.2).trans (if_pos rfl), by simpa [hd] using hc, hm, by simp [Sort.putCells, hs], ?_⟩⟩, ?_⟩
    · refine List.ext_getElem? fun t => ?_
      rw [List.getElem?_take]
      simp only [List.length_map, Array.length_toList, hd, Nat.mul_one]
      have hcs : xs.length ≤ cur.size := by rw [hs]; omega
      split
      · rename_i htl
        simp only [Array.getElem?_toList, Sort.putCells, Array.getElem?_mapIdx, List.getElem?_map]
        rw [Array.getElem?_eq_getElem (by omega), Array.getElem?_eq_getElem (by omega)]
        simp only [Option.map_some, Nat.sub_zero]
        rw [if_pos ⟨by omega, by omega⟩, getElem!_pos _ _ (by omega)]
      · rename_i htl
        rw [List.getElem?_eq_none (by simp; omega)]
    · refine ⟨rfl, rfl, rfl, ?_, fun k hk => ?_⟩
      · unfold sortWorld Sort.grow Sort.putRow Sort.mapBlock
        simp [Sort.ahead]
      · rw [hheap k (by omega), if_neg (by omega)]
end Go.Proofs.YtgkjmjlkhnfbiaaGreat
