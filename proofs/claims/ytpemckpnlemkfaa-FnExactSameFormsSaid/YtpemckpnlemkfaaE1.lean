/-
  Contracts: smallest models.
-/
import Derived.Test.YtpemckpnlemkfaaPlain7
import Derived.Test.YtpemckpnlemkfaaC8
namespace Go.Proofs.Ytpemckpnlemkfaa
set_option linter.unusedSimpArgs false
set_option linter.unusedVariables false
open Go.RowKit

theorem pow_bds {u : Int} (h1 : 1 ≤ u) (h2 : u ≤ 10) : (1 ≤ u * u ∧ u * u ≤ 100) ∧ (1 ≤ u * u * u ∧ u * u * u ≤ 1000) ∧ (1 ≤ u * u * u * u ∧ u * u * u * u ≤ 10000) ∧ (1 ≤ u * u * u * u * u ∧ u * u * u * u * u ≤ 100000) ∧ (1 ≤ u * u * u * u * u * u ∧ u * u * u * u * u * u ≤ 1000000) := by
  rcases (show u = 1 ∨ u = 2 ∨ u = 3 ∨ u = 4 ∨ u = 5 ∨ u = 6 ∨ u = 7 ∨ u = 8 ∨ u = 9 ∨ u = 10 by omega) with rfl | rfl | rfl | rfl | rfl | rfl | rfl | rfl | rfl | rfl <;> decide

set_option maxHeartbeats 400000 in
theorem smallest_c (a b : Int) (w : World) (hg : M.good a b = true) :
    Calls Try.prog 29 #[.agg #[.int .i64 a, .int .i64 b]] w fun e w' => e = .returned (.tuple #[.agg #[.int .i64 (M.smA a b), .int .i64 (M.smB a b)], .int .i64 (M.sm a b)]) ∧ Below w.heap.size w w' := by
  obtain ⟨g1, g2, g3, g4⟩ := M.inCurve_bd (M.good_in hg)
  go_enter Try.func29, Try.ntmps29
  go_wp2
  go_loop [4, 5, 6] (fun vu _ _ => ∃ u : Int, 1 ≤ u ∧ u ≤ 10 ∧ vu = .int .i64 u ∧ ∀ v : Int, u < v → v ≤ 10 → M.divU a b v = false) (fun vu _ _ => (intOf vu).toNat)
  case atStart => exact ⟨10, by omega, by omega, rfl, fun v h k => by omega⟩
  case round =>
    obtain ⟨u, hu1, hu2, rfl, hall⟩ := hrel
    have Hall := Lib.hid hall
    clear hall
    obtain ⟨p2, p3, p4, p5, p6⟩ := pow_bds hu1 hu2
    have n4 : ¬ u * u * u * u = 0 := by omega
    have n6 : ¬ u * u * u * u * u * u = 0 := by omega
    by_cases d1 : a % (u * u * u * u) = 0
    · have e1 := M.tmod_zero.2 d1
      by_cases d2 : b % (u * u * u * u * u * u) = 0
      · have e2 := M.tmod_zero.2 d2
        have hd : M.divU a b u = true := M.divU_iff.2 ⟨d1, d2⟩
        have h5 : u ≤ 5 := by
          rcases Int.lt_or_le 5 u with h | h
          · rw [M.divU_big hg (by omega) hu2] at hd; cases hd
          · exact h
        have hs : Hid (M.sm a b = u) := Lib.hid (M.sm_down hu1 h5 hd fun v h k => Hall.out v h (by omega))
        have t1 := M.div_bd (m := 1000) p4.1 (by omega) (by omega) d1
        have t2 := M.div_bd (m := 10000) p6.1 (by omega) (by omega) d2
        have q1 := M.tdiv_exact p4.1 d1
        have q2 := M.tdiv_exact p6.1 d2
        have w1 := IntWalk.i64_in (a / (u * u * u * u)) (by omega)
        have w2 := IntWalk.i64_in (b / (u * u * u * u * u * u)) (by omega)
        have hr : Hid (M.smA a b = a / (u * u * u * u) ∧ M.smB a b = b / (u * u * u * u * u * u)) := Lib.hid ⟨by unfold M.smA; rw [hs.out]; rfl, by unfold M.smB; rw [hs.out]; rfl⟩
        clear d1 d2 hd
        go_wp2
        go_region
        all_goals
          clear w1 w2
          go_wp2
          (refine bodyPost_ret (v := .tuple #[.agg #[.int .i64 (a / (u * u * u * u)), .int .i64 (b / (u * u * u * u * u * u))], .int .i64 u]) ?_ rfl ?_; (· (simp [results, Try.results29, go_sem, *]; done)); (· (refine ⟨?_, (by repeat (first | exact Below.refl _ _ | refine below_alloc ?_ _ | refine below_step ?_ (by assumption) | refine Below.drew ?_ | refine Below.setCell ?_ (by first | exact Nat.le_refl _ | exact Nat.le_add_right _ _ | (simp <;> omega)) _ | refine below_drewN ?_ _))⟩; (rw [hr.out.1, hr.out.2, hs.out]))))
      · have e2 : ¬ b.tmod (u * u * u * u * u * u) = 0 := fun h => d2 (M.tmod_zero.1 h)
        have hd : Hid (M.divU a b u = false) := Lib.hid (by
          cases h : M.divU a b u
          · rfl
          · exact absurd (M.divU_iff.1 h).2 d2)
        have hu : 1 < u := by
          rcases Int.lt_or_le 1 u with h | h
          · exact h
          · obtain rfl : u = 1 := by omega
            have := hd.out
            rw [M.divU_one] at this
            cases this
        clear d1
        go_wp2
        go_round
        case rel => exact ⟨u - 1, by omega, by omega, rfl, fun v h k => if q : v = u then by rw [q]; exact hd.out else Hall.out v (by omega) k⟩
        case measure => simp [intOf]; omega
    · have e1 : ¬ a.tmod (u * u * u * u) = 0 := fun h => d1 (M.tmod_zero.1 h)
      have hd : Hid (M.divU a b u = false) := Lib.hid (by
        cases h : M.divU a b u
        · rfl
        · exact absurd (M.divU_iff.1 h).1 d1)
      have hu : 1 < u := by
        rcases Int.lt_or_le 1 u with h | h
        · exact h
        · obtain rfl : u = 1 := by omega
          have := hd.out
          rw [M.divU_one] at this
          cases this
      go_wp2
      go_round
      case rel => exact ⟨u - 1, by omega, by omega, rfl, fun v h k => if q : v = u then by rw [q]; exact hd.out else Hall.out v (by omega) k⟩
      case measure => simp [intOf]; omega

/-- the greatest that divides among 1 .. n -/
def smTo (a b : Int) : Nat → Int
  | 0 => 1
  | 1 => 1
  | n + 2 => if M.divU a b ((n : Int) + 2) then (n : Int) + 2 else smTo a b (n + 1)
theorem smTo_5 (a b : Int) : smTo a b 5 = M.sm a b := rfl
theorem smTo_bd (a b : Int) : ∀ n : Nat, 1 ≤ smTo a b n ∧ (smTo a b n ≤ n ∨ smTo a b n = 1) ∧ M.divU a b (smTo a b n) = true
  | 0 => ⟨by simp [smTo], Or.inr rfl, M.divU_one a b⟩
  | 1 => ⟨by simp [smTo], Or.inr rfl, M.divU_one a b⟩
  | n + 2 => by
    have ih := smTo_bd a b (n + 1)
    rw [smTo]
    split
    · rename_i h
      exact ⟨by omega, Or.inl (by omega), h⟩
    · exact ⟨ih.1, by omega, ih.2.2⟩

set_option maxHeartbeats 400000 in
theorem ecSmallest_c (a b : Int) (w : World) (hg : M.good a b = true) :
    Calls Try.prog 57 #[.agg #[.int .i64 a, .int .i64 b]] w fun e w' => e = .returned (.tuple #[.agg #[.int .i64 (M.smA a b), .int .i64 (M.smB a b)], .int .i64 (M.sm a b)]) ∧ Below w.heap.size w w' := by
  obtain ⟨g1, g2, g3, g4⟩ := M.inCurve_bd (M.good_in hg)
  go_enter Try.func57, Try.ntmps57
  go_wp2
  go_loop [4, 5] (fun vb vu => ∃ k : Nat, 1 ≤ k ∧ k ≤ 5 ∧ vu = .int .i64 ((k : Int) + 1) ∧ vb = .int .i64 (smTo a b k)) (fun _ vu => (6 - intOf vu).toNat)
  case atStart => exact ⟨1, by omega, by omega, rfl, rfl⟩
  case round =>
    obtain ⟨k, hk1, hk2, rfl, rfl⟩ := hrel
    by_cases hlt : k < 5
    · have hu1 : 1 ≤ (k : Int) + 1 := by omega
      have hu2 : (k : Int) + 1 ≤ 10 := by omega
      have hst : Hid (smTo a b (k + 1) = if M.divU a b ((k : Int) + 1) then (k : Int) + 1 else smTo a b k) := Lib.hid (by
        obtain ⟨j, rfl⟩ : ∃ j, k = j + 1 := ⟨k - 1, by omega⟩
        rw [smTo]
        push_cast
        rfl)
      have ht : ((k : Int) + 1 + 1) = ((k + 1 : Nat) : Int) + 1 := by push_cast; rfl
      have Ht := Lib.hid ht
      clear ht
      have h6 : (k : Int) + 1 ≤ 5 := by omega
      obtain ⟨p2, p3, p4, p5, p6⟩ := pow_bds hu1 hu2
      have n4 : ¬ ((k : Int) + 1) * ((k : Int) + 1) * ((k : Int) + 1) * ((k : Int) + 1) = 0 := by omega
      have n6 : ¬ ((k : Int) + 1) * ((k : Int) + 1) * ((k : Int) + 1) * ((k : Int) + 1) * ((k : Int) + 1) * ((k : Int) + 1) = 0 := by omega
      by_cases d1 : a % (((k : Int) + 1) * ((k : Int) + 1) * ((k : Int) + 1) * ((k : Int) + 1)) = 0
      · have e1 := M.tmod_zero.2 d1
        by_cases d2 : b % (((k : Int) + 1) * ((k : Int) + 1) * ((k : Int) + 1) * ((k : Int) + 1) * ((k : Int) + 1) * ((k : Int) + 1)) = 0
        · have e2 := M.tmod_zero.2 d2
          have hd : Hid (M.divU a b ((k : Int) + 1) = true) := Lib.hid (M.divU_iff.2 ⟨d1, d2⟩)
          clear d1 d2
          go_wp2
          go_round
          case rel => exact ⟨k + 1, by omega, by omega, by go_num, by rw [hst.out, hd.out]; rfl⟩
          case measure => simp [intOf]; omega
        · have e2 : ¬ b.tmod (((k : Int) + 1) * ((k : Int) + 1) * ((k : Int) + 1) * ((k : Int) + 1) * ((k : Int) + 1) * ((k : Int) + 1)) = 0 := fun h => d2 (M.tmod_zero.1 h)
          have hd : Hid (M.divU a b ((k : Int) + 1) = false) := Lib.hid (by
            cases h : M.divU a b ((k : Int) + 1)
            · rfl
            · exact absurd (M.divU_iff.1 h).2 d2)
          clear d1
          go_wp2
          go_round
          case rel => exact ⟨k + 1, by omega, by omega, by go_num, by rw [hst.out, hd.out]; rfl⟩
          case measure => simp [intOf]; omega
      · have e1 : ¬ a.tmod (((k : Int) + 1) * ((k : Int) + 1) * ((k : Int) + 1) * ((k : Int) + 1)) = 0 := fun h => d1 (M.tmod_zero.1 h)
        have hd : Hid (M.divU a b ((k : Int) + 1) = false) := Lib.hid (by
          cases h : M.divU a b ((k : Int) + 1)
          · rfl
          · exact absurd (M.divU_iff.1 h).1 d1)
        go_wp2
        go_round
        case rel => exact ⟨k + 1, by omega, by omega, by go_num, by rw [hst.out, hd.out]; rfl⟩
        case measure => simp [intOf]; omega
    · obtain rfl : k = 5 := by omega
      have hsb := M.sm_bd a b
      have hsd := M.divU_iff.1 (M.sm_div a b)
      have h5 : smTo a b 5 = M.sm a b := smTo_5 a b
      rw [h5]
      have hfin : Hid (M.smA a b = a / (M.sm a b * M.sm a b * (M.sm a b * M.sm a b)) ∧ M.smB a b = b / (M.sm a b * M.sm a b * (M.sm a b * M.sm a b) * (M.sm a b * M.sm a b))) := Lib.hid (by
        unfold M.smA M.smB M.four M.six
        constructor <;> congr 1 <;> simp only [Int.mul_assoc])
      have hs4 : a % (M.sm a b * M.sm a b * (M.sm a b * M.sm a b)) = 0 := by
        have := hsd.1
        unfold M.four at this
        rwa [Int.mul_assoc (M.sm a b * M.sm a b)] at this
      have hs6 : b % (M.sm a b * M.sm a b * (M.sm a b * M.sm a b) * (M.sm a b * M.sm a b)) = 0 := by
        have := hsd.2
        unfold M.six at this
        rwa [Int.mul_assoc (M.sm a b * M.sm a b), Int.mul_assoc (M.sm a b * M.sm a b * (M.sm a b * M.sm a b))] at this
      clear hsd h5
      generalize hse : M.sm a b = s at hsb hfin hs4 hs6 ⊢
      have Hse := Lib.hid hse
      clear hse
      obtain ⟨p2, p3, p4, p5, p6⟩ := pow_bds hsb.1 (by omega)
      have r4 : 1 ≤ s * s * (s * s) ∧ s * s * (s * s) ≤ 10000 := by rw [← Int.mul_assoc]; exact p4
      have r6 : 1 ≤ s * s * (s * s) * (s * s) ∧ s * s * (s * s) * (s * s) ≤ 1000000 := by rw [← Int.mul_assoc, ← Int.mul_assoc]; exact p6
      have n4 : ¬ s * s * (s * s) = 0 := by omega
      have n6 : ¬ s * s * (s * s) * (s * s) = 0 := by omega
      have t1 := M.div_bd (m := 1000) r4.1 (by omega) (by omega) hs4
      have t2 := M.div_bd (m := 10000) r6.1 (by omega) (by omega) hs6
      have q1 := M.tdiv_exact r4.1 hs4
      have q2 := M.tdiv_exact r6.1 hs6
      have w0 := IntWalk.i64_in (s * s) (by omega)
      have w3 := IntWalk.i64_in (s * s * (s * s)) (by omega)
      have w4 := IntWalk.i64_in (s * s * (s * s) * (s * s)) (by omega)
      have w1 := IntWalk.i64_in (a / (s * s * (s * s))) (by omega)
      have w2 := IntWalk.i64_in (b / (s * s * (s * s) * (s * s))) (by omega)
      clear hs4 hs6
      go_wp2
      go_region
      all_goals
        clear w0 w1 w2 w3 w4
        go_wp2
        (refine bodyPost_ret (v := .tuple #[.agg #[.int .i64 (a / (s * s * (s * s))), .int .i64 (b / (s * s * (s * s) * (s * s)))], .int .i64 s]) ?_ rfl ?_; (· (simp [results, Try.results57, go_sem, *]; done)); (· (refine ⟨?_, (by repeat (first | exact Below.refl _ _ | refine below_alloc ?_ _ | refine below_step ?_ (by assumption) | refine Below.drew ?_ | refine Below.setCell ?_ (by first | exact Nat.le_refl _ | exact Nat.le_add_right _ _ | (simp <;> omega)) _ | refine below_drewN ?_ _))⟩; (rw [hfin.out.1, hfin.out.2, Hse.out]))))
end Go.Proofs.Ytpemckpnlemkfaa
