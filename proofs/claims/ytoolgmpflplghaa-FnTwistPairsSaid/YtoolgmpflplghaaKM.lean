/-
  Joined texts.
-/
import Derived.Test.YtoolgmpflplghaaJ6
import Derived.Test.YtoolgmpflplghaaPlain13
import Derived.Test.YtoolgmpflplghaaF4
import Derived.Deep.RegionHeld3
import Derived.Deep.DeepCutAuto
namespace Go.Proofs.Ytoolgmpflplghaa
set_option linter.unusedSimpArgs false
set_option linter.unusedVariables false
open Go.RowKit

theorem k_pos {k : Int} (hk : k ≠ 0) : 0 < M.k6 k * M.k6 k := by
  have h : M.k6 k ≠ 0 := by
    unfold M.k6
    exact Int.mul_ne_zero (Int.mul_ne_zero (Int.mul_ne_zero (Int.mul_ne_zero (Int.mul_ne_zero hk hk) hk) hk) hk) hk
  rcases Int.lt_or_gt_of_ne h with h | h
  · exact Int.mul_pos_of_neg_of_neg h h
  · exact Int.mul_pos h h
/-- the parts of the invariant -/
noncomputable def invN (a b : Int) : Int := partN (6912 * a * a * a) (M.disc a b)
noncomputable def invD (a b : Int) : Int := partD (6912 * a * a * a) (M.disc a b)
theorem sameInv_iff {a b c d : Int} : sameInv a b c d = true ↔ invN a b = invN c d ∧ invD a b = invD c d := by
  unfold sameInv invN invD
  simp
theorem inv_k {a b k : Int} (hk : k ≠ 0) (hd : M.disc a b ≠ 0) : invN (a * M.k4 k) (b * M.k6 k) = invN a b ∧ invD (a * M.k4 k) (b * M.k6 k) = invD a b := by
  have e1 : 6912 * (a * M.k4 k) * (a * M.k4 k) * (a * M.k4 k) = 6912 * a * a * a * (M.k6 k * M.k6 k) := by unfold M.k4 M.k6; grind
  have e2 : M.disc (a * M.k4 k) (b * M.k6 k) = M.disc a b * (M.k6 k * M.k6 k) := by rw [M.disc_k, Int.mul_comm]
  unfold invN invD
  rw [e1, e2]
  exact part_scale (k_pos hk) hd
theorem inv_sm {a b : Int} (hg : M.good a b = true) : invN a b = invN (M.smA a b) (M.smB a b) ∧ invD a b = invD (M.smA a b) (M.smB a b) := by
  obtain ⟨e1, e2⟩ := M.sm_k a b
  have hs := M.sm_bd a b
  have hG := M.good_disc (M.sm_good hg)
  have h := inv_k (k := M.sm a b) (by omega) hG
  rw [← e1, ← e2] at h
  exact h
theorem inv_tw {a b d : Int} (h : twcOk a b d = true) : invN a b = invN (a * d * d) (b * d * d * d) ∧ invD a b = invD (a * d * d) (b * d * d * d) := sameInv_iff.1 (tw_inv h)
theorem near_tw {k : Nat} {x : Int} (h : x ∈ M.near k) : M.tw x = true := ((M.mem_near k x).1 h).1
theorem bt_inv {a b c e d : Int} (h1 : M.good a b = true) (h2 : M.good c e = true) (h : M.btw a b c e = some d) : twcOk a b d = true ∧ M.same (a * d * d) (b * d * d * d) c e = true ∧ sameInv a b c e = true := by
  unfold M.btw at h
  have hm := List.mem_of_find?_eq_some h
  have hq := List.find?_some h
  unfold M.nearOk at hm
  rw [List.mem_filter] at hm
  have ht : twcOk a b d = true := by
    unfold twcOk
    have := hm.2
    unfold M.twOk at this
    rw [h1, near_tw hm.1, this]
    rfl
  have hG := (twc_t ht).2.2
  refine ⟨ht, hq, ?_⟩
  unfold M.btQ M.same at hq
  simp only [Bool.and_eq_true, beq_iff_eq] at hq
  rw [sameInv_iff, (inv_tw ht).1, (inv_tw ht).2, (inv_sm hG).1, (inv_sm hG).2, (inv_sm h2).1, (inv_sm h2).2, hq.1, hq.2]
  exact ⟨rfl, rfl⟩
/-- the least twist is least -/
theorem lt_min (a b : Int) : ∀ (l : List Int) (s : Int × (Int × Int)), (∀ d ∈ l, d ≠ 0) →
    (s.1 ≠ 0 → (l.foldl (M.ltStep a b) s).1 ≠ 0 ∧ M.absd (l.foldl (M.ltStep a b) s).2 ≤ M.absd s.2) ∧ (∀ d ∈ l, (l.foldl (M.ltStep a b) s).1 ≠ 0 ∧ M.absd (l.foldl (M.ltStep a b) s).2 ≤ M.absd (M.ltM a b d)) ∧
    ((l.foldl (M.ltStep a b) s) = s ∨ ∃ d ∈ l, (l.foldl (M.ltStep a b) s) = (d, M.ltM a b d))
  | [], s, _ => ⟨fun h => ⟨h, Int.le_refl _⟩, fun d hd => (by cases hd), Or.inl rfl⟩
  | x :: l, s, hn => by
    have hx := hn x List.mem_cons_self
    obtain ⟨i1, i2, i3⟩ := lt_min a b l (M.ltStep a b s x) fun d hd => hn d (List.mem_cons_of_mem _ hd)
    have hs : (M.ltStep a b s x).1 ≠ 0 ∧ M.absd (M.ltStep a b s x).2 ≤ M.absd (M.ltM a b x) ∧ (s.1 ≠ 0 → M.absd (M.ltStep a b s x).2 ≤ M.absd s.2) := by
      unfold M.ltStep M.ltT
      by_cases h0 : s.1 = 0
      · simp [h0, hx]
      · by_cases h1 : M.absd (M.ltM a b x) < M.absd s.2
        · simp [h0, h1, hx]; omega
        · simp [h0, h1]; omega
    rw [List.foldl_cons]
    have j := i1 hs.1
    refine ⟨fun h => ⟨j.1, by have := hs.2.2 h; omega⟩, fun d hd => ?_, ?_⟩
    · rcases List.mem_cons.1 hd with rfl | hd
      · exact ⟨j.1, by have := hs.2.1; omega⟩
      · exact i2 d hd
    · rcases i3 with h | ⟨d, hd, h⟩
      · rw [h]
        unfold M.ltStep
        split
        · exact Or.inr ⟨x, List.mem_cons_self, rfl⟩
        · exact Or.inl rfl
      · exact Or.inr ⟨d, List.mem_cons_of_mem _ hd, h⟩
theorem lt_law {a b : Int} (hg : M.good a b = true) : M.good (M.ltW a b).2.1 (M.ltW a b).2.2 = true ∧ M.absd (M.ltW a b).2 ≤ M.absd (M.smA a b, M.smB a b) ∧ sameInv a b (M.ltW a b).2.1 (M.ltW a b).2.2 = true := by
  have hn : ∀ d ∈ M.nearOk a b, d ≠ 0 := fun d hd => by
    unfold M.nearOk at hd
    rw [List.mem_filter] at hd
    exact (M.tw_iff.1 (near_tw hd.1)).1
  obtain ⟨-, i2, i3⟩ := lt_min a b (M.nearOk a b) M.lt0 hn
  have h1 : (1 : Int) ∈ M.nearOk a b := by
    unfold M.nearOk
    rw [List.mem_filter, M.mem_near]
    exact ⟨⟨by decide, by decide⟩, by unfold M.twOk; simp [hg]⟩
  have k := i2 1 h1
  have hW : M.ltW a b = (M.nearOk a b).foldl (M.ltStep a b) M.lt0 := by unfold M.ltW M.ltw; rw [if_pos hg]
  rw [hW]
  rcases i3 with h | ⟨d, hd, h⟩
  · rw [h] at k
    exact absurd rfl k.1
  · have hm : M.ltM a b 1 = (M.smA a b, M.smB a b) := by unfold M.ltM; simp
    rw [hm] at k
    refine ⟨?_, k.2, ?_⟩
    all_goals
      rw [h]
      unfold M.nearOk at hd
      rw [List.mem_filter] at hd
      have ht : twcOk a b d = true := by
        unfold twcOk
        have := hd.2
        unfold M.twOk at this
        rw [hg, near_tw hd.1, this]
        rfl
      have hG := (twc_t ht).2.2
    · exact M.sm_good hG
    · rw [sameInv_iff, (inv_tw ht).1, (inv_tw ht).2, (inv_sm hG).1, (inv_sm hG).2]
      exact ⟨rfl, rfl⟩
/-- products -/
def prodChk (i j : Nat) : Bool := let d : Int := (i : Int) - 30; let e : Int := (j : Int) - 30; !(prodOk d e) || (prodOk (prodTw d e) e && prodTw (prodTw d e) e == d && prodOk e d && prodTw e d == prodTw d e)
theorem prod_all : M.allB (fun i => M.allB (prodChk i) 61) 61 = true := by kernel_rfl
theorem prod_law {d e : Int} (h : prodOk d e = true) : prodOk (prodTw d e) e = true ∧ prodTw (prodTw d e) e = d ∧ prodOk e d = true ∧ prodTw e d = prodTw d e := by
  have h' := h
  unfold prodOk at h'
  simp only [Bool.and_eq_true] at h'
  obtain ⟨-, d1, d2, -⟩ := M.tw_iff.1 h'.1.1
  obtain ⟨-, e1, e2, -⟩ := M.tw_iff.1 h'.1.2
  obtain ⟨i, hi⟩ : ∃ i : Nat, d = (i : Int) - 30 := ⟨(d + 30).toNat, by omega⟩
  obtain ⟨j, hj⟩ : ∃ j : Nat, e = (j : Int) - 30 := ⟨(e + 30).toNat, by omega⟩
  have hi61 : i < 61 := by omega
  have hj61 : j < 61 := by omega
  have c1 : M.allB (prodChk i) 61 = true := M.allB_at (f := fun i => M.allB (prodChk i) 61) prod_all hi61
  have c : prodChk i j = true := M.allB_at c1 hj61
  unfold prodChk at c
  rw [← hi, ← hj] at c
  simp only [h, Bool.not_true, Bool.false_or, Bool.and_eq_true, beq_iff_eq] at c
  exact ⟨c.1.1.1, c.1.1.2, c.1.2, c.2⟩
end Go.Proofs.Ytoolgmpflplghaa

namespace Go.Proofs.Ytoolgmpflplghaa
set_option linter.unusedSimpArgs false
set_option linter.unusedVariables false
open Go.RowKit

theorem AreIsomorphic_c (a b c d : Int) (w : World) (h1 : M.good a b = true) (h2 : M.good c d = true) (h : M.same a b c d = true) :
    Calls Try.prog 35 #[.agg #[.int .i64 a, .int .i64 b], .agg #[.int .i64 c, .int .i64 d]] w fun e w' => e = .returned (.tuple #[.bool true, .bool true]) ∧ Below w.heap.size w w' := by
  have H1 := fun w => smallest_c a b w h1
  have H2 := Lib.hid fun w => smallest_c c d w h2
  have G1 := fun w => isCurve_c a b w
  have G2 := fun w => isCurve_c c d w
  rw [h1] at G1
  rw [h2] at G2
  unfold M.same at h
  simp only [Bool.and_eq_true, beq_iff_eq] at h
  rw [h.1, h.2] at H1
  have H1 := Lib.hid H1
  have G1 := Lib.hid G1
  have G2 := Lib.hid G2
  clear h h1 h2
  go_enter Try.func35, Try.ntmps35
  go_wp2_with fail
  refine (G1.out _).mono ?_; rintro e w1 ⟨rfl, hb1⟩
  have hz_ := hb1.size; (try simp only [World.size_alloc, heap_drew, World.heap_drewN, size_setCell] at hz_); have hs0_ : w.heap.size < w1.heap.size := (by omega); have hk0_ := fun o => (bcell hb1).1 (w.heap.size) o (by (try simp only [World.size_alloc, heap_drew, World.heap_drewN, size_setCell]); omega); have hl0_ := fun o => (bcell hb1).2.1 (w.heap.size) o (by (try simp only [World.size_alloc, heap_drew, World.heap_drewN, size_setCell]); omega); have hs1_ : w.heap.size + 1 < w1.heap.size := (by omega); have hk1_ := fun o => (bcell hb1).1 (w.heap.size + 1) o (by (try simp only [World.size_alloc, heap_drew, World.heap_drewN, size_setCell]); omega); have hl1_ := fun o => (bcell hb1).2.1 (w.heap.size + 1) o (by (try simp only [World.size_alloc, heap_drew, World.heap_drewN, size_setCell]); omega)
  go_wp2_with fail
  refine (G2.out _).mono ?_; rintro e w2 ⟨rfl, hb2⟩
  have hz_ := hb2.size; (try simp only [World.size_alloc, heap_drew, World.heap_drewN, size_setCell] at hz_); have hs0_ : w.heap.size < w2.heap.size := (by omega); have hk0_ := fun o => (bcell hb2).1 (w.heap.size) o (by (try simp only [World.size_alloc, heap_drew, World.heap_drewN, size_setCell]); omega); have hl0_ := fun o => (bcell hb2).2.1 (w.heap.size) o (by (try simp only [World.size_alloc, heap_drew, World.heap_drewN, size_setCell]); omega); have hs1_ : w.heap.size + 1 < w2.heap.size := (by omega); have hk1_ := fun o => (bcell hb2).1 (w.heap.size + 1) o (by (try simp only [World.size_alloc, heap_drew, World.heap_drewN, size_setCell]); omega); have hl1_ := fun o => (bcell hb2).2.1 (w.heap.size + 1) o (by (try simp only [World.size_alloc, heap_drew, World.heap_drewN, size_setCell]); omega)
  go_wp2_with fail
  refine (H1.out _).mono ?_; rintro e w3 ⟨rfl, hb3⟩
  have hz_ := hb3.size; (try simp only [World.size_alloc, heap_drew, World.heap_drewN, size_setCell] at hz_); have hs0_ : w.heap.size < w3.heap.size := (by omega); have hk0_ := fun o => (bcell hb3).1 (w.heap.size) o (by (try simp only [World.size_alloc, heap_drew, World.heap_drewN, size_setCell]); omega); have hl0_ := fun o => (bcell hb3).2.1 (w.heap.size) o (by (try simp only [World.size_alloc, heap_drew, World.heap_drewN, size_setCell]); omega); have hs1_ : w.heap.size + 1 < w3.heap.size := (by omega); have hk1_ := fun o => (bcell hb3).1 (w.heap.size + 1) o (by (try simp only [World.size_alloc, heap_drew, World.heap_drewN, size_setCell]); omega); have hl1_ := fun o => (bcell hb3).2.1 (w.heap.size + 1) o (by (try simp only [World.size_alloc, heap_drew, World.heap_drewN, size_setCell]); omega)
  go_wp2_with fail
  refine (H2.out _).mono ?_; rintro e w4 ⟨rfl, hb4⟩
  have hz_ := hb4.size; (try simp only [World.size_alloc, heap_drew, World.heap_drewN, size_setCell] at hz_); have hs0_ : w.heap.size < w4.heap.size := (by omega); have hk0_ := fun o => (bcell hb4).1 (w.heap.size) o (by (try simp only [World.size_alloc, heap_drew, World.heap_drewN, size_setCell]); omega); have hl0_ := fun o => (bcell hb4).2.1 (w.heap.size) o (by (try simp only [World.size_alloc, heap_drew, World.heap_drewN, size_setCell]); omega); have hs1_ : w.heap.size + 1 < w4.heap.size := (by omega); have hk1_ := fun o => (bcell hb4).1 (w.heap.size + 1) o (by (try simp only [World.size_alloc, heap_drew, World.heap_drewN, size_setCell]); omega); have hl1_ := fun o => (bcell hb4).2.1 (w.heap.size + 1) o (by (try simp only [World.size_alloc, heap_drew, World.heap_drewN, size_setCell]); omega); have hs2_ : w3.heap.size < w4.heap.size := (by omega); have hk2_ := fun o => (bcell hb4).1 (w3.heap.size) o (by (try simp only [World.size_alloc, heap_drew, World.heap_drewN, size_setCell]); omega); have hl2_ := fun o => (bcell hb4).2.1 (w3.heap.size) o (by (try simp only [World.size_alloc, heap_drew, World.heap_drewN, size_setCell]); omega)
  go_wp2
  all_goals (go_ret2; exact ⟨by simp, (by repeat (first | exact Below.refl _ _ | refine below_alloc ?_ _ | refine below_step ?_ (by assumption) | refine Below.drew ?_ | refine Below.setCell ?_ (by first | exact Nat.le_refl _ | exact Nat.le_add_right _ _ | (simp <;> omega)) _ | refine below_drewN ?_ _))⟩)
theorem implDiscriminantOf_c (a b : Int) (w : World) (h : M.good a b = true) :
    Calls Try.prog 40 #[.agg #[.int .i64 a, .int .i64 b]] w fun e w' => e = .returned (.tuple #[.int .i64 (-16 * M.disc a b), .bool true]) ∧ Below w.heap.size w w' := by
  have hb := disc_bd (M.good_in h)
  have G1 := fun w => isCurve_c a b w
  rw [h] at G1
  have G1 := Lib.hid G1
  have H1 := Lib.hid fun w => core_c a b w (M.good_in h)
  clear h
  go_enter Try.func40, Try.ntmps40
  go_wp2_with fail
  refine (G1.out _).mono ?_; rintro e w1 ⟨rfl, hb1⟩
  have hz_ := hb1.size; (try simp only [World.size_alloc, heap_drew, World.heap_drewN, size_setCell] at hz_); have hs0_ : w.heap.size < w1.heap.size := (by omega); have hk0_ := fun o => (bcell hb1).1 (w.heap.size) o (by (try simp only [World.size_alloc, heap_drew, World.heap_drewN, size_setCell]); omega); have hl0_ := fun o => (bcell hb1).2.1 (w.heap.size) o (by (try simp only [World.size_alloc, heap_drew, World.heap_drewN, size_setCell]); omega)
  go_wp2_with fail
  refine (H1.out _).mono ?_; rintro e w2 ⟨rfl, hb2⟩
  go_wp2
  go_ret2
  exact ⟨rfl, (by repeat (first | exact Below.refl _ _ | refine below_alloc ?_ _ | refine below_step ?_ (by assumption) | refine Below.drew ?_ | refine Below.setCell ?_ (by first | exact Nat.le_refl _ | exact Nat.le_add_right _ _ | (simp <;> omega)) _ | refine below_drewN ?_ _))⟩
theorem specDiscriminantOf_c (a b : Int) (w : World) (h : M.good a b = true) :
    Calls Try.prog 41 #[.agg #[.int .i64 a, .int .i64 b]] w fun e w' => e = .returned (.tuple #[.int .i64 (-16 * M.disc a b), .bool true]) ∧ Below w.heap.size w w' := by
  have hb := disc_bd (M.good_in h)
  have G1 := fun w => ecGood_c a b w
  rw [h] at G1
  have G1 := Lib.hid G1
  have H1 := Lib.hid fun w => ecDisc_c a b w (M.good_in h)
  clear h
  go_enter Try.func41, Try.ntmps41
  go_wp2_with fail
  refine (G1.out _).mono ?_; rintro e w1 ⟨rfl, hb1⟩
  have hz_ := hb1.size; (try simp only [World.size_alloc, heap_drew, World.heap_drewN, size_setCell] at hz_); have hs0_ : w.heap.size < w1.heap.size := (by omega); have hk0_ := fun o => (bcell hb1).1 (w.heap.size) o (by (try simp only [World.size_alloc, heap_drew, World.heap_drewN, size_setCell]); omega); have hl0_ := fun o => (bcell hb1).2.1 (w.heap.size) o (by (try simp only [World.size_alloc, heap_drew, World.heap_drewN, size_setCell]); omega)
  go_wp2_with fail
  refine (H1.out _).mono ?_; rintro e w2 ⟨rfl, hb2⟩
  go_wp2
  go_ret2
  exact ⟨rfl, (by repeat (first | exact Below.refl _ _ | refine below_alloc ?_ _ | refine below_step ?_ (by assumption) | refine Below.drew ?_ | refine Below.setCell ?_ (by first | exact Nat.le_refl _ | exact Nat.le_add_right _ _ | (simp <;> omega)) _ | refine below_drewN ?_ _))⟩
theorem pAbs_c (n : Int) (w : World) (h1 : -1000000000000 ≤ n) (h2 : n ≤ 1000000000000) :
    Calls Try.prog 42 #[.int .i64 n] w fun e w' => e = .returned (.int .i64 (n.natAbs : Int)) ∧ w = w' := by
  by_cases h : n < 0
  all_goals
    go_enter Try.func42, Try.ntmps42
    go_wp2
    go_ret
    exact ⟨ret_i (by omega), rfl⟩
theorem SmallestModel_c (a b : Int) (w : World) (h : M.good a b = true) :
    Calls Try.prog 39 #[.agg #[.int .i64 a, .int .i64 b]] w fun e w' => e = .returned (.tuple #[.agg #[.int .i64 (M.smA a b), .int .i64 (M.smB a b)], .int .i64 (M.sm a b), .bool true]) ∧ Below w.heap.size w w' := by
  have G1 := fun w => ecGood_c a b w
  rw [h] at G1
  have G1 := Lib.hid G1
  have H1 := Lib.hid fun w => ecSmallest_c a b w h
  clear h
  generalize M.smA a b = x at *
  generalize M.smB a b = y at *
  generalize M.sm a b = u at *
  go_enter Try.func39, Try.ntmps39
  go_wp2_with fail
  refine (G1.out _).mono ?_; rintro e w1 ⟨rfl, hb1⟩
  have hz_ := hb1.size; (try simp only [World.size_alloc, heap_drew, World.heap_drewN, size_setCell] at hz_); have hs0_ : w.heap.size < w1.heap.size := (by omega); have hk0_ := fun o => (bcell hb1).1 (w.heap.size) o (by (try simp only [World.size_alloc, heap_drew, World.heap_drewN, size_setCell]); omega); have hl0_ := fun o => (bcell hb1).2.1 (w.heap.size) o (by (try simp only [World.size_alloc, heap_drew, World.heap_drewN, size_setCell]); omega); have hs1_ : w.heap.size + 1 < w1.heap.size := (by omega); have hk1_ := fun o => (bcell hb1).1 (w.heap.size + 1) o (by (try simp only [World.size_alloc, heap_drew, World.heap_drewN, size_setCell]); omega); have hl1_ := fun o => (bcell hb1).2.1 (w.heap.size + 1) o (by (try simp only [World.size_alloc, heap_drew, World.heap_drewN, size_setCell]); omega)
  go_wp2_with fail
  refine (H1.out _).mono ?_; rintro e w2 ⟨rfl, hb2⟩
  have hz_ := hb2.size; (try simp only [World.size_alloc, heap_drew, World.heap_drewN, size_setCell] at hz_); have hs0_ : w.heap.size < w2.heap.size := (by omega); have hk0_ := fun o => (bcell hb2).1 (w.heap.size) o (by (try simp only [World.size_alloc, heap_drew, World.heap_drewN, size_setCell]); omega); have hl0_ := fun o => (bcell hb2).2.1 (w.heap.size) o (by (try simp only [World.size_alloc, heap_drew, World.heap_drewN, size_setCell]); omega); have hs1_ : w.heap.size + 1 < w2.heap.size := (by omega); have hk1_ := fun o => (bcell hb2).1 (w.heap.size + 1) o (by (try simp only [World.size_alloc, heap_drew, World.heap_drewN, size_setCell]); omega); have hl1_ := fun o => (bcell hb2).2.1 (w.heap.size + 1) o (by (try simp only [World.size_alloc, heap_drew, World.heap_drewN, size_setCell]); omega)
  have hs := hb2.size
  have q0 := (Box.new w2 x y 23)
  have p0 := q0.c0
  have p1 := q0.c1
  go_wp2
  first
    | (refine bodyPost_ret (v := .tuple #[.agg #[.int .i64 x, .int .i64 y], .int .i64 u, .bool true]) ?_ rfl ?_; (· (simp [results, Try.results39, go_sem, *]; done)); (· (exact ⟨rfl, (by repeat (first | exact Below.refl _ _ | refine below_alloc ?_ _ | refine below_step ?_ (by assumption) | refine Below.drew ?_ | refine Below.setCell ?_ (by first | exact Nat.le_refl _ | exact Nat.le_add_right _ _ | (simp <;> omega)) _ | refine below_drewN ?_ _))⟩)))
    | (go_region; all_goals (go_wp2; (refine bodyPost_ret (v := .tuple #[.agg #[.int .i64 x, .int .i64 y], .int .i64 u, .bool true]) ?_ rfl ?_; (· (simp [results, Try.results39, go_sem, *]; done)); (· (exact ⟨rfl, (by repeat (first | exact Below.refl _ _ | refine below_alloc ?_ _ | refine below_step ?_ (by assumption) | refine Below.drew ?_ | refine Below.setCell ?_ (by first | exact Nat.le_refl _ | exact Nat.le_add_right _ _ | (simp <;> omega)) _ | refine below_drewN ?_ _))⟩)))))
theorem drawProductOfTwists_c (v : Value) (n : Nat) (w : World) (h : Bytes w w.heap.size v n) :
    Calls Try.prog 43 #[v] w (DrawII w) := by
  obtain ⟨A, cap, rfl, hn, hb_⟩ := h
  have h : Bytes w w.heap.size (.slice A n cap) n := ⟨A, cap, rfl, hn, hb_⟩
  clear hb_ hn
  have st := St.new h (W := w) (Below.refl _ _) 72
  clear h
  go_enter Try.func43, Try.ntmps43
  go_wp2_with fail
  refine (twistNumber_c _ w.heap.size _ n _ _ st.cur (by omega)).mono ?_; rintro e w_d ⟨d, rfl, hc_, hg_⟩
  replace st := st.call hc_ hg_
  clear hc_ hg_
  go_wp2_with fail
  refine (twistNumber_c _ w.heap.size _ n _ _ st.cur (by omega)).mono ?_; rintro e w_p ⟨q, rfl, hc_, hg_⟩
  replace st := st.call hc_ hg_
  clear hc_ hg_
  have hBL := st.below (Nat.le_refl _)
  go_wp2
  go_ret2
  exact ⟨d, q, rfl, hBL⟩
end Go.Proofs.Ytoolgmpflplghaa

namespace Go.Proofs.Ytoolgmpflplghaa
set_option linter.unusedSimpArgs false
set_option linter.unusedVariables false
open Go.RowKit

def TwPost (w : World) (e : Ending) (w' : World) : Prop := ∃ (p : Int × Int) (ok : Bool), e = .returned (.tuple #[.agg #[.int .i64 p.1, .int .i64 p.2], .bool ok]) ∧ Below w.heap.size w w'
theorem twOf_any (a b d : Int) (w : World) (hg : M.inCurve a b = true) (h1 : -30 ≤ d) (h2 : d ≤ 30) :
    Calls Try.prog 63 #[.agg #[.int .i64 a, .int .i64 b], .int .i64 d] w (TwPost w) := by
  cases h : M.good (a * d * d) (b * d * d * d)
  · exact (twOf_f a b d w hg h1 h2 h).mono fun e w' ⟨he, hb⟩ => ⟨(0, 0), false, he, hb⟩
  · exact (twOf_t a b d w hg h1 h2 h).mono fun e w' ⟨he, hb⟩ => ⟨(_, _), true, he, hb⟩
theorem zbD {w : World} {b : Nat} (h : Zb w b) : Zb w.drew b := ⟨h.c0, h.c1, h.f0, h.f1, h.size⟩
theorem zbA {w : World} {b : Nat} (h : Zb w b) (o : Obj) : Zb (w.alloc o) b := h.keep ((Below.refl _ _).alloc (Nat.le_refl _) o)
theorem cellDr {W : World} {p : Addr} {v : Value} (h : W.cell? p = some v) : (W.drew).cell? p = some v := h
theorem recellDr {W : World} {o : Obj} {p : Addr} {v : Value} (h : W.cell? p = some v) : ((W.alloc o).drew).cell? p = some v := Gr.recell0 h
theorem CurK.drew {w : World} {g B n K : Nat} {v : Value} (h : CurK w g B v n K) : CurK w.drew g B v n K := h.keep ((Below.refl _ _).drew)
theorem litD (W : World) (T : TypeId) (l : List Int) : ∀ (j : Nat) (x : Int), l[j]? = some x → ((W.alloc (.cells (l.map (Value.int .i64)).toArray T)).drew).cell? ⟨W.heap.size, j, none⟩ = some (.int .i64 x) := lit_cells W T l
theorem litS (W : World) (o : Obj) (T : TypeId) (l : List Int) : ∀ (j : Nat) (x : Int), l[j]? = some x → ((W.alloc o).alloc (.cells (l.map (Value.int .i64)).toArray T)).cell? ⟨W.heap.size + 1, j, none⟩ = some (.int .i64 x) := fun j x h => by
  have := lit_cells (W.alloc o) T l j x h
  rw [World.size_alloc] at this
  exact this
theorem litSD (W : World) (o : Obj) (T : TypeId) (l : List Int) : ∀ (j : Nat) (x : Int), l[j]? = some x → (((W.alloc o).alloc (.cells (l.map (Value.int .i64)).toArray T)).drew).cell? ⟨W.heap.size + 1, j, none⟩ = some (.int .i64 x) := litS W o T l
theorem litDS (W : World) (o : Obj) (T : TypeId) (l : List Int) : ∀ (j : Nat) (x : Int), l[j]? = some x → (((W.drew).alloc o).alloc (.cells (l.map (Value.int .i64)).toArray T)).cell? ⟨W.heap.size + 1, j, none⟩ = some (.int .i64 x) := litS W.drew o T l
def DrawC (w : World) (e : Ending) (w' : World) : Prop := ∃ a b : Int, e = .returned (.agg #[.int .i64 a, .int .i64 b]) ∧ Below w.heap.size w w'
set_option maxHeartbeats 4000000 in
theorem drawLeastTwist_c (v : Value) (n : Nat) (w : World) (h : Bytes w w.heap.size v n) :
    Calls Try.prog 36 #[v] w (DrawC w) := by
  obtain ⟨A, cap, rfl, hn, hb_⟩ := h
  have h : Bytes w w.heap.size (.slice A n cap) n := ⟨A, cap, rfl, hn, hb_⟩
  clear hb_ hn
  have st := St.new h (W := w.alloc (.cells #[.int .i64 0, .int .i64 0] 23)) (by exact (Below.refl _ _).alloc (Nat.le_refl _) _) 72
  rw [World.size_alloc] at st
  have zr := (Box.new w 0 0 23).alloc (.cells #[.slice A n cap, .int .i64 0, .int .u64 0] 72)
  have nzr : w.heap.size ≠ w.heap.size + 1 := by omega
  clear h
  go_enter Try.func36, Try.ntmps36
  go_wp2_with fail
  refine (twistable_c _ w.heap.size _ n _ _ st.cur (by omega)).mono ?_; rintro e w_c ⟨a, b, rfl, hc_, hg_⟩
  replace st := st.call hc_ hg_
  replace zr := zr.keepG hg_ nzr
  clear hc_ hg_
  have se := st.size
  have sr := zr.size
  replace st := st.alloc (.cells #[.int .i64 a, .int .i64 b] 23)
  replace zr := zr.alloc (.cells #[.int .i64 a, .int .i64 b] 23)
  have ex := Box.new w_c a b 23
  have nex : w_c.heap.size ≠ w.heap.size + 1 := by omega
  have nrx : w.heap.size ≠ w_c.heap.size := by omega
  have HG := fun w => ecGood_c a b w
  cases hg : M.good a b <;> simp only [hg] at HG <;> have HG := Lib.hid HG
  case false =>
    clear hg
    go_wp2_with fail
    refine (HG.out _).mono ?_; rintro e w9 ⟨rfl, hb9⟩
    replace st := st.keep hb9
    replace zr := zr.keep hb9
    replace ex := ex.keep hb9
    clear hb9
    have q0 := ex.c0
    have q1 := ex.c1
    have r0 := zr.c0
    have r1 := zr.c1
    have r2 := zr.f0
    have r3 := zr.f1
    have r4 := zr.size
    have hBL := st.below (Nat.le_succ _)
    go_wp2
    exact bodyPost_ret (v := .agg #[.int .i64 a, .int .i64 b]) (by simp [results, Try.results36, go_sem, *]) rfl (⟨a, b, rfl, (by repeat (first | exact Below.refl _ _ | refine below_alloc ?_ _ | refine below_step ?_ (by assumption) | refine Below.drew ?_ | refine Below.setCell ?_ (by first | exact Nat.le_refl _ | exact Nat.le_add_right _ _ | (simp <;> omega)) _ | refine below_drewN ?_ _))⟩)
  case true =>
    have hin := M.good_in hg
    clear hg
    go_wp2_with fail
    refine (HG.out _).mono ?_; rintro e w9 ⟨rfl, hb9⟩
    replace st := st.keep hb9
    replace zr := zr.keep hb9
    replace ex := ex.keep hb9
    clear hb9
    generalize hE : w_c.heap.size = E at *
    have q0 := ex.c0
    have q1 := ex.c1
    have qs := ex.size
    have hC := st.cur
    go_upto_region 4 with fail
    go_cut [5, 6] (fun s5 s6 wx => (∃ p : Int × Int, BoxAt w9 wx s5 p.1 p.2) ∧ (∃ ok : Bool, s6 = .bool ok) ∧ w9.grownBy wx (some (w.heap.size + 1)))
    case first =>
      have sg := hC.size
      clear st zr ex HG
      go_region_held3 (fun W => W.cell? ⟨E, 0, none⟩ = some (.int .i64 a) ∧ W.cell? ⟨E, 1, none⟩ = some (.int .i64 b)) (first | (refine ⟨?_, ?_⟩ <;> (first | (with_reducible assumption) | (with_reducible exact keepCell (by assumption) (by assumption)) | (with_reducible refine Gr.cellK (by assumption) (by assumption) ?_; omega) | (with_reducible exact Gr.recell0 (by assumption)) | (with_reducible exact cellDr (by assumption)) | (with_reducible exact recellDr (by assumption)) | (with_reducible refine Gr.recell (by assumption) ?_; (intro hh_; (try simp only [World.size_alloc, heap_drew, World.heap_drewN, size_setCell] at hh_); omega)) | (with_reducible refine Gr.far2 (by assumption) ?_ ?_ <;> (intro hh_; (try simp only [World.size_alloc, heap_drew, World.heap_drewN, size_setCell] at hh_); omega)) | assumption)) | (go_split_ands; (refine ⟨?_, ?_⟩ <;> (first | (with_reducible assumption) | (with_reducible exact keepCell (by assumption) (by assumption)) | (with_reducible refine Gr.cellK (by assumption) (by assumption) ?_; omega) | (with_reducible exact Gr.recell0 (by assumption)) | (with_reducible exact cellDr (by assumption)) | (with_reducible exact recellDr (by assumption)) | (with_reducible refine Gr.recell (by assumption) ?_; (intro hh_; (try simp only [World.size_alloc, heap_drew, World.heap_drewN, size_setCell] at hh_); omega)) | (with_reducible refine Gr.far2 (by assumption) ?_ ?_ <;> (intro hh_; (try simp only [World.size_alloc, heap_drew, World.heap_drewN, size_setCell] at hh_); omega)) | assumption))) | go_keep) (first | (go_at_call 80; refine (among_c (w.heap.size + 1) w.heap.size (.slice A n cap) n (0 + 60) [-3, 2, 5] _ 3 _ (by repeat (first | exact hC | refine CurK.alloc ?_ _ | refine CurK.drew ?_)) (by omega) rfl (by omega) (by omega) (by (try simp only [World.size_alloc, heap_drew, World.heap_drewN, size_setCell]); omega) (by first | exact lit_cells _ _ _ | exact fun j x h => Gr.recell0 (lit_cells _ _ _ j x h) | exact fun j x h => litD _ _ _ j x h | exact litS _ _ _ _ | exact litSD _ _ _ _ | exact litDS _ _ _ _)).mono ?_; rintro e w' ⟨x_, rfl, hx_, hc_, hg_⟩; have hs_ := hc_.size; have hz_ := hg_.size; (try simp only [World.size_alloc, heap_drew, World.heap_drewN, size_setCell] at hz_); (first | (with_reducible have zz_ := Zb.keepG (zbD (zbA (Zb.new _ _) _)) hg_ (by (try simp only [World.size_alloc, heap_drew, World.heap_drewN, size_setCell]); omega)) | (with_reducible have zz_ := Zb.keepG (zbA (zbD (Zb.new _ _)) _) hg_ (by (try simp only [World.size_alloc, heap_drew, World.heap_drewN, size_setCell]); omega)) | (with_reducible have zz_ := Zb.keepG (Zb.newD _ _) hg_ (by (try simp only [World.size_alloc, heap_drew, World.heap_drewN, size_setCell]); omega)) | (with_reducible have zz_ := Zb.keepG (Zb.new _ _) hg_ (by (try simp only [World.size_alloc, heap_drew, World.heap_drewN, size_setCell]); omega)) | (with_reducible have zz_ := Zb.keepG (zbA (Zb.new _ _) _) hg_ (by (try simp only [World.size_alloc, heap_drew, World.heap_drewN, size_setCell]); omega)) | skip); (first | (have z0_ := zz_.c0; have z1_ := zz_.c1; have z2_ := zz_.f0; have z3_ := zz_.f1; have z4_ := zz_.size; (try simp only [World.size_alloc, heap_drew] at z0_ z1_ z2_ z3_ z4_)) | skip)) | (go_at_call 63; refine (twOf_any a b _ _ hin (by rcases (by simpa using hx_ : x_ = -3 ∨ x_ = 2 ∨ x_ = 5) with h | h | h <;> omega) (by rcases (by simpa using hx_ : x_ = -3 ∨ x_ = 2 ∨ x_ = 5) with h | h | h <;> omega)).mono ?_; rintro e w' ⟨p_, ok_, rfl, hb⟩; have hz_ := hb.size; (try simp only [World.size_alloc, heap_drew, World.heap_drewN, size_setCell] at hz_); (first | have zz_ := Zb.keep (Zb.new _ _) hb | have zz_ := Zb.keep (Zb.newD _ _) hb | have zz_ := Zb.keep zz_ hb | skip); (first | (have z0_ := zz_.c0; have z1_ := zz_.c1; have z2_ := zz_.f0; have z3_ := zz_.f1; have z4_ := zz_.size; (try simp only [World.size_alloc, heap_drew] at z0_ z1_ z2_ z3_ z4_)) | skip)))
      all_goals
        go_wp2_with fail
        go_meet
        exact ⟨⟨p_, _, rfl, by simp [go_sem, *], by simp [go_sem, *], by (try simp only [World.size_alloc, heap_drew, World.heap_drewN, size_setCell]); omega, by (try simp only [World.size_alloc, heap_drew, World.heap_drewN, size_setCell]); omega⟩, ⟨ok_, rfl⟩, (by repeat (first | exact World.grownBy.refl _ _ | refine Gr.alloc ?_ _ | refine Gr.drew ?_ | refine grown_dr ?_ _ | refine Gr.below ?_ (by assumption) (Nat.le_refl _) | refine grown_tr ?_ (by assumption) | refine Gr.set ?_ _ _ | refine Gr.setNew ?_ (by first | exact Nat.le_refl _ | exact Nat.le_add_right _ _ | (simp <;> omega)) _))⟩
    case rest =>
      obtain ⟨⟨p, b5, rfl, e0, e1, e2, e3⟩, ⟨ok, rfl⟩, hg⟩ := hcut
      have hB9 := st.below (Nat.le_succ _)
      have hBL : Below w.heap.size w wc := Gr.toBelow hB9 hg hB9.size (Nat.le_succ _)
      have zr' := zr.keepG hg nzr
      have ex' := ex.keepG hg nex
      have q2 := ex'.c0
      have q3 := ex'.c1
      have r0 := zr'.c0
      have r1 := zr'.c1
      have r2 := zr'.f0
      have r3 := zr'.f1
      have r4 := zr'.size
      obtain ⟨x, y⟩ := p
      dsimp only at e0 e1
      cases ok
      · go_wp2
        exact bodyPost_ret (v := .agg #[.int .i64 a, .int .i64 b]) (by simp [results, Try.results36, go_sem, *]) rfl (⟨a, b, rfl, (by repeat (first | exact Below.refl _ _ | refine below_alloc ?_ _ | refine below_step ?_ (by assumption) | refine Below.drew ?_ | refine Below.setCell ?_ (by first | exact Nat.le_refl _ | exact Nat.le_add_right _ _ | (simp <;> omega)) _ | refine below_drewN ?_ _))⟩)
      · go_wp2
        exact bodyPost_ret (v := .agg #[.int .i64 x, .int .i64 y]) (by simp [results, Try.results36, go_sem, *]) rfl (⟨x, y, rfl, (by repeat (first | exact Below.refl _ _ | refine below_alloc ?_ _ | refine below_step ?_ (by assumption) | refine Below.drew ?_ | refine Below.setCell ?_ (by first | exact Nat.le_refl _ | exact Nat.le_add_right _ _ | (simp <;> omega)) _ | refine below_drewN ?_ _))⟩)
end Go.Proofs.Ytoolgmpflplghaa

namespace Go.Proofs.Ytoolgmpflplghaa
set_option linter.unusedSimpArgs false
set_option linter.unusedVariables false
open Go.RowKit

theorem bt_vals (a b c e : Int) : ∃ (d : Int) (ok one same : Bool), M.btV a b c e = d ∧ M.btOk a b c e = ok ∧ (M.good a b && M.good c e && sameInv a b c e) = same ∧ (M.good a b && M.good c e) = one ∧
    (ok = true → one = true ∧ same = true ∧ twcOk a b d = true ∧ M.good c e = true ∧ M.same (a * d * d) (b * d * d * d) c e = true) := by
  refine ⟨_, _, _, _, rfl, rfl, rfl, rfl, fun h => ?_⟩
  have h' := h
  unfold M.btOk at h'
  simp only [Bool.and_eq_true] at h'
  obtain ⟨⟨g1, g2⟩, g3⟩ := h'
  obtain ⟨d, hd⟩ := Option.isSome_iff_exists.1 g3
  obtain ⟨e1, e2⟩ := M.bt_yes g1 g2 hd
  rw [e1]
  obtain ⟨h1, h2, h3⟩ := bt_inv g1 g2 hd
  simp [g1, g2, h1, h2, h3]
theorem lt_vals (a b : Int) : ∃ (n x y : Int) (ok : Bool), (M.ltW a b).1 = n ∧ (M.ltW a b).2.1 = x ∧ (M.ltW a b).2.2 = y ∧ M.good a b = ok ∧
    (ok = true → M.good a b = true ∧ M.good x y = true ∧ sameInv a b x y = true ∧ ((-16 * M.disc x y).natAbs : Int) ≤ ((-16 * M.disc (M.smA a b) (M.smB a b)).natAbs : Int) ∧
      (-1000000000000 ≤ -16 * M.disc x y ∧ -16 * M.disc x y ≤ 1000000000000) ∧ (-1000000000000 ≤ -16 * M.disc (M.smA a b) (M.smB a b) ∧ -16 * M.disc (M.smA a b) (M.smB a b) ≤ 1000000000000)) := by
  refine ⟨_, _, _, _, rfl, rfl, rfl, rfl, fun h => ?_⟩
  obtain ⟨h1, h2, h3⟩ := lt_law h
  have b1 := disc_bd (M.good_in h1)
  have b2 := disc_bd (M.good_in (M.sm_good h))
  unfold M.absd at h2
  dsimp only at h2
  exact ⟨h, h1, h3, by omega, by omega, by omega⟩
theorem prod_vals (d e : Int) : ∃ (p : Int) (ok : Bool), (if prodOk d e then prodTw d e else 0) = p ∧ prodOk d e = ok ∧ (ok = true → prodOk p e = true ∧ prodTw p e = d ∧ prodOk e d = true ∧ prodTw e d = p) := by
  refine ⟨_, _, rfl, rfl, fun h => ?_⟩
  rw [if_pos h]
  exact prod_law h
end Go.Proofs.Ytoolgmpflplghaa

namespace Go.Proofs.Ytoolgmpflplghaa
set_option linter.unusedSimpArgs false
set_option linter.unusedVariables false
open Go.RowKit

def DrawCC (w : World) (e : Ending) (w' : World) : Prop := ∃ a b c d : Int, e = .returned (.tuple #[.agg #[.int .i64 a, .int .i64 b], .agg #[.int .i64 c, .int .i64 d]]) ∧ Below w.heap.size w w'
theorem CurK.set2 {w : World} {g B n K c : Nat} {v : Value} (h : CurK w g B v n K) (hc : g ≠ c) (hB : B ≤ c) (x y : Value) : CurK ((w.setCell ⟨c, 0, none⟩ x).setCell ⟨c, 1, none⟩ y) g B v n K := h.keepR (set2_grown w c x y) hc hB
set_option maxHeartbeats 8000000 in
theorem drawTwistBetween_c (v : Value) (n : Nat) (w : World) (h : Bytes w w.heap.size v n) :
    Calls Try.prog 31 #[v] w (DrawCC w) := by
  obtain ⟨A, cap, rfl, hn, hb_⟩ := h
  have h : Bytes w w.heap.size (.slice A n cap) n := ⟨A, cap, rfl, hn, hb_⟩
  clear hb_ hn
  have st := St.new h (W := (w.alloc (.cells #[.int .i64 0, .int .i64 0] 23)).alloc (.cells #[.int .i64 0, .int .i64 0] 23)) (by exact ((Below.refl _ _).alloc (Nat.le_refl _) _).alloc (by rw [World.size_alloc]; omega) _) 72
  rw [World.size_alloc, World.size_alloc] at st
  have zr := ((Box.new w 0 0 23).alloc (.cells #[.int .i64 0, .int .i64 0] 23)).alloc (.cells #[.slice A n cap, .int .i64 0, .int .u64 0] 72)
  have zs := (Box.new (w.alloc (.cells #[.int .i64 0, .int .i64 0] 23)) 0 0 23).alloc (.cells #[.slice A n cap, .int .i64 0, .int .u64 0] 72)
  rw [World.size_alloc] at zs
  have nzr : w.heap.size ≠ w.heap.size + 1 + 1 := by omega
  have nzs : w.heap.size + 1 ≠ w.heap.size + 1 + 1 := by omega
  clear h
  go_enter Try.func31, Try.ntmps31
  go_wp2_with fail
  refine (twistable_c _ w.heap.size _ n _ _ st.cur (by omega)).mono ?_; rintro e w_c ⟨a, b, rfl, hc_, hg_⟩
  replace st := st.call hc_ hg_
  replace zr := zr.keepG hg_ nzr
  replace zs := zs.keepG hg_ nzs
  clear hc_ hg_
  have se := st.size
  have sr := zr.size
  have ss := zs.size
  replace st := st.alloc (.cells #[.int .i64 a, .int .i64 b] 23)
  replace zr := zr.alloc (.cells #[.int .i64 a, .int .i64 b] 23)
  replace zs := zs.alloc (.cells #[.int .i64 a, .int .i64 b] 23)
  have ex := Box.new w_c a b 23
  have nex : w_c.heap.size ≠ w.heap.size + 1 + 1 := by omega
  have HG := fun w => ecGood_c a b w
  cases hg : M.good a b <;> simp only [hg] at HG <;> have HG := Lib.hid HG
  case false =>
    clear hg
    go_wp2_with fail
    refine (HG.out _).mono ?_; rintro e w9 ⟨rfl, hb9⟩
    replace st := st.keep hb9
    replace zr := zr.keep hb9
    replace zs := zs.keep hb9
    replace ex := ex.keep hb9
    clear hb9
    generalize hE : w_c.heap.size = E at *
    have q0 := ex.c0
    have q1 := ex.c1
    have qs := ex.size
    have r0 := zr.c0
    have r1 := zr.c1
    have r2 := zr.f0
    have r3 := zr.f1
    have r4 := zr.size
    have s0 := zs.c0
    have s1 := zs.c1
    have s2 := zs.f0
    have s3 := zs.f1
    have s4 := zs.size
    have hC := st.cur
    have hsC := st.cur.size
    have hG0 := st.gr
    have nEr : E ≠ w.heap.size := by omega
    have nEs : E ≠ w.heap.size + 1 := by omega
    go_upto_region 7 with fail
    go_cut [] from 30 (fun wx => ∃ x y : Int, Box wx w.heap.size a b ∧ Box wx (w.heap.size + 1) x y ∧ w.grownBy wx (some (w.heap.size + 1 + 1)))
    case first =>
      clear HG st ex
      go_region_held3 (fun W => W.cell? ⟨E, 0, none⟩ = some (.int .i64 a) ∧ W.cell? ⟨E, 1, none⟩ = some (.int .i64 b)) (first | (refine ⟨?_, ?_⟩ <;> (first | (with_reducible assumption) | (with_reducible exact cellDr (by assumption)) | (with_reducible exact Gr.cellK hg_ (by assumption) nex) | (with_reducible exact Gr.cellK hg_ (cellDr (by assumption)) nex) | (simp [go_sem, *]; done))) | (go_split_ands; (refine ⟨?_, ?_⟩ <;> (first | (with_reducible assumption) | (with_reducible exact cellDr (by assumption)) | (with_reducible exact Gr.cellK hg_ (by assumption) nex) | (with_reducible exact Gr.cellK hg_ (cellDr (by assumption)) nex) | (simp [go_sem, *]; done)))) | go_keep) (first | (go_at_call 58; refine (twistable_c (w.heap.size + 1 + 1) w.heap.size (.slice A n cap) n (0 + 60) _ (by first | (with_reducible exact hC) | (with_reducible exact hC.drew) | (with_reducible exact hC.set2 (by omega) (by omega) _ _) | (with_reducible exact (hC.set2 (by omega) (by omega) _ _).drew) | (with_reducible exact hC.drew.set2 (by omega) (by omega) _ _) | (with_reducible exact (hC.drew.set2 (by omega) (by omega) _ _).drew) | fail) (by omega)).mono ?_; rintro e w' ⟨x_, y_, rfl, hc_, hg_⟩; have hs_ := hc_.size; have hz_ := hg_.size; (try simp only [World.size_alloc, heap_drew, World.heap_drewN, size_setCell] at hz_); (first | have zr_ := zr.keepG hg_ (by omega) | have zr_ := zr.drew.keepG hg_ (by omega) | have zr_ := (zr.store a b).keepG hg_ (by omega) | have zr_ := (zr.store a b).drew.keepG hg_ (by omega) | have zr_ := (zr.drew.store a b).keepG hg_ (by omega) | have zr_ := (zr.drew.store a b).drew.keepG hg_ (by omega) | fail); (first | have zs_ := zs.keepG hg_ (by omega) | have zs_ := zs.drew.keepG hg_ (by omega) | have zs_ := (zs.other (by omega) _ _).keepG hg_ (by omega) | have zs_ := (zs.other (by omega) _ _).drew.keepG hg_ (by omega) | have zs_ := (zs.drew.other (by omega) _ _).keepG hg_ (by omega) | have zs_ := (zs.drew.other (by omega) _ _).drew.keepG hg_ (by omega) | fail); have za0 := zr_.c0; have za1 := zr_.c1; have za2 := zr_.f0; have za3 := zr_.f1; have za4 := zr_.size; have zb0 := zs_.c0; have zb1 := zs_.c1; have zb2 := zs_.f0; have zb3 := zs_.f1; have zb4 := zs_.size))
      all_goals
        go_wp2_with fail
        go_meet
        first | exact ⟨x_, y_, (zr_.store a b).other (by omega) _ _, (zs_.other (by omega) _ _).store x_ y_, (by repeat (first | exact hG0 | refine grown_tr ?_ (by assumption) | refine Gr.setNew ?_ (by (try simp only [World.size_alloc, heap_drew, World.heap_drewN, size_setCell]); omega) _ | refine Gr.drew ?_))⟩ | exact ⟨x_, y_, zr_.other (by omega) _ _, zs_.store x_ y_, (by repeat (first | exact hG0 | refine grown_tr ?_ (by assumption) | refine Gr.setNew ?_ (by (try simp only [World.size_alloc, heap_drew, World.heap_drewN, size_setCell]); omega) _ | refine Gr.drew ?_))⟩ | exact ⟨x_, y_, (zr_.other (by omega) _ _).store a b, (zs_.store x_ y_).other (by omega) _ _, (by repeat (first | exact hG0 | refine grown_tr ?_ (by assumption) | refine Gr.setNew ?_ (by (try simp only [World.size_alloc, heap_drew, World.heap_drewN, size_setCell]); omega) _ | refine Gr.drew ?_))⟩ | fail
    case rest =>
      clear r0 r1 r2 r3 r4 s0 s1 s2 s3 s4 q0 q1 qs hC hsC hG0
      obtain ⟨x, y, zr, zs, hgx⟩ := hcut
      have hBL : Below w.heap.size w wc := Gr.toBelow (Below.refl _ _) hgx (Nat.le_refl _) (by omega)
      have r0 := zr.c0
      have r1 := zr.c1
      have r2 := zr.f0
      have r3 := zr.f1
      have r4 := zr.size
      have s0 := zs.c0
      have s1 := zs.c1
      have s2 := zs.f0
      have s3 := zs.f1
      have s4 := zs.size
      go_wp2
      exact bodyPost_ret (v := .tuple #[.agg #[.int .i64 a, .int .i64 b], .agg #[.int .i64 x, .int .i64 y]]) (by simp [results, Try.results31, go_sem, *]) rfl (⟨a, b, x, y, rfl, (by repeat (first | exact Below.refl _ _ | refine below_alloc ?_ _ | refine below_step ?_ (by assumption) | refine Below.drew ?_ | refine Below.setCell ?_ (by first | exact Nat.le_refl _ | exact Nat.le_add_right _ _ | (simp <;> omega)) _ | refine below_drewN ?_ _))⟩)
  case true =>
    have hin := M.good_in hg
    clear hg
    go_wp2_with fail
    refine (HG.out _).mono ?_; rintro e w8 ⟨rfl, hb8⟩
    replace st := st.keep hb8
    replace zr := zr.keep hb8
    replace zs := zs.keep hb8
    replace ex := ex.keep hb8
    clear hb8
    have s8 := st.size
    go_wp2_with fail
    refine (one_c _ w.heap.size _ n _ 2 _ st.cur (by omega) (by omega) (by omega)).mono ?_; rintro e w9 ⟨t1, rfl, hc_, hg_⟩
    replace st := st.call hc_ hg_
    replace zr := zr.keepG hg_ nzr
    replace zs := zs.keepG hg_ nzs
    replace ex := ex.keepG hg_ nex
    clear hc_ hg_ s8
    cases t1
    case false =>
      generalize hE : w_c.heap.size = E at *
      have q0 := ex.c0
      have q1 := ex.c1
      have qs := ex.size
      have r0 := zr.c0
      have r1 := zr.c1
      have r2 := zr.f0
      have r3 := zr.f1
      have r4 := zr.size
      have s0 := zs.c0
      have s1 := zs.c1
      have s2 := zs.f0
      have s3 := zs.f1
      have s4 := zs.size
      have hC := st.cur
      have hsC := st.cur.size
      have hG0 := st.gr
      have nEr : E ≠ w.heap.size := by omega
      have nEs : E ≠ w.heap.size + 1 := by omega
      go_upto_region 7 with fail
      go_cut [] from 30 (fun wx => ∃ x y : Int, Box wx w.heap.size a b ∧ Box wx (w.heap.size + 1) x y ∧ w.grownBy wx (some (w.heap.size + 1 + 1)))
      case first =>
        clear HG st ex
        go_region_held3 (fun W => W.cell? ⟨E, 0, none⟩ = some (.int .i64 a) ∧ W.cell? ⟨E, 1, none⟩ = some (.int .i64 b)) (first | (refine ⟨?_, ?_⟩ <;> (first | (with_reducible assumption) | (with_reducible exact cellDr (by assumption)) | (with_reducible exact Gr.cellK hg_ (by assumption) nex) | (with_reducible exact Gr.cellK hg_ (cellDr (by assumption)) nex) | (simp [go_sem, *]; done))) | (go_split_ands; (refine ⟨?_, ?_⟩ <;> (first | (with_reducible assumption) | (with_reducible exact cellDr (by assumption)) | (with_reducible exact Gr.cellK hg_ (by assumption) nex) | (with_reducible exact Gr.cellK hg_ (cellDr (by assumption)) nex) | (simp [go_sem, *]; done)))) | go_keep) (first | (go_at_call 58; refine (twistable_c (w.heap.size + 1 + 1) w.heap.size (.slice A n cap) n (0 + 60 + 2) _ (by first | (with_reducible exact hC) | (with_reducible exact hC.drew) | (with_reducible exact hC.set2 (by omega) (by omega) _ _) | (with_reducible exact (hC.set2 (by omega) (by omega) _ _).drew) | (with_reducible exact hC.drew.set2 (by omega) (by omega) _ _) | (with_reducible exact (hC.drew.set2 (by omega) (by omega) _ _).drew) | fail) (by omega)).mono ?_; rintro e w' ⟨x_, y_, rfl, hc_, hg_⟩; have hs_ := hc_.size; have hz_ := hg_.size; (try simp only [World.size_alloc, heap_drew, World.heap_drewN, size_setCell] at hz_); (first | have zr_ := zr.keepG hg_ (by omega) | have zr_ := zr.drew.keepG hg_ (by omega) | have zr_ := (zr.store a b).keepG hg_ (by omega) | have zr_ := (zr.store a b).drew.keepG hg_ (by omega) | have zr_ := (zr.drew.store a b).keepG hg_ (by omega) | have zr_ := (zr.drew.store a b).drew.keepG hg_ (by omega) | fail); (first | have zs_ := zs.keepG hg_ (by omega) | have zs_ := zs.drew.keepG hg_ (by omega) | have zs_ := (zs.other (by omega) _ _).keepG hg_ (by omega) | have zs_ := (zs.other (by omega) _ _).drew.keepG hg_ (by omega) | have zs_ := (zs.drew.other (by omega) _ _).keepG hg_ (by omega) | have zs_ := (zs.drew.other (by omega) _ _).drew.keepG hg_ (by omega) | fail); have za0 := zr_.c0; have za1 := zr_.c1; have za2 := zr_.f0; have za3 := zr_.f1; have za4 := zr_.size; have zb0 := zs_.c0; have zb1 := zs_.c1; have zb2 := zs_.f0; have zb3 := zs_.f1; have zb4 := zs_.size))
        all_goals
          go_wp2_with fail
          go_meet
          first | exact ⟨x_, y_, (zr_.store a b).other (by omega) _ _, (zs_.other (by omega) _ _).store x_ y_, (by repeat (first | exact hG0 | refine grown_tr ?_ (by assumption) | refine Gr.setNew ?_ (by (try simp only [World.size_alloc, heap_drew, World.heap_drewN, size_setCell]); omega) _ | refine Gr.drew ?_))⟩ | exact ⟨x_, y_, zr_.other (by omega) _ _, zs_.store x_ y_, (by repeat (first | exact hG0 | refine grown_tr ?_ (by assumption) | refine Gr.setNew ?_ (by (try simp only [World.size_alloc, heap_drew, World.heap_drewN, size_setCell]); omega) _ | refine Gr.drew ?_))⟩ | exact ⟨x_, y_, (zr_.other (by omega) _ _).store a b, (zs_.store x_ y_).other (by omega) _ _, (by repeat (first | exact hG0 | refine grown_tr ?_ (by assumption) | refine Gr.setNew ?_ (by (try simp only [World.size_alloc, heap_drew, World.heap_drewN, size_setCell]); omega) _ | refine Gr.drew ?_))⟩ | fail
      case rest =>
        clear r0 r1 r2 r3 r4 s0 s1 s2 s3 s4 q0 q1 qs hC hsC hG0
        obtain ⟨x, y, zr, zs, hgx⟩ := hcut
        have hBL : Below w.heap.size w wc := Gr.toBelow (Below.refl _ _) hgx (Nat.le_refl _) (by omega)
        have r0 := zr.c0
        have r1 := zr.c1
        have r2 := zr.f0
        have r3 := zr.f1
        have r4 := zr.size
        have s0 := zs.c0
        have s1 := zs.c1
        have s2 := zs.f0
        have s3 := zs.f1
        have s4 := zs.size
        go_wp2
        exact bodyPost_ret (v := .tuple #[.agg #[.int .i64 a, .int .i64 b], .agg #[.int .i64 x, .int .i64 y]]) (by simp [results, Try.results31, go_sem, *]) rfl (⟨a, b, x, y, rfl, (by repeat (first | exact Below.refl _ _ | refine below_alloc ?_ _ | refine below_step ?_ (by assumption) | refine Below.drew ?_ | refine Below.setCell ?_ (by first | exact Nat.le_refl _ | exact Nat.le_add_right _ _ | (simp <;> omega)) _ | refine below_drewN ?_ _))⟩)
    case true =>
      generalize hE : w_c.heap.size = E at *
      have q0 := ex.c0
      have q1 := ex.c1
      have qs := ex.size
      have hC := st.cur
      have s9 := st.size
      go_upto_region 4 with fail
      go_cut [6, 7] (fun s6 s7 wx => (∃ p : Int × Int, BoxAt w9 wx s6 p.1 p.2) ∧ (∃ ok : Bool, s7 = .bool ok) ∧ CurK wx (w.heap.size + 1 + 1) w.heap.size (.slice A n cap) n (0 + 60 + 2 + 2) ∧ w9.grownBy wx (some (w.heap.size + 1 + 1)))
      case first =>
        have sg := hC.size
        clear st zr zs ex HG
        go_region_held3 (fun W => W.cell? ⟨E, 0, none⟩ = some (.int .i64 a) ∧ W.cell? ⟨E, 1, none⟩ = some (.int .i64 b)) (first | (refine ⟨?_, ?_⟩ <;> (first | (with_reducible assumption) | (with_reducible exact keepCell (by assumption) (by assumption)) | (with_reducible refine Gr.cellK (by assumption) (by assumption) ?_; omega) | (with_reducible exact Gr.recell0 (by assumption)) | (with_reducible exact cellDr (by assumption)) | (with_reducible exact recellDr (by assumption)) | (with_reducible refine Gr.recell (by assumption) ?_; (intro hh_; (try simp only [World.size_alloc, heap_drew, World.heap_drewN, size_setCell] at hh_); omega)) | (with_reducible refine Gr.far2 (by assumption) ?_ ?_ <;> (intro hh_; (try simp only [World.size_alloc, heap_drew, World.heap_drewN, size_setCell] at hh_); omega)) | assumption)) | (go_split_ands; (refine ⟨?_, ?_⟩ <;> (first | (with_reducible assumption) | (with_reducible exact keepCell (by assumption) (by assumption)) | (with_reducible refine Gr.cellK (by assumption) (by assumption) ?_; omega) | (with_reducible exact Gr.recell0 (by assumption)) | (with_reducible exact cellDr (by assumption)) | (with_reducible exact recellDr (by assumption)) | (with_reducible refine Gr.recell (by assumption) ?_; (intro hh_; (try simp only [World.size_alloc, heap_drew, World.heap_drewN, size_setCell] at hh_); omega)) | (with_reducible refine Gr.far2 (by assumption) ?_ ?_ <;> (intro hh_; (try simp only [World.size_alloc, heap_drew, World.heap_drewN, size_setCell] at hh_); omega)) | assumption))) | go_keep) (first | (go_at_call 80; refine (among_c (w.heap.size + 1 + 1) w.heap.size (.slice A n cap) n (0 + 60 + 2) [-1, 2, -3, 5] _ 4 _ (by repeat (first | exact hC | refine CurK.alloc ?_ _ | refine CurK.drew ?_)) (by omega) rfl (by omega) (by omega) (by (try simp only [World.size_alloc, heap_drew, World.heap_drewN, size_setCell]); omega) (by first | exact lit_cells _ _ _ | exact fun j x h => Gr.recell0 (lit_cells _ _ _ j x h) | exact fun j x h => litD _ _ _ j x h | exact litS _ _ _ _ | exact litSD _ _ _ _ | exact litDS _ _ _ _)).mono ?_; rintro e w' ⟨x_, rfl, hx_, hc_, hg_⟩; have hs_ := hc_.size; have hz_ := hg_.size; (try simp only [World.size_alloc, heap_drew, World.heap_drewN, size_setCell] at hz_); (first | (with_reducible have zz_ := Zb.keepG (zbD (zbA (Zb.new _ _) _)) hg_ (by (try simp only [World.size_alloc, heap_drew, World.heap_drewN, size_setCell]); omega)) | (with_reducible have zz_ := Zb.keepG (zbA (zbD (Zb.new _ _)) _) hg_ (by (try simp only [World.size_alloc, heap_drew, World.heap_drewN, size_setCell]); omega)) | (with_reducible have zz_ := Zb.keepG (Zb.newD _ _) hg_ (by (try simp only [World.size_alloc, heap_drew, World.heap_drewN, size_setCell]); omega)) | (with_reducible have zz_ := Zb.keepG (Zb.new _ _) hg_ (by (try simp only [World.size_alloc, heap_drew, World.heap_drewN, size_setCell]); omega)) | (with_reducible have zz_ := Zb.keepG (zbA (Zb.new _ _) _) hg_ (by (try simp only [World.size_alloc, heap_drew, World.heap_drewN, size_setCell]); omega)) | skip); (first | (have z0_ := zz_.c0; have z1_ := zz_.c1; have z2_ := zz_.f0; have z3_ := zz_.f1; have z4_ := zz_.size; (try simp only [World.size_alloc, heap_drew] at z0_ z1_ z2_ z3_ z4_)) | skip)) | (go_at_call 63; refine (twOf_any a b _ _ hin (by rcases (by simpa using hx_ : x_ = -1 ∨ x_ = 2 ∨ x_ = -3 ∨ x_ = 5) with h | h | h | h <;> omega) (by rcases (by simpa using hx_ : x_ = -1 ∨ x_ = 2 ∨ x_ = -3 ∨ x_ = 5) with h | h | h | h <;> omega)).mono ?_; rintro e w' ⟨p_, ok_, rfl, hb⟩; have hz_ := hb.size; (try simp only [World.size_alloc, heap_drew, World.heap_drewN, size_setCell] at hz_); (first | have zz_ := Zb.keep (Zb.new _ _) hb | have zz_ := Zb.keep (Zb.newD _ _) hb | have zz_ := Zb.keep zz_ hb | skip); (first | (have z0_ := zz_.c0; have z1_ := zz_.c1; have z2_ := zz_.f0; have z3_ := zz_.f1; have z4_ := zz_.size; (try simp only [World.size_alloc, heap_drew] at z0_ z1_ z2_ z3_ z4_)) | skip)))
        all_goals
          go_wp2_with fail
          go_meet
          exact ⟨⟨p_, _, rfl, by simp [go_sem, *], by simp [go_sem, *], by (try simp only [World.size_alloc, heap_drew, World.heap_drewN, size_setCell]); omega, by (try simp only [World.size_alloc, heap_drew, World.heap_drewN, size_setCell]); omega⟩, ⟨ok_, rfl⟩, (by repeat (first | assumption | exact hc_.keep (by assumption) | refine CurK.alloc ?_ _ | refine CurK.drew ?_ | refine CurK.keep ?_ (by assumption) | refine CurK.set2 ?_ (by (try simp only [World.size_alloc, heap_drew, World.heap_drewN, size_setCell]); omega) (by (try simp only [World.size_alloc, heap_drew, World.heap_drewN, size_setCell]); omega) _ _)), (by repeat (first | exact World.grownBy.refl _ _ | refine Gr.alloc ?_ _ | refine Gr.drew ?_ | refine grown_dr ?_ _ | refine Gr.below ?_ (by assumption) (Nat.le_refl _) | refine grown_tr ?_ (by assumption) | refine Gr.set ?_ _ _ | refine Gr.setNew ?_ (by first | exact Nat.le_refl _ | exact Nat.le_add_right _ _ | (simp <;> omega)) _))⟩
      case rest =>
        obtain ⟨⟨p, b6, rfl, e0, e1, e2, e3⟩, ⟨ok, rfl⟩, hcK, hg⟩ := hcut
        replace st := st.call hcK hg
        clear q0 q1 qs hC
        replace zr := zr.keepG hg nzr
        replace zs := zs.keepG hg nzs
        replace ex := ex.keepG hg nex
        clear hg hcK
        obtain ⟨x, y⟩ := p
        dsimp only at e0 e1
        cases ok
        · skip
          clear hE
          clear e0 e1 e2 e3
          have q0 := ex.c0
          have q1 := ex.c1
          have qs := ex.size
          have r0 := zr.c0
          have r1 := zr.c1
          have r2 := zr.f0
          have r3 := zr.f1
          have r4 := zr.size
          have s0 := zs.c0
          have s1 := zs.c1
          have s2 := zs.f0
          have s3 := zs.f1
          have s4 := zs.size
          have hC := st.cur
          have hsC := st.cur.size
          have hG0 := st.gr
          have nEr : E ≠ w.heap.size := by omega
          have nEs : E ≠ w.heap.size + 1 := by omega
          go_upto_region 7 with fail
          go_cut [] from 30 (fun wx => ∃ x y : Int, Box wx w.heap.size a b ∧ Box wx (w.heap.size + 1) x y ∧ w.grownBy wx (some (w.heap.size + 1 + 1)))
          case first =>
            clear HG st ex
            go_region_held3 (fun W => W.cell? ⟨E, 0, none⟩ = some (.int .i64 a) ∧ W.cell? ⟨E, 1, none⟩ = some (.int .i64 b)) (first | (refine ⟨?_, ?_⟩ <;> (first | (with_reducible assumption) | (with_reducible exact cellDr (by assumption)) | (with_reducible exact Gr.cellK hg_ (by assumption) nex) | (with_reducible exact Gr.cellK hg_ (cellDr (by assumption)) nex) | (simp [go_sem, *]; done))) | (go_split_ands; (refine ⟨?_, ?_⟩ <;> (first | (with_reducible assumption) | (with_reducible exact cellDr (by assumption)) | (with_reducible exact Gr.cellK hg_ (by assumption) nex) | (with_reducible exact Gr.cellK hg_ (cellDr (by assumption)) nex) | (simp [go_sem, *]; done)))) | go_keep) (first | (go_at_call 58; refine (twistable_c (w.heap.size + 1 + 1) w.heap.size (.slice A n cap) n (0 + 60 + 2 + 2) _ (by first | (with_reducible exact hC) | (with_reducible exact hC.drew) | (with_reducible exact hC.set2 (by omega) (by omega) _ _) | (with_reducible exact (hC.set2 (by omega) (by omega) _ _).drew) | (with_reducible exact hC.drew.set2 (by omega) (by omega) _ _) | (with_reducible exact (hC.drew.set2 (by omega) (by omega) _ _).drew) | fail) (by omega)).mono ?_; rintro e w' ⟨x_, y_, rfl, hc_, hg_⟩; have hs_ := hc_.size; have hz_ := hg_.size; (try simp only [World.size_alloc, heap_drew, World.heap_drewN, size_setCell] at hz_); (first | have zr_ := zr.keepG hg_ (by omega) | have zr_ := zr.drew.keepG hg_ (by omega) | have zr_ := (zr.store a b).keepG hg_ (by omega) | have zr_ := (zr.store a b).drew.keepG hg_ (by omega) | have zr_ := (zr.drew.store a b).keepG hg_ (by omega) | have zr_ := (zr.drew.store a b).drew.keepG hg_ (by omega) | fail); (first | have zs_ := zs.keepG hg_ (by omega) | have zs_ := zs.drew.keepG hg_ (by omega) | have zs_ := (zs.other (by omega) _ _).keepG hg_ (by omega) | have zs_ := (zs.other (by omega) _ _).drew.keepG hg_ (by omega) | have zs_ := (zs.drew.other (by omega) _ _).keepG hg_ (by omega) | have zs_ := (zs.drew.other (by omega) _ _).drew.keepG hg_ (by omega) | fail); have za0 := zr_.c0; have za1 := zr_.c1; have za2 := zr_.f0; have za3 := zr_.f1; have za4 := zr_.size; have zb0 := zs_.c0; have zb1 := zs_.c1; have zb2 := zs_.f0; have zb3 := zs_.f1; have zb4 := zs_.size))
            all_goals
              go_wp2_with fail
              go_meet
              first | exact ⟨x_, y_, (zr_.store a b).other (by omega) _ _, (zs_.other (by omega) _ _).store x_ y_, (by repeat (first | exact hG0 | refine grown_tr ?_ (by assumption) | refine Gr.setNew ?_ (by (try simp only [World.size_alloc, heap_drew, World.heap_drewN, size_setCell]); omega) _ | refine Gr.drew ?_))⟩ | exact ⟨x_, y_, zr_.other (by omega) _ _, zs_.store x_ y_, (by repeat (first | exact hG0 | refine grown_tr ?_ (by assumption) | refine Gr.setNew ?_ (by (try simp only [World.size_alloc, heap_drew, World.heap_drewN, size_setCell]); omega) _ | refine Gr.drew ?_))⟩ | exact ⟨x_, y_, (zr_.other (by omega) _ _).store a b, (zs_.store x_ y_).other (by omega) _ _, (by repeat (first | exact hG0 | refine grown_tr ?_ (by assumption) | refine Gr.setNew ?_ (by (try simp only [World.size_alloc, heap_drew, World.heap_drewN, size_setCell]); omega) _ | refine Gr.drew ?_))⟩ | fail
          case rest =>
            clear r0 r1 r2 r3 r4 s0 s1 s2 s3 s4 q0 q1 qs hC hsC hG0
            obtain ⟨x, y, zr, zs, hgx⟩ := hcut
            have hBL : Below w.heap.size w wc := Gr.toBelow (Below.refl _ _) hgx (Nat.le_refl _) (by omega)
            have r0 := zr.c0
            have r1 := zr.c1
            have r2 := zr.f0
            have r3 := zr.f1
            have r4 := zr.size
            have s0 := zs.c0
            have s1 := zs.c1
            have s2 := zs.f0
            have s3 := zs.f1
            have s4 := zs.size
            go_wp2
            exact bodyPost_ret (v := .tuple #[.agg #[.int .i64 a, .int .i64 b], .agg #[.int .i64 x, .int .i64 y]]) (by simp [results, Try.results31, go_sem, *]) rfl (⟨a, b, x, y, rfl, (by repeat (first | exact Below.refl _ _ | refine below_alloc ?_ _ | refine below_step ?_ (by assumption) | refine Below.drew ?_ | refine Below.setCell ?_ (by first | exact Nat.le_refl _ | exact Nat.le_add_right _ _ | (simp <;> omega)) _ | refine below_drewN ?_ _))⟩)
        · skip
          have q0 := ex.c0
          have q1 := ex.c1
          have qs := ex.size
          have r0 := zr.c0
          have r1 := zr.c1
          have r2 := zr.f0
          have r3 := zr.f1
          have r4 := zr.size
          have s0 := zs.c0
          have s1 := zs.c1
          have s2 := zs.f0
          have s3 := zs.f1
          have s4 := zs.size
          have hBL := st.below (Nat.le_trans (Nat.le_succ _) (Nat.le_succ _))
          go_wp2_with fail
          go_region
          all_goals
            go_wp2
            exact bodyPost_ret (v := .tuple #[.agg #[.int .i64 a, .int .i64 b], .agg #[.int .i64 x, .int .i64 y]]) (by simp [results, Try.results31, go_sem, *]) rfl (⟨a, b, x, y, rfl, (by repeat (first | exact Below.refl _ _ | refine below_alloc ?_ _ | refine below_step ?_ (by assumption) | refine Below.drew ?_ | refine Below.setCell ?_ (by first | exact Nat.le_refl _ | exact Nat.le_add_right _ _ | (simp <;> omega)) _ | refine below_drewN ?_ _))⟩)
end Go.Proofs.Ytoolgmpflplghaa

