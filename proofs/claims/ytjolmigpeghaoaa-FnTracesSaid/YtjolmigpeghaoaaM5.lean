/-
  Plain: what the law on traces needs of values.
-/
import Derived.Test.YtjolmigpeghaoaaM2
import Derived.Test.YtjolmigpeghaoaaM3
import Derived.Test.YtjolmigpeghaoaaM4
import Derived.Test.YtjolmigpeghaoaaD1
namespace Go.Proofs.Ytjolmigpeghaoaa
set_option linter.unusedSimpArgs false
set_option linter.unusedVariables false
open Go.RowKit

/-- the primes that are drawn -/
def dP (x : Int) : Prop := x ∈ ([2, 3, 5, 7, 11, 13, 17, 31, 97, 101, 991, 997, 0, 1, 4, 91, 1009, -7] : List Int)
def dG (x : Int) : Prop := x ∈ ([5, 7, 11, 13, 17, 19, 23, 97] : List Int) ∨ dP x
theorem dG_cases {p : Int} (h : dG p) (h1 : 5 ≤ p) (h2 : p ≤ 997) (hp : M.prime p = true) : p = 5 ∨ p = 7 ∨ p = 11 ∨ p = 13 ∨ p = 17 ∨ p = 19 ∨ p = 23 ∨ p = 31 ∨ p = 97 ∨ p = 101 ∨ p = 991 ∨ p = 997 := by
  have h91 : p ≠ 91 := fun h => by
    subst h
    have : M.prime ((91 : Nat) : Int) = M.primeS 91 := M.prime_small (by omega)
    rw [show ((91 : Nat) : Int) = 91 from rfl] at this
    rw [this] at hp
    have h0 : M.primeS 91 = false := by kernel_rfl
    rw [h0] at hp
    cases hp
  unfold dG dP at h
  simp only [List.mem_cons, List.not_mem_nil, or_false] at h
  omega
theorem hasse_draw {a b p : Int} (h : dG p) (hg : M.goodp a b p = true) : M.trace a b p * M.trace a b p ≤ 4 * p := by
  have hg' := hg
  unfold M.goodp at hg'
  simp only [Bool.and_eq_true, M.ins_iff, decide_eq_true_eq] at hg'
  obtain ⟨⟨⟨h1, h2⟩, h3⟩, h4⟩ := hg'
  rw [M.trace_psum, Int.neg_mul_neg]
  rcases dG_cases h h1 h2 h3 with rfl | rfl | rfl | rfl | rfl | rfl | rfl | rfl | rfl | rfl | rfl | rfl
  · exact M.hasse5 h4
  · exact M.hasse7 h4
  · exact M.hasse11 h4
  · exact M.hasse13 h4
  · exact M.hasse17 h4
  · exact M.hasse19 h4
  · exact M.hasse23 h4
  · exact M.hasse31 h4
  · exact M.hasse97 h4
  · exact M.hasse101 h4
  · exact M.hasse991 h4
  · exact M.hasse997 h4
theorem abs_root {t n : Int} (h0 : 0 ≤ n) (h : t * t ≤ n) : (t.natAbs : Int) ≤ M.root n := by
  obtain ⟨r0, r1, r2⟩ := M.root_spec h0
  generalize M.root n = r at *
  rcases Int.lt_or_le r (t.natAbs : Int) with hl | hl
  · exfalso
    have h1 : (r + 1) * (r + 1) ≤ (t.natAbs : Int) * (t.natAbs : Int) := Int.mul_le_mul (by omega) (by omega) (by omega) (by omega)
    have h2 : (t.natAbs : Int) * (t.natAbs : Int) = t * t := by
      rcases Int.natAbs_eq t with h3 | h3
      · rw [← h3]
      · rw [show (t.natAbs : Int) = -t by omega, Int.neg_mul_neg]
    omega
  · exact hl
theorem cnt_div {t p k : Int} (k1 : 1 ≤ k) (k2 : k ≤ 4) : cntOver t p k % (p + 1 - t) = 0 := by
  have hk : k = 1 ∨ k = 2 ∨ k = 3 ∨ k = 4 := by omega
  unfold cntOver trp
  rcases hk with rfl | rfl | rfl | rfl
  · rw [show M.ipow p (Int.toNat 1) + 1 - (M.tpw t p (1 - 1 : Int).toNat).2 = p + 1 - t by simp [M.ipow, M.tpw]]
    exact Int.emod_self
  · rw [show M.ipow p (Int.toNat 2) + 1 - (M.tpw t p (2 - 1 : Int).toNat).2 = (p + 1 - t) * (p + 1 + t) by
      rw [show (Int.toNat 2) = 2 from rfl, show (2 - 1 : Int).toNat = 1 from rfl]
      simp only [M.ipow, M.tpw]
      grind]
    exact Int.mul_emod_right _ _
  · rw [show M.ipow p (Int.toNat 3) + 1 - (M.tpw t p (3 - 1 : Int).toNat).2 = (p + 1 - t) * ((p + 1) * (p + 1) + (p + 1) * t + t * t - 3 * p) by
      rw [show (Int.toNat 3) = 3 from rfl, show (3 - 1 : Int).toNat = 2 from rfl]
      simp only [M.ipow, M.tpw]
      grind]
    exact Int.mul_emod_right _ _
  · rw [show M.ipow p (Int.toNat 4) + 1 - (M.tpw t p (4 - 1 : Int).toNat).2 = (p + 1 - t) * ((p + 1 + t) * (p * p + 1 + t * t - 2 * p)) by
      rw [show (Int.toNat 4) = 4 from rfl, show (4 - 1 : Int).toNat = 3 from rfl]
      simp only [M.ipow, M.tpw]
      grind]
    exact Int.mul_emod_right _ _
/-- the first part's values -/
theorem tr_vals (a b p : Int) (hd : dG p) : ∃ (t r : Int) (ok th : Bool), M.pick (trOk a b p) (M.trace a b p) = t ∧ trOk a b p = ok ∧ (trOk a b p && (M.trace a b p == 0)) = (ok && (t == 0)) ∧ (if M.ins p 2 997 && M.prime p then M.root (4 * p) else 0) = r ∧ (M.ins p 2 997 && M.prime p) = th ∧
    (ok = true → th = true ∧ M.good a b = true ∧ M.goodp a b p = true ∧ M.count a b p = p + 1 - t ∧ (5 ≤ p ∧ p ≤ 997) ∧ (-1000 ≤ t ∧ t ≤ 1000) ∧ (t.natAbs : Int) ≤ r ∧ (0 ≤ r ∧ r ≤ 4000) ∧ r * r ≤ 4 * p ∧ 4 * p < (r + 1) * (r + 1)) := by
  refine ⟨_, _, _, _, rfl, rfl, ?_, rfl, rfl, fun h => ?_⟩
  · cases trOk a b p <;> simp [M.pick_t]
  · have h' := h
    unfold trOk at h'
    rw [Bool.and_eq_true] at h'
    obtain ⟨hg, hp⟩ := h'
    obtain ⟨p1, p2, p3⟩ := M.goodp_bd hp
    obtain ⟨t1, t2, -⟩ := goodp_trace hp
    have hth : (M.ins p 2 997 && M.prime p) = true := by rw [p3, Bool.and_true]; exact M.ins_iff.2 ⟨by omega, by omega⟩
    rw [h, hth, M.pick_t, if_pos rfl]
    have hr := M.root_spec (n := 4 * p) (by omega)
    have hh := abs_root (n := 4 * p) (by omega) (hasse_draw hd hp)
    obtain ⟨r0, r1, r2⟩ := hr
    have r3 : M.root (4 * p) ≤ 4000 := by
      rcases Int.lt_or_le 4000 (M.root (4 * p)) with hl | hl
      · exfalso
        have : (4000 : Int) * 4000 ≤ M.root (4 * p) * M.root (4 * p) := Int.mul_le_mul (by omega) (by omega) (by omega) (by omega)
        omega
      · exact hl
    exact ⟨rfl, hg, hp, by unfold M.trace; omega, ⟨p1, p2⟩, ⟨t1, t2⟩, hh, ⟨r0, r3⟩, r1, r2⟩
/-- the second part's values -/
theorem co_vals (a b p k : Int) : ∃ (n m : Int) (ok : Bool), M.pick (tfOk a b p k) (cntOver (M.trace a b p) p k) = n ∧ M.pick (tfOk a b p k) (trp (M.trace a b p) p k) = m ∧ tfOk a b p k = ok ∧
    (ok = true → M.good a b = true ∧ M.goodp a b p = true ∧ (1 ≤ k ∧ k ≤ 4) ∧ (5 ≤ p ∧ p ≤ 997) ∧ (1 ≤ M.count a b p ∧ M.count a b p ≤ 2000) ∧ n % M.count a b p = 0 ∧ n = M.ipow p k.toNat + 1 - m ∧ (-8000000000000 ≤ m ∧ m ≤ 8000000000000)) := by
  refine ⟨_, _, _, rfl, rfl, rfl, fun h => ?_⟩
  have h' := h
  unfold tfOk at h'
  simp only [Bool.and_eq_true, M.ins_iff] at h'
  obtain ⟨⟨hg, hp⟩, k1, k2⟩ := h'
  obtain ⟨p1, p2, p3⟩ := M.goodp_bd hp
  obtain ⟨t1, t2, -⟩ := goodp_trace hp
  have hc := M.count_bd a b (p := p) (by omega)
  have hd := cnt_div (t := M.trace a b p) (p := p) k1 k2
  have hb := trp_bd (t := M.trace a b p) (p := p) t1 t2 (by omega) (by omega) k1 k2
  rw [h, M.pick_t, M.pick_t]
  refine ⟨hg, hp, ⟨k1, k2⟩, ⟨p1, p2⟩, ⟨hc.1, by omega⟩, ?_, rfl, hb⟩
  rw [show M.count a b p = p + 1 - M.trace a b p by unfold M.trace; omega]
  exact hd
end Go.Proofs.Ytjolmigpeghaoaa
