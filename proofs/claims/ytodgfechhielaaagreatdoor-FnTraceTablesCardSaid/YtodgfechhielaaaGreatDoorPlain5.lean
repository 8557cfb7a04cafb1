/-
  Plain mathematics: sums over residues, twists of counts, lists of good primes.
-/
import Derived.Test.YtodgfechhielaaaGreatDoorPlain4
namespace Go.Proofs.YtodgfechhielaaaGreatDoor
set_option linter.unusedSimpArgs false
set_option linter.unusedVariables false
namespace M
/-- good primes from 5 on -/
noncomputable def goods (a b n : Int) : List Int := sel (goodp a b) 5 (n - 4).toNat
theorem mem_goods {a b n p : Int} (h : p ∈ goods a b n) : goodp a b p = true ∧ 5 ≤ p ∧ p ≤ n := by
  have := mem_sel.1 h
  exact ⟨this.2, this.1.1, by have := this.1; omega⟩
/-- powers -/
def ipow (p : Int) : Nat → Int
  | 0 => 1
  | k + 1 => ipow p k * p
theorem ipow_bd {p : Int} (h1 : 0 ≤ p) (h2 : p ≤ 1000) : ∀ k : Nat, 0 ≤ ipow p k ∧ ipow p k ≤ 1000 ^ k
  | 0 => by simp [ipow]
  | k + 1 => by
    obtain ⟨a, b⟩ := ipow_bd h1 h2 k
    have := mul_nn a b h1 h2
    simp only [ipow, Int.pow_succ]
    exact this
theorem ipow_bd4 {p : Int} (h1 : 0 ≤ p) (h2 : p ≤ 1000) {k : Nat} (hk : k ≤ 5) : 0 ≤ ipow p k ∧ ipow p k ≤ 1000000000000000 := by
  have := ipow_bd h1 h2 k
  have e : (1000 : Int) ^ k ≤ 1000000000000000 := by
    rcases (show k = 0 ∨ k = 1 ∨ k = 2 ∨ k = 3 ∨ k = 4 ∨ k = 5 by omega) with rfl | rfl | rfl | rfl | rfl | rfl <;> decide
  omega
/-- the first good prime with different traces, or 0 -/
noncomputable def differ (a b c d p : Int) : Bool := goodp c d p && (trace a b p != trace c d p)
noncomputable def firstD (a b c d n : Int) : Option Int := (goods a b n).find? (differ a b c d)

/-- a list of different numbers below n that is n long is all of them -/
theorem nodup_len : ∀ (n : Nat) (l : List Nat), l.Nodup → (∀ x ∈ l, x < n) → l.length ≤ n
  | 0, l, _, h => by
    cases l with
    | nil => simp
    | cons x l => have := h x List.mem_cons_self; omega
  | n + 1, l, hd, h => by
    have h1 : (l.erase n).Nodup := hd.erase n
    have h2 : ∀ x ∈ l.erase n, x < n := fun x hx => by
      have hxl := List.mem_of_mem_erase hx
      have := h x hxl
      have hne : x ≠ n := fun e => by
        rw [e] at hx
        exact hd.not_mem_erase hx
      omega
    have := nodup_len n (l.erase n) h1 h2
    by_cases hm : n ∈ l
    · rw [List.length_erase_of_mem hm] at this
      omega
    · rw [List.erase_of_not_mem hm] at this
      omega
theorem perm_range : ∀ (n : Nat) (l : List Nat), l.Nodup → (∀ x ∈ l, x < n) → l.length = n → l.Perm (List.range n)
  | 0, l, _, h, hl => by
    have : l = [] := List.eq_nil_of_length_eq_zero hl
    rw [this]
    exact List.Perm.refl _
  | n + 1, l, hd, h, hl => by
    have h1 : (l.erase n).Nodup := hd.erase n
    have h2 : ∀ x ∈ l.erase n, x < n := fun x hx => by
      have hxl := List.mem_of_mem_erase hx
      have := h x hxl
      have hne : x ≠ n := fun e => by
        rw [e] at hx
        exact hd.not_mem_erase hx
      omega
    have hm : n ∈ l := by
      by_cases hm : n ∈ l
      · exact hm
      · exfalso
        rw [List.erase_of_not_mem hm] at h1 h2
        have := nodup_len n l h1 h2
        omega
    have h3 : (l.erase n).length = n := by rw [List.length_erase_of_mem hm]; omega
    have ih := perm_range n (l.erase n) h1 h2 h3
    rw [List.range_succ]
    refine (List.perm_cons_erase hm).trans ?_
    exact (ih.cons n).trans (List.perm_append_singleton n (List.range n)).symm
theorem sumTo_list (f : Int → Int) : ∀ n : Nat, sumTo f n = ((List.range n).map fun x : Nat => f (x : Int)).sum
  | 0 => rfl
  | n + 1 => by
    rw [List.range_succ, List.map_append, List.sum_append, sumTo, sumTo_list f n]
    simp
theorem perm_sum {l l' : List Int} (h : l.Perm l') : l.sum = l'.sum := by
  induction h with
  | nil => rfl
  | cons x _ ih => simp only [List.sum_cons, ih]
  | swap x y l => simp only [List.sum_cons]; omega
  | trans _ _ h1 h2 => exact h1.trans h2
/-- multiplying the residues by a unit permutes them -/
theorem sum_mul {p : Nat} (hp : Prime p) {u : Int} (hu : ¬ u % p = 0) (f : Int → Int) : sumTo (fun x => f (u * x % p)) p = sumTo f p := by
  have hp2 := hp.1
  rw [sumTo_list, sumTo_list]
  have e : (List.range p).map (fun x : Nat => f (u * (x : Int) % p)) = ((List.range p).map fun x : Nat => (u * (x : Int) % p).toNat).map fun x : Nat => f (x : Int) := by
    rw [List.map_map]
    refine List.map_congr_left fun x _ => ?_
    have := mod_bd (a := u * (x : Int)) (p := (p : Int)) (by omega)
    simp only [Function.comp]
    rw [Int.toNat_of_nonneg this.1]
  rw [e]
  refine perm_sum (List.Perm.map _ (perm_range p _ ?_ ?_ (by simp)))
  · refine List.nodup_iff_pairwise_ne.2 ?_
    rw [List.pairwise_map]
    refine List.Pairwise.imp_of_mem ?_ (List.nodup_iff_pairwise_ne.1 List.nodup_range)
    intro x y hx hy hne he
    have hx := List.mem_range.1 hx
    have hy := List.mem_range.1 hy
    have b1 := mod_bd (a := u * (x : Int)) (p := (p : Int)) (by omega)
    have b2 := mod_bd (a := u * (y : Int)) (p := (p : Int)) (by omega)
    have he' : u * (x : Int) % p = u * (y : Int) % p := by omega
    have hd : (u * ((x : Int) - y)) % p = 0 := by
      rw [Int.mul_sub]
      exact Int.emod_eq_emod_iff_emod_sub_eq_zero.1 he'
    have := prime_mul hp hd hu
    have hdv := Int.dvd_of_emod_eq_zero this
    obtain ⟨c, hc⟩ := hdv
    rcases Int.lt_trichotomy c 0 with k | k | k
    · have : (p : Int) * c ≤ p * (-1) := Int.mul_le_mul_of_nonneg_left (by omega) (by omega)
      omega
    · rw [k] at hc; omega
    · have : (p : Int) * 1 ≤ p * c := Int.mul_le_mul_of_nonneg_left (by omega) (by omega)
      omega
  · intro x hx
    obtain ⟨y, _, rfl⟩ := List.mem_map.1 hx
    have := mod_bd (a := u * (y : Int)) (p := (p : Int)) (by omega)
    omega
end M
end Go.Proofs.YtodgfechhielaaaGreatDoor
