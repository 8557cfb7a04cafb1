/-
  Plain mathematics of the program: no program in sight. Numbers are Lean's integers.
-/
import Derived.WalkKit
namespace Go.Proofs.Ytcaabbaddghilaa
namespace M

/-- a number of Go's int -/
def I64 (a : Int) : Prop := -9223372036854775808 ≤ a ∧ a ≤ 9223372036854775807

/-- a number lies in a range -/
def ins (n lo hi : Int) : Bool := decide (lo ≤ n ∧ n ≤ hi)
theorem ins_iff {n lo hi : Int} : ins n lo hi = true ↔ lo ≤ n ∧ n ≤ hi := by simp [ins]
theorem ins_not {n lo hi : Int} : ins n lo hi = false ↔ ¬ (lo ≤ n ∧ n ≤ hi) := by simp [ins]
theorem ins_t {n lo hi : Int} (h : ins n lo hi = true) : lo ≤ n ∧ n ≤ hi := ins_iff.1 h

/-- a product's bounds -/
theorem mul_bd {x y m n : Int} (h1 : -m ≤ x) (h2 : x ≤ m) (h3 : -n ≤ y) (h4 : y ≤ n) : -(m * n) ≤ x * y ∧ x * y ≤ m * n := by
  have a1 : 0 ≤ (m - x) * (n - y) := Int.mul_nonneg (by omega) (by omega)
  have a2 : 0 ≤ (m + x) * (n + y) := Int.mul_nonneg (by omega) (by omega)
  have a3 : 0 ≤ (m - x) * (n + y) := Int.mul_nonneg (by omega) (by omega)
  have a4 : 0 ≤ (m + x) * (n - y) := Int.mul_nonneg (by omega) (by omega)
  simp only [Int.sub_mul, Int.mul_sub, Int.add_mul, Int.mul_add] at a1 a2 a3 a4
  constructor <;> omega

theorem sq_bd {x m : Int} (h1 : -m ≤ x) (h2 : x ≤ m) : 0 ≤ x * x ∧ x * x ≤ m * m := by
  have := (mul_bd h1 h2 h1 h2).2
  refine ⟨?_, this⟩
  rcases Int.le_total 0 x with h | h
  · exact Int.mul_nonneg h h
  · exact Int.mul_nonneg_of_nonpos_of_nonpos h h

theorem mul_nn {x y m n : Int} (h1 : 0 ≤ x) (h2 : x ≤ m) (h3 : 0 ≤ y) (h4 : y ≤ n) : 0 ≤ x * y ∧ x * y ≤ m * n :=
  ⟨Int.mul_nonneg h1 h3, (mul_bd (m := m) (n := n) (by omega) h2 (by omega) h4).2⟩

/-- prime numbers, by trial -/
def Prime (n : Int) : Prop := 2 ≤ n ∧ ∀ d : Int, 2 ≤ d → d * d ≤ n → ¬ n % d = 0
open Classical in
noncomputable def prime (n : Int) : Bool := decide (Prime n)
theorem prime_iff {n : Int} : prime n = true ↔ Prime n := by simp [prime]
theorem prime_not {n : Int} : prime n = false ↔ ¬ Prime n := by simp [prime]
/-- the loop's two exits -/
theorem prime_no {n k : Int} (hk : 2 ≤ k) (hs : k * k ≤ n) (hd : n % k = 0) : prime n = false :=
  prime_not.2 fun h => h.2 k hk hs hd
theorem prime_yes {n k : Int} (hn : 2 ≤ n) (hk : 2 ≤ k) (hs : n < k * k) (h : ∀ e : Int, 2 ≤ e → e < k → ¬ n % e = 0) : prime n = true := by
  refine prime_iff.2 ⟨hn, fun d hd hdn => ?_⟩
  refine h d hd ?_
  rcases Int.lt_or_le d k with q | q
  · exact q
  · have : k * k ≤ d * d := Int.mul_le_mul q q (by omega) (by omega)
    omega

/-- a loop that squares its counter stops by its bound -/
theorem sq_lt {k m : Int} (hm : 0 ≤ m) (h : k * k < m * m) : k < m := by
  rcases Int.lt_or_le k m with q | q
  · exact q
  · have : m * m ≤ k * k := Int.mul_le_mul q q (by omega) (by omega)
    omega

/-- the greatest integer whose square is not greater -/
def Root (n r : Int) : Prop := 0 ≤ r ∧ r * r ≤ n ∧ n < (r + 1) * (r + 1)
theorem Root.uniq {n r s : Int} (h : Root n r) (k : Root n s) : r = s := by
  obtain ⟨a, b, c⟩ := h
  obtain ⟨d, e, f⟩ := k
  rcases Int.lt_trichotomy r s with q | q | q
  · have : (r + 1) * (r + 1) ≤ s * s := Int.mul_le_mul (by omega) (by omega) (by omega) (by omega)
    omega
  · exact q
  · have : (s + 1) * (s + 1) ≤ r * r := Int.mul_le_mul (by omega) (by omega) (by omega) (by omega)
    omega
theorem root_ex (n : Nat) : ∃ r : Nat, r * r ≤ n ∧ n < (r + 1) * (r + 1) := by
  induction n with
  | zero => exact ⟨0, by omega, by omega⟩
  | succ n ih =>
    obtain ⟨r, h1, h2⟩ := ih
    rcases Nat.lt_or_ge (n + 1) ((r + 1) * (r + 1)) with q | q
    · exact ⟨r, by omega, q⟩
    · refine ⟨r + 1, q, ?_⟩
      have : (r + 1 + 1) * (r + 1 + 1) = (r + 1) * (r + 1) + 2 * r + 3 := by simp only [Nat.add_mul, Nat.mul_add]; omega
      omega
open Classical in
/-- the root as a function -/
noncomputable def root (n : Int) : Int := if h : 0 ≤ n then ((root_ex n.toNat).choose : Int) else 0
theorem root_spec {n : Int} (h : 0 ≤ n) : Root n (root n) := by
  obtain ⟨a, b⟩ := (root_ex n.toNat).choose_spec
  unfold root
  rw [dif_pos h]
  refine ⟨by omega, ?_, ?_⟩
  · have := Int.ofNat_le.2 a; push_cast at this; omega
  · have := Int.ofNat_lt.2 b; push_cast at this; omega
theorem root_eq {n r : Int} (h : Root n r) : r = root n := by
  have : 0 ≤ r * r := Int.mul_nonneg h.1 h.1
  exact h.uniq (root_spec (by have := h.2.1; omega))
end M
end Go.Proofs.Ytcaabbaddghilaa
