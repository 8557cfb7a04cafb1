/-
  Plain mathematics of the program: no program in sight. Numbers are Lean's integers.
-/
import Derived.WalkKit
namespace Go.Proofs.YtodgfechhielaaaGreatDoor
set_option linter.unusedSimpArgs false
set_option linter.unusedVariables false
namespace M

/-- a number of Go's int -/
def I64 (a : Int) : Prop := -9223372036854775808 ≤ a ∧ a ≤ 9223372036854775807

/-- a value, or nothing -/
def pick (ok : Bool) (x : Int) : Int := if ok then x else 0
theorem pick_t (x : Int) : pick true x = x := rfl
theorem pick_f (x : Int) : pick false x = 0 := rfl

/-- a number lies in a range -/
def ins (n lo hi : Int) : Bool := decide (lo ≤ n ∧ n ≤ hi)
theorem ins_iff {n lo hi : Int} : ins n lo hi = true ↔ lo ≤ n ∧ n ≤ hi := by simp [ins]
theorem ins_not {n lo hi : Int} : ins n lo hi = false ↔ ¬ (lo ≤ n ∧ n ≤ hi) := by simp [ins]
theorem ins_t {n lo hi : Int} (h : ins n lo hi = true) : lo ≤ n ∧ n ≤ hi := ins_iff.1 h

/-- a product's bounds -/
theorem mul_bd {x y m n : Int} (h1 : -m ≤ x) (h2 : x ≤ m) (h3 : -n ≤ y) (h4 : y ≤ n) : -(m * n) ≤ x * y ∧ x * y ≤ m * n := by
  have a1 : 0 ≤ (m - x) * (n - y) := Int.mul_nonneg (by omega) (by omega)
  have a2 : 0 ≤ (m + x) * (n + y) := Int.mul_nonneg (by omega) (by omega)
  have a3 : 0 ≤ (m - x) * (n + y) := Int.mul_nonneg (by omega) (by omega)
  have a4 : 0 ≤ (m + x) * (n - y) := Int.mul_nonneg (by omega) (by omega)
  simp only [Int.sub_mul, Int.mul_sub, Int.add_mul, Int.mul_add] at a1 a2 a3 a4
  constructor <;> omega

theorem sq_bd {x m : Int} (h1 : -m ≤ x) (h2 : x ≤ m) : 0 ≤ x * x ∧ x * x ≤ m * m := by
  have := (mul_bd h1 h2 h1 h2).2
  refine ⟨?_, this⟩
  rcases Int.le_total 0 x with h | h
  · exact Int.mul_nonneg h h
  · exact Int.mul_nonneg_of_nonpos_of_nonpos h h

theorem mul_nn {x y m n : Int} (h1 : 0 ≤ x) (h2 : x ≤ m) (h3 : 0 ≤ y) (h4 : y ≤ n) : 0 ≤ x * y ∧ x * y ≤ m * n :=
  ⟨Int.mul_nonneg h1 h3, (mul_bd (m := m) (n := n) (by omega) h2 (by omega) h4).2⟩

/-- prime numbers, by trial -/
def Prime (n : Int) : Prop := 2 ≤ n ∧ ∀ d : Int, 2 ≤ d → d * d ≤ n → ¬ n % d = 0
open Classical in
noncomputable def prime (n : Int) : Bool := decide (Prime n)
theorem prime_iff {n : Int} : prime n = true ↔ Prime n := by simp [prime]
theorem prime_not {n : Int} : prime n = false ↔ ¬ Prime n := by simp [prime]
/-- the loop's two exits -/
theorem prime_no {n k : Int} (hk : 2 ≤ k) (hs : k * k ≤ n) (hd : n % k = 0) : prime n = false :=
  prime_not.2 fun h => h.2 k hk hs hd
theorem prime_yes {n k : Int} (hn : 2 ≤ n) (hk : 2 ≤ k) (hs : n < k * k) (h : ∀ e : Int, 2 ≤ e → e < k → ¬ n % e = 0) : prime n = true := by
  refine prime_iff.2 ⟨hn, fun d hd hdn => ?_⟩
  refine h d hd ?_
  rcases Int.lt_or_le d k with q | q
  · exact q
  · have : k * k ≤ d * d := Int.mul_le_mul q q (by omega) (by omega)
    omega

/-- a loop that squares its counter stops by its bound -/
theorem sq_lt {k m : Int} (hm : 0 ≤ m) (h : k * k < m * m) : k < m := by
  rcases Int.lt_or_le k m with q | q
  · exact q
  · have : m * m ≤ k * k := Int.mul_le_mul q q (by omega) (by omega)
    omega

/-- the greatest integer whose square is not greater -/
def Root (n r : Int) : Prop := 0 ≤ r ∧ r * r ≤ n ∧ n < (r + 1) * (r + 1)
theorem Root.uniq {n r s : Int} (h : Root n r) (k : Root n s) : r = s := by
  obtain ⟨a, b, c⟩ := h
  obtain ⟨d, e, f⟩ := k
  rcases Int.lt_trichotomy r s with q | q | q
  · have : (r + 1) * (r + 1) ≤ s * s := Int.mul_le_mul (by omega) (by omega) (by omega) (by omega)
    omega
  · exact q
  · have : (s + 1) * (s + 1) ≤ r * r := Int.mul_le_mul (by omega) (by omega) (by omega) (by omega)
    omega
theorem root_ex (n : Nat) : ∃ r : Nat, r * r ≤ n ∧ n < (r + 1) * (r + 1) := by
  induction n with
  | zero => exact ⟨0, by omega, by omega⟩
  | succ n ih =>
    obtain ⟨r, h1, h2⟩ := ih
    rcases Nat.lt_or_ge (n + 1) ((r + 1) * (r + 1)) with q | q
    · exact ⟨r, by omega, q⟩
    · refine ⟨r + 1, q, ?_⟩
      have : (r + 1 + 1) * (r + 1 + 1) = (r + 1) * (r + 1) + 2 * r + 3 := by simp only [Nat.add_mul, Nat.mul_add]; omega
      omega
open Classical in
/-- the root as a function -/
noncomputable def root (n : Int) : Int := if h : 0 ≤ n then ((root_ex n.toNat).choose : Int) else 0
theorem root_spec {n : Int} (h : 0 ≤ n) : Root n (root n) := by
  obtain ⟨a, b⟩ := (root_ex n.toNat).choose_spec
  unfold root
  rw [dif_pos h]
  refine ⟨by omega, ?_, ?_⟩
  · have := Int.ofNat_le.2 a; push_cast at this; omega
  · have := Int.ofNat_lt.2 b; push_cast at this; omega
theorem root_eq {n r : Int} (h : Root n r) : r = root n := by
  have : 0 ≤ r * r := Int.mul_nonneg h.1 h.1
  exact h.uniq (root_spec (by have := h.2.1; omega))
/-- x^3 + A x + B, the discriminant, valid curves -/
def val (a b x : Int) : Int := x * x * x + a * x + b
def disc (a b : Int) : Int := 4 * a * a * a + 27 * b * b
def inCurve (a b : Int) : Bool := ins a (-1000) 1000 && ins b (-10000) 10000
def good (a b : Int) : Bool := inCurve a b && (disc a b != 0)
theorem inCurve_bd {a b : Int} (h : inCurve a b = true) : -1000 ≤ a ∧ a ≤ 1000 ∧ -10000 ≤ b ∧ b ≤ 10000 := by
  simp only [inCurve, Bool.and_eq_true, ins_iff] at h
  omega
theorem good_in {a b : Int} (h : good a b = true) : inCurve a b = true := by
  simp only [good, Bool.and_eq_true] at h
  exact h.1
theorem good_disc {a b : Int} (h : good a b = true) : disc a b ≠ 0 := by
  simp only [good, Bool.and_eq_true, bne_iff_ne] at h
  exact h.2

/-- the numbers from lo on -/
def upto (lo : Int) (k : Nat) : List Int := (List.range k).map fun i : Nat => lo + (i : Int)
theorem upto_succ (lo : Int) (k : Nat) : upto lo (k + 1) = upto lo k ++ [lo + (k : Int)] := by
  simp [upto, List.range_succ]
theorem upto_zero (lo : Int) : upto lo 0 = [] := rfl
theorem mem_upto {lo x : Int} {k : Nat} : x ∈ upto lo k ↔ lo ≤ x ∧ x < lo + k := by
  simp only [upto, List.mem_map, List.mem_range]
  constructor
  · rintro ⟨i, h, rfl⟩
    omega
  · intro h
    exact ⟨(x - lo).toNat, by omega, by omega⟩
/-- those that pass a test -/
def sel (p : Int → Bool) (lo : Int) (k : Nat) : List Int := (upto lo k).filter p
theorem sel_zero (p : Int → Bool) (lo : Int) : sel p lo 0 = [] := rfl
theorem sel_yes {p : Int → Bool} {lo : Int} {k : Nat} (h : p (lo + k) = true) : sel p lo (k + 1) = sel p lo k ++ [lo + (k : Int)] := by
  simp [sel, upto_succ, h]
theorem sel_no {p : Int → Bool} {lo : Int} {k : Nat} (h : p (lo + k) = false) : sel p lo (k + 1) = sel p lo k := by
  simp [sel, upto_succ, h]
theorem sel_le (p : Int → Bool) (lo : Int) (k : Nat) : (sel p lo k).length ≤ k := by
  have := List.length_filter_le p (upto lo k)
  simpa [sel, upto] using this
theorem mem_sel {p : Int → Bool} {lo x : Int} {k : Nat} : x ∈ sel p lo k ↔ (lo ≤ x ∧ x < lo + k) ∧ p x = true := by
  simp [sel, mem_upto]

/-- integer roots -/
def root3 (a b x : Int) : Bool := val a b x == 0
def roots (a b : Int) : List Int := sel (root3 a b) (-100) 201
/-- powers modulo p -/
def powm (a n p : Int) : Int := a ^ n.toNat % p
theorem mod_bd {a p : Int} (hp : 1 ≤ p) : 0 ≤ a % p ∧ a % p < p := ⟨Int.emod_nonneg _ (by omega), Int.emod_lt_of_pos _ (by omega)⟩
theorem powm_bd {a n p : Int} (hp : 1 ≤ p) : 0 ≤ powm a n p ∧ powm a n p < p := mod_bd hp
theorem mulmod (a b p : Int) : a % p * (b % p) % p = a * b % p := (Int.mul_emod a b p).symm
theorem mul_mod_left (a b p : Int) : a % p * b % p = a * b % p := by rw [Int.mul_emod, Int.emod_emod, ← Int.mul_emod]
theorem pow_mod_base (a p : Int) : ∀ n : Nat, (a % p) ^ n % p = a ^ n % p
  | 0 => by simp
  | n + 1 => by rw [Int.pow_succ, Int.pow_succ, Int.mul_emod, pow_mod_base a p n, Int.emod_emod, ← Int.mul_emod]
/-- the loop's relation: out times base to the rest -/
theorem pow_step_odd {out base n p r : Int} (hn : 0 < n) (ho : n % 2 = 1) (h : out * base ^ n.toNat % p = r) :
    (out * base % p) * (base * base % p) ^ (n / 2).toNat % p = r := by
  rw [Int.mul_emod, Int.emod_emod, pow_mod_base, ← Int.mul_emod, ← h]
  have e : n.toNat = 2 * (n / 2).toNat + 1 := by omega
  rw [e, Int.pow_succ, Int.pow_mul]
  congr 1
  rw [show base ^ 2 = base * base from by rw [Int.pow_succ, Int.pow_succ, Int.pow_zero, Int.one_mul]]
  rw [Int.mul_assoc, Int.mul_comm base]
theorem pow_step_even {out base n p r : Int} (hn : 0 < n) (ho : ¬ n % 2 = 1) (h : out * base ^ n.toNat % p = r) :
    out * (base * base % p) ^ (n / 2).toNat % p = r := by
  rw [Int.mul_emod, pow_mod_base, ← Int.mul_emod, ← h]
  have e : n.toNat = 2 * (n / 2).toNat := by omega
  rw [e, Int.pow_mul]
  rw [show base ^ 2 = base * base from by rw [Int.pow_succ, Int.pow_succ, Int.pow_zero, Int.one_mul]]
theorem tmod_bd {a m : Int} (hm : 1 ≤ m) : -m < a.tmod m ∧ a.tmod m < m := by
  have h := Int.natAbs_tmod a m
  have : (a.tmod m).natAbs < m.natAbs := by rw [h]; exact Nat.mod_lt _ (by omega)
  omega
theorem tmod_fix {a m : Int} : (a.tmod m + m) % m = a % m := by
  rw [Int.add_emod_right]
  have := Int.tmod_add_mul_tdiv a m
  rw [show a.tmod m = a - m * (a.tdiv m) from by omega, Int.sub_mul_emod_self_left]
theorem tmod_emod {a m : Int} : a.tmod m % m = a % m := by
  have := Int.tmod_add_mul_tdiv a m
  rw [show a.tmod m = a - m * (a.tdiv m) from by omega, Int.sub_mul_emod_self_left]
/-- 0, 1 or -1 -/
def symb (a p : Int) : Int := if powm a ((p - 1) / 2) p = 0 then 0 else if powm a ((p - 1) / 2) p = 1 then 1 else -1
theorem symb_bd (a p : Int) : -1 ≤ symb a p ∧ symb a p ≤ 1 := by
  unfold symb
  split
  · omega
  · split <;> omega
theorem symb0 {a p : Int} (h : powm a ((p - 1) / 2) p = 0) : symb a p = 0 := by simp [symb, h]
theorem symb1 {a p : Int} (h : powm a ((p - 1) / 2) p = 1) : symb a p = 1 := by simp [symb, h]
theorem symbm {a p : Int} (h : ¬ powm a ((p - 1) / 2) p = 0) (k : ¬ powm a ((p - 1) / 2) p = 1) : symb a p = -1 := by simp [symb, h, k]
/-- sums -/
def sumTo (f : Int → Int) : Nat → Int
  | 0 => 0
  | k + 1 => sumTo f k + f (k : Int)
theorem sumTo_bd {f : Int → Int} (h : ∀ x, -1 ≤ f x ∧ f x ≤ 1) : ∀ k : Nat, -(k : Int) ≤ sumTo f k ∧ sumTo f k ≤ k
  | 0 => by simp [sumTo]
  | k + 1 => by
    have := sumTo_bd h k
    have := h k
    simp only [sumTo]
    omega
def rhs (a b p x : Int) : Int := val a b x % p
def chi (a b p x : Int) : Int := symb (rhs a b p x) p
def count (a b p : Int) : Int := p + 1 + sumTo (chi a b p) p.toNat
theorem count_bd (a b : Int) {p : Int} (hp : 0 ≤ p) : 1 ≤ count a b p ∧ count a b p ≤ 2 * p + 1 := by
  have := sumTo_bd (f := chi a b p) (fun x => symb_bd _ _) p.toNat
  unfold count
  omega
def trace (a b p : Int) : Int := p + 1 - count a b p
theorem trace_bd (a b : Int) {p : Int} (hp : 0 ≤ p) : -p ≤ trace a b p ∧ trace a b p ≤ p := by
  have := count_bd a b hp
  unfold trace
  omega
theorem rhs_bd (a b x : Int) {p : Int} (hp : 1 ≤ p) : 0 ≤ rhs a b p x ∧ rhs a b p x < p := mod_bd hp
theorem rhs_alt (a b p x : Int) : (x * x % p * x + a * x + b) % p = rhs a b p x := by
  unfold rhs val
  rw [Int.add_assoc, Int.add_assoc, Int.add_emod, mul_mod_left, ← Int.add_emod]
/-- traces over larger fields: the one before, and this -/
def tpw (t p : Int) : Nat → Int × Int
  | 0 => (2, t)
  | k + 1 => ((tpw t p k).2, t * (tpw t p k).2 - p * (tpw t p k).1)
theorem tpw_bd {t p : Int} (h1 : -1000 ≤ t) (h2 : t ≤ 1000) (h3 : 0 ≤ p) (h4 : p ≤ 1000) : ∀ k : Nat,
    (-(1000 * 2000 ^ k) ≤ (tpw t p k).1 ∧ (tpw t p k).1 ≤ 1000 * 2000 ^ k) ∧ (-(1000 * 2000 ^ k) ≤ (tpw t p k).2 ∧ (tpw t p k).2 ≤ 1000 * 2000 ^ k)
  | 0 => by simp only [tpw, Int.pow_zero]; omega
  | k + 1 => by
    obtain ⟨⟨a, b⟩, c, d⟩ := tpw_bd h1 h2 h3 h4 k
    have e1 := mul_bd (x := t) (y := (tpw t p k).2) h1 h2 c d
    have e2 := mul_bd (x := p) (y := (tpw t p k).1) (m := 1000) (by omega) h4 a b
    simp only [tpw, Int.pow_succ]
    have : (0 : Int) < 2000 ^ k := Int.pow_pos (by decide)
    generalize (2000 : Int) ^ k = q at *
    omega
theorem tpw_bd4 {t p : Int} (h1 : -1000 ≤ t) (h2 : t ≤ 1000) (h3 : 0 ≤ p) (h4 : p ≤ 1000) {k : Nat} (hk : k ≤ 3) :
    -8000000000000 ≤ (tpw t p k).1 ∧ (tpw t p k).1 ≤ 8000000000000 ∧ -8000000000000 ≤ (tpw t p k).2 ∧ (tpw t p k).2 ≤ 8000000000000 := by
  obtain ⟨⟨a, b⟩, c, d⟩ := tpw_bd h1 h2 h3 h4 k
  have e : (2000 : Int) ^ k ≤ 8000000000 := by
    rcases (show k = 0 ∨ k = 1 ∨ k = 2 ∨ k = 3 by omega) with rfl | rfl | rfl | rfl <;> decide
  omega
/-- good primes, of a curve in range -/
noncomputable def goodp (a b p : Int) : Bool := ins p 5 997 && prime p && decide (¬ disc a b % p = 0)
theorem goodp_bd {a b p : Int} (h : goodp a b p = true) : 5 ≤ p ∧ p ≤ 997 ∧ prime p = true := by
  simp only [goodp, Bool.and_eq_true, ins_iff] at h
  exact ⟨h.1.1.1, h.1.1.2, h.1.2⟩
/-- greatest common divisors -/
def gcd (a b : Int) : Int := Int.gcd a b
theorem gcd_step (a b : Int) : Int.gcd b (a.tmod b) = Int.gcd a b := by
  rw [Int.gcd_comm a b]
  simp only [Int.gcd, Int.natAbs_tmod]
  exact (Nat.gcd_rec b.natAbs a.natAbs ▸ Nat.gcd_comm _ _)
end M
end Go.Proofs.YtodgfechhielaaaGreatDoor
