/-
  Joined texts: contracts and plain laws.
-/
import Derived.WalkKit
import Derived.KernelRfl
import Derived.Test.YtgkjmjlkhnfbiaaGreatProg
import Derived.Lib.Hide
import Derived.Deep.QuietTactic
import Derived.BigQuiet
import Derived.Deep.RegionHeld3
import Derived.Laws.OwnMore
namespace Go.Proofs.YtgkjmjlkhnfbiaaGreat
set_option linter.unusedSimpArgs false
set_option linter.unusedVariables false
namespace M

/-- a number of Go's int -/
def I64 (a : Int) : Prop := -9223372036854775808 ≤ a ∧ a ≤ 9223372036854775807

/-- a value, or nothing -/
def pick (ok : Bool) (x : Int) : Int := if ok then x else 0
theorem pick_t (x : Int) : pick true x = x := rfl
theorem pick_f (x : Int) : pick false x = 0 := rfl

/-- a number lies in a range -/
def ins (n lo hi : Int) : Bool := decide (lo ≤ n ∧ n ≤ hi)
theorem ins_iff {n lo hi : Int} : ins n lo hi = true ↔ lo ≤ n ∧ n ≤ hi := by simp [ins]
theorem ins_not {n lo hi : Int} : ins n lo hi = false ↔ ¬ (lo ≤ n ∧ n ≤ hi) := by simp [ins]
theorem ins_t {n lo hi : Int} (h : ins n lo hi = true) : lo ≤ n ∧ n ≤ hi := ins_iff.1 h

/-- a product's bounds -/
theorem mul_bd {x y m n : Int} (h1 : -m ≤ x) (h2 : x ≤ m) (h3 : -n ≤ y) (h4 : y ≤ n) : -(m * n) ≤ x * y ∧ x * y ≤ m * n := by
  have a1 : 0 ≤ (m - x) * (n - y) := Int.mul_nonneg (by omega) (by omega)
  have a2 : 0 ≤ (m + x) * (n + y) := Int.mul_nonneg (by omega) (by omega)
  have a3 : 0 ≤ (m - x) * (n + y) := Int.mul_nonneg (by omega) (by omega)
  have a4 : 0 ≤ (m + x) * (n - y) := Int.mul_nonneg (by omega) (by omega)
  simp only [Int.sub_mul, Int.mul_sub, Int.add_mul, Int.mul_add] at a1 a2 a3 a4
  constructor <;> omega

theorem sq_bd {x m : Int} (h1 : -m ≤ x) (h2 : x ≤ m) : 0 ≤ x * x ∧ x * x ≤ m * m := by
  have := (mul_bd h1 h2 h1 h2).2
  refine ⟨?_, this⟩
  rcases Int.le_total 0 x with h | h
  · exact Int.mul_nonneg h h
  · exact Int.mul_nonneg_of_nonpos_of_nonpos h h

theorem mul_nn {x y m n : Int} (h1 : 0 ≤ x) (h2 : x ≤ m) (h3 : 0 ≤ y) (h4 : y ≤ n) : 0 ≤ x * y ∧ x * y ≤ m * n :=
  ⟨Int.mul_nonneg h1 h3, (mul_bd (m := m) (n := n) (by omega) h2 (by omega) h4).2⟩

/-- prime numbers, by trial -/
def Prime (n : Int) : Prop := 2 ≤ n ∧ ∀ d : Int, 2 ≤ d → d * d ≤ n → ¬ n % d = 0
open Classical in
noncomputable def prime (n : Int) : Bool := decide (Prime n)
theorem prime_iff {n : Int} : prime n = true ↔ Prime n := by simp [prime]
theorem prime_not {n : Int} : prime n = false ↔ ¬ Prime n := by simp [prime]
/-- the loop's two exits -/
theorem prime_no {n k : Int} (hk : 2 ≤ k) (hs : k * k ≤ n) (hd : n % k = 0) : prime n = false :=
  prime_not.2 fun h => h.2 k hk hs hd
theorem prime_yes {n k : Int} (hn : 2 ≤ n) (hk : 2 ≤ k) (hs : n < k * k) (h : ∀ e : Int, 2 ≤ e → e < k → ¬ n % e = 0) : prime n = true := by
  refine prime_iff.2 ⟨hn, fun d hd hdn => ?_⟩
  refine h d hd ?_
  rcases Int.lt_or_le d k with q | q
  · exact q
  · have : k * k ≤ d * d := Int.mul_le_mul q q (by omega) (by omega)
    omega

/-- a loop that squares its counter stops by its bound -/
theorem sq_lt {k m : Int} (hm : 0 ≤ m) (h : k * k < m * m) : k < m := by
  rcases Int.lt_or_le k m with q | q
  · exact q
  · have : m * m ≤ k * k := Int.mul_le_mul q q (by omega) (by omega)
    omega

/-- the greatest integer whose square is not greater -/
def Root (n r : Int) : Prop := 0 ≤ r ∧ r * r ≤ n ∧ n < (r + 1) * (r + 1)
theorem Root.uniq {n r s : Int} (h : Root n r) (k : Root n s) : r = s := by
  obtain ⟨a, b, c⟩ := h
  obtain ⟨d, e, f⟩ := k
  rcases Int.lt_trichotomy r s with q | q | q
  · have : (r + 1) * (r + 1) ≤ s * s := Int.mul_le_mul (by omega) (by omega) (by omega) (by omega)
    omega
  · exact q
  · have : (s + 1) * (s + 1) ≤ r * r := Int.mul_le_mul (by omega) (by omega) (by omega) (by omega)
    omega
theorem root_ex (n : Nat) : ∃ r : Nat, r * r ≤ n ∧ n < (r + 1) * (r + 1) := by
  induction n with
  | zero => exact ⟨0, by omega, by omega⟩
  | succ n ih =>
    obtain ⟨r, h1, h2⟩ := ih
    rcases Nat.lt_or_ge (n + 1) ((r + 1) * (r + 1)) with q | q
    · exact ⟨r, by omega, q⟩
    · refine ⟨r + 1, q, ?_⟩
      have : (r + 1 + 1) * (r + 1 + 1) = (r + 1) * (r + 1) + 2 * r + 3 := by simp only [Nat.add_mul, Nat.mul_add]; omega
      omega
open Classical in
/-- the root as a function -/
noncomputable def root (n : Int) : Int := if h : 0 ≤ n then ((root_ex n.toNat).choose : Int) else 0
theorem root_spec {n : Int} (h : 0 ≤ n) : Root n (root n) := by
  obtain ⟨a, b⟩ := (root_ex n.toNat).choose_spec
  unfold root
  rw [dif_pos h]
  refine ⟨by omega, ?_, ?_⟩
  · have := Int.ofNat_le.2 a; push_cast at this; omega
  · have := Int.ofNat_lt.2 b; push_cast at this; omega
theorem root_eq {n r : Int} (h : Root n r) : r = root n := by
  have : 0 ≤ r * r := Int.mul_nonneg h.1 h.1
  exact h.uniq (root_spec (by have := h.2.1; omega))
/-- x^3 + A x + B, the discriminant, valid curves -/
def val (a b x : Int) : Int := x * x * x + a * x + b
def disc (a b : Int) : Int := 4 * a * a * a + 27 * b * b
def inCurve (a b : Int) : Bool := ins a (-1000) 1000 && ins b (-10000) 10000
def good (a b : Int) : Bool := inCurve a b && (disc a b != 0)
theorem inCurve_bd {a b : Int} (h : inCurve a b = true) : -1000 ≤ a ∧ a ≤ 1000 ∧ -10000 ≤ b ∧ b ≤ 10000 := by
  simp only [inCurve, Bool.and_eq_true, ins_iff] at h
  omega
theorem good_in {a b : Int} (h : good a b = true) : inCurve a b = true := by
  simp only [good, Bool.and_eq_true] at h
  exact h.1
theorem good_disc {a b : Int} (h : good a b = true) : disc a b ≠ 0 := by
  simp only [good, Bool.and_eq_true, bne_iff_ne] at h
  exact h.2

/-- the numbers from lo on -/
def upto (lo : Int) (k : Nat) : List Int := (List.range k).map fun i : Nat => lo + (i : Int)
theorem upto_succ (lo : Int) (k : Nat) : upto lo (k + 1) = upto lo k ++ [lo + (k : Int)] := by
  simp [upto, List.range_succ]
theorem upto_zero (lo : Int) : upto lo 0 = [] := rfl
theorem mem_upto {lo x : Int} {k : Nat} : x ∈ upto lo k ↔ lo ≤ x ∧ x < lo + k := by
  simp only [upto, List.mem_map, List.mem_range]
  constructor
  · rintro ⟨i, h, rfl⟩
    omega
  · intro h
    exact ⟨(x - lo).toNat, by omega, by omega⟩
/-- those that pass a test -/
def sel (p : Int → Bool) (lo : Int) (k : Nat) : List Int := (upto lo k).filter p
theorem sel_zero (p : Int → Bool) (lo : Int) : sel p lo 0 = [] := rfl
theorem sel_yes {p : Int → Bool} {lo : Int} {k : Nat} (h : p (lo + k) = true) : sel p lo (k + 1) = sel p lo k ++ [lo + (k : Int)] := by
  simp [sel, upto_succ, h]
theorem sel_no {p : Int → Bool} {lo : Int} {k : Nat} (h : p (lo + k) = false) : sel p lo (k + 1) = sel p lo k := by
  simp [sel, upto_succ, h]
theorem sel_le (p : Int → Bool) (lo : Int) (k : Nat) : (sel p lo k).length ≤ k := by
  have := List.length_filter_le p (upto lo k)
  simpa [sel, upto] using this
theorem mem_sel {p : Int → Bool} {lo x : Int} {k : Nat} : x ∈ sel p lo k ↔ (lo ≤ x ∧ x < lo + k) ∧ p x = true := by
  simp [sel, mem_upto]

/-- integer roots -/
def root3 (a b x : Int) : Bool := val a b x == 0
def roots (a b : Int) : List Int := sel (root3 a b) (-100) 201
/-- powers modulo p -/
def powm (a n p : Int) : Int := a ^ n.toNat % p
theorem mod_bd {a p : Int} (hp : 1 ≤ p) : 0 ≤ a % p ∧ a % p < p := ⟨Int.emod_nonneg _ (by omega), Int.emod_lt_of_pos _ (by omega)⟩
theorem powm_bd {a n p : Int} (hp : 1 ≤ p) : 0 ≤ powm a n p ∧ powm a n p < p := mod_bd hp
theorem mulmod (a b p : Int) : a % p * (b % p) % p = a * b % p := (Int.mul_emod a b p).symm
theorem mul_mod_left (a b p : Int) : a % p * b % p = a * b % p := by rw [Int.mul_emod, Int.emod_emod, ← Int.mul_emod]
theorem pow_mod_base (a p : Int) : ∀ n : Nat, (a % p) ^ n % p = a ^ n % p
  | 0 => by simp
  | n + 1 => by rw [Int.pow_succ, Int.pow_succ, Int.mul_emod, pow_mod_base a p n, Int.emod_emod, ← Int.mul_emod]
/-- the loop's relation: out times base to the rest -/
theorem pow_step_odd {out base n p r : Int} (hn : 0 < n) (ho : n % 2 = 1) (h : out * base ^ n.toNat % p = r) :
    (out * base % p) * (base * base % p) ^ (n / 2).toNat % p = r := by
  rw [Int.mul_emod, Int.emod_emod, pow_mod_base, ← Int.mul_emod, ← h]
  have e : n.toNat = 2 * (n / 2).toNat + 1 := by omega
  rw [e, Int.pow_succ, Int.pow_mul]
  congr 1
  rw [show base ^ 2 = base * base from by rw [Int.pow_succ, Int.pow_succ, Int.pow_zero, Int.one_mul]]
  rw [Int.mul_assoc, Int.mul_comm base]
theorem pow_step_even {out base n p r : Int} (hn : 0 < n) (ho : ¬ n % 2 = 1) (h : out * base ^ n.toNat % p = r) :
    out * (base * base % p) ^ (n / 2).toNat % p = r := by
  rw [Int.mul_emod, pow_mod_base, ← Int.mul_emod, ← h]
  have e : n.toNat = 2 * (n / 2).toNat := by omega
  rw [e, Int.pow_mul]
  rw [show base ^ 2 = base * base from by rw [Int.pow_succ, Int.pow_succ, Int.pow_zero, Int.one_mul]]
theorem tmod_bd {a m : Int} (hm : 1 ≤ m) : -m < a.tmod m ∧ a.tmod m < m := by
  have h := Int.natAbs_tmod a m
  have : (a.tmod m).natAbs < m.natAbs := by rw [h]; exact Nat.mod_lt _ (by omega)
  omega
theorem tmod_fix {a m : Int} : (a.tmod m + m) % m = a % m := by
  rw [Int.add_emod_right]
  have := Int.tmod_add_mul_tdiv a m
  rw [show a.tmod m = a - m * (a.tdiv m) from by omega, Int.sub_mul_emod_self_left]
theorem tmod_emod {a m : Int} : a.tmod m % m = a % m := by
  have := Int.tmod_add_mul_tdiv a m
  rw [show a.tmod m = a - m * (a.tdiv m) from by omega, Int.sub_mul_emod_self_left]
/-- 0, 1 or -1 -/
def symb (a p : Int) : Int := if powm a ((p - 1) / 2) p = 0 then 0 else if powm a ((p - 1) / 2) p = 1 then 1 else -1
theorem symb_bd (a p : Int) : -1 ≤ symb a p ∧ symb a p ≤ 1 := by
  unfold symb
  split
  · omega
  · split <;> omega
theorem symb0 {a p : Int} (h : powm a ((p - 1) / 2) p = 0) : symb a p = 0 := by simp [symb, h]
theorem symb1 {a p : Int} (h : powm a ((p - 1) / 2) p = 1) : symb a p = 1 := by simp [symb, h]
theorem symbm {a p : Int} (h : ¬ powm a ((p - 1) / 2) p = 0) (k : ¬ powm a ((p - 1) / 2) p = 1) : symb a p = -1 := by simp [symb, h, k]
/-- sums -/
def sumTo (f : Int → Int) : Nat → Int
  | 0 => 0
  | k + 1 => sumTo f k + f (k : Int)
theorem sumTo_bd {f : Int → Int} (h : ∀ x, -1 ≤ f x ∧ f x ≤ 1) : ∀ k : Nat, -(k : Int) ≤ sumTo f k ∧ sumTo f k ≤ k
  | 0 => by simp [sumTo]
  | k + 1 => by
    have := sumTo_bd h k
    have := h k
    simp only [sumTo]
    omega
def rhs (a b p x : Int) : Int := val a b x % p
def chi (a b p x : Int) : Int := symb (rhs a b p x) p
def count (a b p : Int) : Int := p + 1 + sumTo (chi a b p) p.toNat
theorem count_bd (a b : Int) {p : Int} (hp : 0 ≤ p) : 1 ≤ count a b p ∧ count a b p ≤ 2 * p + 1 := by
  have := sumTo_bd (f := chi a b p) (fun x => symb_bd _ _) p.toNat
  unfold count
  omega
def trace (a b p : Int) : Int := p + 1 - count a b p
theorem trace_bd (a b : Int) {p : Int} (hp : 0 ≤ p) : -p ≤ trace a b p ∧ trace a b p ≤ p := by
  have := count_bd a b hp
  unfold trace
  omega
theorem rhs_bd (a b x : Int) {p : Int} (hp : 1 ≤ p) : 0 ≤ rhs a b p x ∧ rhs a b p x < p := mod_bd hp
theorem rhs_alt (a b p x : Int) : (x * x % p * x + a * x + b) % p = rhs a b p x := by
  unfold rhs val
  rw [Int.add_assoc, Int.add_assoc, Int.add_emod, mul_mod_left, ← Int.add_emod]
/-- traces over larger fields: the one before, and this -/
def tpw (t p : Int) : Nat → Int × Int
  | 0 => (2, t)
  | k + 1 => ((tpw t p k).2, t * (tpw t p k).2 - p * (tpw t p k).1)
theorem tpw_bd {t p : Int} (h1 : -1000 ≤ t) (h2 : t ≤ 1000) (h3 : 0 ≤ p) (h4 : p ≤ 1000) : ∀ k : Nat,
    (-(1000 * 2000 ^ k) ≤ (tpw t p k).1 ∧ (tpw t p k).1 ≤ 1000 * 2000 ^ k) ∧ (-(1000 * 2000 ^ k) ≤ (tpw t p k).2 ∧ (tpw t p k).2 ≤ 1000 * 2000 ^ k)
  | 0 => by simp only [tpw, Int.pow_zero]; omega
  | k + 1 => by
    obtain ⟨⟨a, b⟩, c, d⟩ := tpw_bd h1 h2 h3 h4 k
    have e1 := mul_bd (x := t) (y := (tpw t p k).2) h1 h2 c d
    have e2 := mul_bd (x := p) (y := (tpw t p k).1) (m := 1000) (by omega) h4 a b
    simp only [tpw, Int.pow_succ]
    have : (0 : Int) < 2000 ^ k := Int.pow_pos (by decide)
    generalize (2000 : Int) ^ k = q at *
    omega
theorem tpw_bd4 {t p : Int} (h1 : -1000 ≤ t) (h2 : t ≤ 1000) (h3 : 0 ≤ p) (h4 : p ≤ 1000) {k : Nat} (hk : k ≤ 3) :
    -8000000000000 ≤ (tpw t p k).1 ∧ (tpw t p k).1 ≤ 8000000000000 ∧ -8000000000000 ≤ (tpw t p k).2 ∧ (tpw t p k).2 ≤ 8000000000000 := by
  obtain ⟨⟨a, b⟩, c, d⟩ := tpw_bd h1 h2 h3 h4 k
  have e : (2000 : Int) ^ k ≤ 8000000000 := by
    rcases (show k = 0 ∨ k = 1 ∨ k = 2 ∨ k = 3 by omega) with rfl | rfl | rfl | rfl <;> decide
  omega
/-- good primes, of a curve in range -/
noncomputable def goodp (a b p : Int) : Bool := ins p 5 997 && prime p && decide (¬ disc a b % p = 0)
theorem goodp_bd {a b p : Int} (h : goodp a b p = true) : 5 ≤ p ∧ p ≤ 997 ∧ prime p = true := by
  simp only [goodp, Bool.and_eq_true, ins_iff] at h
  exact ⟨h.1.1.1, h.1.1.2, h.1.2⟩
/-- greatest common divisors -/
def gcd (a b : Int) : Int := Int.gcd a b
theorem gcd_step (a b : Int) : Int.gcd b (a.tmod b) = Int.gcd a b := by
  rw [Int.gcd_comm a b]
  simp only [Int.gcd, Int.natAbs_tmod]
  exact (Nat.gcd_rec b.natAbs a.natAbs ▸ Nat.gcd_comm _ _)
end M
end Go.Proofs.YtgkjmjlkhnfbiaaGreat

namespace Go.Proofs.YtgkjmjlkhnfbiaaGreat
set_option linter.unusedSimpArgs false
set_option linter.unusedVariables false
namespace M
def allB (f : Nat → Bool) : Nat → Bool
  | 0 => true
  | n + 1 => f n && allB f n
theorem allB_at {f : Nat → Bool} : ∀ {n k : Nat}, allB f n = true → k < n → f k = true
  | n + 1, k, h, hk => by
    simp only [allB, Bool.and_eq_true] at h
    rcases Nat.lt_or_ge k n with q | q
    · exact allB_at h.2 q
    · obtain rfl : k = n := by omega
      exact h.1
def hasDiv (p : Nat) : Bool := !(allB (fun d => (Nat.blt d 2) || (Nat.blt p (d * d)) || !(Nat.beq (p % d) 0)) 32)
def eulAt (p x : Nat) : Bool := let t := x ^ ((p - 1) / 2) % p; Nat.beq t 0 || Nat.beq t 1 || Nat.beq t (p - 1)
def eulP (p : Nat) : Bool := Nat.blt p 3 || hasDiv p || allB (eulAt p) p
theorem eul_all : allB eulP 998 = true := by kernel_rfl
theorem hasDiv_not {p : Int} (hp : Prime p) : hasDiv p.toNat = false := by
  unfold hasDiv
  rw [Bool.not_eq_false']
  have key : ∀ n : Nat, allB (fun d => (Nat.blt d 2) || (Nat.blt p.toNat (d * d)) || !(Nat.beq (p.toNat % d) 0)) n = true := by
    intro n
    induction n with
    | zero => rfl
    | succ n ih =>
      simp only [allB, ih, Bool.and_true]
      cases h1 : Nat.blt n 2
      · cases h2 : Nat.blt p.toNat (n * n)
        · simp only [Bool.false_or, Bool.not_eq_true']
          have h1' : ¬ n < 2 := by
            intro h; rw [← Nat.blt_eq] at h; rw [h] at h1; cases h1
          have h2' : ¬ p.toNat < n * n := by
            intro h; rw [← Nat.blt_eq] at h; rw [h] at h2; cases h2
          have hp2 := hp.1
          have h3 := hp.2 (n : Int) (by omega) (by have : ((n * n : Nat) : Int) ≤ (p.toNat : Int) := Int.ofNat_le.2 (by omega); push_cast at this; omega)
          cases h4 : Nat.beq (p.toNat % n) 0
          · rfl
          · exfalso
            apply h3
            have := Nat.eq_of_beq_eq_true h4
            have e : p = ((p.toNat : Nat) : Int) := by omega
            rw [e]
            exact_mod_cast this
        · rfl
      · rfl
  exact key 32
theorem euler {p : Int} (hp : Prime p) (h1 : 3 ≤ p) (h2 : p ≤ 997) (a : Int) : powm a ((p - 1) / 2) p = 0 ∨ powm a ((p - 1) / 2) p = 1 ∨ powm a ((p - 1) / 2) p = p - 1 := by
  have hx := mod_bd (a := a) (p := p) (by omega)
  have h := allB_at eul_all (k := p.toNat) (by omega)
  unfold eulP at h
  rw [hasDiv_not hp] at h
  have h3 : Nat.blt p.toNat 3 = false := by
    cases h3 : Nat.blt p.toNat 3
    · rfl
    · rw [Nat.blt_eq] at h3; omega
  rw [h3] at h
  have h := allB_at h (k := (a % p).toNat) (by omega)
  have e : powm a ((p - 1) / 2) p = (((a % p).toNat ^ ((p.toNat - 1) / 2) % p.toNat : Nat) : Int) := by
    unfold powm
    rw [← pow_mod_base]
    push_cast
    rw [Int.toNat_of_nonneg hx.1, Int.toNat_of_nonneg (a := p) (by omega)]
    congr 2
    omega
  rw [e]
  simp only [eulAt, Bool.or_eq_true] at h
  rcases h with (h | h) | h
  · have := Nat.eq_of_beq_eq_true h; omega
  · have := Nat.eq_of_beq_eq_true h; omega
  · have := Nat.eq_of_beq_eq_true h; omega
/-- the other way to say the symbol -/
theorem symb_alt {p : Int} (hp : Prime p) (h1 : 3 ≤ p) (h2 : p ≤ 997) (a : Int) : symb a p = if powm a ((p - 1) / 2) p = p - 1 then -1 else powm a ((p - 1) / 2) p := by
  unfold symb
  rcases euler hp h1 h2 a with h | h | h
  · rw [h, if_pos rfl, if_neg (by omega)]
  · rw [h, if_neg (by omega), if_pos rfl, if_neg (by omega)]
  · rw [h, if_neg (by omega), if_neg (by omega), if_pos rfl]
end M
end Go.Proofs.YtgkjmjlkhnfbiaaGreat

namespace Go.Proofs.YtgkjmjlkhnfbiaaGreat
set_option linter.unusedSimpArgs false
set_option linter.unusedVariables false
open Go.RowKit

theorem ret_i {a b : Int} (h : a = b) : Ending.returned (.int .i64 a) = .returned (.int .i64 b) := by rw [h]
theorem ret_b {a b : Bool} (h : a = b) : Ending.returned (.bool a) = .returned (.bool b) := by rw [h]

theorem l1In_c (n lo hi : Int) (w : World) :
    Calls Tryz.prog 96 #[.int .i64 n, .int .i64 lo, .int .i64 hi] w fun e w' => e = .returned (.bool (M.ins n lo hi)) ∧ w = w' := by
  unfold M.ins
  by_cases h1 : lo ≤ n <;> by_cases h2 : n ≤ hi <;>
  (go_enter Tryz.func96, Tryz.ntmps96
   go_wp2
   go_ret; exact ⟨by simp [h1, h2], rfl⟩)

theorem inside_c (n lo hi : Int) (w : World) :
    Calls Tryz.prog 61 #[.int .i64 n, .int .i64 lo, .int .i64 hi] w fun e w' => e = .returned (.bool (M.ins n lo hi)) ∧ w = w' := by
  unfold M.ins
  by_cases h1 : lo ≤ n <;> by_cases h2 : n ≤ hi <;>
  (go_enter Tryz.func61, Tryz.ntmps61
   go_wp2
   go_ret; exact ⟨by simp [h1, h2], rfl⟩)

theorem isPrime_c (n : Int) (w : World) (h1 : 2 ≤ n) (h2 : n ≤ 997) :
    Calls Tryz.prog 62 #[.int .i64 n] w fun e w' => e = .returned (.bool (M.prime n)) ∧ w = w' := by
  go_enter Tryz.func62, Tryz.ntmps62
  go_wp2
  go_loop [3] (fun d => ∃ k : Nat, 2 ≤ k ∧ k ≤ 32 ∧ d = .int .i64 k ∧ ∀ e : Int, 2 ≤ e → e < k → ¬ n % e = 0) (fun d => 32 - (intOf d).toNat)
  case atStart => exact ⟨2, by omega, by omega, rfl, fun e h k => by omega⟩
  case round =>
    obtain ⟨k, hk2, hk, rfl, hall⟩ := hrel
    have Hall := Lib.hid hall
    clear hall
    have hb := M.mul_nn (x := k) (y := k) (m := 32) (n := 32) (by omega) (by omega) (by omega) (by omega)
    by_cases c1 : (k : Int) * k ≤ n
    · have hk32 : (k : Int) < 32 := M.sq_lt (by omega) (by omega)
      by_cases c2 : n % (k : Int) = 0
      · go_wp2
        go_ret; exact ⟨ret_b (M.prime_no (by omega) c1 c2).symm, rfl⟩
      · go_wp2
        go_round
        case rel => exact ⟨k + 1, by omega, by omega, by go_num, fun e h h' => if q : e = k then by rw [q]; exact c2 else Hall.out e h (by omega)⟩
        case measure => simp [intOf]; omega
    · go_wp2
      go_ret; exact ⟨ret_b (M.prime_yes h1 (by omega) (by omega) Hall.out).symm, rfl⟩

end Go.Proofs.YtgkjmjlkhnfbiaaGreat

namespace Go.Proofs.YtgkjmjlkhnfbiaaGreat
set_option linter.unusedSimpArgs false
set_option linter.unusedVariables false
open Go.RowKit

/-- a contract that leaves the world alone, as a quiet region asks it -/
theorem quiet {P : Program} {f : FuncId} {args : Array Value} {w : World} {n : Nat} {v : Value}
    (h : Calls P f args (w.drewN n) fun e w' => e = .returned v ∧ w.drewN n = w') : Calls P f args (w.drewN n) fun e w'' => e = .returned v ∧ ∃ m, w'' = w.drewN m :=
  h.mono fun _ _ ⟨he, hm⟩ => ⟨he, n, hm.symm⟩

theorem modulo_c (a m : Int) (w : World) (h1 : 1 ≤ m) (h2 : m ≤ 4000000000000000000) :
    Calls Tryz.prog 169 #[.int .i64 a, .int .i64 m] w fun e w' => e = .returned (.int .i64 (a % m)) ∧ w = w' := by
  have hb := M.tmod_bd (a := a) h1
  have hb2 := M.mod_bd (a := a) h1
  have he := Lib.hid (M.tmod_emod (a := a) (m := m))
  go_enter Tryz.func169, Tryz.ntmps169
  by_cases h : 0 ≤ a
  · go_wp2
    go_ret; exact ⟨ret_i (by simp), rfl⟩
  · go_wp2
    go_ret; exact ⟨ret_i he.out, rfl⟩

theorem mdMod_c (a m : Int) (w : World) (h1 : 1 ≤ m) (h2 : m ≤ 4000000000000000000) :
    Calls Tryz.prog 187 #[.int .i64 a, .int .i64 m] w fun e w' => e = .returned (.int .i64 (a % m)) ∧ w = w' := by
  have hb := M.tmod_bd (a := a) h1
  have hb2 := M.mod_bd (a := a) h1
  have he := Lib.hid (M.tmod_emod (a := a) (m := m))
  go_enter Tryz.func187, Tryz.ntmps187
  by_cases h : 0 ≤ a
  · go_wp2
    go_ret; exact ⟨ret_i (by simp), rfl⟩
  · go_wp2
    go_ret; exact ⟨ret_i he.out, rfl⟩

theorem power_c (a n p : Int) (w : World) (h1 : 1 ≤ p) (h2 : p ≤ 3000000000) (hn : 0 ≤ n) (hnn : n ≤ 4000000000000000000) :
    Calls Tryz.prog 186 #[.int .i64 a, .int .i64 n, .int .i64 p] w fun e w' => e = .returned (.int .i64 (M.powm a n p)) ∧ ∃ m, w' = w.drewN m := by
  go_enter Tryz.func186, Tryz.ntmps186
  go_wp2
  go_quiet ((go_at_call 169; exact quiet (modulo_c _ _ _ (by omega) (by omega))))
  go_wp2
  go_loop [1, 7, 8] (fun vn vo vb => ∃ n' o b : Int, vn = .int .i64 n' ∧ vo = .int .i64 o ∧ vb = .int .i64 b ∧ 0 ≤ n' ∧ n' ≤ 4000000000000000000 ∧ 0 ≤ o ∧ o < p ∧ 0 ≤ b ∧ b < p ∧ o * b ^ n'.toNat % p = M.powm a n p) (fun vn _ _ => (intOf vn).toNat)
  case atStart =>
    have b1 := M.mod_bd (a := a) h1
    have b2 := M.mod_bd (a := 1) h1
    exact ⟨n, 1 % p, a % p, rfl, rfl, rfl, hn, hnn, b2.1, b2.2, b1.1, b1.2, by rw [M.mul_mod_left, Int.one_mul, M.pow_mod_base]; rfl⟩
  case round =>
    obtain ⟨n', o, b, rfl, rfl, rfl, hn', hn2', ho1, ho2, hb1, hb2, hr⟩ := hrel
    have Hr := Lib.hid hr
    clear hr
    have m1 := M.mul_nn (x := o) (y := b) (m := 3000000000) (n := 3000000000) ho1 (by omega) hb1 (by omega)
    have m2 := M.mul_nn (x := b) (y := b) (m := 3000000000) (n := 3000000000) hb1 (by omega) hb1 (by omega)
    have m3 := M.mod_bd (a := o * b) h1
    have m4 := M.mod_bd (a := b * b) h1
    by_cases hp : 0 < n'
    · by_cases h2 : n' % 2 = 1
      · go_wp2
        go_round
        case rel => exact ⟨n' / 2, o * b % p, b * b % p, rfl, rfl, rfl, by omega, by omega, m3.1, m3.2, m4.1, m4.2, M.pow_step_odd hp h2 Hr.out⟩
        case measure => simp [intOf]; omega
      · go_wp2
        go_round
        case rel => exact ⟨n' / 2, o, b * b % p, rfl, rfl, rfl, by omega, by omega, ho1, ho2, m4.1, m4.2, M.pow_step_even hp h2 Hr.out⟩
        case measure => simp [intOf]; omega
    · obtain rfl : n' = 0 := by omega
      go_wp2
      go_ret
      exact ⟨ret_i (by rw [← Hr.out]; simp; exact (Int.emod_eq_of_lt ho1 ho2).symm), _, rfl⟩

theorem mdPower_c (a n p : Int) (w : World) (h1 : 1 ≤ p) (h2 : p ≤ 3000000000) (hn : 0 ≤ n) (hnn : n ≤ 4000000000000000000) :
    Calls Tryz.prog 189 #[.int .i64 a, .int .i64 n, .int .i64 p] w fun e w' => e = .returned (.int .i64 (M.powm a n p)) ∧ w = w' := by
  go_enter Tryz.func189, Tryz.ntmps189
  go_wp2_with (go_at_call 187; refine (mdMod_c _ _ _ (by omega) (by omega)).mono ?_; rintro e w' ⟨rfl, rfl⟩)
  go_loop [1, 7, 8] (fun vn vo vb => ∃ n' o b : Int, vn = .int .i64 n' ∧ vo = .int .i64 o ∧ vb = .int .i64 b ∧ 0 ≤ n' ∧ n' ≤ 4000000000000000000 ∧ 0 ≤ o ∧ o ≤ p ∧ 0 ≤ b ∧ b < p ∧ o * b ^ n'.toNat % p = M.powm a n p) (fun vn _ _ => (intOf vn).toNat)
  case atStart =>
    have b1 := M.mod_bd (a := a) h1
    exact ⟨n, 1, a % p, rfl, rfl, rfl, hn, hnn, by omega, by omega, b1.1, b1.2, by rw [Int.one_mul, M.pow_mod_base]; rfl⟩
  case round =>
    obtain ⟨n', o, b, rfl, rfl, rfl, hn', hn2', ho1, ho2, hb1, hb2, hr⟩ := hrel
    have Hr := Lib.hid hr
    clear hr
    have m1 := M.mul_nn (x := o) (y := b) (m := 3000000000) (n := 3000000000) ho1 (by omega) hb1 (by omega)
    have m2 := M.mul_nn (x := b) (y := b) (m := 3000000000) (n := 3000000000) hb1 (by omega) hb1 (by omega)
    have m3 := M.mod_bd (a := o * b) h1
    have m4 := M.mod_bd (a := b * b) h1
    by_cases hp : 0 < n'
    · by_cases h2 : n' % 2 = 1
      · go_wp2
        go_round
        case rel => exact ⟨n' / 2, o * b % p, b * b % p, rfl, rfl, rfl, by omega, by omega, m3.1, by omega, m4.1, m4.2, M.pow_step_odd hp h2 Hr.out⟩
        case measure => simp [intOf]; omega
      · go_wp2
        go_round
        case rel => exact ⟨n' / 2, o, b * b % p, rfl, rfl, rfl, by omega, by omega, ho1, ho2, m4.1, m4.2, M.pow_step_even hp h2 Hr.out⟩
        case measure => simp [intOf]; omega
    · obtain rfl : n' = 0 := by omega
      go_wp2
      go_ret
      exact ⟨ret_i (by rw [← Hr.out]; simp), rfl⟩

theorem gcd_c (a b : Int) (w : World) (h1 : -9000000000000000000 ≤ a) (h2 : a ≤ 9000000000000000000) (h3 : -9000000000000000000 ≤ b) (h4 : b ≤ 9000000000000000000) :
    Calls Tryz.prog 105 #[.int .i64 a, .int .i64 b] w fun e w' => e = .returned (.int .i64 (M.gcd a b)) ∧ ∃ m, w' = w.drewN m := by
  go_enter Tryz.func105, Tryz.ntmps105
  go_wp2
  go_loopw [0, 1] (fun va vb wr => ∃ x y : Int, va = .int .i64 x ∧ vb = .int .i64 y ∧ -9000000000000000000 ≤ x ∧ x ≤ 9000000000000000000 ∧ -9000000000000000000 ≤ y ∧ y ≤ 9000000000000000000 ∧ M.gcd x y = M.gcd a b ∧ ∃ m, wr = w.drewN m) (fun _ vb _ => (intOf vb).natAbs)
  case atStart => exact ⟨a, b, rfl, rfl, h1, h2, h3, h4, rfl, 0, rfl⟩
  case round =>
    obtain ⟨x, y, rfl, rfl, x1, x2, y1, y2, hg, m, rfl⟩ := hrel
    have Hg := Lib.hid hg
    clear hg
    by_cases hy : y = 0
    · subst hy
      by_cases hx : 0 ≤ x
      · go_wp2
        all_goals (go_ret; exact ⟨ret_i (by rw [← Hg.out]; simp only [M.gcd, Int.gcd_zero_right]; omega), _, rfl⟩)
      · go_wp2
        all_goals (go_ret; exact ⟨ret_i (by rw [← Hg.out]; simp only [M.gcd, Int.gcd_zero_right]; omega), _, rfl⟩)
    · have ht := Int.natAbs_tmod x y
      have hm : x.natAbs % y.natAbs < y.natAbs := Nat.mod_lt _ (by omega)
      have ht := Lib.hid (show (x.tmod y).natAbs < y.natAbs by omega)
      have ht1 : -9000000000000000000 ≤ x.tmod y := by omega
      have ht2 : x.tmod y ≤ 9000000000000000000 := by omega
      by_cases hp : 0 ≤ x ∧ 1 ≤ y
      · obtain ⟨p1, p2⟩ := hp
        have e1 := Lib.hid (Int.tmod_eq_emod_of_nonneg (b := y) p1)
        have hb := M.mod_bd (a := x) p2
        go_wp2
        go_quiet (fail)
        go_wp2
        go_roundw
        case rel => exact ⟨y, x % y, rfl, rfl, y1, y2, by omega, by omega, by rw [← Hg.out, ← e1.out]; unfold M.gcd; rw [M.gcd_step], _, World.drewN_drewN _ _ _⟩
        case measure => simp [intOf]; omega
      · go_wp2
        go_quiet (fail)
        go_wp2
        go_roundw
        case rel => exact ⟨y, x.tmod y, rfl, rfl, y1, y2, ht1, ht2, by rw [← Hg.out]; unfold M.gcd; rw [M.gcd_step], _, World.drewN_drewN _ _ _⟩
        case measure => have := ht.out; simp [intOf]; omega

theorem bgCommon_c (a b : Int) (w : World) (h1 : 0 ≤ a) (h2 : a ≤ 9000000000000000000) (h3 : 0 ≤ b) (h4 : b ≤ 9000000000000000000) :
    Calls Tryz.prog 138 #[.int .i64 a, .int .i64 b] w fun e w' => e = .returned (.int .i64 (M.gcd a b)) ∧ w = w' := by
  go_enter Tryz.func138, Tryz.ntmps138
  go_wp2
  go_loop [0, 1] (fun va vb => ∃ x y : Int, va = .int .i64 x ∧ vb = .int .i64 y ∧ 0 ≤ x ∧ x ≤ 9000000000000000000 ∧ 0 ≤ y ∧ y ≤ 9000000000000000000 ∧ M.gcd x y = M.gcd a b) (fun _ vb => (intOf vb).toNat)
  case atStart => exact ⟨a, b, rfl, rfl, h1, h2, h3, h4, rfl⟩
  case round =>
    obtain ⟨x, y, rfl, rfl, x1, x2, y1, y2, hg⟩ := hrel
    have Hg := Lib.hid hg
    clear hg
    by_cases hy : 0 < y
    · have hb := M.mod_bd (a := x) (p := y) (by omega)
      have e1 := Lib.hid (Int.tmod_eq_emod_of_nonneg (b := y) x1)
      go_wp2
      go_round
      case rel => exact ⟨y, x % y, rfl, rfl, y1, y2, by omega, by omega, by rw [← Hg.out, ← e1.out]; unfold M.gcd; rw [M.gcd_step]⟩
      case measure => simp [intOf]; omega
    · obtain rfl : y = 0 := by omega
      go_wp2
      go_ret; exact ⟨ret_i (by rw [← Hg.out]; simp only [M.gcd, Int.gcd_zero_right]; omega), rfl⟩

theorem l1Most_c (a b : Int) (w : World) :
    Calls Tryz.prog 118 #[.int .i64 a, .int .i64 b] w fun e w' => e = .returned (.int .i64 (max a b)) ∧ w = w' := by
  by_cases h : b < a
  · go_enter Tryz.func118, Tryz.ntmps118
    go_wp2
    go_ret; exact ⟨ret_i (by omega), rfl⟩
  · go_enter Tryz.func118, Tryz.ntmps118
    go_wp2
    go_ret; exact ⟨ret_i (by omega), rfl⟩

theorem l1Abs_c (a : Int) (w : World) (h1 : -9223372036854775807 ≤ a) (h2 : a ≤ 9223372036854775807) :
    Calls Tryz.prog 126 #[.int .i64 a] w fun e w' => e = .returned (.int .i64 (a.natAbs : Int)) ∧ w = w' := by
  go_enter Tryz.func126, Tryz.ntmps126
  go_wp2_with (go_at_call 118; refine (l1Most_c _ _ _).mono ?_; rintro e w' ⟨rfl, rfl⟩)
  go_ret; exact ⟨ret_i (by omega), rfl⟩

theorem mdSymbol_c (a p : Int) (w : World) (hp : M.prime p = true) (h1 : 3 ≤ p) (h2 : p ≤ 997) :
    Calls Tryz.prog 188 #[.int .i64 a, .int .i64 p] w fun e w' => e = .returned (.int .i64 (M.symb a p)) ∧ w = w' := by
  have hs := Lib.hid (M.symb_alt (M.prime_iff.1 hp) h1 h2 a)
  clear hp
  by_cases c : M.powm a ((p - 1) / 2) p = p - 1
  · have c' := Lib.hid c
    have c2 : (M.powm a ((p - 1) / 2) p == p - 1) = true := by simpa using c
    clear c
    go_enter Tryz.func188, Tryz.ntmps188
    go_wp2_with (go_at_call 189; refine (mdPower_c _ _ _ _ (by omega) (by omega) (by omega) (by omega)).mono ?_; rintro e w' ⟨rfl, rfl⟩)
    go_ret; exact ⟨ret_i (by rw [hs.out, if_pos c'.out]), rfl⟩
  · have c2 : (M.powm a ((p - 1) / 2) p == p - 1) = false := by simpa using c
    go_enter Tryz.func188, Tryz.ntmps188
    go_wp2_with (go_at_call 189; refine (mdPower_c _ _ _ _ (by omega) (by omega) (by omega) (by omega)).mono ?_; rintro e w' ⟨rfl, rfl⟩)
    go_ret; exact ⟨ret_i (by rw [hs.out, if_neg c]), rfl⟩

theorem symbol_c (a p : Int) (w : World) (h1 : 1 ≤ p) (h2 : p ≤ 3000000000) :
    Calls Tryz.prog 180 #[.int .i64 a, .int .i64 p] w fun e w' => e = .returned (.int .i64 (M.symb a p)) ∧ ∃ m, w' = w.drewN m := by
  by_cases c1 : M.powm a ((p - 1) / 2) p = 0
  · go_enter Tryz.func180, Tryz.ntmps180
    go_wp2_with (go_at_call 186; refine (power_c _ _ _ _ h1 h2 (by omega) (by omega)).mono ?_; rintro e w' ⟨rfl, mq, rfl⟩)
    go_ret; exact ⟨ret_i (M.symb0 c1).symm, _, rfl⟩
  · by_cases c2 : M.powm a ((p - 1) / 2) p = 1
    · go_enter Tryz.func180, Tryz.ntmps180
      go_wp2_with (go_at_call 186; refine (power_c _ _ _ _ h1 h2 (by omega) (by omega)).mono ?_; rintro e w' ⟨rfl, mq, rfl⟩)
      go_ret; exact ⟨ret_i (M.symb1 c2).symm, _, rfl⟩
    · go_enter Tryz.func180, Tryz.ntmps180
      go_wp2_with (go_at_call 186; refine (power_c _ _ _ _ h1 h2 (by omega) (by omega)).mono ?_; rintro e w' ⟨rfl, mq, rfl⟩)
      go_ret; exact ⟨ret_i (M.symbm c1 c2).symm, _, rfl⟩

end Go.Proofs.YtgkjmjlkhnfbiaaGreat

namespace Go.Proofs.YtgkjmjlkhnfbiaaGreat
set_option linter.unusedSimpArgs false
set_option linter.unusedVariables false
open Go.RowKit

theorem bcell {W w1 : World} (hb : Below W.heap.size W w1) : (∀ b o, b < W.heap.size → w1.cell? ⟨b, o, none⟩ = W.cell? ⟨b, o, none⟩) ∧ (∀ b o, b < W.heap.size → w1.frozen? ⟨b, o, none⟩ = W.frozen? ⟨b, o, none⟩) ∧ W.heap.size ≤ w1.heap.size :=
  ⟨fun b o h => hb.cell (p := ⟨b, o, none⟩) h, fun b o h => hb.frozen (p := ⟨b, o, none⟩) h, hb.size⟩
theorem heap_drew (w : World) : w.drew.heap = w.heap := rfl
theorem size_setCell (w : World) (a : Addr) (v : Value) : (w.setCell a v).heap.size = w.heap.size := by simp [World.setCell]
theorem below_alloc {w W : World} (h : Below w.heap.size w W) (o : Obj) : Below w.heap.size w (W.alloc o) := h.alloc h.size o
theorem below_step {w W w' : World} (h : Below w.heap.size w W) (hb : Below W.heap.size W w') : Below w.heap.size w w' := h.trans (hb.mono h.size)
theorem below_drewN {w W : World} (h : Below w.heap.size w W) (n : Nat) : Below w.heap.size w (W.drewN n) := by
  induction n with
  | zero => exact h
  | succ n ih => exact ih.drew

theorem box_cell (w : World) (cs : Array Value) (T : TypeId) (j : Nat) : (w.alloc (.cells cs T)).cell? ⟨w.heap.size, j, none⟩ = cs[j]? := by
  rw [World.cell?_alloc_at _ _ _ _ rfl]
/-- a curve, or nothing -/
def cv (a b : Int) : Value := .agg #[.int .i64 a, .int .i64 b]
theorem gcd_pos {a b : Int} (h : b ≠ 0) : 0 < M.gcd a b := by
  unfold M.gcd
  have : 0 < Int.gcd a b := Int.gcd_pos_of_ne_zero_right _ h
  omega
/-- a fraction's parts, the denominator made positive -/
def partN (a b : Int) : Int := if b < 0 then -a.tdiv (M.gcd a b) else a.tdiv (M.gcd a b)
def partD (a b : Int) : Int := if b < 0 then -b.tdiv (M.gcd a b) else b.tdiv (M.gcd a b)

theorem partN_neg {a b : Int} (h : b < 0) : partN a b = -a.tdiv (M.gcd a b) := if_pos h
theorem partN_pos {a b : Int} (h : 0 ≤ b) : partN a b = a.tdiv (M.gcd a b) := if_neg (by omega)
theorem partD_neg {a b : Int} (h : b < 0) : partD a b = -b.tdiv (M.gcd a b) := if_pos h
theorem partD_pos {a b : Int} (h : 0 ≤ b) : partD a b = b.tdiv (M.gcd a b) := if_neg (by omega)
theorem tdiv_bd {a d m : Int} (h1 : -m ≤ a) (h2 : a ≤ m) (hd : d ≠ 0) : -m ≤ a.tdiv d ∧ a.tdiv d ≤ m := by
  have : (a.tdiv d).natAbs ≤ a.natAbs := by rw [Int.natAbs_tdiv]; exact Nat.div_le_self _ _
  omega
theorem gcd_le {a b : Int} (h : b ≠ 0) : M.gcd a b ≤ b.natAbs := by
  unfold M.gcd
  have := Nat.le_of_dvd (by omega) (Nat.gcd_dvd_right a.natAbs b.natAbs)
  simp only [Int.gcd]
  omega

theorem keepCell {W w' : World} (hb : Below W.heap.size W w') {p : Addr} {v : Value} (h : W.cell? p = some v) : w'.cell? p = some v :=
  (hb.cell (World.block_lt_of_cell? W _ h)).trans h

theorem keepFrz {W w' : World} (hb : Below W.heap.size W w') {p : Addr} (h : p.block < W.heap.size) (hf : W.frozen? p = false) : w'.frozen? p = false :=
  (hb.frozen h).trans hf
theorem keepSz {W w' : World} (hb : Below W.heap.size W w') {n : Nat} (h : n < W.heap.size) : n < w'.heap.size := Nat.lt_of_lt_of_le h hb.size

theorem disc_bd {a b : Int} (h : M.inCurve a b = true) : -10000000000 ≤ M.disc a b ∧ M.disc a b ≤ 10000000000 := by
  obtain ⟨h1, h1', h2, h2'⟩ := M.inCurve_bd h
  have b1 := M.mul_bd (x := 4 * a) (y := a) (m := 4000) (n := 1000) (by omega) (by omega) (by omega) (by omega)
  have b2 := M.mul_bd (x := 4 * a * a) (y := a) (m := 4000000) (n := 1000) (by omega) (by omega) (by omega) (by omega)
  have b3 := M.mul_bd (x := 27 * b) (y := b) (m := 270000) (n := 10000) (by omega) (by omega) (by omega) (by omega)
  unfold M.disc
  omega

end Go.Proofs.YtgkjmjlkhnfbiaaGreat

namespace Go.Proofs.YtgkjmjlkhnfbiaaGreat
set_option linter.unusedSimpArgs false
set_option linter.unusedVariables false
open Go.RowKit

theorem info_int : (Tryz.prog.info? 3).map (fun i => (i.zero, i.size, i.bytes)) = some (some (.int .i64 0), 1, 8) := by kernel_rfl

/-- a slice of numbers that lies in blocks from base on and may be appended to -/
def OwnI (w : World) (base : Nat) (v : Value) (xs : List Int) : Prop := w.ownsRow base 3 1 v xs.length (xs.map (Value.int .i64))
theorem OwnI.nil (w : World) (base : Nat) : OwnI w base (.slice none 0 0) [] := World.ownsRow_nil w base _ 1
theorem OwnI.push {w : World} {base : Nat} {v' : Value} {xs : List Int} {n : Nat} {x : Int} {ys : List Int} (hn : n = xs.length) (h : w.ownsRow base 3 1 v' (n + 1) (xs.map (Value.int .i64) ++ [.int .i64 x])) (he : ys = xs ++ [x]) : OwnI w base v' ys := by
  subst hn he
  simpa [OwnI] using h
theorem OwnI.below {w w' : World} {base : Nat} {v : Value} {xs : List Int} (h : OwnI w base v xs) (hb : Below w.heap.size w w') : OwnI w' base v xs := by
  obtain ⟨h1, h2⟩ := h
  refine ⟨h1, ?_⟩
  rcases h2 with h2 | ⟨g, cap, cur, hv, hg, hh, r⟩
  · exact Or.inl h2
  · exact Or.inr ⟨g, cap, cur, hv, hg, by rw [hb.block g (Array.getElem?_eq_some_iff.1 hh).1]; exact hh, r⟩
theorem OwnI.base {w : World} {base base' : Nat} {v : Value} {xs : List Int} (h : OwnI w base v xs) (hb : base' ≤ base) : OwnI w base' v xs := by
  obtain ⟨h1, h2⟩ := h
  refine ⟨h1, ?_⟩
  rcases h2 with h2 | ⟨g, cap, cur, hv, hg, hh, r⟩
  · exact Or.inl h2
  · exact Or.inr ⟨g, cap, cur, hv, Nat.le_trans hb hg, hh, r⟩
theorem one_cell_int (x : Int) : ∀ u ∈ [Value.int .i64 x], u.oneCell' = true := by
  intro u hu
  simp only [List.mem_singleton] at hu
  subst hu
  rfl
/-- how such a slice is read -/
theorem OwnI.view {w : World} {base : Nat} {v : Value} {xs : List Int} (h : OwnI w base v xs) : ∃ (a : Option Addr) (cap : Nat), v = .slice a xs.length cap ∧ (xs.length : Int) ≤ 9223372036854775807 ∧
    ∀ k, k < xs.length → ∃ g x, a = some ⟨g, 0, none⟩ ∧ base ≤ g ∧ Hid (xs[k]? = some x) ∧ w.cell? ⟨g, k, none⟩ = some (.int .i64 x) := by
  obtain ⟨h1, h2⟩ := h
  rcases h2 with ⟨rfl, hn⟩ | ⟨g, cap, cur, rfl, hg, hh, hc, hm, hs, ht⟩
  · refine ⟨none, 0, by rw [hn], by omega, fun k hk => by omega⟩
  · refine ⟨some ⟨g, 0, none⟩, cap, rfl, by unfold maxLen at hm; omega, fun k hk => ⟨g, xs[k], rfl, hg, List.getElem?_eq_getElem hk, ?_⟩⟩
    rw [cell_of_row w g k cur _ (0, 0) hh]
    have e : (xs.map (Value.int .i64))[k]? = some (.int .i64 xs[k]) := by
      rw [List.getElem?_map, List.getElem?_eq_getElem hk]
      rfl
    rw [← ht, List.getElem?_take] at e
    split at e
    · simpa using e
    · cases e
theorem take_next {xs : List Int} {k : Nat} {x : Int} (h : xs[k]? = some x) : xs.take (k + 1) = xs.take k ++ [x] := by
  obtain ⟨hk, e⟩ := List.getElem?_eq_some_iff.1 h
  rw [List.take_succ_eq_append_getElem hk, e]
theorem foldl_next {α : Type} (f : α → Int → α) (z : α) {xs : List Int} {k : Nat} {x : Int} (h : xs[k]? = some x) : (xs.take (k + 1)).foldl f z = f ((xs.take k).foldl f z) x := by
  rw [take_next h, List.foldl_append]
  rfl

/-- 'out = append(out, y)', one number, out the call's own -/
theorem push_int {ops : Array Oper} {rest : List Oper} {o : Oper} {a : Act} {Q : Exit → Act → World → Prop} {w W : World} (base : Nat) (y : Int) (xs : List Int) (v : Value) (hgd : o.guard = none) (s x : Operand)
    (ho : o.op = .call { callee := .builtin .append, args := #[s, x], argTypes := #[28, 28] }) (hs : a.eval s = v) (hx : a.eval x = .slice (some ⟨w.heap.size, 0, none⟩) 1 1)
    (hown : OwnI w base v xs) (hW : Below base W w) (hB : base ≤ w.heap.size) (hl : xs.length ≤ 10000000000)
    (h : ∀ v' w', OwnI w' base v' (xs ++ [y]) → Below base W w' → wpList Tryz.prog ops Q rest (a.put o.dst v') w') :
    wpList Tryz.prog ops Q (o :: rest) a (w.alloc (.cells #[.int .i64 y] 3)) := by
  obtain ⟨i0, hi, hz0, hz1, hz2⟩ := info_parts info_int
  refine wpList_append_own _ hgd s x 28 ho base 3 i0 (.int .i64 0) 1 8 Tryz.underlying28 hi hz0 hz1 hz2 rfl (by decide) v xs.length (xs.map (Value.int .i64)) hs (hown.alloc _) ⟨w.heap.size, 0, none⟩ 1 1 [.int .i64 y] hx rfl (fun j u hu => by
    have hadd : (⟨w.heap.size, 0, none⟩ : Addr).add j = ⟨w.heap.size, j, none⟩ := by unfold Addr.add; split <;> simp_all
    rw [hadd, World.cell?_alloc_at _ _ _ _ rfl]
    simpa using hu) (one_cell_int _) ?_ ?_ ?_ ?_
  · unfold maxLen; omega
  · omega
  · simp; omega
  · intro v' w' h1 h2 _
    exact h v' w' (OwnI.push rfl h1 rfl) ((hW.alloc hB _).grown h2 (by simp; omega) fun k hk => (hown.lt k hk).1)

end Go.Proofs.YtgkjmjlkhnfbiaaGreat

namespace Go.Proofs.YtgkjmjlkhnfbiaaGreat
set_option linter.unusedSimpArgs false
set_option linter.unusedVariables false
open Go.RowKit

/-- a slice of numbers that can be read; its cells lie below block hi -/
def SeenI (w : World) (hi : Nat) (v : Value) (xs : List Int) : Prop :=
  ∃ (a : Option Addr) (cap : Nat), v = .slice a xs.length cap ∧ (xs.length : Int) ≤ 9223372036854775807 ∧
    ∀ k, k < xs.length → ∃ g x, a = some ⟨g, 0, none⟩ ∧ g < hi ∧ Hid (xs[k]? = some x) ∧ w.cell? ⟨g, k, none⟩ = some (.int .i64 x)
theorem SeenI.below {w w' : World} {hi : Nat} {v : Value} {xs : List Int} (h : SeenI w hi v xs) (hb : Below hi w w') : SeenI w' hi v xs := by
  obtain ⟨a, cap, h1, h2, h3⟩ := h
  refine ⟨a, cap, h1, h2, fun k hk => ?_⟩
  obtain ⟨g, x, e1, e2, e3, e4⟩ := h3 k hk
  exact ⟨g, x, e1, e2, e3, (hb.cell (p := ⟨g, k, none⟩) e2).trans e4⟩
theorem SeenI.mono {w : World} {hi hi' : Nat} {v : Value} {xs : List Int} (h : SeenI w hi v xs) (hh : hi ≤ hi') : SeenI w hi' v xs := by
  obtain ⟨a, cap, h1, h2, h3⟩ := h
  refine ⟨a, cap, h1, h2, fun k hk => ?_⟩
  obtain ⟨g, x, e1, e2, e3, e4⟩ := h3 k hk
  exact ⟨g, x, e1, by omega, e3, e4⟩
theorem OwnI.seen {w : World} {base : Nat} {v : Value} {xs : List Int} (h : OwnI w base v xs) : SeenI w w.heap.size v xs := by
  obtain ⟨a, cap, h1, h2, h3⟩ := h.view
  refine ⟨a, cap, h1, h2, fun k hk => ?_⟩
  obtain ⟨g, x, e1, e2, e3, e4⟩ := h3 k hk
  exact ⟨g, x, e1, World.block_lt_of_cell? w _ e4, e3, e4⟩
theorem SeenI.len {w : World} {hi : Nat} {v : Value} {xs : List Int} (h : SeenI w hi v xs) : (xs.length : Int) ≤ 9223372036854775807 := by
  obtain ⟨a, cap, h1, h2, h3⟩ := h
  exact h2

end Go.Proofs.YtgkjmjlkhnfbiaaGreat

namespace Go.Proofs.YtgkjmjlkhnfbiaaGreat
set_option linter.unusedSimpArgs false
set_option linter.unusedVariables false
open Go.RowKit

theorem grown_tr {a b c : World} {r : Option Nat} (h : a.grownBy b r) (k : b.grownBy c r) : a.grownBy c r :=
  ⟨k.os.trans h.os, k.tape.trans h.tape, k.output.trans h.output, Nat.le_trans h.size k.size, fun i hi hne => (k.block i (Nat.lt_of_lt_of_le hi h.size) hne).trans (h.block i hi hne)⟩
theorem grown_rf (a : World) (r : Option Nat) : a.grownBy a r := ⟨rfl, rfl, rfl, Nat.le_refl _, fun _ _ _ => rfl⟩
theorem grown_dr {a b : World} {r : Option Nat} (h : a.grownBy b r) (n : Nat) : a.grownBy (b.drewN n) r := ⟨h.os, h.tape, h.output, h.size, h.block⟩
theorem grown_below {a b : World} {r : Option Nat} {base : Nat} (h : a.grownBy b r) (hb : base ≤ a.heap.size) (hr : ∀ k, r = some k → base ≤ k) : Below base a b :=
  ⟨h.os, h.tape, h.output, h.size, fun i hi => h.block i (by omega) (fun e => by have := hr i e.symm; omega)⟩
theorem below_grown {a b : World} (h : Below a.heap.size a b) (r : Option Nat) : a.grownBy b r := ⟨h.os, h.tape, h.output, h.size, fun i hi _ => h.block i hi⟩

/-- the numbers from k on -/
def M.marks (k : Int) (n : Nat) : List Int := M.upto k n
theorem M.marks_len (k : Int) (n : Nat) : (M.marks k n).length = n := by simp [M.marks, M.upto]
theorem M.marks_get {k : Int} {n j : Nat} (h : j < n) : (M.marks k n)[j]? = some (k + j) := by
  simp [M.marks, M.upto, h]
theorem M.marks_step {k : Int} {j : Nat} {xs : List Int} (h : j < xs.length) : (M.marks k j ++ xs.drop j).set j (k + j) = M.marks k (j + 1) ++ xs.drop (j + 1) := by
  have hl := M.marks_len k j
  rw [List.set_append_right _ _ (by omega)]
  rw [hl, Nat.sub_self, List.drop_eq_getElem_cons h, List.set_cons_zero]
  show _ = M.upto k (j + 1) ++ _
  rw [M.upto_succ]
  simp [M.marks]
theorem OwnI.set {w : World} {base g cap n j : Nat} {xs : List Int} (hn : n = xs.length) (h : OwnI w base (.slice (some ⟨g, 0, none⟩) n cap) xs) (x : Int) {ys : List Int} (he : ys = xs.set j x) :
    OwnI (w.setCell ⟨g, j, none⟩ (.int .i64 x)) base (.slice (some ⟨g, 0, none⟩) n cap) ys ∧ w.grownBy (w.setCell ⟨g, j, none⟩ (.int .i64 x)) (some g) := by
  subst he hn
  have := World.ownsRow.stored (g := g) (cap := cap) h j (.int .i64 x)
  refine ⟨?_, this.2⟩
  unfold OwnI
  rw [List.map_set, List.length_set]
  exact this.1
theorem OwnI.form {w : World} {base : Nat} {v : Value} {xs : List Int} (h : OwnI w base v xs) (hn : 0 < xs.length) : ∃ g cap, v = .slice (some ⟨g, 0, none⟩) xs.length cap ∧ base ≤ g ∧ g < w.heap.size := by
  rcases h.2 with ⟨rfl, h2⟩ | ⟨g, cap, cur, rfl, hg, hh, -⟩
  · omega
  · exact ⟨g, cap, rfl, hg, (Array.getElem?_eq_some_iff.1 hh).1⟩
theorem OwnI.nil_form {w : World} {base : Nat} {v : Value} {xs : List Int} (h : OwnI w base v xs) : ∃ a cap, v = .slice a xs.length cap := by
  obtain ⟨a, cap, h1, -⟩ := h.view
  exact ⟨a, cap, h1⟩

end Go.Proofs.YtgkjmjlkhnfbiaaGreat

namespace Go.Proofs.YtgkjmjlkhnfbiaaGreat
set_option linter.unusedSimpArgs false
set_option linter.unusedVariables false
open Go.RowKit
namespace Gr
variable {w0 w w' : World} {r : Option Nat}
theorem set {g : Nat} (h : w0.grownBy w (some g)) (o : Nat) (v : Value) : w0.grownBy (w.setCell ⟨g, o, none⟩ v) (some g) := by
  refine ⟨h.os, h.tape, h.output, by simpa [World.setCell] using h.size, fun i hi hne => ?_⟩
  exact (Below.heap_setCell _ _ _ _ (by rintro rfl; exact hne rfl)).trans (h.block i hi hne)
theorem setNew (h : w0.grownBy w r) {p : Addr} (hp : w0.heap.size ≤ p.block) (v : Value) : w0.grownBy (w.setCell p v) r := by
  refine ⟨h.os, h.tape, h.output, by simpa [World.setCell] using h.size, fun i hi hne => ?_⟩
  exact (Below.heap_setCell _ _ _ _ (by omega)).trans (h.block i hi hne)
theorem frozen (hg : w.grownBy w' r) {a : Addr} (hl : a.block < w.heap.size) (hne : some a.block ≠ r) : w'.frozen? a = w.frozen? a :=
  World.frozen?_of_block (hg.block _ hl hne)
theorem drew (h : w0.grownBy w r) : w0.grownBy w.drew r := grown_dr h 1
theorem below {B : Nat} (h : w0.grownBy w r) (k : Below B w w') (hB : w.heap.size ≤ B) : w0.grownBy w' r := grown_tr h (below_grown (k.mono hB) r)
theorem alloc (h : w0.grownBy w r) (o : Obj) : w0.grownBy (w.alloc o) r := grown_tr h (World.grownBy_alloc w o r)
theorem cellK {g b o : Nat} {v : Value} (hg : w.grownBy w' (some g)) (h : w.cell? ⟨b, o, none⟩ = some v) (hn : b ≠ g) : w'.cell? ⟨b, o, none⟩ = some v :=
  hg.cell h (by simpa using hn)
theorem frzK {g b o : Nat} (hg : w.grownBy w' (some g)) (hs : b < w.heap.size) (h : w.frozen? ⟨b, o, none⟩ = false) (hn : b ≠ g) : w'.frozen? ⟨b, o, none⟩ = false :=
  (frozen hg hs (by simpa using hn)).trans h
theorem sizeK {n : Nat} (hg : w.grownBy w' r) (h : n < w.heap.size) : n < w'.heap.size := Nat.lt_of_lt_of_le h hg.size
theorem toBelow {B g : Nat} {a : World} (h : Below B a w) (hg : w.grownBy w' (some g)) (hB : B ≤ w.heap.size) (hr : B ≤ g) : Below B a w' :=
  h.grown hg hB fun k hk => by cases hk; exact hr
theorem recell {W : World} {o o' : Obj} {p : Addr} {v : Value} (h : (W.alloc o).cell? p = some v) (hp : p.block = W.heap.size → False) : (W.alloc o').cell? p = some v := by
  have hb : p.block < W.heap.size := by
    have h1 := World.block_lt_of_cell? (W.alloc o) _ h
    rw [World.size_alloc] at h1
    rcases Nat.lt_or_ge p.block W.heap.size with h2 | h2
    · exact h2
    · exact (hp (by omega)).elim
  have e1 := (Below.alloc (Below.refl W.heap.size W) (Nat.le_refl _) o).cell (p := p) hb
  have e2 := (Below.alloc (Below.refl W.heap.size W) (Nat.le_refl _) o').cell (p := p) hb
  rw [e2, ← e1, h]
theorem far1 {W : World} {p q : Addr} {u v : Value} (h : W.cell? p = some v) (hp : p.block = q.block → False) : (W.setCell q u).cell? p = some v :=
  (World.cell?_of_block (w := W) (Below.heap_setCell _ _ _ _ hp)).trans h
theorem far2 {W : World} {p q q' : Addr} {u u' v : Value} (h : W.cell? p = some v) (hp : p.block = q.block → False) (hp' : p.block = q'.block → False) : ((W.setCell q u).setCell q' u').cell? p = some v := far1 (far1 h hp) hp'
theorem recell0 {W : World} {o : Obj} {p : Addr} {v : Value} (h : W.cell? p = some v) : (W.alloc o).cell? p = some v :=
  ((Below.alloc (Below.refl W.heap.size W) (Nat.le_refl _) o).cell (World.block_lt_of_cell? W _ h)).trans h
end Gr
/-- a box of two numbers that the walk made since W -/
def BoxAt (W wx : World) (s : Value) (n d : Int) : Prop :=
  ∃ g, s = .pointer (some ⟨g, 0, none⟩) ∧ wx.cell? ⟨g, 0, none⟩ = some (.int .i64 n) ∧ wx.cell? ⟨g, 1, none⟩ = some (.int .i64 d) ∧ W.heap.size ≤ g ∧ g < wx.heap.size
structure Zb (w : World) (b : Nat) : Prop where
  c0 : w.cell? ⟨b, 0, none⟩ = some (.int .i64 0)
  c1 : w.cell? ⟨b, 1, none⟩ = some (.int .i64 0)
  f0 : w.frozen? ⟨b, 0, none⟩ = false
  f1 : w.frozen? ⟨b, 1, none⟩ = false
  size : b < w.heap.size
theorem Zb.new (Y : World) (T : TypeId) : Zb (Y.alloc (.cells #[.int .i64 0, .int .i64 0] T)) Y.heap.size :=
  ⟨by rw [World.cell?_alloc_at _ _ _ _ rfl]; rfl, by rw [World.cell?_alloc_at _ _ _ _ rfl]; rfl, by simp [go_sem], by simp [go_sem], by rw [World.size_alloc]; omega⟩
theorem Zb.newD (Y : World) (T : TypeId) : Zb ((Y.alloc (.cells #[.int .i64 0, .int .i64 0] T)).drew) Y.heap.size :=
  have h := Zb.new Y T
  ⟨h.c0, h.c1, h.f0, h.f1, h.size⟩
theorem Zb.keep {w w' : World} {b : Nat} (h : Zb w b) (hb : Below w.heap.size w w') : Zb w' b :=
  ⟨(hb.cell (p := ⟨b, 0, none⟩) h.size).trans h.c0, (hb.cell (p := ⟨b, 1, none⟩) h.size).trans h.c1, (hb.frozen (p := ⟨b, 0, none⟩) h.size).trans h.f0, (hb.frozen (p := ⟨b, 1, none⟩) h.size).trans h.f1, Nat.lt_of_lt_of_le h.size hb.size⟩
theorem Zb.keepG {w w' : World} {b g : Nat} (h : Zb w b) (hg : w.grownBy w' (some g)) (hn : b ≠ g) : Zb w' b :=
  ⟨Gr.cellK hg h.c0 hn, Gr.cellK hg h.c1 hn, Gr.frzK hg h.size h.f0 hn, Gr.frzK hg h.size h.f1 hn, Gr.sizeK hg h.size⟩
end Go.Proofs.YtgkjmjlkhnfbiaaGreat
