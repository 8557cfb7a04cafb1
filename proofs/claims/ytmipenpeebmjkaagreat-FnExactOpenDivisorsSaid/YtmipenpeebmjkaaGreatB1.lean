/-
  Joined texts: contracts and plain laws.
-/
import Derived.Laws.FloatArith
import Derived.WalkKit
import Derived.Test.YtmipenpeebmjkaaGreatProg
import Derived.Lib.Hide
import Derived.Laws.Externs
import Derived.KernelRfl
import Derived.Deep.QuietTactic
import Derived.BigQuiet
namespace Go.Proofs.YtmipenpeebmjkaaGreat
set_option linter.unusedSimpArgs false
set_option linter.unusedVariables false
namespace M
open Ieee
theorem cut0 (neg : Bool) (n : Nat) : Toward.even.cut neg n 0 = n := by
  unfold Toward.cut
  simp [Nat.mod_one]
theorem cut_le {neg : Bool} {n drop k : Nat} (h : n < 2 ^ (drop + k)) : Toward.even.cut neg n drop ≤ 2 ^ k := by
  unfold Toward.cut
  dsimp only
  rw [Nat.one_shiftLeft]
  have hb : ∀ b : Bool, b.toNat ≤ 1 := fun b => by cases b <;> decide
  have hp : 0 < 2 ^ k := Nat.two_pow_pos k
  refine Nat.le_trans (Nat.add_le_add_left (hb _) _) ?_
  by_cases hd : drop ≤ n.log2 + 2
  · rw [Nat.min_eq_left hd]
    have : n / 2 ^ drop < 2 ^ k := by
      rw [Nat.div_lt_iff_lt_mul (Nat.two_pow_pos _), ← Nat.pow_add, Nat.add_comm k]; exact h
    omega
  · rw [Nat.min_eq_right (by omega)]
    have h1 : n < 2 ^ (n.log2 + 2) := Nat.lt_of_lt_of_le Nat.lt_log2_self (Nat.pow_le_pow_right (by decide) (by omega))
    rw [Nat.div_eq_of_lt h1]
    omega
theorem cutz_le {neg : Bool} {n drop k : Nat} (h : n < 2 ^ (drop + k)) : Toward.zero.cut neg n drop ≤ 2 ^ k := by
  unfold Toward.cut
  dsimp only
  rw [Nat.one_shiftLeft]
  by_cases hd : drop ≤ n.log2 + 2
  · rw [Nat.min_eq_left hd]
    have : n / 2 ^ drop < 2 ^ k := by
      rw [Nat.div_lt_iff_lt_mul (Nat.two_pow_pos _), ← Nat.pow_add, Nat.add_comm k]; exact h
    simp
    omega
  · rw [Nat.min_eq_right (by omega)]
    have h1 : n < 2 ^ (n.log2 + 2) := Nat.lt_of_lt_of_le Nat.lt_log2_self (Nat.pow_le_pow_right (by decide) (by omega))
    rw [Nat.div_eq_of_lt h1]
    simp
theorem rootFrom_lt (n : Nat) : ∀ todo root : Nat, Datum.rootFrom n todo root < root + 2 ^ todo
  | 0, root => by simp [Datum.rootFrom]
  | todo + 1, root => by
    unfold Datum.rootFrom
    dsimp only
    have h1 := rootFrom_lt n todo (root + 1 <<< todo)
    have h2 := rootFrom_lt n todo root
    have h3 : (1 <<< todo : Nat) = 2 ^ todo := Nat.one_shiftLeft todo
    have h4 : 2 ^ (todo + 1) = 2 * 2 ^ todo := by rw [Nat.pow_succ]; omega
    rw [h3] at h1 ⊢
    split <;> omega
/-- what a small number's word is read as -/
theorem read_small {ρ : Nat} (h : ρ < 9218868437227405312) : double.read ρ = if ρ < 4503599627370496 then .number false ρ (-1074) else .number false (4503599627370496 + ρ % 4503599627370496) (-1074 + (ρ / 4503599627370496 - 1 : Nat)) := by
  unfold Format.read
  have e1 : double.signWeight = 9223372036854775808 := rfl
  have e2 : double.binade = 4503599627370496 := rfl
  have e3 : double.infRung = 9218868437227405312 := rfl
  have e4 : double.leastPlace = -1074 := by decide
  rw [e1, e2, e3, e4]
  have h1 : ρ % 9223372036854775808 = ρ := Nat.mod_eq_of_lt (by omega)
  have h2 : ρ / 9223372036854775808 = 0 := Nat.div_eq_of_lt (by omega)
  dsimp only
  rw [h1, h2]
  simp only [h, if_true]
  rfl
theorem log_shift {n k : Nat} (h : n ≠ 0) : (n <<< k).log2 = n.log2 + k := by
  rw [Nat.shiftLeft_eq]
  have h0 : n * 2 ^ k ≠ 0 := Nat.mul_ne_zero h (Nat.pos_iff_ne_zero.1 (Nat.two_pow_pos k))
  refine Nat.le_antisymm ?_ ?_
  · refine Nat.lt_succ_iff.1 ((Nat.log2_lt h0).2 ?_)
    rw [show (n.log2 + k).succ = (n.log2 + 1) + k from by omega, Nat.pow_add]
    exact Nat.mul_lt_mul_of_pos_right Nat.lt_log2_self (Nat.two_pow_pos k)
  · refine (Nat.le_log2 h0).2 ?_
    rw [Nat.pow_add]
    exact Nat.mul_le_mul_right _ (Nat.log2_self_le h)
theorem nearest_small {n : Nat} (h0 : n ≠ 0) (h : n < 9007199254740992) : double.read (double.nearest false n 0) = .number false (n <<< (52 - n.log2)) ((n.log2 : Int) - 52) := by
  have hL : n.log2 ≤ 52 := Nat.lt_succ_iff.1 ((Nat.log2_lt h0).2 h)
  have hK := log_shift (k := 52 - n.log2) h0
  rw [show n.log2 + (52 - n.log2) = 52 from by omega] at hK
  have hK0 : n <<< (52 - n.log2) ≠ 0 := by rw [Nat.shiftLeft_eq]; exact Nat.mul_ne_zero h0 (Nat.pos_iff_ne_zero.1 (Nat.two_pow_pos _))
  have k1 := Nat.log2_self_le hK0
  have k2 := Nat.lt_log2_self (n := n <<< (52 - n.log2))
  rw [hK] at k1 k2
  generalize hk : n <<< (52 - n.log2) = K at *
  have e : double.nearest false n 0 = (n.log2 + 1022) * 4503599627370496 + K := by
    unfold Format.nearest
    have e2 : double.binade = 4503599627370496 := rfl
    have e3 : double.infRung = 9218868437227405312 := rfl
    have e4 : double.leastPlace = -1074 := by decide
    have e5 : double.fractionBits = 52 := rfl
    rw [if_neg h0, e2, e3, e4, e5]
    dsimp only
    have m1 : max ((0 : Int) + (n.log2 : Int) - ((52 : Nat) : Int)) (-1074) = (n.log2 : Int) - 52 := by omega
    rw [m1]
    have m2 : ((0 : Int) - ((n.log2 : Int) - 52)).toNat = 52 - n.log2 := by omega
    have m3 : ((n.log2 : Int) - 52 - 0).toNat = 0 := by omega
    have m4 : ((n.log2 : Int) - 52 - -1074).toNat = n.log2 + 1022 := by omega
    rw [m2, m3, hk, cut0, m4, Nat.min_eq_left (by omega)]
    rfl
  rw [e, read_small (by omega), if_neg (by omega)]
  have d1 : ((n.log2 + 1022) * 4503599627370496 + K) % 4503599627370496 = K - 4503599627370496 := by omega
  have d2 : ((n.log2 + 1022) * 4503599627370496 + K) / 4503599627370496 = n.log2 + 1023 := by omega
  rw [d1, d2, show 4503599627370496 + (K - 4503599627370496) = K from by omega, show -1074 + ((n.log2 + 1023 - 1 : Nat) : Int) = (n.log2 : Int) - 52 from by omega]
theorem int_fin {m : Nat} {i : Int} (hm : m < 2 ^ 53) (hi : i ≤ -30) : ∃ R : Int, (Datum.number false m i).toInt .zero = some R ∧ 0 ≤ R ∧ R ≤ 8388608 := by
  have hz : i.toNat = 0 := by omega
  have h1 := cutz_le (neg := false) (n := m) (drop := (-i).toNat) (k := 23) (Nat.lt_of_lt_of_le hm (Nat.pow_le_pow_right (by decide) (by omega)))
  rw [show (2 : Nat) ^ 23 = 8388608 from rfl] at h1
  refine ⟨(Toward.zero.cut false m (-i).toNat : Nat), ?_, by omega, by omega⟩
  unfold Datum.toInt Datum.integral
  dsimp only
  rw [hz, Nat.shiftLeft_zero]
  simp [signed]
theorem int_word {ρ : Nat} (hρ : ρ ≤ 4706261610602168320) : ∃ R : Int, (double.read ρ).toInt .zero = some R ∧ 0 ≤ R ∧ R ≤ 8388608 := by
  have hmd := Nat.mod_lt ρ (show 0 < 4503599627370496 from by decide)
  rw [read_small (by omega)]
  have e53 : (9007199254740992 : Nat) = 2 ^ 53 := rfl
  by_cases hs : ρ < 4503599627370496
  · rw [if_pos hs]
    exact int_fin (by rw [← e53]; omega) (by omega)
  · rw [if_neg hs]
    exact int_fin (by rw [← e53]; omega) (by omega)
theorem kept_le {mag : Nat} {place : Int} : Toward.even.cut false (mag <<< (place - (place + mag.log2 - 52)).toNat) (place + mag.log2 - 52 - place).toNat ≤ 2 ^ 53 := by
  refine cut_le ?_
  have h3 := Nat.lt_log2_self (n := mag)
  rw [Nat.shiftLeft_eq]
  rcases Nat.lt_or_ge mag.log2 53 with q | q
  · have z1 : (place - (place + mag.log2 - 52)).toNat = 52 - mag.log2 := by omega
    have z2 : (place + mag.log2 - 52 - place).toNat = 0 := by omega
    have h4 := Nat.mul_lt_mul_of_pos_right h3 (Nat.two_pow_pos (52 - mag.log2))
    rw [← Nat.pow_add, show mag.log2 + 1 + (52 - mag.log2) = 53 from by omega] at h4
    rw [z1, z2, Nat.zero_add]
    exact h4
  · have z1 : (place - (place + mag.log2 - 52)).toNat = 0 := by omega
    have z2 : (place + mag.log2 - 52 - place).toNat = mag.log2 - 52 := by omega
    rw [z1, z2, Nat.pow_zero, Nat.mul_one, show mag.log2 - 52 + 53 = mag.log2 + 1 from by omega]
    exact h3
theorem near_word {mag : Nat} {place : Int} (h : mag < 2 ^ 56) (h1 : -200 ≤ place) (h2 : place ≤ -34) : double.nearest false mag place ≤ 4706261610602168320 := by
  unfold Format.nearest
  have e2 : double.binade = 4503599627370496 := rfl
  have e4 : double.leastPlace = -1074 := by decide
  have e5 : double.fractionBits = 52 := rfl
  have w0 : ∀ x, double.word false x = x := fun x => rfl
  by_cases h0 : mag = 0
  · rw [if_pos h0, w0]; omega
  rw [if_neg h0, e2, e4, e5, w0]
  have hl : mag.log2 ≤ 55 := Nat.lt_succ_iff.1 ((Nat.log2_lt h0).2 h)
  have m1 : max (place + (mag.log2 : Int) - ((52 : Nat) : Int)) (-1074) = place + mag.log2 - 52 := by omega
  rw [m1]
  refine Nat.le_trans (Nat.min_le_left _ _) ?_
  have hc := kept_le (mag := mag) (place := place)
  rw [show (2 : Nat) ^ 53 = 9007199254740992 from rfl] at hc
  have hb : (place + mag.log2 - 52 - -1074).toNat ≤ 1043 := by omega
  have hb2 := Nat.mul_le_mul_right 4503599627370496 hb
  exact Nat.le_trans (Nat.add_le_add hb2 hc) (by decide)
/-- what a number that is no more than a bound is rounded to, cut -/
theorem int_small {mag : Nat} {place : Int} (h : mag < 2 ^ 56) (h1 : -200 ≤ place) (h2 : place ≤ -34) :
    ∃ R : Int, (double.read (double.nearest false mag place)).toInt .zero = some R ∧ 0 ≤ R ∧ R ≤ 8388608 := int_word (near_word h h1 h2)
theorem sqrt_small {n : Nat} (h : n < 8796093022208) : ∃ r : Nat, double.sqrt (double.nearest false n 0) = some r ∧ ∃ R : Int, (double.read r).toInt .zero = some R ∧ 0 ≤ R ∧ R ≤ 8388608 := by
  by_cases h0 : n = 0
  · subst h0
    exact ⟨_, rfl, _, rfl, by decide, by decide⟩
  have hL : n.log2 ≤ 42 := Nat.lt_succ_iff.1 ((Nat.log2_lt h0).2 h)
  have hK := log_shift (k := 52 - n.log2) h0
  rw [show n.log2 + (52 - n.log2) = 52 from by omega] at hK
  have hK0 : n <<< (52 - n.log2) ≠ 0 := by rw [Nat.shiftLeft_eq]; exact Nat.mul_ne_zero h0 (Nat.pos_iff_ne_zero.1 (Nat.two_pow_pos _))
  unfold Format.sqrt
  rw [nearest_small h0 (by omega)]
  generalize n <<< (52 - n.log2) = K at *
  generalize hn : n.log2 = l at *
  unfold Datum.root
  dsimp only
  have e5 : double.fractionBits = 52 := rfl
  rw [if_neg hK0, e5, hK]
  simp only [Bool.false_eq_true, if_false, Option.map_some]
  refine ⟨_, rfl, ?_⟩
  have hr : (((l : Int) - 52 - ((2 * (52 + 2) - 52 : Nat) : Int)) % 2).toNat ≤ 1 := by omega
  generalize hmm : (((l : Int) - 52 - ((2 * (52 + 2) - 52 : Nat) : Int)) % 2).toNat = b at *
  unfold Format.write
  dsimp only
  refine int_small ?_ ?_ ?_
  · have hx := rootFrom_lt (K <<< (2 * (52 + 2) - 52 + b)) ((K <<< (2 * (52 + 2) - 52 + b)).log2 / 2 + 1) 0
    have hy : (K <<< (2 * (52 + 2) - 52 + b)).log2 / 2 + 1 ≤ 55 := by rw [log_shift hK0]; omega
    have hz := Nat.pow_le_pow_right (n := 2) (by decide) hy
    have hb : ∀ c : Bool, c.toNat ≤ 1 := fun c => by cases c <;> decide
    rw [show (2 : Nat) ^ 55 = 36028797018963968 from rfl] at hz
    rw [show (2 : Nat) ^ 56 = 72057594037927936 from rfl]
    have := hb (Datum.rootFrom (K <<< (2 * (52 + 2) - 52 + b)) ((K <<< (2 * (52 + 2) - 52 + b)).log2 / 2 + 1) 0 * Datum.rootFrom (K <<< (2 * (52 + 2) - 52 + b)) ((K <<< (2 * (52 + 2) - 52 + b)).log2 / 2 + 1) 0 != K <<< (2 * (52 + 2) - 52 + b))
    omega
  · omega
  · omega
end M
/-- the same for the program's words -/
theorem sqrt_words {n : Int} (h0 : 0 ≤ n) (h : n ≤ 8000000000000) : ∃ r : Nat, FloatKind.f64.format.sqrt (FloatKind.f64.nearest n) = some r ∧ ∃ R : Int, floatToIntVal .f64 r .i64 = some R ∧ 0 ≤ R ∧ R ≤ 8388608 := by
  obtain ⟨r, h1, R, h2, h3, h4⟩ := M.sqrt_small (n := n.natAbs) (by omega)
  refine ⟨r, ?_, R, ?_, h3, h4⟩
  · have e : FloatKind.f64.nearest n = Ieee.double.nearest false n.natAbs 0 := by
      unfold FloatKind.nearest FloatKind.encode Ieee.Format.write
      dsimp only
      rw [show decide (n < 0) = false from by simp; omega]
      rfl
    rw [e]
    exact h1
  · unfold floatToIntVal
    rw [show (FloatKind.f64.decode r).toInt .zero = some R from h2]
    dsimp only
    rw [if_pos]
    have a1 : IntKind.i64.min = -9223372036854775808 := by decide
    have a2 : IntKind.i64.max = 9223372036854775807 := by decide
    omega
end Go.Proofs.YtmipenpeebmjkaaGreat

namespace Go.Proofs.YtmipenpeebmjkaaGreat
set_option linter.unusedSimpArgs false
set_option linter.unusedVariables false
namespace M

/-- a number of Go's int -/
def I64 (a : Int) : Prop := -9223372036854775808 ≤ a ∧ a ≤ 9223372036854775807

/-- a value, or nothing -/
def pick (ok : Bool) (x : Int) : Int := if ok then x else 0
theorem pick_t (x : Int) : pick true x = x := rfl
theorem pick_f (x : Int) : pick false x = 0 := rfl

/-- a number lies in a range -/
def ins (n lo hi : Int) : Bool := decide (lo ≤ n ∧ n ≤ hi)
theorem ins_iff {n lo hi : Int} : ins n lo hi = true ↔ lo ≤ n ∧ n ≤ hi := by simp [ins]
theorem ins_not {n lo hi : Int} : ins n lo hi = false ↔ ¬ (lo ≤ n ∧ n ≤ hi) := by simp [ins]
theorem ins_t {n lo hi : Int} (h : ins n lo hi = true) : lo ≤ n ∧ n ≤ hi := ins_iff.1 h

/-- a product's bounds -/
theorem mul_bd {x y m n : Int} (h1 : -m ≤ x) (h2 : x ≤ m) (h3 : -n ≤ y) (h4 : y ≤ n) : -(m * n) ≤ x * y ∧ x * y ≤ m * n := by
  have a1 : 0 ≤ (m - x) * (n - y) := Int.mul_nonneg (by omega) (by omega)
  have a2 : 0 ≤ (m + x) * (n + y) := Int.mul_nonneg (by omega) (by omega)
  have a3 : 0 ≤ (m - x) * (n + y) := Int.mul_nonneg (by omega) (by omega)
  have a4 : 0 ≤ (m + x) * (n - y) := Int.mul_nonneg (by omega) (by omega)
  simp only [Int.sub_mul, Int.mul_sub, Int.add_mul, Int.mul_add] at a1 a2 a3 a4
  constructor <;> omega

theorem sq_bd {x m : Int} (h1 : -m ≤ x) (h2 : x ≤ m) : 0 ≤ x * x ∧ x * x ≤ m * m := by
  have := (mul_bd h1 h2 h1 h2).2
  refine ⟨?_, this⟩
  rcases Int.le_total 0 x with h | h
  · exact Int.mul_nonneg h h
  · exact Int.mul_nonneg_of_nonpos_of_nonpos h h

theorem mul_nn {x y m n : Int} (h1 : 0 ≤ x) (h2 : x ≤ m) (h3 : 0 ≤ y) (h4 : y ≤ n) : 0 ≤ x * y ∧ x * y ≤ m * n :=
  ⟨Int.mul_nonneg h1 h3, (mul_bd (m := m) (n := n) (by omega) h2 (by omega) h4).2⟩

/-- prime numbers, by trial -/
def Prime (n : Int) : Prop := 2 ≤ n ∧ ∀ d : Int, 2 ≤ d → d * d ≤ n → ¬ n % d = 0
open Classical in
noncomputable def prime (n : Int) : Bool := decide (Prime n)
theorem prime_iff {n : Int} : prime n = true ↔ Prime n := by simp [prime]
theorem prime_not {n : Int} : prime n = false ↔ ¬ Prime n := by simp [prime]
/-- the loop's two exits -/
theorem prime_no {n k : Int} (hk : 2 ≤ k) (hs : k * k ≤ n) (hd : n % k = 0) : prime n = false :=
  prime_not.2 fun h => h.2 k hk hs hd
theorem prime_yes {n k : Int} (hn : 2 ≤ n) (hk : 2 ≤ k) (hs : n < k * k) (h : ∀ e : Int, 2 ≤ e → e < k → ¬ n % e = 0) : prime n = true := by
  refine prime_iff.2 ⟨hn, fun d hd hdn => ?_⟩
  refine h d hd ?_
  rcases Int.lt_or_le d k with q | q
  · exact q
  · have : k * k ≤ d * d := Int.mul_le_mul q q (by omega) (by omega)
    omega

/-- a loop that squares its counter stops by its bound -/
theorem sq_lt {k m : Int} (hm : 0 ≤ m) (h : k * k < m * m) : k < m := by
  rcases Int.lt_or_le k m with q | q
  · exact q
  · have : m * m ≤ k * k := Int.mul_le_mul q q (by omega) (by omega)
    omega

/-- the greatest integer whose square is not greater -/
def Root (n r : Int) : Prop := 0 ≤ r ∧ r * r ≤ n ∧ n < (r + 1) * (r + 1)
theorem Root.uniq {n r s : Int} (h : Root n r) (k : Root n s) : r = s := by
  obtain ⟨a, b, c⟩ := h
  obtain ⟨d, e, f⟩ := k
  rcases Int.lt_trichotomy r s with q | q | q
  · have : (r + 1) * (r + 1) ≤ s * s := Int.mul_le_mul (by omega) (by omega) (by omega) (by omega)
    omega
  · exact q
  · have : (s + 1) * (s + 1) ≤ r * r := Int.mul_le_mul (by omega) (by omega) (by omega) (by omega)
    omega
theorem root_ex (n : Nat) : ∃ r : Nat, r * r ≤ n ∧ n < (r + 1) * (r + 1) := by
  induction n with
  | zero => exact ⟨0, by omega, by omega⟩
  | succ n ih =>
    obtain ⟨r, h1, h2⟩ := ih
    rcases Nat.lt_or_ge (n + 1) ((r + 1) * (r + 1)) with q | q
    · exact ⟨r, by omega, q⟩
    · refine ⟨r + 1, q, ?_⟩
      have : (r + 1 + 1) * (r + 1 + 1) = (r + 1) * (r + 1) + 2 * r + 3 := by simp only [Nat.add_mul, Nat.mul_add]; omega
      omega
open Classical in
/-- the root as a function -/
noncomputable def root (n : Int) : Int := if h : 0 ≤ n then ((root_ex n.toNat).choose : Int) else 0
theorem root_spec {n : Int} (h : 0 ≤ n) : Root n (root n) := by
  obtain ⟨a, b⟩ := (root_ex n.toNat).choose_spec
  unfold root
  rw [dif_pos h]
  refine ⟨by omega, ?_, ?_⟩
  · have := Int.ofNat_le.2 a; push_cast at this; omega
  · have := Int.ofNat_lt.2 b; push_cast at this; omega
theorem root_eq {n r : Int} (h : Root n r) : r = root n := by
  have : 0 ≤ r * r := Int.mul_nonneg h.1 h.1
  exact h.uniq (root_spec (by have := h.2.1; omega))
/-- x^3 + A x + B, the discriminant, valid curves -/
def val (a b x : Int) : Int := x * x * x + a * x + b
def disc (a b : Int) : Int := 4 * a * a * a + 27 * b * b
def inCurve (a b : Int) : Bool := ins a (-1000) 1000 && ins b (-10000) 10000
def good (a b : Int) : Bool := inCurve a b && (disc a b != 0)
theorem inCurve_bd {a b : Int} (h : inCurve a b = true) : -1000 ≤ a ∧ a ≤ 1000 ∧ -10000 ≤ b ∧ b ≤ 10000 := by
  simp only [inCurve, Bool.and_eq_true, ins_iff] at h
  omega
theorem good_in {a b : Int} (h : good a b = true) : inCurve a b = true := by
  simp only [good, Bool.and_eq_true] at h
  exact h.1
theorem good_disc {a b : Int} (h : good a b = true) : disc a b ≠ 0 := by
  simp only [good, Bool.and_eq_true, bne_iff_ne] at h
  exact h.2

/-- the numbers from lo on -/
def upto (lo : Int) (k : Nat) : List Int := (List.range k).map fun i : Nat => lo + (i : Int)
theorem upto_succ (lo : Int) (k : Nat) : upto lo (k + 1) = upto lo k ++ [lo + (k : Int)] := by
  simp [upto, List.range_succ]
theorem upto_zero (lo : Int) : upto lo 0 = [] := rfl
theorem mem_upto {lo x : Int} {k : Nat} : x ∈ upto lo k ↔ lo ≤ x ∧ x < lo + k := by
  simp only [upto, List.mem_map, List.mem_range]
  constructor
  · rintro ⟨i, h, rfl⟩
    omega
  · intro h
    exact ⟨(x - lo).toNat, by omega, by omega⟩
/-- those that pass a test -/
def sel (p : Int → Bool) (lo : Int) (k : Nat) : List Int := (upto lo k).filter p
theorem sel_zero (p : Int → Bool) (lo : Int) : sel p lo 0 = [] := rfl
theorem sel_yes {p : Int → Bool} {lo : Int} {k : Nat} (h : p (lo + k) = true) : sel p lo (k + 1) = sel p lo k ++ [lo + (k : Int)] := by
  simp [sel, upto_succ, h]
theorem sel_no {p : Int → Bool} {lo : Int} {k : Nat} (h : p (lo + k) = false) : sel p lo (k + 1) = sel p lo k := by
  simp [sel, upto_succ, h]
theorem sel_le (p : Int → Bool) (lo : Int) (k : Nat) : (sel p lo k).length ≤ k := by
  have := List.length_filter_le p (upto lo k)
  simpa [sel, upto] using this
theorem mem_sel {p : Int → Bool} {lo x : Int} {k : Nat} : x ∈ sel p lo k ↔ (lo ≤ x ∧ x < lo + k) ∧ p x = true := by
  simp [sel, mem_upto]

/-- integer roots -/
def root3 (a b x : Int) : Bool := val a b x == 0
def roots (a b : Int) : List Int := sel (root3 a b) (-100) 201
/-- powers modulo p -/
def powm (a n p : Int) : Int := a ^ n.toNat % p
theorem mod_bd {a p : Int} (hp : 1 ≤ p) : 0 ≤ a % p ∧ a % p < p := ⟨Int.emod_nonneg _ (by omega), Int.emod_lt_of_pos _ (by omega)⟩
theorem powm_bd {a n p : Int} (hp : 1 ≤ p) : 0 ≤ powm a n p ∧ powm a n p < p := mod_bd hp
theorem mulmod (a b p : Int) : a % p * (b % p) % p = a * b % p := (Int.mul_emod a b p).symm
theorem mul_mod_left (a b p : Int) : a % p * b % p = a * b % p := by rw [Int.mul_emod, Int.emod_emod, ← Int.mul_emod]
theorem pow_mod_base (a p : Int) : ∀ n : Nat, (a % p) ^ n % p = a ^ n % p
  | 0 => by simp
  | n + 1 => by rw [Int.pow_succ, Int.pow_succ, Int.mul_emod, pow_mod_base a p n, Int.emod_emod, ← Int.mul_emod]
/-- the loop's relation: out times base to the rest -/
theorem pow_step_odd {out base n p r : Int} (hn : 0 < n) (ho : n % 2 = 1) (h : out * base ^ n.toNat % p = r) :
    (out * base % p) * (base * base % p) ^ (n / 2).toNat % p = r := by
  rw [Int.mul_emod, Int.emod_emod, pow_mod_base, ← Int.mul_emod, ← h]
  have e : n.toNat = 2 * (n / 2).toNat + 1 := by omega
  rw [e, Int.pow_succ, Int.pow_mul]
  congr 1
  rw [show base ^ 2 = base * base from by rw [Int.pow_succ, Int.pow_succ, Int.pow_zero, Int.one_mul]]
  rw [Int.mul_assoc, Int.mul_comm base]
theorem pow_step_even {out base n p r : Int} (hn : 0 < n) (ho : ¬ n % 2 = 1) (h : out * base ^ n.toNat % p = r) :
    out * (base * base % p) ^ (n / 2).toNat % p = r := by
  rw [Int.mul_emod, pow_mod_base, ← Int.mul_emod, ← h]
  have e : n.toNat = 2 * (n / 2).toNat := by omega
  rw [e, Int.pow_mul]
  rw [show base ^ 2 = base * base from by rw [Int.pow_succ, Int.pow_succ, Int.pow_zero, Int.one_mul]]
theorem tmod_bd {a m : Int} (hm : 1 ≤ m) : -m < a.tmod m ∧ a.tmod m < m := by
  have h := Int.natAbs_tmod a m
  have : (a.tmod m).natAbs < m.natAbs := by rw [h]; exact Nat.mod_lt _ (by omega)
  omega
theorem tmod_fix {a m : Int} : (a.tmod m + m) % m = a % m := by
  rw [Int.add_emod_right]
  have := Int.tmod_add_mul_tdiv a m
  rw [show a.tmod m = a - m * (a.tdiv m) from by omega, Int.sub_mul_emod_self_left]
theorem tmod_emod {a m : Int} : a.tmod m % m = a % m := by
  have := Int.tmod_add_mul_tdiv a m
  rw [show a.tmod m = a - m * (a.tdiv m) from by omega, Int.sub_mul_emod_self_left]
/-- 0, 1 or -1 -/
def symb (a p : Int) : Int := if powm a ((p - 1) / 2) p = 0 then 0 else if powm a ((p - 1) / 2) p = 1 then 1 else -1
theorem symb_bd (a p : Int) : -1 ≤ symb a p ∧ symb a p ≤ 1 := by
  unfold symb
  split
  · omega
  · split <;> omega
theorem symb0 {a p : Int} (h : powm a ((p - 1) / 2) p = 0) : symb a p = 0 := by simp [symb, h]
theorem symb1 {a p : Int} (h : powm a ((p - 1) / 2) p = 1) : symb a p = 1 := by simp [symb, h]
theorem symbm {a p : Int} (h : ¬ powm a ((p - 1) / 2) p = 0) (k : ¬ powm a ((p - 1) / 2) p = 1) : symb a p = -1 := by simp [symb, h, k]
/-- sums -/
def sumTo (f : Int → Int) : Nat → Int
  | 0 => 0
  | k + 1 => sumTo f k + f (k : Int)
theorem sumTo_bd {f : Int → Int} (h : ∀ x, -1 ≤ f x ∧ f x ≤ 1) : ∀ k : Nat, -(k : Int) ≤ sumTo f k ∧ sumTo f k ≤ k
  | 0 => by simp [sumTo]
  | k + 1 => by
    have := sumTo_bd h k
    have := h k
    simp only [sumTo]
    omega
def rhs (a b p x : Int) : Int := val a b x % p
def chi (a b p x : Int) : Int := symb (rhs a b p x) p
def count (a b p : Int) : Int := p + 1 + sumTo (chi a b p) p.toNat
theorem count_bd (a b : Int) {p : Int} (hp : 0 ≤ p) : 1 ≤ count a b p ∧ count a b p ≤ 2 * p + 1 := by
  have := sumTo_bd (f := chi a b p) (fun x => symb_bd _ _) p.toNat
  unfold count
  omega
def trace (a b p : Int) : Int := p + 1 - count a b p
theorem trace_bd (a b : Int) {p : Int} (hp : 0 ≤ p) : -p ≤ trace a b p ∧ trace a b p ≤ p := by
  have := count_bd a b hp
  unfold trace
  omega
theorem rhs_bd (a b x : Int) {p : Int} (hp : 1 ≤ p) : 0 ≤ rhs a b p x ∧ rhs a b p x < p := mod_bd hp
theorem rhs_alt (a b p x : Int) : (x * x % p * x + a * x + b) % p = rhs a b p x := by
  unfold rhs val
  rw [Int.add_assoc, Int.add_assoc, Int.add_emod, mul_mod_left, ← Int.add_emod]
/-- traces over larger fields: the one before, and this -/
def tpw (t p : Int) : Nat → Int × Int
  | 0 => (2, t)
  | k + 1 => ((tpw t p k).2, t * (tpw t p k).2 - p * (tpw t p k).1)
theorem tpw_bd {t p : Int} (h1 : -1000 ≤ t) (h2 : t ≤ 1000) (h3 : 0 ≤ p) (h4 : p ≤ 1000) : ∀ k : Nat,
    (-(1000 * 2000 ^ k) ≤ (tpw t p k).1 ∧ (tpw t p k).1 ≤ 1000 * 2000 ^ k) ∧ (-(1000 * 2000 ^ k) ≤ (tpw t p k).2 ∧ (tpw t p k).2 ≤ 1000 * 2000 ^ k)
  | 0 => by simp only [tpw, Int.pow_zero]; omega
  | k + 1 => by
    obtain ⟨⟨a, b⟩, c, d⟩ := tpw_bd h1 h2 h3 h4 k
    have e1 := mul_bd (x := t) (y := (tpw t p k).2) h1 h2 c d
    have e2 := mul_bd (x := p) (y := (tpw t p k).1) (m := 1000) (by omega) h4 a b
    simp only [tpw, Int.pow_succ]
    have : (0 : Int) < 2000 ^ k := Int.pow_pos (by decide)
    generalize (2000 : Int) ^ k = q at *
    omega
theorem tpw_bd4 {t p : Int} (h1 : -1000 ≤ t) (h2 : t ≤ 1000) (h3 : 0 ≤ p) (h4 : p ≤ 1000) {k : Nat} (hk : k ≤ 3) :
    -8000000000000 ≤ (tpw t p k).1 ∧ (tpw t p k).1 ≤ 8000000000000 ∧ -8000000000000 ≤ (tpw t p k).2 ∧ (tpw t p k).2 ≤ 8000000000000 := by
  obtain ⟨⟨a, b⟩, c, d⟩ := tpw_bd h1 h2 h3 h4 k
  have e : (2000 : Int) ^ k ≤ 8000000000 := by
    rcases (show k = 0 ∨ k = 1 ∨ k = 2 ∨ k = 3 by omega) with rfl | rfl | rfl | rfl <;> decide
  omega
/-- good primes, of a curve in range -/
noncomputable def goodp (a b p : Int) : Bool := ins p 5 997 && prime p && decide (¬ disc a b % p = 0)
theorem goodp_bd {a b p : Int} (h : goodp a b p = true) : 5 ≤ p ∧ p ≤ 997 ∧ prime p = true := by
  simp only [goodp, Bool.and_eq_true, ins_iff] at h
  exact ⟨h.1.1.1, h.1.1.2, h.1.2⟩
/-- greatest common divisors -/
def gcd (a b : Int) : Int := Int.gcd a b
theorem gcd_step (a b : Int) : Int.gcd b (a.tmod b) = Int.gcd a b := by
  rw [Int.gcd_comm a b]
  simp only [Int.gcd, Int.natAbs_tmod]
  exact (Nat.gcd_rec b.natAbs a.natAbs ▸ Nat.gcd_comm _ _)
end M
end Go.Proofs.YtmipenpeebmjkaaGreat

namespace Go.Proofs.YtmipenpeebmjkaaGreat
set_option linter.unusedSimpArgs false
set_option linter.unusedVariables false
open Go.RowKit

theorem ret_i {a b : Int} (h : a = b) : Ending.returned (.int .i64 a) = .returned (.int .i64 b) := by rw [h]
theorem ret_b {a b : Bool} (h : a = b) : Ending.returned (.bool a) = .returned (.bool b) := by rw [h]

theorem l1In_c (n lo hi : Int) (w : World) :
    Calls Tryz.prog 44 #[.int .i64 n, .int .i64 lo, .int .i64 hi] w fun e w' => e = .returned (.bool (M.ins n lo hi)) ∧ w = w' := by
  unfold M.ins
  by_cases h1 : lo ≤ n <;> by_cases h2 : n ≤ hi <;>
  (go_enter Tryz.func44, Tryz.ntmps44
   go_wp2
   go_ret; exact ⟨by simp [h1, h2], rfl⟩)

theorem inside_c (n lo hi : Int) (w : World) :
    Calls Tryz.prog 30 #[.int .i64 n, .int .i64 lo, .int .i64 hi] w fun e w' => e = .returned (.bool (M.ins n lo hi)) ∧ w = w' := by
  unfold M.ins
  by_cases h1 : lo ≤ n <;> by_cases h2 : n ≤ hi <;>
  (go_enter Tryz.func30, Tryz.ntmps30
   go_wp2
   go_ret; exact ⟨by simp [h1, h2], rfl⟩)

end Go.Proofs.YtmipenpeebmjkaaGreat

namespace Go.Proofs.YtmipenpeebmjkaaGreat
set_option linter.unusedSimpArgs false
set_option linter.unusedVariables false
open Go.RowKit
/-- whether a number is a square -/
noncomputable def M.isSq (n : Int) : Bool := decide (0 ≤ n) && (M.root n * M.root n == n)
theorem M.isSq_yes {n r : Int} (h : r * r = n) : M.isSq n = true := by
  have h0 : 0 ≤ n := by
    rw [← h]
    rcases Int.le_total 0 r with q | q
    · exact Int.mul_nonneg q q
    · exact Int.mul_nonneg_of_nonpos_of_nonpos q q
  have hr := M.root_eq (n := n) (r := (r.natAbs : Int)) ⟨by omega, by rw [← h]; exact Int.le_of_eq (Int.natAbs_mul_self' r), by
    have : (r.natAbs : Int) * (r.natAbs : Int) = r * r := Int.natAbs_mul_self' r
    rw [← h, ← this, Int.mul_add, Int.add_mul]
    omega⟩
  unfold M.isSq
  rw [← hr, Int.natAbs_mul_self', h]
  simp [h0]
theorem M.isSq_no {n r : Int} (h0 : 0 ≤ r) (h1 : r * r < n) (h2 : n < (r + 1) * (r + 1)) : M.isSq n = false := by
  have h3 : 0 ≤ r * r := Int.mul_nonneg h0 h0
  have hr := M.root_eq (n := n) (r := r) ⟨h0, by omega, h2⟩
  unfold M.isSq
  rw [← hr, show (r * r == n) = false from by simp; omega]
  simp
theorem M.isSq_neg {n : Int} (h : n < 0) : M.isSq n = false := by
  unfold M.isSq
  rw [show decide (0 ≤ n) = false from by simp; omega]
  rfl

theorem sqrt_call (x r : Nat) (h : FloatKind.f64.format.sqrt x = some r) (W : World) : (callFunc 127 #[.float .f64 x]).run Tryz.prog W = .ok (.value (.float .f64 r)) W := by
  rw [run_callFunc_extern Tryz.func127 (by kernel_rfl) (by kernel_rfl) (by kernel_rfl) (e := Extern.MathSqrt.sqrt) (by kernel_rfl)]
  have e : (Extern.MathSqrt.sqrt #[.float .f64 x]).run Tryz.prog W = .ok (.float .f64 r) W := by
    change Sem.run Tryz.prog (match FloatKind.f64.format.sqrt x with
      | some r => pure (Value.float .f64 r)
      | none => do pure (Value.float .f64 (← choose (.nanBits .f64 x x)))) W = _
    rw [h]
    rfl
  rw [e]
  rfl
theorem Sqrt_c (x r : Nat) (h : FloatKind.f64.format.sqrt x = some r) (w : World) :
    Calls Tryz.prog 114 #[.float .f64 x] w fun e w' => e = .returned (.float .f64 r) ∧ w = w' := by
  have hd := sqrt_call x r h
  go_enter Tryz.func114, Tryz.ntmps114
  go_wp2
  go_ret
  exact ⟨rfl, rfl⟩
set_option maxHeartbeats 1000000 in
theorem exactRoot_c (n : Int) (w : World) (h1 : n ≤ 8000000000000) :
    Calls Tryz.prog 93 #[.int .i64 n] w fun e w' => ∃ r : Int, e = .returned (.tuple #[.int .i64 r, .bool (M.isSq n)]) ∧ w = w' := by
  by_cases h0 : n < 0
  · have hz := M.isSq_neg h0
    go_enter Tryz.func93, Tryz.ntmps93
    go_wp2
    go_ret2
    exact ⟨0, by simp [hz], rfl⟩
  obtain ⟨r, hs, R, hR, R0, R1⟩ := sqrt_words (n := n) (by omega) h1
  have hc := fun W => run_convert_float_int (P := Tryz.prog) W 97 3 .f64 .i64 r R (by kernel_rfl) (by kernel_rfl) hR
  have hs' : FloatKind.f64.format.sqrt (floatOfInt .f64 n) = some r := hs
  have hcall := fun W => Sqrt_c (floatOfInt .f64 n) r hs' W
  clear hs hs' hR
  have HH := Lib.hid hcall
  clear hcall
  go_enter Tryz.func93, Tryz.ntmps93
  go_wp2_with (go_at_call 114; refine (HH.out _).mono ?_; rintro e w' ⟨rfl, rfl⟩)
  go_loop [4] (fun vr => ∃ a : Int, vr = .int .i64 a ∧ 0 ≤ a ∧ a ≤ 8388608) (fun vr => (intOf vr).toNat)
  case atStart => exact ⟨R, rfl, R0, R1⟩
  case round =>
    obtain ⟨a, rfl, a0, a1⟩ := hrel
    have hb := M.mul_nn (x := a) (y := a) (m := 8388608) (n := 8388608) a0 a1 a0 a1
    by_cases c : n < a * a
    · have ha : 1 ≤ a := by
        rcases Int.lt_or_le a 1 with q | q
        · obtain rfl : a = 0 := by omega
          simp at c
          omega
        · exact q
      go_wp2
      go_round
      case rel => exact ⟨a - 1, rfl, by omega, by omega⟩
      case measure => simp [intOf]; omega
    · clear HH hc
      go_wp2
      go_loop [4] (fun vr => ∃ a : Int, vr = .int .i64 a ∧ 0 ≤ a ∧ a ≤ 8388608 ∧ a * a ≤ n) (fun vr => (8388608 - intOf vr).toNat)
      case atStart => exact ⟨a, rfl, a0, a1, by omega⟩
      case round =>
        obtain ⟨b, rfl, b0, b1, b2⟩ := hrel
        have hbb := M.mul_nn (x := b + 1) (y := b + 1) (m := 8388609) (n := 8388609) (by omega) (by omega) (by omega) (by omega)
        have hb3 := M.mul_nn (x := b) (y := b) (m := 8388608) (n := 8388608) b0 b1 b0 b1
        by_cases d : (b + 1) * (b + 1) ≤ n
        · have hlt : b + 1 < 8388608 := by
            rcases Int.lt_or_le (b + 1) 8388608 with q | q
            · exact q
            · have := Int.mul_le_mul q q (by omega) (by omega)
              omega
          go_wp2
          go_round
          case rel => exact ⟨b + 1, rfl, by omega, by omega, d⟩
          case measure => simp [intOf]; omega
        · by_cases f : b * b = n
          · have hz := M.isSq_yes f
            go_wp2
            go_ret2
            first | exact ⟨b, by simp [hz], rfl⟩ | exact hz | exact ⟨b, rfl, hz⟩ | simp [hz]
          · have hz := M.isSq_no (n := n) b0 (by omega) (by omega)
            go_wp2
            go_ret2
            first | exact ⟨0, by simp [hz], rfl⟩ | exact hz | simp [hz]
theorem seRoot_c (n : Int) (w : World) (h1 : n ≤ 8000000000000) :
    Calls Tryz.prog 87 #[.int .i64 n] w fun e w' => ∃ r : Int, e = .returned (.int .i64 r) ∧ decide (0 ≤ r) = M.isSq n ∧ w = w' := by
  by_cases h0 : n < 0
  · have hz := M.isSq_neg h0
    go_enter Tryz.func87, Tryz.ntmps87
    go_wp2
    go_ret
    exact ⟨-1, rfl, by rw [hz]; rfl, rfl⟩
  go_enter Tryz.func87, Tryz.ntmps87
  go_wp2
  go_loop [3, 4] (fun l h => ∃ a b : Int, 0 ≤ a ∧ a ≤ b ∧ b ≤ 4000000 ∧ l = .int .i64 a ∧ h = .int .i64 b ∧ a * a ≤ n ∧ n < (b + 1) * (b + 1)) (fun l h => (intOf h - intOf l).toNat)
  case atStart => exact ⟨0, 4000000, by omega, by omega, by omega, rfl, rfl, by simp; omega, by simp; omega⟩
  case round =>
    obtain ⟨a, b, ha, hab, hb, rfl, rfl, ha2, hb2⟩ := hrel
    have hb3 := M.mul_nn (x := a) (y := a) (m := 4000000) (n := 4000000) ha (by omega) ha (by omega)
    by_cases c1 : a < b
    · have hm1 : a < (a + b + 1) / 2 := by omega
      have hm2 : (a + b + 1) / 2 ≤ b := by omega
      have hbm := M.mul_nn (x := (a + b + 1) / 2) (y := (a + b + 1) / 2) (m := 4000000) (n := 4000000) (by omega) (by omega) (by omega) (by omega)
      by_cases c2 : (a + b + 1) / 2 * ((a + b + 1) / 2) ≤ n
      · go_wp2
        go_round
        case rel => exact ⟨(a + b + 1) / 2, b, by omega, by omega, by omega, rfl, rfl, c2, hb2⟩
        case measure => simp [intOf]; omega
      · go_wp2
        go_round
        case rel => exact ⟨a, (a + b + 1) / 2 - 1, by omega, by omega, by omega, rfl, rfl, ha2, by rw [Int.sub_add_cancel]; omega⟩
        case measure => simp [intOf]; omega
    · obtain rfl : a = b := by omega
      by_cases f : a * a = n
      · have hz := M.isSq_yes f
        go_wp2
        go_ret
        first | exact ⟨a, rfl, by rw [hz]; simpa using ha, rfl⟩ | exact ⟨a, rfl, ha, rfl⟩ | exact ha
      · have hz := M.isSq_no (n := n) ha (by omega) hb2
        go_wp2
        go_ret
        first | exact ⟨-1, rfl, by rw [hz]; rfl, rfl⟩ | exact ⟨-1, rfl, by omega, rfl⟩ | omega
end Go.Proofs.YtmipenpeebmjkaaGreat

namespace Go.Proofs.YtmipenpeebmjkaaGreat
set_option linter.unusedSimpArgs false
set_option linter.unusedVariables false
namespace M
def allB (f : Nat → Bool) : Nat → Bool
  | 0 => true
  | n + 1 => f n && allB f n
theorem allB_at {f : Nat → Bool} : ∀ {n k : Nat}, allB f n = true → k < n → f k = true
  | n + 1, k, h, hk => by
    simp only [allB, Bool.and_eq_true] at h
    rcases Nat.lt_or_ge k n with q | q
    · exact allB_at h.2 q
    · obtain rfl : k = n := by omega
      exact h.1
def hasDiv (p : Nat) : Bool := !(allB (fun d => (Nat.blt d 2) || (Nat.blt p (d * d)) || !(Nat.beq (p % d) 0)) 32)
def eulAt (p x : Nat) : Bool := let t := x ^ ((p - 1) / 2) % p; Nat.beq t 0 || Nat.beq t 1 || Nat.beq t (p - 1)
def eulP (p : Nat) : Bool := Nat.blt p 3 || hasDiv p || allB (eulAt p) p
theorem eul_all : allB eulP 998 = true := by kernel_rfl
theorem hasDiv_not {p : Int} (hp : Prime p) : hasDiv p.toNat = false := by
  unfold hasDiv
  rw [Bool.not_eq_false']
  have key : ∀ n : Nat, allB (fun d => (Nat.blt d 2) || (Nat.blt p.toNat (d * d)) || !(Nat.beq (p.toNat % d) 0)) n = true := by
    intro n
    induction n with
    | zero => rfl
    | succ n ih =>
      simp only [allB, ih, Bool.and_true]
      cases h1 : Nat.blt n 2
      · cases h2 : Nat.blt p.toNat (n * n)
        · simp only [Bool.false_or, Bool.not_eq_true']
          have h1' : ¬ n < 2 := by
            intro h; rw [← Nat.blt_eq] at h; rw [h] at h1; cases h1
          have h2' : ¬ p.toNat < n * n := by
            intro h; rw [← Nat.blt_eq] at h; rw [h] at h2; cases h2
          have hp2 := hp.1
          have h3 := hp.2 (n : Int) (by omega) (by have : ((n * n : Nat) : Int) ≤ (p.toNat : Int) := Int.ofNat_le.2 (by omega); push_cast at this; omega)
          cases h4 : Nat.beq (p.toNat % n) 0
          · rfl
          · exfalso
            apply h3
            have := Nat.eq_of_beq_eq_true h4
            have e : p = ((p.toNat : Nat) : Int) := by omega
            rw [e]
            exact_mod_cast this
        · rfl
      · rfl
  exact key 32
theorem euler {p : Int} (hp : Prime p) (h1 : 3 ≤ p) (h2 : p ≤ 997) (a : Int) : powm a ((p - 1) / 2) p = 0 ∨ powm a ((p - 1) / 2) p = 1 ∨ powm a ((p - 1) / 2) p = p - 1 := by
  have hx := mod_bd (a := a) (p := p) (by omega)
  have h := allB_at eul_all (k := p.toNat) (by omega)
  unfold eulP at h
  rw [hasDiv_not hp] at h
  have h3 : Nat.blt p.toNat 3 = false := by
    cases h3 : Nat.blt p.toNat 3
    · rfl
    · rw [Nat.blt_eq] at h3; omega
  rw [h3] at h
  have h := allB_at h (k := (a % p).toNat) (by omega)
  have e : powm a ((p - 1) / 2) p = (((a % p).toNat ^ ((p.toNat - 1) / 2) % p.toNat : Nat) : Int) := by
    unfold powm
    rw [← pow_mod_base]
    push_cast
    rw [Int.toNat_of_nonneg hx.1, Int.toNat_of_nonneg (a := p) (by omega)]
    congr 2
    omega
  rw [e]
  simp only [eulAt, Bool.or_eq_true] at h
  rcases h with (h | h) | h
  · have := Nat.eq_of_beq_eq_true h; omega
  · have := Nat.eq_of_beq_eq_true h; omega
  · have := Nat.eq_of_beq_eq_true h; omega
/-- the other way to say the symbol -/
theorem symb_alt {p : Int} (hp : Prime p) (h1 : 3 ≤ p) (h2 : p ≤ 997) (a : Int) : symb a p = if powm a ((p - 1) / 2) p = p - 1 then -1 else powm a ((p - 1) / 2) p := by
  unfold symb
  rcases euler hp h1 h2 a with h | h | h
  · rw [h, if_pos rfl, if_neg (by omega)]
  · rw [h, if_neg (by omega), if_pos rfl, if_neg (by omega)]
  · rw [h, if_neg (by omega), if_neg (by omega), if_pos rfl]
end M
end Go.Proofs.YtmipenpeebmjkaaGreat

namespace Go.Proofs.YtmipenpeebmjkaaGreat
set_option linter.unusedSimpArgs false
set_option linter.unusedVariables false
open Go.RowKit

/-- a contract that leaves the world alone, as a quiet region asks it -/
theorem quiet {P : Program} {f : FuncId} {args : Array Value} {w : World} {n : Nat} {v : Value}
    (h : Calls P f args (w.drewN n) fun e w' => e = .returned v ∧ w.drewN n = w') : Calls P f args (w.drewN n) fun e w'' => e = .returned v ∧ ∃ m, w'' = w.drewN m :=
  h.mono fun _ _ ⟨he, hm⟩ => ⟨he, n, hm.symm⟩

theorem modulo_c (a m : Int) (w : World) (h1 : 1 ≤ m) (h2 : m ≤ 4000000000000000000) :
    Calls Tryz.prog 149 #[.int .i64 a, .int .i64 m] w fun e w' => e = .returned (.int .i64 (a % m)) ∧ w = w' := by
  have hb := M.tmod_bd (a := a) h1
  have hb2 := M.mod_bd (a := a) h1
  have he := Lib.hid (M.tmod_emod (a := a) (m := m))
  go_enter Tryz.func149, Tryz.ntmps149
  by_cases h : 0 ≤ a
  · go_wp2
    go_ret; exact ⟨ret_i (by simp), rfl⟩
  · go_wp2
    go_ret; exact ⟨ret_i he.out, rfl⟩

theorem mdMod_c (a m : Int) (w : World) (h1 : 1 ≤ m) (h2 : m ≤ 4000000000000000000) :
    Calls Tryz.prog 151 #[.int .i64 a, .int .i64 m] w fun e w' => e = .returned (.int .i64 (a % m)) ∧ w = w' := by
  have hb := M.tmod_bd (a := a) h1
  have hb2 := M.mod_bd (a := a) h1
  have he := Lib.hid (M.tmod_emod (a := a) (m := m))
  go_enter Tryz.func151, Tryz.ntmps151
  by_cases h : 0 ≤ a
  · go_wp2
    go_ret; exact ⟨ret_i (by simp), rfl⟩
  · go_wp2
    go_ret; exact ⟨ret_i he.out, rfl⟩

theorem power_c (a n p : Int) (w : World) (h1 : 1 ≤ p) (h2 : p ≤ 3000000000) (hn : 0 ≤ n) (hnn : n ≤ 4000000000000000000) :
    Calls Tryz.prog 155 #[.int .i64 a, .int .i64 n, .int .i64 p] w fun e w' => e = .returned (.int .i64 (M.powm a n p)) ∧ ∃ m, w' = w.drewN m := by
  go_enter Tryz.func155, Tryz.ntmps155
  go_wp2
  go_quiet ((go_at_call 149; exact quiet (modulo_c _ _ _ (by omega) (by omega))))
  go_wp2
  go_loop [1, 7, 8] (fun vn vo vb => ∃ n' o b : Int, vn = .int .i64 n' ∧ vo = .int .i64 o ∧ vb = .int .i64 b ∧ 0 ≤ n' ∧ n' ≤ 4000000000000000000 ∧ 0 ≤ o ∧ o < p ∧ 0 ≤ b ∧ b < p ∧ o * b ^ n'.toNat % p = M.powm a n p) (fun vn _ _ => (intOf vn).toNat)
  case atStart =>
    have b1 := M.mod_bd (a := a) h1
    have b2 := M.mod_bd (a := 1) h1
    exact ⟨n, 1 % p, a % p, rfl, rfl, rfl, hn, hnn, b2.1, b2.2, b1.1, b1.2, by rw [M.mul_mod_left, Int.one_mul, M.pow_mod_base]; rfl⟩
  case round =>
    obtain ⟨n', o, b, rfl, rfl, rfl, hn', hn2', ho1, ho2, hb1, hb2, hr⟩ := hrel
    have Hr := Lib.hid hr
    clear hr
    have m1 := M.mul_nn (x := o) (y := b) (m := 3000000000) (n := 3000000000) ho1 (by omega) hb1 (by omega)
    have m2 := M.mul_nn (x := b) (y := b) (m := 3000000000) (n := 3000000000) hb1 (by omega) hb1 (by omega)
    have m3 := M.mod_bd (a := o * b) h1
    have m4 := M.mod_bd (a := b * b) h1
    by_cases hp : 0 < n'
    · by_cases h2 : n' % 2 = 1
      · go_wp2
        go_round
        case rel => exact ⟨n' / 2, o * b % p, b * b % p, rfl, rfl, rfl, by omega, by omega, m3.1, m3.2, m4.1, m4.2, M.pow_step_odd hp h2 Hr.out⟩
        case measure => simp [intOf]; omega
      · go_wp2
        go_round
        case rel => exact ⟨n' / 2, o, b * b % p, rfl, rfl, rfl, by omega, by omega, ho1, ho2, m4.1, m4.2, M.pow_step_even hp h2 Hr.out⟩
        case measure => simp [intOf]; omega
    · obtain rfl : n' = 0 := by omega
      go_wp2
      go_ret
      exact ⟨ret_i (by rw [← Hr.out]; simp; exact (Int.emod_eq_of_lt ho1 ho2).symm), _, rfl⟩

theorem mdPower_c (a n p : Int) (w : World) (h1 : 1 ≤ p) (h2 : p ≤ 3000000000) (hn : 0 ≤ n) (hnn : n ≤ 4000000000000000000) :
    Calls Tryz.prog 154 #[.int .i64 a, .int .i64 n, .int .i64 p] w fun e w' => e = .returned (.int .i64 (M.powm a n p)) ∧ w = w' := by
  go_enter Tryz.func154, Tryz.ntmps154
  go_wp2_with (go_at_call 151; refine (mdMod_c _ _ _ (by omega) (by omega)).mono ?_; rintro e w' ⟨rfl, rfl⟩)
  go_loop [1, 7, 8] (fun vn vo vb => ∃ n' o b : Int, vn = .int .i64 n' ∧ vo = .int .i64 o ∧ vb = .int .i64 b ∧ 0 ≤ n' ∧ n' ≤ 4000000000000000000 ∧ 0 ≤ o ∧ o ≤ p ∧ 0 ≤ b ∧ b < p ∧ o * b ^ n'.toNat % p = M.powm a n p) (fun vn _ _ => (intOf vn).toNat)
  case atStart =>
    have b1 := M.mod_bd (a := a) h1
    exact ⟨n, 1, a % p, rfl, rfl, rfl, hn, hnn, by omega, by omega, b1.1, b1.2, by rw [Int.one_mul, M.pow_mod_base]; rfl⟩
  case round =>
    obtain ⟨n', o, b, rfl, rfl, rfl, hn', hn2', ho1, ho2, hb1, hb2, hr⟩ := hrel
    have Hr := Lib.hid hr
    clear hr
    have m1 := M.mul_nn (x := o) (y := b) (m := 3000000000) (n := 3000000000) ho1 (by omega) hb1 (by omega)
    have m2 := M.mul_nn (x := b) (y := b) (m := 3000000000) (n := 3000000000) hb1 (by omega) hb1 (by omega)
    have m3 := M.mod_bd (a := o * b) h1
    have m4 := M.mod_bd (a := b * b) h1
    by_cases hp : 0 < n'
    · by_cases h2 : n' % 2 = 1
      · go_wp2
        go_round
        case rel => exact ⟨n' / 2, o * b % p, b * b % p, rfl, rfl, rfl, by omega, by omega, m3.1, by omega, m4.1, m4.2, M.pow_step_odd hp h2 Hr.out⟩
        case measure => simp [intOf]; omega
      · go_wp2
        go_round
        case rel => exact ⟨n' / 2, o, b * b % p, rfl, rfl, rfl, by omega, by omega, ho1, ho2, m4.1, m4.2, M.pow_step_even hp h2 Hr.out⟩
        case measure => simp [intOf]; omega
    · obtain rfl : n' = 0 := by omega
      go_wp2
      go_ret
      exact ⟨ret_i (by rw [← Hr.out]; simp), rfl⟩

theorem gcd_c (a b : Int) (w : World) (h1 : -9000000000000000000 ≤ a) (h2 : a ≤ 9000000000000000000) (h3 : -9000000000000000000 ≤ b) (h4 : b ≤ 9000000000000000000) :
    Calls Tryz.prog 89 #[.int .i64 a, .int .i64 b] w fun e w' => e = .returned (.int .i64 (M.gcd a b)) ∧ ∃ m, w' = w.drewN m := by
  go_enter Tryz.func89, Tryz.ntmps89
  go_wp2
  go_loopw [0, 1] (fun va vb wr => ∃ x y : Int, va = .int .i64 x ∧ vb = .int .i64 y ∧ -9000000000000000000 ≤ x ∧ x ≤ 9000000000000000000 ∧ -9000000000000000000 ≤ y ∧ y ≤ 9000000000000000000 ∧ M.gcd x y = M.gcd a b ∧ ∃ m, wr = w.drewN m) (fun _ vb _ => (intOf vb).natAbs)
  case atStart => exact ⟨a, b, rfl, rfl, h1, h2, h3, h4, rfl, 0, rfl⟩
  case round =>
    obtain ⟨x, y, rfl, rfl, x1, x2, y1, y2, hg, m, rfl⟩ := hrel
    have Hg := Lib.hid hg
    clear hg
    by_cases hy : y = 0
    · subst hy
      by_cases hx : 0 ≤ x
      · go_wp2
        all_goals (go_ret; exact ⟨ret_i (by rw [← Hg.out]; simp only [M.gcd, Int.gcd_zero_right]; omega), _, rfl⟩)
      · go_wp2
        all_goals (go_ret; exact ⟨ret_i (by rw [← Hg.out]; simp only [M.gcd, Int.gcd_zero_right]; omega), _, rfl⟩)
    · have ht := Int.natAbs_tmod x y
      have hm : x.natAbs % y.natAbs < y.natAbs := Nat.mod_lt _ (by omega)
      have ht := Lib.hid (show (x.tmod y).natAbs < y.natAbs by omega)
      have ht1 : -9000000000000000000 ≤ x.tmod y := by omega
      have ht2 : x.tmod y ≤ 9000000000000000000 := by omega
      by_cases hp : 0 ≤ x ∧ 1 ≤ y
      · obtain ⟨p1, p2⟩ := hp
        have e1 := Lib.hid (Int.tmod_eq_emod_of_nonneg (b := y) p1)
        have hb := M.mod_bd (a := x) p2
        go_wp2
        go_quiet (fail)
        go_wp2
        go_roundw
        case rel => exact ⟨y, x % y, rfl, rfl, y1, y2, by omega, by omega, by rw [← Hg.out, ← e1.out]; unfold M.gcd; rw [M.gcd_step], _, World.drewN_drewN _ _ _⟩
        case measure => simp [intOf]; omega
      · go_wp2
        go_quiet (fail)
        go_wp2
        go_roundw
        case rel => exact ⟨y, x.tmod y, rfl, rfl, y1, y2, ht1, ht2, by rw [← Hg.out]; unfold M.gcd; rw [M.gcd_step], _, World.drewN_drewN _ _ _⟩
        case measure => have := ht.out; simp [intOf]; omega

theorem bgCommon_c (a b : Int) (w : World) (h1 : 0 ≤ a) (h2 : a ≤ 9000000000000000000) (h3 : 0 ≤ b) (h4 : b ≤ 9000000000000000000) :
    Calls Tryz.prog 86 #[.int .i64 a, .int .i64 b] w fun e w' => e = .returned (.int .i64 (M.gcd a b)) ∧ w = w' := by
  go_enter Tryz.func86, Tryz.ntmps86
  go_wp2
  go_loop [0, 1] (fun va vb => ∃ x y : Int, va = .int .i64 x ∧ vb = .int .i64 y ∧ 0 ≤ x ∧ x ≤ 9000000000000000000 ∧ 0 ≤ y ∧ y ≤ 9000000000000000000 ∧ M.gcd x y = M.gcd a b) (fun _ vb => (intOf vb).toNat)
  case atStart => exact ⟨a, b, rfl, rfl, h1, h2, h3, h4, rfl⟩
  case round =>
    obtain ⟨x, y, rfl, rfl, x1, x2, y1, y2, hg⟩ := hrel
    have Hg := Lib.hid hg
    clear hg
    by_cases hy : 0 < y
    · have hb := M.mod_bd (a := x) (p := y) (by omega)
      have e1 := Lib.hid (Int.tmod_eq_emod_of_nonneg (b := y) x1)
      go_wp2
      go_round
      case rel => exact ⟨y, x % y, rfl, rfl, y1, y2, by omega, by omega, by rw [← Hg.out, ← e1.out]; unfold M.gcd; rw [M.gcd_step]⟩
      case measure => simp [intOf]; omega
    · obtain rfl : y = 0 := by omega
      go_wp2
      go_ret; exact ⟨ret_i (by rw [← Hg.out]; simp only [M.gcd, Int.gcd_zero_right]; omega), rfl⟩

theorem l1Most_c (a b : Int) (w : World) :
    Calls Tryz.prog 73 #[.int .i64 a, .int .i64 b] w fun e w' => e = .returned (.int .i64 (max a b)) ∧ w = w' := by
  by_cases h : b < a
  · go_enter Tryz.func73, Tryz.ntmps73
    go_wp2
    go_ret; exact ⟨ret_i (by omega), rfl⟩
  · go_enter Tryz.func73, Tryz.ntmps73
    go_wp2
    go_ret; exact ⟨ret_i (by omega), rfl⟩

theorem l1Abs_c (a : Int) (w : World) (h1 : -9223372036854775807 ≤ a) (h2 : a ≤ 9223372036854775807) :
    Calls Tryz.prog 80 #[.int .i64 a] w fun e w' => e = .returned (.int .i64 (a.natAbs : Int)) ∧ w = w' := by
  go_enter Tryz.func80, Tryz.ntmps80
  go_wp2_with (go_at_call 73; refine (l1Most_c _ _ _).mono ?_; rintro e w' ⟨rfl, rfl⟩)
  go_ret; exact ⟨ret_i (by omega), rfl⟩

theorem mdSymbol_c (a p : Int) (w : World) (hp : M.prime p = true) (h1 : 3 ≤ p) (h2 : p ≤ 997) :
    Calls Tryz.prog 152 #[.int .i64 a, .int .i64 p] w fun e w' => e = .returned (.int .i64 (M.symb a p)) ∧ w = w' := by
  have hs := Lib.hid (M.symb_alt (M.prime_iff.1 hp) h1 h2 a)
  clear hp
  by_cases c : M.powm a ((p - 1) / 2) p = p - 1
  · have c' := Lib.hid c
    have c2 : (M.powm a ((p - 1) / 2) p == p - 1) = true := by simpa using c
    clear c
    go_enter Tryz.func152, Tryz.ntmps152
    go_wp2_with (go_at_call 154; refine (mdPower_c _ _ _ _ (by omega) (by omega) (by omega) (by omega)).mono ?_; rintro e w' ⟨rfl, rfl⟩)
    go_ret; exact ⟨ret_i (by rw [hs.out, if_pos c'.out]), rfl⟩
  · have c2 : (M.powm a ((p - 1) / 2) p == p - 1) = false := by simpa using c
    go_enter Tryz.func152, Tryz.ntmps152
    go_wp2_with (go_at_call 154; refine (mdPower_c _ _ _ _ (by omega) (by omega) (by omega) (by omega)).mono ?_; rintro e w' ⟨rfl, rfl⟩)
    go_ret; exact ⟨ret_i (by rw [hs.out, if_neg c]), rfl⟩

theorem symbol_c (a p : Int) (w : World) (h1 : 1 ≤ p) (h2 : p ≤ 3000000000) :
    Calls Tryz.prog 153 #[.int .i64 a, .int .i64 p] w fun e w' => e = .returned (.int .i64 (M.symb a p)) ∧ ∃ m, w' = w.drewN m := by
  by_cases c1 : M.powm a ((p - 1) / 2) p = 0
  · go_enter Tryz.func153, Tryz.ntmps153
    go_wp2_with (go_at_call 155; refine (power_c _ _ _ _ h1 h2 (by omega) (by omega)).mono ?_; rintro e w' ⟨rfl, mq, rfl⟩)
    go_ret; exact ⟨ret_i (M.symb0 c1).symm, _, rfl⟩
  · by_cases c2 : M.powm a ((p - 1) / 2) p = 1
    · go_enter Tryz.func153, Tryz.ntmps153
      go_wp2_with (go_at_call 155; refine (power_c _ _ _ _ h1 h2 (by omega) (by omega)).mono ?_; rintro e w' ⟨rfl, mq, rfl⟩)
      go_ret; exact ⟨ret_i (M.symb1 c2).symm, _, rfl⟩
    · go_enter Tryz.func153, Tryz.ntmps153
      go_wp2_with (go_at_call 155; refine (power_c _ _ _ _ h1 h2 (by omega) (by omega)).mono ?_; rintro e w' ⟨rfl, mq, rfl⟩)
      go_ret; exact ⟨ret_i (M.symbm c1 c2).symm, _, rfl⟩

end Go.Proofs.YtmipenpeebmjkaaGreat
