/-
  Joined texts: contracts and plain laws.
-/
import Derived.Test.YtmipenpeebmjkaaGreatB1
import Derived.Test.YtmipenpeebmjkaaGreatProg
import Derived.WalkKit
import Derived.Deep.RegionHeld3
import Derived.Deep.QuietTactic
import Derived.BigQuiet
import Derived.Lib.Hide
import Derived.Deep.DeepCutAuto
import Derived.Deep.RegionWith
namespace Go.Proofs.YtmipenpeebmjkaaGreat
set_option linter.unusedSimpArgs false
set_option linter.unusedVariables false
namespace M
/-- no divisor between 1 and a prime -/
theorem prime_div {q d : Int} (hq : Prime q) (h2 : 2 ≤ d) (hd : q % d = 0) : d = q := by
  have hdvd : d ∣ q := Int.dvd_of_emod_eq_zero hd
  obtain ⟨c, hc⟩ := hdvd
  have hq2 := hq.1
  have hc1 : 1 ≤ c := by
    rcases Int.lt_or_le c 1 with h | h
    · have : d * c ≤ 0 := Int.mul_nonpos_of_nonneg_of_nonpos (by omega) (by omega)
      omega
    · exact h
  rcases Int.lt_or_le c 2 with h | h
  · have : c = 1 := by omega
    rw [this] at hc
    omega
  · exfalso
    rcases Int.lt_or_le c d with h' | h'
    · refine hq.2 c h ?_ ?_
      · rw [hc]; exact Int.mul_le_mul_of_nonneg_right (by omega) (by omega)
      · rw [hc]; exact Int.mul_emod_left d c
    · refine hq.2 d h2 ?_ hd
      rw [hc]; exact Int.mul_le_mul_of_nonneg_left h' (by omega)

theorem prime_gcd {q x : Int} (hq : Prime q) (h : ¬ x % q = 0) : Int.gcd q x = 1 := by
  have hg : (Int.gcd q x : Int) ∣ q := Int.gcd_dvd_left ..
  have hg2 : (Int.gcd q x : Int) ∣ x := Int.gcd_dvd_right ..
  have hq2 := hq.1
  have hpos : 0 < Int.gcd q x := Int.gcd_pos_of_ne_zero_left _ (by omega)
  rcases Nat.lt_or_ge (Int.gcd q x) 2 with k | k
  · omega
  · exfalso
    have := prime_div hq (d := (Int.gcd q x : Int)) (by omega) (Int.emod_eq_zero_of_dvd hg)
    rw [this] at hg2
    exact h (Int.emod_eq_zero_of_dvd hg2)

/-- Euclid -/
theorem prime_mul {q x y : Int} (hq : Prime q) (h : x * y % q = 0) (hx : ¬ x % q = 0) : y % q = 0 := by
  have h1 := Int.dvd_gcd_mul_iff_dvd_mul.2 (Int.dvd_of_emod_eq_zero h)
  rw [prime_gcd hq hx] at h1
  exact Int.emod_eq_zero_of_dvd (by simpa using h1)

/-- the primes that divide a number, increasing -/
noncomputable def pdiv (n p : Int) : Bool := prime p && (n % p == 0)
noncomputable def primesOf (n : Int) : List Int := sel (pdiv n) 0 (n.natAbs + 1)
theorem sel_skip {f : Int → Bool} {k m : Nat} (h : ∀ x : Int, (k : Int) ≤ x → x < m → f x = false) (hkm : k ≤ m) : sel f 0 m = sel f 0 k := by
  induction m with
  | zero => obtain rfl : k = 0 := by omega
            rfl
  | succ m ih =>
    rcases Nat.lt_or_ge k (m + 1) with q | q
    · rw [sel_no (by rw [Int.zero_add]; exact h m (by omega) (by omega)), ih (fun x h1 h2 => h x h1 (by omega)) (by omega)]
    · obtain rfl : k = m + 1 := by omega
      rfl

theorem primesOf_abs (n : Int) : primesOf n = primesOf n.natAbs := by
  unfold primesOf
  congr 1
  funext p
  unfold pdiv
  congr 1
  rw [Bool.eq_iff_iff, beq_iff_eq, beq_iff_eq]
  constructor
  · intro h
    exact Int.emod_eq_zero_of_dvd (Int.dvd_natAbs.2 (Int.dvd_of_emod_eq_zero h))
  · intro h
    exact Int.emod_eq_zero_of_dvd (Int.dvd_natAbs.1 (Int.dvd_of_emod_eq_zero h))
/-- the loop's relation: N the number, n what is left, p the next trial, l the list -/
structure PRel (N n p : Int) (l : List Int) : Prop where
  n1 : 1 ≤ n
  p2 : 2 ≤ p
  nN : n ≤ N
  pn : n = 1 ∨ p ≤ n
  pN : p ≤ N + 1
  dvd : N % n = 0
  low : ∀ d : Int, 2 ≤ d → d < p → ¬ n % d = 0
  big : ∀ q : Int, Prime q → p ≤ q → N % q = 0 → n % q = 0
  out : l = sel (pdiv N) 0 p.toNat

theorem PRel.start {N : Int} (h : 1 ≤ N) : PRel N N 2 [] where
  n1 := h
  p2 := by omega
  nN := by omega
  pn := by omega
  pN := by omega
  dvd := Int.emod_self
  low := fun d h1 h2 => by omega
  big := fun q _ _ h => h
  out := by
    have : sel (pdiv N) 0 2 = sel (pdiv N) 0 0 := sel_skip (fun x h1 h2 => by
      unfold pdiv
      rw [prime_not.2 (fun h => by have := h.1; omega)]
      rfl) (by omega)
    exact this.symm

/-- what is left is a prime when the trial's square is greater -/
theorem PRel.prime {N n p : Int} {l : List Int} (h : PRel N n p l) (hn : 1 < n) (hp : n < p * p) : Prime n := by
  refine ⟨by omega, fun d h2 hd => h.low d h2 ?_⟩
  exact sq_lt (by have := h.p2; omega) (by omega)
theorem dvd_tr {a b c : Int} (h : c % b = 0) (k : b % a = 0) : c % a = 0 :=
  Int.emod_eq_zero_of_dvd (Int.dvd_trans (Int.dvd_of_emod_eq_zero k) (Int.dvd_of_emod_eq_zero h))
/-- the trial jumps to what is left -/
theorem PRel.jump {N n p : Int} {l : List Int} (h : PRel N n p l) (hn : 1 < n) (hp : n < p * p) : PRel N n n l where
  n1 := h.n1
  p2 := by omega
  nN := h.nN
  pn := by omega
  pN := by have := h.nN; omega
  dvd := h.dvd
  low := fun d h2 hd hz => by
    have := prime_div (h.prime hn hp) h2 hz
    omega
  big := fun q hq hpq hN => h.big q hq (by rcases h.pn with k | k <;> omega) hN
  out := by
    rw [h.out]
    have hpn : p ≤ n := by rcases h.pn with k | k <;> omega
    refine (sel_skip (fun x h1 h2 => ?_) (by omega)).symm
    unfold pdiv
    have hp2 := h.p2
    cases hx : M.prime x
    · rfl
    · have hxp := prime_iff.1 hx
      cases hd : (N % x == 0)
      · rfl
      · have := h.big x hxp (by omega) (by simpa using hd)
        have := prime_div (h.prime hn hp) hxp.1 this
        omega
/-- the inner loop: what is left behind some divisions by p -/
structure PIn (n p n' : Int) : Prop where
  n1 : 1 ≤ n'
  nn : n' ≤ n
  dvd : n % n' = 0
  big : ∀ q : Int, Prime q → p < q → n % q = 0 → n' % q = 0
theorem PIn.start {n p : Int} (h : 1 ≤ n) : PIn n p n := ⟨h, by omega, Int.emod_self, fun _ _ _ h => h⟩
theorem exact_div {n p : Int} (hp : 1 ≤ p) (h : n % p = 0) : n / p * p = n := Int.ediv_mul_cancel (Int.dvd_of_emod_eq_zero h)
theorem div_lt {n p : Int} (hp : 2 ≤ p) (hn : 1 ≤ n) : n / p < n := by
  have := Int.ediv_lt_of_lt_mul (a := n) (b := n) (c := p) (by omega) (by
    have := Int.mul_le_mul_of_nonneg_left hp (show 0 ≤ n by omega)
    omega)
  exact this
theorem PIn.step {n p n' : Int} (h : PIn n p n') (hp : Prime p) (hd : n' % p = 0) : PIn n p (n' / p) := by
  have hp2 := hp.1
  have he := exact_div (by omega) hd
  have h1 := h.n1
  have hpos : 1 ≤ n' / p := by
    rcases Int.lt_or_le (n' / p) 1 with k | k
    · have : n' / p * p ≤ 0 := Int.mul_nonpos_of_nonpos_of_nonneg (by omega) (by omega)
      omega
    · exact k
  have hlt := div_lt hp2 h1
  refine ⟨hpos, by have := h.nn; omega, dvd_tr h.dvd ?_, fun q hq hpq hnq => ?_⟩
  · exact Int.emod_eq_zero_of_dvd ⟨p, he.symm⟩
  · have := h.big q hq hpq hnq
    refine prime_mul hq (x := p) ?_ ?_
    · rw [Int.mul_comm, he]; exact this
    · intro hz
      have := prime_div hp hq.1 hz
      omega
/-- a trial that divides what is left is a prime -/
theorem PRel.tprime {N n p : Int} {l : List Int} (h : PRel N n p l) (hd : n % p = 0) : Prime p :=
  ⟨h.p2, fun d h2 hdp hz => h.low d h2 (by
    rcases Int.lt_or_le d p with k | k
    · exact k
    · have : p * p ≤ d * d := Int.mul_le_mul k k (by have := h.p2; omega) (by omega)
      have : 2 * p ≤ p * p := Int.mul_le_mul_of_nonneg_right h.p2 (by have := h.p2; omega)
      have := h.p2
      omega) (dvd_tr hd hz)⟩
theorem pdiv_yes {N n p : Int} {l : List Int} (h : PRel N n p l) (hd : n % p = 0) : pdiv N p = true := by
  simp [pdiv, prime_iff.2 (h.tprime hd), dvd_tr h.dvd hd]
theorem pdiv_no {N n p : Int} {l : List Int} (h : PRel N n p l) (hd : ¬ n % p = 0) : pdiv N p = false := by
  unfold pdiv
  cases hp : prime p
  · rfl
  · cases hN : (N % p == 0)
    · rfl
    · exact absurd (h.big p (prime_iff.1 hp) (by omega) (by simpa using hN)) hd
theorem PRel.next {N n p n' : Int} {l l' : List Int} (h : PRel N n p l) (hn : 1 < n) (hi : PIn n p n') (hd : ¬ n' % p = 0) (hl : l' = if n % p = 0 then l ++ [p] else l) : PRel N n' (p + 1) l' where
  n1 := hi.n1
  p2 := by have := h.p2; omega
  nN := by have := hi.nn; have := h.nN; omega
  pn := by
    rcases Int.lt_or_le 1 n' with k | k
    · right
      rcases Int.lt_or_le p n' with g | g
      · omega
      · exfalso
        rcases Int.lt_or_le n' p with f | f
        · exact h.low n' (by omega) f hi.dvd
        · have : n' = p := by omega
          rw [this] at hd
          exact hd Int.emod_self
    · left
      have := hi.n1
      omega
  pN := by
    have h1 := h.nN
    rcases h.pn with k | k <;> omega
  dvd := dvd_tr h.dvd hi.dvd
  low := fun d h2 hdp hz => by
    rcases Int.lt_or_le d p with k | k
    · exact h.low d h2 k (dvd_tr hi.dvd hz)
    · have : d = p := by omega
      rw [this] at hz
      exact hd hz
  big := fun q hq hpq hN => hi.big q hq (by omega) (h.big q hq (by omega) hN)
  out := by
    have hp2 := h.p2
    have e : (p + 1).toNat = p.toNat + 1 := by omega
    rw [e, hl]
    by_cases hz : n % p = 0
    · rw [if_pos hz, sel_yes (by rw [Int.zero_add, Int.toNat_of_nonneg (by omega)]; exact pdiv_yes h hz), ← h.out, Int.zero_add, Int.toNat_of_nonneg (by omega)]
    · rw [if_neg hz, sel_no (by rw [Int.zero_add, Int.toNat_of_nonneg (by omega)]; exact pdiv_no h hz), ← h.out]
theorem PRel.done {N n p : Int} {l : List Int} (h : PRel N n p l) (hn : n ≤ 1) : l = primesOf N := by
  have h1 := h.n1
  have hn : n = 1 := by omega
  have hN := h.nN
  rw [h.out]
  unfold primesOf
  have e : ((N.natAbs : Nat) : Int) = N := by omega
  refine (sel_skip (fun x h2 h3 => ?_) (by have := h.pN; omega)).symm
  unfold pdiv
  cases hp : M.prime x
  · rfl
  · cases hd : (N % x == 0)
    · rfl
    · have hx := prime_iff.1 hp
      have := h.big x hx (by have := h.p2; omega) (by simpa using hd)
      rw [hn] at this
      have := hx.1
      have : (1 : Int) % x = 1 := Int.emod_eq_of_lt (by omega) (by omega)
      omega
/-- how often p divides -/
def valF (p : Int) : Nat → Int → Int
  | 0, _ => 0
  | f + 1, a => if a % p = 0 then 1 + valF p f (a / p) else 0
def valn (a p : Int) : Int := valF p a.natAbs a
theorem abs_div {a p : Int} (hp : 2 ≤ p) (ha : a ≠ 0) (h : a % p = 0) : (a / p).natAbs < a.natAbs ∧ a / p ≠ 0 := by
  have he := exact_div (n := a) (by omega) h
  have e2 : a.natAbs = (a / p).natAbs * p.natAbs := by rw [← Int.natAbs_mul, he]
  have hp' : 2 ≤ p.natAbs := by omega
  have hne : a / p ≠ 0 := by
    intro hz
    rw [hz] at he
    omega
  have : (a / p).natAbs * 2 ≤ (a / p).natAbs * p.natAbs := Nat.mul_le_mul_left _ hp'
  exact ⟨by omega, hne⟩
theorem valF_step {p : Int} {f : Nat} {a : Int} (hp : 2 ≤ p) (ha : a ≠ 0) (hf : a.natAbs ≤ f) (h : a % p = 0) : valF p f a = 1 + valF p (f - 1) (a / p) := by
  cases f with
  | zero => omega
  | succ f => simp [valF, h]
theorem valF_stop {p : Int} {f : Nat} {a : Int} (h : ¬ a % p = 0) : valF p f a = 0 := by
  cases f with
  | zero => rfl
  | succ f => simp [valF, h]
theorem valF_nn (p : Int) : ∀ (f : Nat) (a : Int), 0 ≤ valF p f a ∧ valF p f a ≤ f
  | 0, _ => by simp [valF]
  | f + 1, a => by
    have := valF_nn p f (a / p)
    simp only [valF]
    split <;> omega
theorem tdiv_exact {a p : Int} (hp : 1 ≤ p) (h : a % p = 0) : a.tdiv p = a / p := by
  rw [Int.tdiv_eq_ediv_of_dvd (Int.dvd_of_emod_eq_zero h)]
theorem tmod_zero {a p : Int} : a.tmod p = 0 ↔ a % p = 0 := by
  constructor
  · intro h
    exact Int.emod_eq_zero_of_dvd (Int.dvd_of_tmod_eq_zero h)
  · intro h
    exact Int.tmod_eq_zero_of_dvd (Int.dvd_of_emod_eq_zero h)
/-- squarefree parts, as the program reckons them -/
def sfStep (n : Int) (out p : Int) : Int := if valn n p % 2 = 1 then Go.RowKit.wrap64 (out * p) else out
def sgn1 (n : Int) : Int := if n < 0 then -1 else 1
theorem sfStep_odd {n out p : Int} (h : valn n p % 2 = 1) : sfStep n out p = Go.RowKit.wrap64 (out * p) := if_pos h
theorem sfStep_even {n out p : Int} (h : ¬ valn n p % 2 = 1) : sfStep n out p = out := if_neg h
noncomputable def sqfree (n : Int) : Int := (primesOf n).foldl (sfStep n) (sgn1 n)
/-- the same, computable, for small numbers -/
def primeS (p : Nat) : Bool := Nat.ble 2 p && !(hasDiv p)
theorem allB_no {f : Nat → Bool} : ∀ {n : Nat}, allB f n = false → ∃ k, k < n ∧ f k = false
  | n + 1, h => by
    simp only [allB, Bool.and_eq_false_iff] at h
    rcases h with h | h
    · exact ⟨n, by omega, h⟩
    · obtain ⟨k, hk, hf⟩ := allB_no h
      exact ⟨k, by omega, hf⟩
theorem prime_small {n : Nat} (h : n ≤ 1000) : prime (n : Int) = primeS n := by
  unfold primeS
  cases hp : prime (n : Int)
  · symm
    cases h2 : Nat.ble 2 n
    · rfl
    · cases hd : hasDiv n
      · exfalso
        refine prime_not.1 hp ⟨?_, fun d h2d hdd hz => ?_⟩
        · have := Nat.le_of_ble_eq_true h2; omega
        · unfold hasDiv at hd
          rw [Bool.not_eq_false'] at hd
          have hd32 : d < 32 := sq_lt (by omega) (by omega)
          have := allB_at hd (k := d.toNat) (by omega)
          have e : ((d.toNat : Nat) : Int) = d := Int.toNat_of_nonneg (by omega)
          simp only [Bool.or_eq_true, Bool.not_eq_true'] at this
          rcases this with (k | k) | k
          · rw [Nat.blt_eq] at k; omega
          · rw [Nat.blt_eq] at k
            have : (n : Int) < ((d.toNat * d.toNat : Nat) : Int) := Int.ofNat_lt.2 k
            push_cast at this
            rw [e] at this
            omega
          · have hz' : n % d.toNat = 0 := by
              have : ((n % d.toNat : Nat) : Int) = 0 := by push_cast; rw [e]; exact hz
              omega
            rw [hz'] at k
            cases k
      · rfl
  · have := hasDiv_not (prime_iff.1 hp)
    have h2 := (prime_iff.1 hp).1
    simp only [Int.toNat_natCast] at this
    rw [this]
    have : Nat.ble 2 n = true := by rw [Nat.ble_eq]; omega
    rw [this]
    rfl
def primesS (n : Nat) : List Int := ((List.range (n + 1)).filter fun p => primeS p && Nat.beq (n % p) 0).map Int.ofNat
theorem primesOf_small {d : Int} (h : d.natAbs ≤ 999) : primesOf d = primesS d.natAbs := by
  rw [primesOf_abs]
  unfold primesOf primesS sel upto
  rw [List.filter_map]
  have hf : ∀ i ∈ List.range (d.natAbs + 1), ((pdiv (d.natAbs : Int)) ∘ fun i : Nat => (0 : Int) + (i : Int)) i = (primeS i && Nat.beq (d.natAbs % i) 0) := by
    intro i hi
    have hi := List.mem_range.1 hi
    simp only [Function.comp, Int.zero_add, pdiv]
    rw [prime_small (by omega)]
    congr 1
    rw [Bool.eq_iff_iff, beq_iff_eq, Nat.beq_eq]
    omega
  rw [show ((d.natAbs : Int).natAbs) = d.natAbs from by omega, List.filter_congr hf]
  congr 1
  funext i
  simp
def sqfS (d : Int) : Int := (primesS d.natAbs).foldl (sfStep d) (sgn1 d)
theorem sqfree_small {d : Int} (h : d.natAbs ≤ 999) : sqfree d = sqfS d := by
  unfold sqfree sqfS
  rw [primesOf_small h]
/-- twist numbers -/
def tw (d : Int) : Bool := d != 0 && ins d (-30) 30 && d % 4 != 0 && d % 9 != 0 && d % 25 != 0
def twChk (i : Nat) : Bool := let d : Int := (i : Int) - 30; (d == 0) || ((sqfS d == d) == tw d)
theorem tw_all : allB twChk 61 = true := by kernel_rfl
theorem tw_sqf {d : Int} (h0 : d ≠ 0) (h1 : -30 ≤ d) (h2 : d ≤ 30) : (sqfree d == d) = tw d := by
  rw [sqfree_small (by omega)]
  have := allB_at tw_all (k := (d + 30).toNat) (by omega)
  unfold twChk at this
  rw [Int.toNat_of_nonneg (by omega), show d + 30 - 30 = d from by omega] at this
  simpa [h0] using this
theorem tw_iff {d : Int} : tw d = true ↔ d ≠ 0 ∧ -30 ≤ d ∧ d ≤ 30 ∧ d % 4 ≠ 0 ∧ d % 9 ≠ 0 ∧ d % 25 ≠ 0 := by
  simp only [tw, Bool.and_eq_true, ins_iff, bne_iff_ne]
  constructor
  · rintro ⟨⟨⟨⟨a, b, c⟩, d⟩, e⟩, f⟩; exact ⟨a, b, c, d, e, f⟩
  · rintro ⟨a, b, c, d, e, f⟩; exact ⟨⟨⟨⟨a, b, c⟩, d⟩, e⟩, f⟩
end M
end Go.Proofs.YtmipenpeebmjkaaGreat

namespace Go.Proofs.YtmipenpeebmjkaaGreat
set_option linter.unusedSimpArgs false
set_option linter.unusedVariables false
open Go.RowKit

theorem bcell {W w1 : World} (hb : Below W.heap.size W w1) : (∀ b o, b < W.heap.size → w1.cell? ⟨b, o, none⟩ = W.cell? ⟨b, o, none⟩) ∧ (∀ b o, b < W.heap.size → w1.frozen? ⟨b, o, none⟩ = W.frozen? ⟨b, o, none⟩) ∧ W.heap.size ≤ w1.heap.size :=
  ⟨fun b o h => hb.cell (p := ⟨b, o, none⟩) h, fun b o h => hb.frozen (p := ⟨b, o, none⟩) h, hb.size⟩
theorem heap_drew (w : World) : w.drew.heap = w.heap := rfl
theorem size_setCell (w : World) (a : Addr) (v : Value) : (w.setCell a v).heap.size = w.heap.size := by simp [World.setCell]
theorem below_alloc {w W : World} (h : Below w.heap.size w W) (o : Obj) : Below w.heap.size w (W.alloc o) := h.alloc h.size o
theorem below_step {w W w' : World} (h : Below w.heap.size w W) (hb : Below W.heap.size W w') : Below w.heap.size w w' := h.trans (hb.mono h.size)
theorem below_drewN {w W : World} (h : Below w.heap.size w W) (n : Nat) : Below w.heap.size w (W.drewN n) := by
  induction n with
  | zero => exact h
  | succ n ih => exact ih.drew

theorem box_cell (w : World) (cs : Array Value) (T : TypeId) (j : Nat) : (w.alloc (.cells cs T)).cell? ⟨w.heap.size, j, none⟩ = cs[j]? := by
  rw [World.cell?_alloc_at _ _ _ _ rfl]
/-- a curve, or nothing -/
def cv (a b : Int) : Value := .agg #[.int .i64 a, .int .i64 b]
theorem gcd_pos {a b : Int} (h : b ≠ 0) : 0 < M.gcd a b := by
  unfold M.gcd
  have : 0 < Int.gcd a b := Int.gcd_pos_of_ne_zero_right _ h
  omega
/-- a fraction's parts, the denominator made positive -/
def partN (a b : Int) : Int := if b < 0 then -a.tdiv (M.gcd a b) else a.tdiv (M.gcd a b)
def partD (a b : Int) : Int := if b < 0 then -b.tdiv (M.gcd a b) else b.tdiv (M.gcd a b)

theorem partN_neg {a b : Int} (h : b < 0) : partN a b = -a.tdiv (M.gcd a b) := if_pos h
theorem partN_pos {a b : Int} (h : 0 ≤ b) : partN a b = a.tdiv (M.gcd a b) := if_neg (by omega)
theorem partD_neg {a b : Int} (h : b < 0) : partD a b = -b.tdiv (M.gcd a b) := if_pos h
theorem partD_pos {a b : Int} (h : 0 ≤ b) : partD a b = b.tdiv (M.gcd a b) := if_neg (by omega)
theorem tdiv_bd {a d m : Int} (h1 : -m ≤ a) (h2 : a ≤ m) (hd : d ≠ 0) : -m ≤ a.tdiv d ∧ a.tdiv d ≤ m := by
  have : (a.tdiv d).natAbs ≤ a.natAbs := by rw [Int.natAbs_tdiv]; exact Nat.div_le_self _ _
  omega
theorem gcd_le {a b : Int} (h : b ≠ 0) : M.gcd a b ≤ b.natAbs := by
  unfold M.gcd
  have := Nat.le_of_dvd (by omega) (Nat.gcd_dvd_right a.natAbs b.natAbs)
  simp only [Int.gcd]
  omega

theorem keepCell {W w' : World} (hb : Below W.heap.size W w') {p : Addr} {v : Value} (h : W.cell? p = some v) : w'.cell? p = some v :=
  (hb.cell (World.block_lt_of_cell? W _ h)).trans h

theorem keepFrz {W w' : World} (hb : Below W.heap.size W w') {p : Addr} (h : p.block < W.heap.size) (hf : W.frozen? p = false) : w'.frozen? p = false :=
  (hb.frozen h).trans hf
theorem keepSz {W w' : World} (hb : Below W.heap.size W w') {n : Nat} (h : n < W.heap.size) : n < w'.heap.size := Nat.lt_of_lt_of_le h hb.size

theorem disc_bd {a b : Int} (h : M.inCurve a b = true) : -10000000000 ≤ M.disc a b ∧ M.disc a b ≤ 10000000000 := by
  obtain ⟨h1, h1', h2, h2'⟩ := M.inCurve_bd h
  have b1 := M.mul_bd (x := 4 * a) (y := a) (m := 4000) (n := 1000) (by omega) (by omega) (by omega) (by omega)
  have b2 := M.mul_bd (x := 4 * a * a) (y := a) (m := 4000000) (n := 1000) (by omega) (by omega) (by omega) (by omega)
  have b3 := M.mul_bd (x := 27 * b) (y := b) (m := 270000) (n := 10000) (by omega) (by omega) (by omega) (by omega)
  unfold M.disc
  omega

end Go.Proofs.YtmipenpeebmjkaaGreat

namespace Go.Proofs.YtmipenpeebmjkaaGreat
set_option linter.unusedSimpArgs false
set_option linter.unusedVariables false
open Go.RowKit

theorem info_int : (Tryz.prog.info? 3).map (fun i => (i.zero, i.size, i.bytes)) = some (some (.int .i64 0), 1, 8) := by kernel_rfl

/-- a slice of numbers that lies in blocks from base on and may be appended to -/
def OwnI (w : World) (base : Nat) (v : Value) (xs : List Int) : Prop := w.ownsRow base 3 1 v xs.length (xs.map (Value.int .i64))
theorem OwnI.nil (w : World) (base : Nat) : OwnI w base (.slice none 0 0) [] := World.ownsRow_nil w base _ 1
theorem OwnI.push {w : World} {base : Nat} {v' : Value} {xs : List Int} {n : Nat} {x : Int} {ys : List Int} (hn : n = xs.length) (h : w.ownsRow base 3 1 v' (n + 1) (xs.map (Value.int .i64) ++ [.int .i64 x])) (he : ys = xs ++ [x]) : OwnI w base v' ys := by
  subst hn he
  simpa [OwnI] using h
theorem OwnI.below {w w' : World} {base : Nat} {v : Value} {xs : List Int} (h : OwnI w base v xs) (hb : Below w.heap.size w w') : OwnI w' base v xs := by
  obtain ⟨h1, h2⟩ := h
  refine ⟨h1, ?_⟩
  rcases h2 with h2 | ⟨g, cap, cur, hv, hg, hh, r⟩
  · exact Or.inl h2
  · exact Or.inr ⟨g, cap, cur, hv, hg, by rw [hb.block g (Array.getElem?_eq_some_iff.1 hh).1]; exact hh, r⟩
theorem OwnI.base {w : World} {base base' : Nat} {v : Value} {xs : List Int} (h : OwnI w base v xs) (hb : base' ≤ base) : OwnI w base' v xs := by
  obtain ⟨h1, h2⟩ := h
  refine ⟨h1, ?_⟩
  rcases h2 with h2 | ⟨g, cap, cur, hv, hg, hh, r⟩
  · exact Or.inl h2
  · exact Or.inr ⟨g, cap, cur, hv, Nat.le_trans hb hg, hh, r⟩
theorem one_cell_int (x : Int) : ∀ u ∈ [Value.int .i64 x], u.oneCell' = true := by
  intro u hu
  simp only [List.mem_singleton] at hu
  subst hu
  rfl
/-- how such a slice is read -/
theorem OwnI.view {w : World} {base : Nat} {v : Value} {xs : List Int} (h : OwnI w base v xs) : ∃ (a : Option Addr) (cap : Nat), v = .slice a xs.length cap ∧ (xs.length : Int) ≤ 9223372036854775807 ∧
    ∀ k, k < xs.length → ∃ g x, a = some ⟨g, 0, none⟩ ∧ base ≤ g ∧ Hid (xs[k]? = some x) ∧ w.cell? ⟨g, k, none⟩ = some (.int .i64 x) := by
  obtain ⟨h1, h2⟩ := h
  rcases h2 with ⟨rfl, hn⟩ | ⟨g, cap, cur, rfl, hg, hh, hc, hm, hs, ht⟩
  · refine ⟨none, 0, by rw [hn], by omega, fun k hk => by omega⟩
  · refine ⟨some ⟨g, 0, none⟩, cap, rfl, by unfold maxLen at hm; omega, fun k hk => ⟨g, xs[k], rfl, hg, List.getElem?_eq_getElem hk, ?_⟩⟩
    rw [cell_of_row w g k cur _ (0, 0) hh]
    have e : (xs.map (Value.int .i64))[k]? = some (.int .i64 xs[k]) := by
      rw [List.getElem?_map, List.getElem?_eq_getElem hk]
      rfl
    rw [← ht, List.getElem?_take] at e
    split at e
    · simpa using e
    · cases e
theorem take_next {xs : List Int} {k : Nat} {x : Int} (h : xs[k]? = some x) : xs.take (k + 1) = xs.take k ++ [x] := by
  obtain ⟨hk, e⟩ := List.getElem?_eq_some_iff.1 h
  rw [List.take_succ_eq_append_getElem hk, e]
theorem foldl_next {α : Type} (f : α → Int → α) (z : α) {xs : List Int} {k : Nat} {x : Int} (h : xs[k]? = some x) : (xs.take (k + 1)).foldl f z = f ((xs.take k).foldl f z) x := by
  rw [take_next h, List.foldl_append]
  rfl

/-- 'out = append(out, y)', one number, out the call's own -/
theorem push_int {ops : Array Oper} {rest : List Oper} {o : Oper} {a : Act} {Q : Exit → Act → World → Prop} {w W : World} (base : Nat) (y : Int) (xs : List Int) (v : Value) (hgd : o.guard = none) (s x : Operand)
    (ho : o.op = .call { callee := .builtin .append, args := #[s, x], argTypes := #[29, 29] }) (hs : a.eval s = v) (hx : a.eval x = .slice (some ⟨w.heap.size, 0, none⟩) 1 1)
    (hown : OwnI w base v xs) (hW : Below base W w) (hB : base ≤ w.heap.size) (hl : xs.length ≤ 10000000000)
    (h : ∀ v' w', OwnI w' base v' (xs ++ [y]) → Below base W w' → wpList Tryz.prog ops Q rest (a.put o.dst v') w') :
    wpList Tryz.prog ops Q (o :: rest) a (w.alloc (.cells #[.int .i64 y] 3)) := by
  obtain ⟨i0, hi, hz0, hz1, hz2⟩ := info_parts info_int
  refine wpList_append_own _ hgd s x 29 ho base 3 i0 (.int .i64 0) 1 8 Tryz.underlying29 hi hz0 hz1 hz2 rfl (by decide) v xs.length (xs.map (Value.int .i64)) hs (hown.alloc _) ⟨w.heap.size, 0, none⟩ 1 1 [.int .i64 y] hx rfl (fun j u hu => by
    have hadd : (⟨w.heap.size, 0, none⟩ : Addr).add j = ⟨w.heap.size, j, none⟩ := by unfold Addr.add; split <;> simp_all
    rw [hadd, World.cell?_alloc_at _ _ _ _ rfl]
    simpa using hu) (one_cell_int _) ?_ ?_ ?_ ?_
  · unfold maxLen; omega
  · omega
  · simp; omega
  · intro v' w' h1 h2 _
    exact h v' w' (OwnI.push rfl h1 rfl) ((hW.alloc hB _).grown h2 (by simp; omega) fun k hk => (hown.lt k hk).1)

end Go.Proofs.YtmipenpeebmjkaaGreat

namespace Go.Proofs.YtmipenpeebmjkaaGreat
set_option linter.unusedSimpArgs false
set_option linter.unusedVariables false
open Go.RowKit

theorem valuation_c (a p : Int) (w : World) (ha : a ≠ 0) (h1 : 2 ≤ p) (h2 : -4000000000000000000 ≤ a) (h3 : a ≤ 4000000000000000000) :
    Calls Tryz.prog 85 #[.int .i64 a, .int .i64 p] w fun e w' => e = .returned (.int .i64 (M.valn a p)) ∧ w = w' := by
  go_enter Tryz.func85, Tryz.ntmps85
  go_wp2
  go_loop [0, 5] (fun va vn => ∃ x n : Int, ∃ f : Nat, va = .int .i64 x ∧ vn = .int .i64 n ∧ x ≠ 0 ∧ x.natAbs ≤ 4000000000000000000 ∧ x.natAbs ≤ f ∧ f ≤ 4000000000000000000 ∧ 0 ≤ n ∧ n + f ≤ 4000000000000000000 ∧ n + M.valF p f x = M.valn a p) (fun va _ => (intOf va).natAbs)
  case atStart => exact ⟨a, 0, a.natAbs, rfl, rfl, ha, by omega, by omega, by omega, by omega, by omega, by simp [M.valn]⟩
  case round =>
    obtain ⟨x, n, f, rfl, rfl, hx, hx2, hf, hf2, hn, hnf, hv⟩ := hrel
    have Hv := Lib.hid hv
    clear hv
    by_cases hd : x % p = 0
    · have hlt := M.abs_div h1 hx hd
      have e1 := M.tmod_zero.2 hd
      have e2 := M.tdiv_exact (by omega) hd
      have hs := Lib.hid (M.valF_step h1 hx hf hd)
      have hd' := Lib.hid hd
      clear hd
      go_wp2
      go_round
      case rel => exact ⟨x / p, n + 1, f - 1, rfl, rfl, hlt.2, by omega, by omega, by omega, by omega, by omega, by rw [← Hv.out, hs.out]; omega⟩
      case measure => simp [intOf]; omega
    · have e1 : ¬ x.tmod p = 0 := fun h => hd (M.tmod_zero.1 h)
      have hs := Lib.hid (M.valF_stop (f := f) hd)
      go_wp2
      go_ret; exact ⟨ret_i (by rw [← Hv.out, hs.out]; omega), rfl⟩

set_option maxHeartbeats 400000 in
theorem primesOf_c (n : Int) (w : World) (h0 : n ≠ 0) (h2 : -1000000000000000000 ≤ n) (h3 : n ≤ 1000000000000000000) :
    Calls Tryz.prog 84 #[.int .i64 n] w fun e w' => ∃ v, e = .returned v ∧ OwnI w' w.heap.size v (M.primesOf n) ∧ Below w.heap.size w w' := by
  have hN : M.primesOf n = M.primesOf n.natAbs := M.primesOf_abs n
  generalize hNN : (n.natAbs : Int) = N at hN
  have hN1 : 1 ≤ N := by omega
  have hN2 : N ≤ 1000000000000000000 := by omega
  have hmx : max n (-n) = N := by omega
  have Hmx := Lib.hid hmx
  have HNN := Lib.hid hNN
  have HN := Lib.hid hN
  clear hmx hNN hN
  go_enter Tryz.func84, Tryz.ntmps84
  go_wp2
  all_goals
    go_loopw [0, 3, 4] (fun vn vo vp wr => ∃ n' p : Int, ∃ l : List Int, vn = .int .i64 n' ∧ vp = .int .i64 p ∧ OwnI wr w.heap.size vo l ∧ Below w.heap.size w wr ∧ M.PRel N n' p l ∧ (n' = 1 ∨ (p - 1) * (p - 1) ≤ N)) (fun vn _ vp _ => (intOf vn + 1 - intOf vp).toNat)
    case atStart => exact ⟨N, 2, [], by congr 1; have := Hmx.out; omega, rfl, OwnI.nil _ _, Below.refl _ _, M.PRel.start hN1, Or.inr (by omega)⟩
    case round =>
      obtain ⟨n', p, l, rfl, rfl, hown, hb, hr, hq⟩ := hrel
      have n1 := hr.n1
      have p2 := hr.p2
      have nN := hr.nN
      by_cases c1 : 1 < n'
      · have hpn : p ≤ n' := by rcases hr.pn with k | k <;> omega
        have hp9 : p - 1 < 1000000001 := M.sq_lt (by omega) (by rcases hq with k | k <;> omega)
        have hll : l.length ≤ 1000000001 := by rw [hr.out]; have := M.sel_le (M.pdiv N) 0 p.toNat; omega
        have hpp := M.mul_nn (x := p) (y := p) (m := 1000000001) (n := 1000000001) (by omega) (by omega) (by omega) (by omega)
        clear hq
        by_cases c2 : n' < p * p
        · have hj := hr.jump c1 c2
          have hs := Int.emod_self (a := n')
          go_wp2_with (at_builtin; refine push_int w.heap.size n' l _ rfl _ _ rfl rfl rfl hown hb hb.size (by omega) ?_; rintro v2 w2 hown2 hb2)
          go_loop [0] (fun v => ∃ x : Int, v = .int .i64 x ∧ M.PIn n' n' x) (fun v => (intOf v).toNat)
          case atStart => exact ⟨n', rfl, M.PIn.start n1⟩
          case round =>
            obtain ⟨x, rfl, hx⟩ := hrel
            have x1 := hx.n1
            have xn := hx.nn
            by_cases c4 : x % n' = 0
            · have hlt := M.div_lt (n := x) (p := n') (by omega) x1
              have hst := (hx.step (hj.tprime hs) c4).n1
              go_wp2
              go_round
              case rel => exact ⟨x / n', rfl, hx.step (hj.tprime hs) c4⟩
              case measure => simp [intOf]; omega
            · go_wp2
              go_roundw
              case rel => exact ⟨x, n' + 1, l ++ [n'], rfl, rfl, hown2, hb2, hj.next c1 hx c4 (by rw [if_pos hs]), Or.inl (by have := (hj.next c1 hx c4 rfl).pn; have := hx.nn; omega)⟩
              case measure => simp [intOf]; omega
        · by_cases c3 : n' % p = 0
          · have c3' := Lib.hid c3
            go_wp2_with (at_builtin; refine push_int w.heap.size p l _ rfl _ _ rfl rfl rfl hown hb hb.size (by omega) ?_; rintro v2 w2 hown2 hb2)
            go_loop [0] (fun v => ∃ x : Int, v = .int .i64 x ∧ M.PIn n' p x) (fun v => (intOf v).toNat)
            case atStart => exact ⟨n', rfl, M.PIn.start n1⟩
            case round =>
              obtain ⟨x, rfl, hx⟩ := hrel
              have x1 := hx.n1
              have xn := hx.nn
              by_cases c4 : x % p = 0
              · have hlt := M.div_lt (n := x) (p := p) (by omega) x1
                have hst := (hx.step (hr.tprime c3'.out) c4).n1
                go_wp2
                go_round
                case rel => exact ⟨x / p, rfl, hx.step (hr.tprime c3'.out) c4⟩
                case measure => simp [intOf]; omega
              · go_wp2
                go_roundw
                case rel => exact ⟨x, p + 1, l ++ [p], rfl, rfl, hown2, hb2, hr.next c1 hx c4 (by rw [if_pos c3'.out]), Or.inr (by rw [show p + 1 - 1 = p from by omega]; omega)⟩
                case measure => simp [intOf]; omega
          · go_wp2
            go_loop [0] (fun v => ∃ x : Int, v = .int .i64 x ∧ M.PIn n' p x) (fun v => (intOf v).toNat)
            case atStart => exact ⟨n', rfl, M.PIn.start n1⟩
            case round =>
              obtain ⟨x, rfl, hx⟩ := hrel
              have x1 := hx.n1
              have xn := hx.nn
              by_cases c4 : x % p = 0
              · have hlt := M.div_lt (n := x) (p := p) (by omega) x1
                have hst := (hx.step (hr.tprime (M.dvd_tr hx.dvd c4)) c4).n1
                go_wp2
                go_round
                case rel => exact ⟨x / p, rfl, hx.step (hr.tprime (M.dvd_tr hx.dvd c4)) c4⟩
                case measure => simp [intOf]; omega
              · go_wp2
                go_roundw
                case rel => exact ⟨x, p + 1, l, rfl, rfl, hown, hb, hr.next c1 hx c4 (by rw [if_neg c3]), Or.inr (by rw [show p + 1 - 1 = p from by omega]; omega)⟩
                case measure => simp [intOf]; omega
      · go_wp2
        go_ret
        exact ⟨_, rfl, by rw [HN.out, ← hr.done (by omega)]; exact hown, hb⟩
theorem mem_primesOf {n x : Int} (h : x ∈ M.primesOf n) : M.Prime x := by
  have := M.mem_sel.1 h
  have h2 := this.2
  unfold M.pdiv at h2
  exact M.prime_iff.1 (Bool.and_eq_true_iff.1 h2).1

theorem squarefree_c (n : Int) (w : World) (h0 : n ≠ 0) (h2 : -1000000000000000000 ≤ n) (h3 : n ≤ 1000000000000000000) :
    Calls Tryz.prog 55 #[.int .i64 n] w fun e w' => e = .returned (.int .i64 (M.sqfree n)) ∧ Below w.heap.size w w' := by
  have n2 : -4000000000000000000 ≤ n := by omega
  have n3 : n ≤ 4000000000000000000 := by omega
  by_cases hneg : n < 0
  all_goals
    go_enter Tryz.func55, Tryz.ntmps55
    go_wp2_with (go_at_call 84; refine (primesOf_c _ _ h0 h2 h3).mono ?_; rintro e w' ⟨v, rfl, hown, hb⟩; obtain ⟨a, cap, rfl, hm, hv⟩ := hown.view)
    go_loop [3, 5, 11] (fun vo _ vi => ∃ k : Nat, k ≤ (M.primesOf n).length ∧ vi = .int .i64 k ∧ vo = .int .i64 (((M.primesOf n).take k).foldl (M.sfStep n) (M.sgn1 n))) (fun _ _ vi => (M.primesOf n).length - (intOf vi).toNat)
    case atStart => exact ⟨0, by omega, rfl, by simp [M.sgn1, hneg]⟩
    case round =>
      obtain ⟨k, hk, rfl, rfl⟩ := hrel
      by_cases hlt : k < (M.primesOf n).length
      · obtain ⟨g, p, rfl, hg, hx, hcell⟩ := hv k hlt
        have hp := (mem_primesOf (List.mem_of_getElem? hx.out)).1
        have hf := Lib.hid (foldl_next (M.sfStep n) (M.sgn1 n) hx.out)
        clear hv
        by_cases ho : M.valn n p % 2 = 1
        · have ho' := Lib.hid ho
          have hnn := (M.valF_nn p n.natAbs n).1
          have hnn : 0 ≤ M.valn n p := hnn
          go_wp2_with (go_at_call 85; refine (valuation_c _ _ _ h0 hp n2 n3).mono ?_; rintro e w' ⟨rfl, rfl⟩)
          go_round
          case rel => exact ⟨k + 1, by omega, by go_num, by rw [hf.out]; rw [M.sfStep_odd ho'.out]⟩
          case measure => simp [intOf]; omega
        · have hnn := (M.valF_nn p n.natAbs n).1
          have hnn : 0 ≤ M.valn n p := hnn
          go_wp2_with (go_at_call 85; refine (valuation_c _ _ _ h0 hp n2 n3).mono ?_; rintro e w' ⟨rfl, rfl⟩)
          go_round
          case rel => exact ⟨k + 1, by omega, by go_num, by rw [hf.out]; rw [M.sfStep_even ho]⟩
          case measure => simp [intOf]; omega
      · obtain rfl : k = (M.primesOf n).length := by omega
        go_wp2
        go_ret
        exact ⟨ret_i rfl, hb⟩

end Go.Proofs.YtmipenpeebmjkaaGreat

namespace Go.Proofs.YtmipenpeebmjkaaGreat
set_option linter.unusedSimpArgs false
set_option linter.unusedVariables false
open Go.RowKit

/-- both have one invariant -/
def sameInv (a b c d : Int) : Bool := (partN (6912 * a * a * a) (M.disc a b) == partN (6912 * c * c * c) (M.disc c d)) && (partD (6912 * a * a * a) (M.disc a b) == partD (6912 * c * c * c) (M.disc c d))

theorem tdiv_gcd_bd {d e m : Int} (h0 : M.gcd d e ≠ 0) (h1 : -m ≤ d) (h2 : d ≤ m) : -m ≤ d.tdiv (M.gcd d e) ∧ d.tdiv (M.gcd d e) ≤ m := tdiv_bd h1 h2 h0

def prodTw (d e : Int) : Int := d.tdiv (M.gcd d e) * (e.tdiv (M.gcd d e))
def prodOk (d e : Int) : Bool := M.tw d && M.tw e && M.tw (prodTw d e)

end Go.Proofs.YtmipenpeebmjkaaGreat

namespace Go.Proofs.YtmipenpeebmjkaaGreat
set_option linter.unusedSimpArgs false
set_option linter.unusedVariables false
open Go.RowKit

/-- the value of a function that answers with a curve or with nothing -/
def cvOk (ok : Bool) (a b : Int) : Value := .tuple #[.agg #[.int .i64 (if ok then a else 0), .int .i64 (if ok then b else 0)], .bool ok]
theorem cvOk_t (a b : Int) : cvOk true a b = .tuple #[.agg #[.int .i64 a, .int .i64 b], .bool true] := rfl
theorem cvOk_f (a b : Int) : cvOk false a b = .tuple #[.agg #[.int .i64 0, .int .i64 0], .bool false] := rfl

theorem tw_mul_bd {a b d : Int} (hg : M.inCurve a b = true) (h1 : -30 ≤ d) (h2 : d ≤ 30) :
    (-30000 ≤ a * d ∧ a * d ≤ 30000) ∧ (-900000 ≤ a * d * d ∧ a * d * d ≤ 900000) ∧ (-300000 ≤ b * d ∧ b * d ≤ 300000) ∧ (-9000000 ≤ b * d * d ∧ b * d * d ≤ 9000000) ∧ (-270000000 ≤ b * d * d * d ∧ b * d * d * d ≤ 270000000) := by
  obtain ⟨g1, g2, g3, g4⟩ := M.inCurve_bd hg
  have b1 := M.mul_bd (x := a) (y := d) (m := 1000) (n := 30) (by omega) (by omega) (by omega) (by omega)
  have b2 := M.mul_bd (x := a * d) (y := d) (m := 30000) (n := 30) (by omega) (by omega) (by omega) (by omega)
  have b3 := M.mul_bd (x := b) (y := d) (m := 10000) (n := 30) (by omega) (by omega) (by omega) (by omega)
  have b4 := M.mul_bd (x := b * d) (y := d) (m := 300000) (n := 30) (by omega) (by omega) (by omega) (by omega)
  have b5 := M.mul_bd (x := b * d * d) (y := d) (m := 9000000) (n := 30) (by omega) (by omega) (by omega) (by omega)
  refine ⟨⟨?_, ?_⟩, ⟨?_, ?_⟩, ⟨?_, ?_⟩, ⟨?_, ?_⟩, ⟨?_, ?_⟩⟩ <;> omega

/-- TwistCurve: is there one; its parts -/
def twcOk (a b d : Int) : Bool := M.good a b && M.tw d && M.good (a * d * d) (b * d * d * d)

end Go.Proofs.YtmipenpeebmjkaaGreat

namespace Go.Proofs.YtmipenpeebmjkaaGreat
set_option linter.unusedSimpArgs false
set_option linter.unusedVariables false
open Go.RowKit

def utOk (a b d : Int) : Bool := M.good a b && M.tw d && decide (a.tmod (d * d) = 0) && decide (b.tmod (d * d * d) = 0)

theorem ut_good {a b d : Int} (h : M.good a b = true) (h0 : d ≠ 0) (h1 : a.tmod (d * d) = 0) (h2 : b.tmod (d * d * d) = 0) : M.good (a.tdiv (d * d)) (b.tdiv (d * d * d)) = true := by
  have hin := M.inCurve_bd (M.good_in h)
  have e1 : a.tdiv (d * d) * (d * d) = a := by have := Int.tmod_add_tdiv_mul a (d * d); omega
  have e2 : b.tdiv (d * d * d) * (d * d * d) = b := by have := Int.tmod_add_tdiv_mul b (d * d * d); omega
  have hd2 : d * d ≠ 0 := Int.mul_ne_zero h0 h0
  have t1 := tdiv_bd (a := a) (d := d * d) (m := 1000) (by omega) (by omega) hd2
  have t2 := tdiv_bd (a := b) (d := d * d * d) (m := 10000) (by omega) (by omega) (Int.mul_ne_zero hd2 h0)
  generalize a.tdiv (d * d) = x at *
  generalize b.tdiv (d * d * d) = y at *
  have hdisc := M.good_disc h
  have : M.disc a b = (d * d * d * (d * d * d)) * M.disc x y := by
    unfold M.disc
    rw [← e1, ← e2]
    simp only [Int.mul_add]
    congr 1
    · simp only [Int.mul_assoc, Int.mul_comm, Int.mul_left_comm]
    · simp only [Int.mul_assoc, Int.mul_comm, Int.mul_left_comm]
  have hne : M.disc x y ≠ 0 := by
    intro hz
    rw [hz, Int.mul_zero] at this
    exact hdisc this
  simp only [M.good, M.inCurve, Bool.and_eq_true, M.ins_iff, bne_iff_ne]
  exact ⟨⟨t1, t2⟩, hne⟩

end Go.Proofs.YtmipenpeebmjkaaGreat

namespace Go.Proofs.YtmipenpeebmjkaaGreat
set_option linter.unusedSimpArgs false
set_option linter.unusedVariables false
open Go.RowKit

noncomputable def tsOk (d p : Int) : Bool := M.tw d && (M.ins p 3 997 && M.prime p) && decide (¬ d.tmod p = 0)

end Go.Proofs.YtmipenpeebmjkaaGreat

namespace Go.Proofs.YtmipenpeebmjkaaGreat
set_option linter.unusedSimpArgs false
set_option linter.unusedVariables false
namespace M
def order2 (a b e : Int) : Bool := ins e (-200) 200 && root3 a b e
/-- an integer root is small -/
theorem root_small {a b e : Int} (h : inCurve a b = true) (hr : val a b e = 0) : -100 ≤ e ∧ e ≤ 100 := by
  obtain ⟨g1, g2, g3, g4⟩ := inCurve_bd h
  unfold val at hr
  constructor
  · rcases Int.lt_or_le e (-100) with k | k
    · exfalso
      have s : 10201 ≤ e * e := by
        have : 0 ≤ (-101 - e) * (-101 - e) := Int.mul_nonneg (by omega) (by omega)
        simp only [Int.sub_mul, Int.mul_sub] at this
        omega
      have c : e * e * e ≤ 10201 * e := Int.mul_le_mul_of_nonpos_right s (by omega)
      have d : a * e ≤ -1000 * e := Int.mul_le_mul_of_nonpos_right g1 (by omega)
      omega
    · exact k
  · rcases Int.lt_or_le 100 e with k | k
    · exfalso
      have s : 10201 ≤ e * e := by
        have : 101 * 101 ≤ e * e := Int.mul_le_mul (by omega) (by omega) (by omega) (by omega)
        omega
      have c : 10201 * e ≤ e * e * e := Int.mul_le_mul_of_nonneg_right s (by omega)
      have d : -1000 * e ≤ a * e := Int.mul_le_mul_of_nonneg_right g1 (by omega)
      omega
    · exact k
theorem order2_mem {a b e : Int} (h : inCurve a b = true) : decide (e ∈ roots a b) = order2 a b e := by
  rw [Bool.eq_iff_iff]
  simp only [decide_eq_true_eq, roots, mem_sel, order2, Bool.and_eq_true, ins_iff]
  constructor
  · rintro ⟨⟨h1, h2⟩, h3⟩
    exact ⟨by omega, h3⟩
  · rintro ⟨h1, h3⟩
    have := root_small h (by simpa [root3] using h3)
    exact ⟨by omega, h3⟩
/-- the raw neighbour -/
def rawT (a e : Int) : Int := 3 * e * e + a
def rawA (a e : Int) : Int := a - 5 * rawT a e
def rawB (a b e : Int) : Int := b - 7 * e * rawT a e
/-- divided as often as both can be -/
def strip (u4 u6 : Int) : Nat → Int → Int → Int × Int
  | 0, a, b => (a, b)
  | f + 1, a, b => if a % u4 = 0 ∧ b % u6 = 0 ∧ (a ≠ 0 ∨ b ≠ 0) then strip u4 u6 f (a / u4) (b / u6) else (a, b)
theorem strip_go {u4 u6 : Int} {f : Nat} {a b : Int} (hf : a.natAbs + b.natAbs ≤ f) (h : a % u4 = 0) (h' : b % u6 = 0) (hn : a ≠ 0 ∨ b ≠ 0) : strip u4 u6 f a b = strip u4 u6 (f - 1) (a / u4) (b / u6) := by
  cases f with
  | zero => omega
  | succ f => simp [strip, h, h', hn]
theorem strip_stop {u4 u6 : Int} {f : Nat} {a b : Int} (h : ¬ (a % u4 = 0 ∧ b % u6 = 0)) : strip u4 u6 f a b = (a, b) := by
  cases f with
  | zero => rfl
  | succ f => rw [strip, if_neg (fun k => h ⟨k.1, k.2.1⟩)]
theorem abs_div0 {a p : Int} (hp : 2 ≤ p) (h : a % p = 0) : (a / p).natAbs ≤ a.natAbs ∧ (a ≠ 0 → (a / p).natAbs < a.natAbs ∧ a / p ≠ 0) := by
  by_cases ha : a = 0
  · subst ha; simp
  · have := abs_div hp ha h
    exact ⟨by omega, fun _ => this⟩
theorem strip_sum {u4 u6 a b : Int} (h4 : 2 ≤ u4) (h6 : 2 ≤ u6) (h : a % u4 = 0) (h' : b % u6 = 0) (hn : a ≠ 0 ∨ b ≠ 0) :
    (a / u4).natAbs + (b / u6).natAbs < a.natAbs + b.natAbs ∧ (a / u4 ≠ 0 ∨ b / u6 ≠ 0) := by
  have h1 := abs_div0 h4 h
  have h2 := abs_div0 h6 h'
  rcases hn with k | k
  · have := h1.2 k
    exact ⟨by omega, Or.inl this.2⟩
  · have := h2.2 k
    exact ⟨by omega, Or.inr this.2⟩
/-- what is known of the end -/
theorem strip_end {u4 u6 : Int} (h4 : 2 ≤ u4) (h6 : 2 ≤ u6) : ∀ (f : Nat) (a b : Int), a.natAbs + b.natAbs ≤ f → (a ≠ 0 ∨ b ≠ 0) →
    ((strip u4 u6 f a b).1 ≠ 0 ∨ (strip u4 u6 f a b).2 ≠ 0) ∧ ¬ ((strip u4 u6 f a b).1 % u4 = 0 ∧ (strip u4 u6 f a b).2 % u6 = 0) ∧
    (strip u4 u6 f a b).1 ∣ a ∧ (strip u4 u6 f a b).2 ∣ b ∧ (strip u4 u6 f a b).1.natAbs ≤ a.natAbs ∧ (strip u4 u6 f a b).2.natAbs ≤ b.natAbs
  | 0, a, b, hf, hn => by omega
  | f + 1, a, b, hf, hn => by
    by_cases h : a % u4 = 0 ∧ b % u6 = 0
    · rw [strip_go hf h.1 h.2 hn]
      have hs := strip_sum h4 h6 h.1 h.2 hn
      have h1 := abs_div0 h4 h.1
      have h2 := abs_div0 h6 h.2
      obtain ⟨e1, e2, e3, e4, e5, e6⟩ := strip_end h4 h6 f (a / u4) (b / u6) (by omega) hs.2
      refine ⟨e1, e2, Int.dvd_trans e3 ⟨u4, ?_⟩, Int.dvd_trans e4 ⟨u6, ?_⟩, by simp only [Nat.add_sub_cancel]; omega, by simp only [Nat.add_sub_cancel]; omega⟩
      · exact (exact_div (by omega) h.1).symm
      · exact (exact_div (by omega) h.2).symm
    · rw [strip_stop h]
      exact ⟨hn, h, Int.dvd_refl _, Int.dvd_refl _, Nat.le_refl _, Nat.le_refl _⟩
def stripT (u4 u6 : Int) (x : Int × Int) : Int × Int := strip u4 u6 (x.1.natAbs + x.2.natAbs) x.1 x.2
def nb1 (x : Int × Int) : Int × Int := stripT 16 64 x
def nb2 (x : Int × Int) : Int × Int := stripT 81 729 (nb1 x)
def nb3 (x : Int × Int) : Int × Int := stripT 625 15625 (nb2 x)
theorem nb_props {x : Int × Int} (hx : x.1 ≠ 0 ∨ x.2 ≠ 0) :
    ((nb1 x).1 ≠ 0 ∨ (nb1 x).2 ≠ 0) ∧ ((nb2 x).1 ≠ 0 ∨ (nb2 x).2 ≠ 0) ∧ ((nb3 x).1 ≠ 0 ∨ (nb3 x).2 ≠ 0) ∧
    (nb1 x).1.natAbs ≤ x.1.natAbs ∧ (nb1 x).2.natAbs ≤ x.2.natAbs ∧ (nb2 x).1.natAbs ≤ x.1.natAbs ∧ (nb2 x).2.natAbs ≤ x.2.natAbs ∧ (nb3 x).1.natAbs ≤ x.1.natAbs ∧ (nb3 x).2.natAbs ≤ x.2.natAbs ∧
    ¬ ((nb2 x).1 % 256 = 0 ∧ (nb2 x).2 % 4096 = 0) := by
  obtain ⟨a1, a2, a3, a4, a5, a6⟩ := strip_end (u4 := 16) (u6 := 64) (by omega) (by omega) _ x.1 x.2 (Nat.le_refl _) hx
  obtain ⟨b1, b2, b3, b4, b5, b6⟩ := strip_end (u4 := 81) (u6 := 729) (by omega) (by omega) _ (nb1 x).1 (nb1 x).2 (Nat.le_refl _) a1
  obtain ⟨c1, c2, c3, c4, c5, c6⟩ := strip_end (u4 := 625) (u6 := 15625) (by omega) (by omega) _ (nb2 x).1 (nb2 x).2 (Nat.le_refl _) b1
  have a5' : (nb1 x).1.natAbs ≤ x.1.natAbs := a5
  have a6' : (nb1 x).2.natAbs ≤ x.2.natAbs := a6
  have b5' : (nb2 x).1.natAbs ≤ (nb1 x).1.natAbs := b5
  have b6' : (nb2 x).2.natAbs ≤ (nb1 x).2.natAbs := b6
  have c5' : (nb3 x).1.natAbs ≤ (nb2 x).1.natAbs := c5
  have c6' : (nb3 x).2.natAbs ≤ (nb2 x).2.natAbs := c6
  refine ⟨a1, b1, c1, a5', a6', by omega, by omega, by omega, by omega, fun ⟨k1, k2⟩ => a2 ⟨?_, ?_⟩⟩
  · exact Int.emod_eq_zero_of_dvd (Int.dvd_trans (Int.dvd_of_emod_eq_zero (show (nb2 x).1 % 16 = 0 by omega)) b3)
  · exact Int.emod_eq_zero_of_dvd (Int.dvd_trans (Int.dvd_of_emod_eq_zero (show (nb2 x).2 % 64 = 0 by omega)) b4)
/-- the numbers behind k rounds: of the program; of the reference, which tries 4, too -/
def nbI (x : Int × Int) : Nat → Int × Int
  | 0 => x
  | 1 => nb1 x
  | 2 => nb2 x
  | _ => nb3 x
def nbS (x : Int × Int) : Nat → Int × Int
  | 0 => x
  | 1 => nb1 x
  | 2 => nb2 x
  | 3 => nb2 x
  | _ => nb3 x
theorem nb_noop {x : Int × Int} (h : ¬ (x.1 % 256 = 0 ∧ x.2 % 4096 = 0)) : stripT 256 4096 x = x := by
  unfold stripT
  rw [strip_stop h]
/-- the inner loop's relation -/
structure SRel (u4 u6 : Int) (p : Int × Int) (x y : Int) : Prop where
  ne : x ≠ 0 ∨ y ≠ 0
  bx : x.natAbs ≤ p.1.natAbs
  bY : y.natAbs ≤ p.2.natAbs
  st : ∃ f, x.natAbs + y.natAbs ≤ f ∧ strip u4 u6 f x y = stripT u4 u6 p
theorem SRel.start {u4 u6 x y : Int} {p : Int × Int} (hp : (x, y) = p) (h : x ≠ 0 ∨ y ≠ 0) : SRel u4 u6 p x y := by
  subst hp
  exact ⟨h, Nat.le_refl _, Nat.le_refl _, _, Nat.le_refl _, rfl⟩
theorem SRel.step {u4 u6 x y : Int} {p : Int × Int} (h4 : 2 ≤ u4) (h6 : 2 ≤ u6) (h : SRel u4 u6 p x y) (hx : x % u4 = 0) (hy : y % u6 = 0) : SRel u4 u6 p (x / u4) (y / u6) := by
  obtain ⟨f, hf, hs⟩ := h.st
  have hsum := strip_sum h4 h6 hx hy h.ne
  have h1 := (abs_div0 h4 hx).1
  have h2 := (abs_div0 h6 hy).1
  refine ⟨hsum.2, Nat.le_trans h1 h.bx, Nat.le_trans h2 h.bY, f - 1, by omega, ?_⟩
  rw [← strip_go hf hx hy h.ne]
  exact hs
theorem SRel.stop {u4 u6 x y : Int} {p : Int × Int} (h : SRel u4 u6 p x y) (hn : ¬ (x % u4 = 0 ∧ y % u6 = 0)) : (x, y) = stripT u4 u6 p := by
  obtain ⟨f, -, hs⟩ := h.st
  rw [← hs, strip_stop hn]
theorem SRel.less {u4 u6 x y : Int} {p : Int × Int} (h4 : 2 ≤ u4) (h6 : 2 ≤ u6) (h : SRel u4 u6 p x y) (hx : x % u4 = 0) (hy : y % u6 = 0) : (x / u4).natAbs + (y / u6).natAbs < x.natAbs + y.natAbs :=
  (strip_sum h4 h6 hx hy h.ne).1
/-- the raw neighbour of a curve is not 0, 0 -/
theorem raw_ne {a b e : Int} (hg : good a b = true) (hr : val a b e = 0) : rawA a e ≠ 0 ∨ rawB a b e ≠ 0 := by
  by_cases h1 : rawA a e = 0
  · right
    intro h2
    unfold rawA rawT at h1
    unfold rawB rawT at h2
    unfold val at hr
    have e1 : 3 * e * e = 3 * (e * e) := Int.mul_assoc 3 e e
    have ha : 4 * a = -(15 * (e * e)) := by omega
    have hu : 4 * (a * e) = -(15 * (e * e * e)) := by
      rw [← Int.mul_assoc, ha, Int.neg_mul, Int.mul_assoc]
    have e2 : 7 * e * (3 * e * e + a) = 21 * (e * e * e) + 7 * (a * e) := by
      rw [Int.mul_add, e1]
      have f1 : 7 * e * (3 * (e * e)) = 21 * (e * e * e) := by
        rw [show (7 : Int) * e * (3 * (e * e)) = 7 * 3 * (e * (e * e)) from by simp only [Int.mul_assoc, Int.mul_left_comm], ← Int.mul_assoc e e e]
        rfl
      have f2 : 7 * e * a = 7 * (a * e) := by rw [Int.mul_assoc, Int.mul_comm e a]
      omega
    have ht : e * e * e = 0 := by omega
    have he : e = 0 := by
      rcases Int.mul_eq_zero.1 ht with k | k
      · rcases Int.mul_eq_zero.1 k with k | k <;> exact k
      · exact k
    subst he
    have a0 : a = 0 := by omega
    subst a0
    have b0 : b = 0 := by omega
    subst b0
    exact good_disc hg rfl
  · exact Or.inl h1
theorem raw_bd {a b e : Int} (h : inCurve a b = true) (h1 : -200 ≤ e) (h2 : e ≤ 200) :
    (0 ≤ e * e ∧ e * e ≤ 40000) ∧ (-600 ≤ 3 * e ∧ 3 * e ≤ 600) ∧ (-120000 ≤ 3 * e * e ∧ 3 * e * e ≤ 120000) ∧ (-121000 ≤ rawT a e ∧ rawT a e ≤ 121000) ∧ (-169400000 ≤ 7 * e * rawT a e ∧ 7 * e * rawT a e ≤ 169400000) ∧
    (-1000000 ≤ rawA a e ∧ rawA a e ≤ 1000000) ∧ (-170000000 ≤ rawB a b e ∧ rawB a b e ≤ 170000000) := by
  obtain ⟨g1, g2, g3, g4⟩ := inCurve_bd h
  have s := sq_bd (x := e) (m := 200) (by omega) h2
  have b1 := mul_bd (x := 3 * e) (y := e) (m := 600) (n := 200) (by omega) (by omega) (by omega) (by omega)
  have ht : -121000 ≤ rawT a e ∧ rawT a e ≤ 121000 := by unfold rawT; omega
  have b2 := mul_bd (x := 7 * e) (y := rawT a e) (m := 1400) (n := 121000) (by omega) (by omega) (by omega) (by omega)
  refine ⟨by omega, by omega, by omega, ht, by omega, ?_, ?_⟩
  · unfold rawA; omega
  · unfold rawB; omega
end M
end Go.Proofs.YtmipenpeebmjkaaGreat

namespace Go.Proofs.YtmipenpeebmjkaaGreat
set_option linter.unusedSimpArgs false
set_option linter.unusedVariables false
namespace M
/-- good primes from 5 on -/
noncomputable def goods (a b n : Int) : List Int := sel (goodp a b) 5 (n - 4).toNat
theorem mem_goods {a b n p : Int} (h : p ∈ goods a b n) : goodp a b p = true ∧ 5 ≤ p ∧ p ≤ n := by
  have := mem_sel.1 h
  exact ⟨this.2, this.1.1, by have := this.1; omega⟩
/-- powers -/
def ipow (p : Int) : Nat → Int
  | 0 => 1
  | k + 1 => ipow p k * p
theorem ipow_bd {p : Int} (h1 : 0 ≤ p) (h2 : p ≤ 1000) : ∀ k : Nat, 0 ≤ ipow p k ∧ ipow p k ≤ 1000 ^ k
  | 0 => by simp [ipow]
  | k + 1 => by
    obtain ⟨a, b⟩ := ipow_bd h1 h2 k
    have := mul_nn a b h1 h2
    simp only [ipow, Int.pow_succ]
    exact this
theorem ipow_bd4 {p : Int} (h1 : 0 ≤ p) (h2 : p ≤ 1000) {k : Nat} (hk : k ≤ 5) : 0 ≤ ipow p k ∧ ipow p k ≤ 1000000000000000 := by
  have := ipow_bd h1 h2 k
  have e : (1000 : Int) ^ k ≤ 1000000000000000 := by
    rcases (show k = 0 ∨ k = 1 ∨ k = 2 ∨ k = 3 ∨ k = 4 ∨ k = 5 by omega) with rfl | rfl | rfl | rfl | rfl | rfl <;> decide
  omega
/-- the first good prime with different traces, or 0 -/
noncomputable def differ (a b c d p : Int) : Bool := goodp c d p && (trace a b p != trace c d p)
noncomputable def firstD (a b c d n : Int) : Option Int := (goods a b n).find? (differ a b c d)

/-- a list of different numbers below n that is n long is all of them -/
theorem nodup_len : ∀ (n : Nat) (l : List Nat), l.Nodup → (∀ x ∈ l, x < n) → l.length ≤ n
  | 0, l, _, h => by
    cases l with
    | nil => simp
    | cons x l => have := h x List.mem_cons_self; omega
  | n + 1, l, hd, h => by
    have h1 : (l.erase n).Nodup := hd.erase n
    have h2 : ∀ x ∈ l.erase n, x < n := fun x hx => by
      have hxl := List.mem_of_mem_erase hx
      have := h x hxl
      have hne : x ≠ n := fun e => by
        rw [e] at hx
        exact hd.not_mem_erase hx
      omega
    have := nodup_len n (l.erase n) h1 h2
    by_cases hm : n ∈ l
    · rw [List.length_erase_of_mem hm] at this
      omega
    · rw [List.erase_of_not_mem hm] at this
      omega
theorem perm_range : ∀ (n : Nat) (l : List Nat), l.Nodup → (∀ x ∈ l, x < n) → l.length = n → l.Perm (List.range n)
  | 0, l, _, h, hl => by
    have : l = [] := List.eq_nil_of_length_eq_zero hl
    rw [this]
    exact List.Perm.refl _
  | n + 1, l, hd, h, hl => by
    have h1 : (l.erase n).Nodup := hd.erase n
    have h2 : ∀ x ∈ l.erase n, x < n := fun x hx => by
      have hxl := List.mem_of_mem_erase hx
      have := h x hxl
      have hne : x ≠ n := fun e => by
        rw [e] at hx
        exact hd.not_mem_erase hx
      omega
    have hm : n ∈ l := by
      by_cases hm : n ∈ l
      · exact hm
      · exfalso
        rw [List.erase_of_not_mem hm] at h1 h2
        have := nodup_len n l h1 h2
        omega
    have h3 : (l.erase n).length = n := by rw [List.length_erase_of_mem hm]; omega
    have ih := perm_range n (l.erase n) h1 h2 h3
    rw [List.range_succ]
    refine (List.perm_cons_erase hm).trans ?_
    exact (ih.cons n).trans (List.perm_append_singleton n (List.range n)).symm
theorem sumTo_list (f : Int → Int) : ∀ n : Nat, sumTo f n = ((List.range n).map fun x : Nat => f (x : Int)).sum
  | 0 => rfl
  | n + 1 => by
    rw [List.range_succ, List.map_append, List.sum_append, sumTo, sumTo_list f n]
    simp
theorem perm_sum {l l' : List Int} (h : l.Perm l') : l.sum = l'.sum := by
  induction h with
  | nil => rfl
  | cons x _ ih => simp only [List.sum_cons, ih]
  | swap x y l => simp only [List.sum_cons]; omega
  | trans _ _ h1 h2 => exact h1.trans h2
/-- multiplying the residues by a unit permutes them -/
theorem sum_mul {p : Nat} (hp : Prime p) {u : Int} (hu : ¬ u % p = 0) (f : Int → Int) : sumTo (fun x => f (u * x % p)) p = sumTo f p := by
  have hp2 := hp.1
  rw [sumTo_list, sumTo_list]
  have e : (List.range p).map (fun x : Nat => f (u * (x : Int) % p)) = ((List.range p).map fun x : Nat => (u * (x : Int) % p).toNat).map fun x : Nat => f (x : Int) := by
    rw [List.map_map]
    refine List.map_congr_left fun x _ => ?_
    have := mod_bd (a := u * (x : Int)) (p := (p : Int)) (by omega)
    simp only [Function.comp]
    rw [Int.toNat_of_nonneg this.1]
  rw [e]
  refine perm_sum (List.Perm.map _ (perm_range p _ ?_ ?_ (by simp)))
  · refine List.nodup_iff_pairwise_ne.2 ?_
    rw [List.pairwise_map]
    refine List.Pairwise.imp_of_mem ?_ (List.nodup_iff_pairwise_ne.1 List.nodup_range)
    intro x y hx hy hne he
    have hx := List.mem_range.1 hx
    have hy := List.mem_range.1 hy
    have b1 := mod_bd (a := u * (x : Int)) (p := (p : Int)) (by omega)
    have b2 := mod_bd (a := u * (y : Int)) (p := (p : Int)) (by omega)
    have he' : u * (x : Int) % p = u * (y : Int) % p := by omega
    have hd : (u * ((x : Int) - y)) % p = 0 := by
      rw [Int.mul_sub]
      exact Int.emod_eq_emod_iff_emod_sub_eq_zero.1 he'
    have := prime_mul hp hd hu
    have hdv := Int.dvd_of_emod_eq_zero this
    obtain ⟨c, hc⟩ := hdv
    rcases Int.lt_trichotomy c 0 with k | k | k
    · have : (p : Int) * c ≤ p * (-1) := Int.mul_le_mul_of_nonneg_left (by omega) (by omega)
      omega
    · rw [k] at hc; omega
    · have : (p : Int) * 1 ≤ p * c := Int.mul_le_mul_of_nonneg_left (by omega) (by omega)
      omega
  · intro x hx
    obtain ⟨y, _, rfl⟩ := List.mem_map.1 hx
    have := mod_bd (a := u * (y : Int)) (p := (p : Int)) (by omega)
    omega
end M
end Go.Proofs.YtmipenpeebmjkaaGreat
