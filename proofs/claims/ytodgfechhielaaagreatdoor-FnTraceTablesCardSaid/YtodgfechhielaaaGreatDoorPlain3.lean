/-
  Plain mathematics: prime divisors, valuations, squarefree parts, twist numbers.
-/
import Derived.Test.YtodgfechhielaaaGreatDoorPlain2
namespace Go.Proofs.YtodgfechhielaaaGreatDoor
set_option linter.unusedSimpArgs false
set_option linter.unusedVariables false
namespace M
/-- no divisor between 1 and a prime -/
theorem prime_div {q d : Int} (hq : Prime q) (h2 : 2 ≤ d) (hd : q % d = 0) : d = q := by
  have hdvd : d ∣ q := Int.dvd_of_emod_eq_zero hd
  obtain ⟨c, hc⟩ := hdvd
  have hq2 := hq.1
  have hc1 : 1 ≤ c := by
    rcases Int.lt_or_le c 1 with h | h
    · have : d * c ≤ 0 := Int.mul_nonpos_of_nonneg_of_nonpos (by omega) (by omega)
      omega
    · exact h
  rcases Int.lt_or_le c 2 with h | h
  · have : c = 1 := by omega
    rw [this] at hc
    omega
  · exfalso
    rcases Int.lt_or_le c d with h' | h'
    · refine hq.2 c h ?_ ?_
      · rw [hc]; exact Int.mul_le_mul_of_nonneg_right (by omega) (by omega)
      · rw [hc]; exact Int.mul_emod_left d c
    · refine hq.2 d h2 ?_ hd
      rw [hc]; exact Int.mul_le_mul_of_nonneg_left h' (by omega)

theorem prime_gcd {q x : Int} (hq : Prime q) (h : ¬ x % q = 0) : Int.gcd q x = 1 := by
  have hg : (Int.gcd q x : Int) ∣ q := Int.gcd_dvd_left ..
  have hg2 : (Int.gcd q x : Int) ∣ x := Int.gcd_dvd_right ..
  have hq2 := hq.1
  have hpos : 0 < Int.gcd q x := Int.gcd_pos_of_ne_zero_left _ (by omega)
  rcases Nat.lt_or_ge (Int.gcd q x) 2 with k | k
  · omega
  · exfalso
    have := prime_div hq (d := (Int.gcd q x : Int)) (by omega) (Int.emod_eq_zero_of_dvd hg)
    rw [this] at hg2
    exact h (Int.emod_eq_zero_of_dvd hg2)

/-- Euclid -/
theorem prime_mul {q x y : Int} (hq : Prime q) (h : x * y % q = 0) (hx : ¬ x % q = 0) : y % q = 0 := by
  have h1 := Int.dvd_gcd_mul_iff_dvd_mul.2 (Int.dvd_of_emod_eq_zero h)
  rw [prime_gcd hq hx] at h1
  exact Int.emod_eq_zero_of_dvd (by simpa using h1)

/-- the primes that divide a number, increasing -/
noncomputable def pdiv (n p : Int) : Bool := prime p && (n % p == 0)
noncomputable def primesOf (n : Int) : List Int := sel (pdiv n) 0 (n.natAbs + 1)
theorem sel_skip {f : Int → Bool} {k m : Nat} (h : ∀ x : Int, (k : Int) ≤ x → x < m → f x = false) (hkm : k ≤ m) : sel f 0 m = sel f 0 k := by
  induction m with
  | zero => obtain rfl : k = 0 := by omega
            rfl
  | succ m ih =>
    rcases Nat.lt_or_ge k (m + 1) with q | q
    · rw [sel_no (by rw [Int.zero_add]; exact h m (by omega) (by omega)), ih (fun x h1 h2 => h x h1 (by omega)) (by omega)]
    · obtain rfl : k = m + 1 := by omega
      rfl

theorem primesOf_abs (n : Int) : primesOf n = primesOf n.natAbs := by
  unfold primesOf
  congr 1
  funext p
  unfold pdiv
  congr 1
  rw [Bool.eq_iff_iff, beq_iff_eq, beq_iff_eq]
  constructor
  · intro h
    exact Int.emod_eq_zero_of_dvd (Int.dvd_natAbs.2 (Int.dvd_of_emod_eq_zero h))
  · intro h
    exact Int.emod_eq_zero_of_dvd (Int.dvd_natAbs.1 (Int.dvd_of_emod_eq_zero h))
/-- the loop's relation: N the number, n what is left, p the next trial, l the list -/
structure PRel (N n p : Int) (l : List Int) : Prop where
  n1 : 1 ≤ n
  p2 : 2 ≤ p
  nN : n ≤ N
  pn : n = 1 ∨ p ≤ n
  pN : p ≤ N + 1
  dvd : N % n = 0
  low : ∀ d : Int, 2 ≤ d → d < p → ¬ n % d = 0
  big : ∀ q : Int, Prime q → p ≤ q → N % q = 0 → n % q = 0
  out : l = sel (pdiv N) 0 p.toNat

theorem PRel.start {N : Int} (h : 1 ≤ N) : PRel N N 2 [] where
  n1 := h
  p2 := by omega
  nN := by omega
  pn := by omega
  pN := by omega
  dvd := Int.emod_self
  low := fun d h1 h2 => by omega
  big := fun q _ _ h => h
  out := by
    have : sel (pdiv N) 0 2 = sel (pdiv N) 0 0 := sel_skip (fun x h1 h2 => by
      unfold pdiv
      rw [prime_not.2 (fun h => by have := h.1; omega)]
      rfl) (by omega)
    exact this.symm

/-- what is left is a prime when the trial's square is greater -/
theorem PRel.prime {N n p : Int} {l : List Int} (h : PRel N n p l) (hn : 1 < n) (hp : n < p * p) : Prime n := by
  refine ⟨by omega, fun d h2 hd => h.low d h2 ?_⟩
  exact sq_lt (by have := h.p2; omega) (by omega)
theorem dvd_tr {a b c : Int} (h : c % b = 0) (k : b % a = 0) : c % a = 0 :=
  Int.emod_eq_zero_of_dvd (Int.dvd_trans (Int.dvd_of_emod_eq_zero k) (Int.dvd_of_emod_eq_zero h))
/-- the trial jumps to what is left -/
theorem PRel.jump {N n p : Int} {l : List Int} (h : PRel N n p l) (hn : 1 < n) (hp : n < p * p) : PRel N n n l where
  n1 := h.n1
  p2 := by omega
  nN := h.nN
  pn := by omega
  pN := by have := h.nN; omega
  dvd := h.dvd
  low := fun d h2 hd hz => by
    have := prime_div (h.prime hn hp) h2 hz
    omega
  big := fun q hq hpq hN => h.big q hq (by rcases h.pn with k | k <;> omega) hN
  out := by
    rw [h.out]
    have hpn : p ≤ n := by rcases h.pn with k | k <;> omega
    refine (sel_skip (fun x h1 h2 => ?_) (by omega)).symm
    unfold pdiv
    have hp2 := h.p2
    cases hx : M.prime x
    · rfl
    · have hxp := prime_iff.1 hx
      cases hd : (N % x == 0)
      · rfl
      · have := h.big x hxp (by omega) (by simpa using hd)
        have := prime_div (h.prime hn hp) hxp.1 this
        omega
/-- the inner loop: what is left behind some divisions by p -/
structure PIn (n p n' : Int) : Prop where
  n1 : 1 ≤ n'
  nn : n' ≤ n
  dvd : n % n' = 0
  big : ∀ q : Int, Prime q → p < q → n % q = 0 → n' % q = 0
theorem PIn.start {n p : Int} (h : 1 ≤ n) : PIn n p n := ⟨h, by omega, Int.emod_self, fun _ _ _ h => h⟩
theorem exact_div {n p : Int} (hp : 1 ≤ p) (h : n % p = 0) : n / p * p = n := Int.ediv_mul_cancel (Int.dvd_of_emod_eq_zero h)
theorem div_lt {n p : Int} (hp : 2 ≤ p) (hn : 1 ≤ n) : n / p < n := by
  have := Int.ediv_lt_of_lt_mul (a := n) (b := n) (c := p) (by omega) (by
    have := Int.mul_le_mul_of_nonneg_left hp (show 0 ≤ n by omega)
    omega)
  exact this
theorem PIn.step {n p n' : Int} (h : PIn n p n') (hp : Prime p) (hd : n' % p = 0) : PIn n p (n' / p) := by
  have hp2 := hp.1
  have he := exact_div (by omega) hd
  have h1 := h.n1
  have hpos : 1 ≤ n' / p := by
    rcases Int.lt_or_le (n' / p) 1 with k | k
    · have : n' / p * p ≤ 0 := Int.mul_nonpos_of_nonpos_of_nonneg (by omega) (by omega)
      omega
    · exact k
  have hlt := div_lt hp2 h1
  refine ⟨hpos, by have := h.nn; omega, dvd_tr h.dvd ?_, fun q hq hpq hnq => ?_⟩
  · exact Int.emod_eq_zero_of_dvd ⟨p, he.symm⟩
  · have := h.big q hq hpq hnq
    refine prime_mul hq (x := p) ?_ ?_
    · rw [Int.mul_comm, he]; exact this
    · intro hz
      have := prime_div hp hq.1 hz
      omega
/-- a trial that divides what is left is a prime -/
theorem PRel.tprime {N n p : Int} {l : List Int} (h : PRel N n p l) (hd : n % p = 0) : Prime p :=
  ⟨h.p2, fun d h2 hdp hz => h.low d h2 (by
    rcases Int.lt_or_le d p with k | k
    · exact k
    · have : p * p ≤ d * d := Int.mul_le_mul k k (by have := h.p2; omega) (by omega)
      have : 2 * p ≤ p * p := Int.mul_le_mul_of_nonneg_right h.p2 (by have := h.p2; omega)
      have := h.p2
      omega) (dvd_tr hd hz)⟩
theorem pdiv_yes {N n p : Int} {l : List Int} (h : PRel N n p l) (hd : n % p = 0) : pdiv N p = true := by
  simp [pdiv, prime_iff.2 (h.tprime hd), dvd_tr h.dvd hd]
theorem pdiv_no {N n p : Int} {l : List Int} (h : PRel N n p l) (hd : ¬ n % p = 0) : pdiv N p = false := by
  unfold pdiv
  cases hp : prime p
  · rfl
  · cases hN : (N % p == 0)
    · rfl
    · exact absurd (h.big p (prime_iff.1 hp) (by omega) (by simpa using hN)) hd
theorem PRel.next {N n p n' : Int} {l l' : List Int} (h : PRel N n p l) (hn : 1 < n) (hi : PIn n p n') (hd : ¬ n' % p = 0) (hl : l' = if n % p = 0 then l ++ [p] else l) : PRel N n' (p + 1) l' where
  n1 := hi.n1
  p2 := by have := h.p2; omega
  nN := by have := hi.nn; have := h.nN; omega
  pn := by
    rcases Int.lt_or_le 1 n' with k | k
    · right
      rcases Int.lt_or_le p n' with g | g
      · omega
      · exfalso
        rcases Int.lt_or_le n' p with f | f
        · exact h.low n' (by omega) f hi.dvd
        · have : n' = p := by omega
          rw [this] at hd
          exact hd Int.emod_self
    · left
      have := hi.n1
      omega
  pN := by
    have h1 := h.nN
    rcases h.pn with k | k <;> omega
  dvd := dvd_tr h.dvd hi.dvd
  low := fun d h2 hdp hz => by
    rcases Int.lt_or_le d p with k | k
    · exact h.low d h2 k (dvd_tr hi.dvd hz)
    · have : d = p := by omega
      rw [this] at hz
      exact hd hz
  big := fun q hq hpq hN => hi.big q hq (by omega) (h.big q hq (by omega) hN)
  out := by
    have hp2 := h.p2
    have e : (p + 1).toNat = p.toNat + 1 := by omega
    rw [e, hl]
    by_cases hz : n % p = 0
    · rw [if_pos hz, sel_yes (by rw [Int.zero_add, Int.toNat_of_nonneg (by omega)]; exact pdiv_yes h hz), ← h.out, Int.zero_add, Int.toNat_of_nonneg (by omega)]
    · rw [if_neg hz, sel_no (by rw [Int.zero_add, Int.toNat_of_nonneg (by omega)]; exact pdiv_no h hz), ← h.out]
theorem PRel.done {N n p : Int} {l : List Int} (h : PRel N n p l) (hn : n ≤ 1) : l = primesOf N := by
  have h1 := h.n1
  have hn : n = 1 := by omega
  have hN := h.nN
  rw [h.out]
  unfold primesOf
  have e : ((N.natAbs : Nat) : Int) = N := by omega
  refine (sel_skip (fun x h2 h3 => ?_) (by have := h.pN; omega)).symm
  unfold pdiv
  cases hp : M.prime x
  · rfl
  · cases hd : (N % x == 0)
    · rfl
    · have hx := prime_iff.1 hp
      have := h.big x hx (by have := h.p2; omega) (by simpa using hd)
      rw [hn] at this
      have := hx.1
      have : (1 : Int) % x = 1 := Int.emod_eq_of_lt (by omega) (by omega)
      omega
/-- how often p divides -/
def valF (p : Int) : Nat → Int → Int
  | 0, _ => 0
  | f + 1, a => if a % p = 0 then 1 + valF p f (a / p) else 0
def valn (a p : Int) : Int := valF p a.natAbs a
theorem abs_div {a p : Int} (hp : 2 ≤ p) (ha : a ≠ 0) (h : a % p = 0) : (a / p).natAbs < a.natAbs ∧ a / p ≠ 0 := by
  have he := exact_div (n := a) (by omega) h
  have e2 : a.natAbs = (a / p).natAbs * p.natAbs := by rw [← Int.natAbs_mul, he]
  have hp' : 2 ≤ p.natAbs := by omega
  have hne : a / p ≠ 0 := by
    intro hz
    rw [hz] at he
    omega
  have : (a / p).natAbs * 2 ≤ (a / p).natAbs * p.natAbs := Nat.mul_le_mul_left _ hp'
  exact ⟨by omega, hne⟩
theorem valF_step {p : Int} {f : Nat} {a : Int} (hp : 2 ≤ p) (ha : a ≠ 0) (hf : a.natAbs ≤ f) (h : a % p = 0) : valF p f a = 1 + valF p (f - 1) (a / p) := by
  cases f with
  | zero => omega
  | succ f => simp [valF, h]
theorem valF_stop {p : Int} {f : Nat} {a : Int} (h : ¬ a % p = 0) : valF p f a = 0 := by
  cases f with
  | zero => rfl
  | succ f => simp [valF, h]
theorem valF_nn (p : Int) : ∀ (f : Nat) (a : Int), 0 ≤ valF p f a ∧ valF p f a ≤ f
  | 0, _ => by simp [valF]
  | f + 1, a => by
    have := valF_nn p f (a / p)
    simp only [valF]
    split <;> omega
theorem tdiv_exact {a p : Int} (hp : 1 ≤ p) (h : a % p = 0) : a.tdiv p = a / p := by
  rw [Int.tdiv_eq_ediv_of_dvd (Int.dvd_of_emod_eq_zero h)]
theorem tmod_zero {a p : Int} : a.tmod p = 0 ↔ a % p = 0 := by
  constructor
  · intro h
    exact Int.emod_eq_zero_of_dvd (Int.dvd_of_tmod_eq_zero h)
  · intro h
    exact Int.tmod_eq_zero_of_dvd (Int.dvd_of_emod_eq_zero h)
/-- squarefree parts, as the program reckons them -/
def sfStep (n : Int) (out p : Int) : Int := if valn n p % 2 = 1 then Go.RowKit.wrap64 (out * p) else out
def sgn1 (n : Int) : Int := if n < 0 then -1 else 1
theorem sfStep_odd {n out p : Int} (h : valn n p % 2 = 1) : sfStep n out p = Go.RowKit.wrap64 (out * p) := if_pos h
theorem sfStep_even {n out p : Int} (h : ¬ valn n p % 2 = 1) : sfStep n out p = out := if_neg h
noncomputable def sqfree (n : Int) : Int := (primesOf n).foldl (sfStep n) (sgn1 n)
/-- the same, computable, for small numbers -/
def primeS (p : Nat) : Bool := Nat.ble 2 p && !(hasDiv p)
theorem allB_no {f : Nat → Bool} : ∀ {n : Nat}, allB f n = false → ∃ k, k < n ∧ f k = false
  | n + 1, h => by
    simp only [allB, Bool.and_eq_false_iff] at h
    rcases h with h | h
    · exact ⟨n, by omega, h⟩
    · obtain ⟨k, hk, hf⟩ := allB_no h
      exact ⟨k, by omega, hf⟩
theorem prime_small {n : Nat} (h : n ≤ 1000) : prime (n : Int) = primeS n := by
  unfold primeS
  cases hp : prime (n : Int)
  · symm
    cases h2 : Nat.ble 2 n
    · rfl
    · cases hd : hasDiv n
      · exfalso
        refine prime_not.1 hp ⟨?_, fun d h2d hdd hz => ?_⟩
        · have := Nat.le_of_ble_eq_true h2; omega
        · unfold hasDiv at hd
          rw [Bool.not_eq_false'] at hd
          have hd32 : d < 32 := sq_lt (by omega) (by omega)
          have := allB_at hd (k := d.toNat) (by omega)
          have e : ((d.toNat : Nat) : Int) = d := Int.toNat_of_nonneg (by omega)
          simp only [Bool.or_eq_true, Bool.not_eq_true'] at this
          rcases this with (k | k) | k
          · rw [Nat.blt_eq] at k; omega
          · rw [Nat.blt_eq] at k
            have : (n : Int) < ((d.toNat * d.toNat : Nat) : Int) := Int.ofNat_lt.2 k
            push_cast at this
            rw [e] at this
            omega
          · have hz' : n % d.toNat = 0 := by
              have : ((n % d.toNat : Nat) : Int) = 0 := by push_cast; rw [e]; exact hz
              omega
            rw [hz'] at k
            cases k
      · rfl
  · have := hasDiv_not (prime_iff.1 hp)
    have h2 := (prime_iff.1 hp).1
    simp only [Int.toNat_natCast] at this
    rw [this]
    have : Nat.ble 2 n = true := by rw [Nat.ble_eq]; omega
    rw [this]
    rfl
def primesS (n : Nat) : List Int := ((List.range (n + 1)).filter fun p => primeS p && Nat.beq (n % p) 0).map Int.ofNat
theorem primesOf_small {d : Int} (h : d.natAbs ≤ 999) : primesOf d = primesS d.natAbs := by
  rw [primesOf_abs]
  unfold primesOf primesS sel upto
  rw [List.filter_map]
  have hf : ∀ i ∈ List.range (d.natAbs + 1), ((pdiv (d.natAbs : Int)) ∘ fun i : Nat => (0 : Int) + (i : Int)) i = (primeS i && Nat.beq (d.natAbs % i) 0) := by
    intro i hi
    have hi := List.mem_range.1 hi
    simp only [Function.comp, Int.zero_add, pdiv]
    rw [prime_small (by omega)]
    congr 1
    rw [Bool.eq_iff_iff, beq_iff_eq, Nat.beq_eq]
    omega
  rw [show ((d.natAbs : Int).natAbs) = d.natAbs from by omega, List.filter_congr hf]
  congr 1
  funext i
  simp
def sqfS (d : Int) : Int := (primesS d.natAbs).foldl (sfStep d) (sgn1 d)
theorem sqfree_small {d : Int} (h : d.natAbs ≤ 999) : sqfree d = sqfS d := by
  unfold sqfree sqfS
  rw [primesOf_small h]
/-- twist numbers -/
def tw (d : Int) : Bool := d != 0 && ins d (-30) 30 && d % 4 != 0 && d % 9 != 0 && d % 25 != 0
def twChk (i : Nat) : Bool := let d : Int := (i : Int) - 30; (d == 0) || ((sqfS d == d) == tw d)
theorem tw_all : allB twChk 61 = true := by kernel_rfl
theorem tw_sqf {d : Int} (h0 : d ≠ 0) (h1 : -30 ≤ d) (h2 : d ≤ 30) : (sqfree d == d) = tw d := by
  rw [sqfree_small (by omega)]
  have := allB_at tw_all (k := (d + 30).toNat) (by omega)
  unfold twChk at this
  rw [Int.toNat_of_nonneg (by omega), show d + 30 - 30 = d from by omega] at this
  simpa [h0] using this
theorem tw_iff {d : Int} : tw d = true ↔ d ≠ 0 ∧ -30 ≤ d ∧ d ≤ 30 ∧ d % 4 ≠ 0 ∧ d % 9 ≠ 0 ∧ d % 25 ≠ 0 := by
  simp only [tw, Bool.and_eq_true, ins_iff, bne_iff_ne]
  constructor
  · rintro ⟨⟨⟨⟨a, b, c⟩, d⟩, e⟩, f⟩; exact ⟨a, b, c, d, e, f⟩
  · rintro ⟨a, b, c, d, e, f⟩; exact ⟨⟨⟨⟨a, b, c⟩, d⟩, e⟩, f⟩
end M
end Go.Proofs.YtodgfechhielaaaGreatDoor
