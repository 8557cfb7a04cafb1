/-
  Plain: the bound on traces at one prime, by a count of the curves up to scaling and twists.
-/
import Derived.Test.YtjolmigpeghaoaaPlain12
namespace Go.Proofs.Ytjolmigpeghaoaa
set_option linter.unusedSimpArgs false
set_option linter.unusedVariables false
namespace M
/-- a table's entry: 1 + symbol -/
def tb (T z : Nat) : Nat := Nat.land (Nat.shiftRight T (2 * z)) 3
def tabOk (p T : Nat) : Bool := allB (fun z => Nat.beq (tb T z) (chN p z)) p
def hN (p T a b : Nat) : Nat → Nat
  | 0 => 0
  | x + 1 => Nat.add (hN p T a b x) (tb T ((x * (x * x + a) + b) % p))
def atW (p T W a b : Nat) : Bool := Nat.beq (Nat.land (Nat.shiftRight W (hN p T a b p)) 1) 1
def winOk (p W : Nat) : Bool := allB (fun s => Nat.beq (Nat.land (Nat.shiftRight W s) 1) 0 || Nat.ble (((s - p) + (p - s)) * ((s - p) + (p - s))) (4 * p)) (2 * p + 1)
def kk1 (p T W k : Nat) : Bool := Nat.beq k 0 || Nat.beq ((4 * k * k * k + 27 * k * k) % p) 0 || atW p T W k k
def kkC (p T W lo hi : Nat) : Bool := allB (fun k => Nat.blt k lo || kk1 p T W k) hi
def pwm (p g : Nat) : Nat → Nat
  | 0 => 0
  | j + 1 => Nat.lor (pwm p g j) (2 ^ (g ^ j % p))
def hP (p T W g : Nat) : Bool := tabOk p T && winOk p W && Nat.beq (Nat.lor 1 (pwm p g (p - 1))) (2 ^ p - 1) && (atW p T W 1 0 && atW p T W g 0) && (atW p T W 0 1 && atW p T W 0 g && atW p T W 0 (g * g))

theorem kk_join {p T W lo hi : Nat} (h : ∀ k, k < lo → kk1 p T W k = true) (hc : kkC p T W lo hi = true) : ∀ k, k < hi → kk1 p T W k = true := fun k hk => by
  by_cases hl : k < lo
  · exact h k hl
  · have h1 := allB_at hc hk
    cases h2 : Nat.blt k lo
    · rw [h2] at h1; exact h1
    · rw [Nat.blt_eq] at h2; omega
theorem hN_eq {p T a b : Nat} (hp : 1 ≤ p) (ht : tabOk p T = true) : ∀ k : Nat, (hN p T a b k : Int) = k + sumTo (fun x => symb (val a b x) p) k
  | 0 => rfl
  | k + 1 => by
    have e : symb (val a b (k : Int)) p = symb (((k * (k * k + a) + b) % p : Nat) : Int) p := by
      unfold val
      push_cast
      rw [symb_mod]
      congr 1
      grind
    have hm : (k * (k * k + a) + b) % p < p := Nat.mod_lt _ hp
    have h := allB_at ht hm
    have h' := Nat.eq_of_beq_eq_true h
    rw [hN, sumTo, e, h']
    have hc := chN_eq (p := p) (z := (k * (k * k + a) + b) % p) hp
    have hi := hN_eq (a := a) (b := b) hp ht k
    generalize (k * (k * k + a) + b) % p = z at *
    show (((hN p T a b k) + (chN p z) : Nat) : Int) = _
    push_cast
    rw [hi, hc]
    omega
theorem psum_bd (f : Int → Int) (p : Nat) : -(p : Int) ≤ psum f p ∧ psum f p ≤ p := by
  have := sumTo_bd (f := fun x => symb (f x) (p : Int)) (fun x => symb_bd _ _) (p : Int).toNat
  unfold psum
  omega
theorem atW_sq {p T W a b : Nat} (hp : 1 ≤ p) (ht : tabOk p T = true) (hw : winOk p W = true) (h : atW p T W a b = true) : psum (val a b) p * psum (val a b) p ≤ 4 * p := by
  have h1 := hN_eq (a := a) (b := b) hp ht p
  have h2 : psum (val a b) p = sumTo (fun x => symb (val a b x) p) p := rfl
  rw [← h2] at h1
  have h3 := psum_bd (val a b) p
  unfold atW at h
  generalize psum (val a b) p = t at *
  generalize hN p T a b p = s at *
  have h4 := allB_at hw (k := s) (by omega)
  have h5 := Nat.eq_of_beq_eq_true h
  rw [h5] at h4
  have h6 : Nat.beq 1 0 = false := rfl
  rw [h6, Bool.false_or] at h4
  have h7 := Nat.le_of_ble_eq_true h4
  have h8 : ((s - p + (p - s) : Nat) : Int) * ((s - p + (p - s) : Nat) : Int) ≤ 4 * p := by exact_mod_cast h7
  rcases Nat.le_total p s with h9 | h9
  · have : ((s - p + (p - s) : Nat) : Int) = t := by omega
    rw [this] at h8
    exact h8
  · have : ((s - p + (p - s) : Nat) : Int) = -t := by omega
    rw [this] at h8
    rw [Int.neg_mul_neg] at h8
    exact h8
theorem val_cong {a b c d p : Int} (h1 : a % p = c % p) (h2 : b % p = d % p) : psum (val a b) p = psum (val c d) p := by
  apply psum_congr
  intro x
  unfold val
  rw [Int.add_emod, Int.add_emod (x * x * x), Int.mul_emod a, h1, h2, ← Int.mul_emod, ← Int.add_emod (x * x * x), ← Int.add_emod]
theorem pwm_bit {p g : Nat} : ∀ (k i : Nat), (pwm p g k).testBit i = true → ∃ j, j < k ∧ i = g ^ j % p
  | 0, i, h => by simp [pwm] at h
  | k + 1, i, h => by
    rw [pwm] at h
    change ((pwm p g k) ||| 2 ^ (g ^ k % p)).testBit i = true at h
    rw [Nat.testBit_or, Bool.or_eq_true] at h
    rcases h with h | h
    · obtain ⟨j, hj, he⟩ := pwm_bit k i h
      exact ⟨j, by omega, he⟩
    · rw [Nat.testBit_two_pow] at h
      exact ⟨k, by omega, (of_decide_eq_true h).symm⟩
theorem gen_pow {p g : Nat} (h : Nat.beq (Nat.lor 1 (pwm p g (p - 1))) (2 ^ p - 1) = true) {z : Nat} (h0 : z ≠ 0) (hz : z < p) : ∃ j : Nat, z = g ^ j % p := by
  have h1 := Nat.eq_of_beq_eq_true h
  have h2 : (2 ^ p - 1).testBit z = true := by rw [Nat.testBit_two_pow_sub_one]; exact decide_eq_true hz
  rw [← h1] at h2
  change (1 ||| pwm p g (p - 1)).testBit z = true at h2
  rw [Nat.testBit_or, Bool.or_eq_true] at h2
  rcases h2 with h2 | h2
  · have h3 : Nat.testBit (2 ^ 0) z = true := h2
    rw [Nat.testBit_two_pow] at h3
    exact absurd (of_decide_eq_true h3) (by omega)
  · obtain ⟨j, -, hj⟩ := pwm_bit _ _ h2
    exact ⟨j, hj⟩
theorem gen_int {p g : Nat} (hp : 1 ≤ p) (h : Nat.beq (Nat.lor 1 (pwm p g (p - 1))) (2 ^ p - 1) = true) {b : Int} (hb : ¬ b % p = 0) : ∃ j : Nat, b % p = (g : Int) ^ j % p := by
  have hm := mod_bd (a := b) (p := (p : Int)) (by omega)
  obtain ⟨j, hj⟩ := gen_pow h (z := (b % p).toNat) (by omega) (by omega)
  refine ⟨j, ?_⟩
  have : ((b % p).toNat : Int) = ((g ^ j % p : Nat) : Int) := by rw [hj]
  push_cast at this
  omega
theorem pow_mod3 (g : Int) (i r : Nat) : g ^ (3 * i + r) = g ^ r * g ^ i * g ^ i * g ^ i := by
  rw [Int.pow_add, show 3 * i = i + i + i by omega, Int.pow_add, Int.pow_add]
  grind
theorem pow_mod2 (g : Int) (i r : Nat) : g ^ (2 * i + r) = g ^ r * g ^ i * g ^ i := by
  rw [Int.pow_add, show 2 * i = i + i by omega, Int.pow_add]
  grind
theorem sq_tw {a b d p : Int} (hp : Prime p) (h1 : 3 ≤ p) (h2 : p ≤ 997) (hd : ¬ d % p = 0) : psum (val (a * d * d) (b * d * d * d)) p * psum (val (a * d * d) (b * d * d * d)) p = psum (val a b) p * psum (val a b) p := by
  rw [tw_psum hp h1 h2 hd]
  have := symb_sq hp h1 h2 hd
  rw [show symb d p * psum (val a b) p * (symb d p * psum (val a b) p) = symb d p * symb d p * (psum (val a b) p * psum (val a b) p) by grind, this, Int.one_mul]
theorem pow_ne0 {p g : Int} (hp : Prime p) {b : Int} (hb : ¬ b % p = 0) {i k : Nat} {c : Int} (h : b % p = c % p) (hc : ∃ e, c = e * g ^ i) : ¬ g ^ i % p = 0 := fun h0 => hb (by
  obtain ⟨e, rfl⟩ := hc
  rw [h, Int.mul_emod, h0, Int.mul_zero, Int.zero_emod])
theorem hasse_of {q T W g : Nat} (hp : Prime (q : Int)) (h1 : 5 ≤ (q : Int)) (h2 : (q : Int) ≤ 997) (h : hP q T W g = true) (hk : ∀ k, k < q → kk1 q T W k = true) {a b : Int} (hd : ¬ disc a b % (q : Int) = 0) : psum (val a b) q * psum (val a b) q ≤ 4 * q := by
  unfold hP at h
  simp only [Bool.and_eq_true] at h
  obtain ⟨⟨⟨⟨ht, hw⟩, hg⟩, r1, r2⟩, ⟨s1, s2⟩, s3⟩ := h
  have hp1 : 1 ≤ q := by omega
  by_cases ha : a % (q : Int) = 0
  · have hb : ¬ b % (q : Int) = 0 := fun hb => hd (by
      unfold disc
      rw [show 4 * a * a * a + 27 * b * b = (4 * a * a) * a + (27 * b) * b by grind, Int.add_emod, Int.mul_emod _ a, Int.mul_emod _ b, ha, hb]
      simp)
    obtain ⟨j, hj⟩ := gen_int hp1 hg hb
    have hj3 : j = 3 * (j / 3) + j % 3 := by omega
    have hr := Nat.mod_lt j (y := 3) (by omega)
    generalize j / 3 = i at hj3
    generalize j % 3 = r at hj3 hr
    subst hj3
    rw [pow_mod3] at hj
    have hdi : ¬ ((g : Int) ^ i) % (q : Int) = 0 := pow_ne0 (k := 0) hp hb hj ⟨_, rfl⟩
    have e1 : psum (val a b) q = psum (val (0 * (g : Int) ^ i * (g : Int) ^ i) ((g : Int) ^ r * (g : Int) ^ i * (g : Int) ^ i * (g : Int) ^ i)) q := val_cong (by rw [ha]; simp) hj
    rw [e1, sq_tw hp (by omega) h2 hdi]
    have hr3 : r = 0 ∨ r = 1 ∨ r = 2 := by omega
    rcases hr3 with rfl | rfl | rfl
    · exact atW_sq hp1 ht hw s1
    · have := atW_sq hp1 ht hw s2
      rw [show (g : Int) ^ 1 = g by grind]
      exact this
    · have := atW_sq hp1 ht hw s3
      rw [show (g : Int) ^ 2 = ((g * g : Nat) : Int) by push_cast; grind]
      exact this
  · by_cases hb : b % (q : Int) = 0
    · obtain ⟨j, hj⟩ := gen_int hp1 hg ha
      have hj3 : j = 2 * (j / 2) + j % 2 := by omega
      have hr := Nat.mod_lt j (y := 2) (by omega)
      generalize j / 2 = i at hj3
      generalize j % 2 = r at hj3 hr
      subst hj3
      rw [pow_mod2] at hj
      have hdi : ¬ ((g : Int) ^ i) % (q : Int) = 0 := pow_ne0 (k := 0) hp ha hj ⟨_, rfl⟩
      have e1 : psum (val a b) q = psum (val ((g : Int) ^ r * (g : Int) ^ i * (g : Int) ^ i) (0 * (g : Int) ^ i * (g : Int) ^ i * (g : Int) ^ i)) q := val_cong hj (by rw [hb]; simp)
      rw [e1, sq_tw hp (by omega) h2 hdi]
      have hr3 : r = 0 ∨ r = 1 := by omega
      rcases hr3 with rfl | rfl
      · exact atW_sq hp1 ht hw r1
      · have := atW_sq hp1 ht hw r2
        rw [show (g : Int) ^ 1 = g by grind]
        exact this
    · obtain ⟨m, hm⟩ := inv_ex hp hb
      have hd0 : ¬ (a * m) % (q : Int) = 0 := fun h0 => by
        have := prime_mul hp h0 ha
        rw [Int.mul_emod, this, Int.mul_zero, Int.zero_emod] at hm
        omega
      have e0 := sq_tw (a := a) (b := b) hp (by omega) h2 hd0
      have eb : (b * (a * m) * (a * m) * (a * m)) % (q : Int) = (a * (a * m) * (a * m)) % q := by
        rw [show b * (a * m) * (a * m) * (a * m) = (b * m) * (a * (a * m) * (a * m)) by grind, Int.mul_emod, hm, Int.one_mul, Int.emod_emod]
      generalize a * m = d at *
      have hkb := mod_bd (a := a * d * d) (p := (q : Int)) (by omega)
      obtain ⟨k, hk'⟩ : ∃ k : Nat, (k : Int) = (a * d * d) % q := ⟨((a * d * d) % (q : Int)).toNat, by omega⟩
      have e1 : psum (val (a * d * d) (b * d * d * d)) q = psum (val k k) q := val_cong (by rw [hk', Int.emod_emod]) (by rw [eb, hk', Int.emod_emod])
      rw [← e0, e1]
      have hk0 : k ≠ 0 := fun h0 => by
        rw [h0] at hk'
        have h3 := prime_mul hp (x := d) (y := a * d) (by rw [show d * (a * d) = a * d * d by grind]; exact hk'.symm) hd0
        have h4 := prime_mul hp (x := d) (y := a) (by rw [show d * a = a * d by grind]; exact h3) hd0
        exact ha h4
      have hkd : ¬ (4 * k * k * k + 27 * k * k) % q = 0 := fun h0 => by
        have h3 : ((4 * k * k * k + 27 * k * k : Nat) : Int) % (q : Int) = 0 := by exact_mod_cast h0
        push_cast at h3
        have h4 : disc (a * d * d) (b * d * d * d) % (q : Int) = (4 * (k : Int) * k * k + 27 * k * k) % q := by
          have ea : (a * d * d) = (k : Int) + q * ((a * d * d) / q) := by have := Int.emod_add_mul_ediv (a * d * d) (q : Int); omega
          have eb' : (b * d * d * d) = (k : Int) + q * ((b * d * d * d) / q) := by have := Int.emod_add_mul_ediv (b * d * d * d) (q : Int); omega
          generalize a * d * d = A at *
          generalize b * d * d * d = B at *
          generalize A / (q : Int) = s at *
          generalize B / (q : Int) = u at *
          clear e0 e1 hk' hkb eb
          subst ea eb'
          apply Int.emod_eq_emod_iff_emod_sub_eq_zero.2
          unfold disc
          rw [show 4 * ((k : Int) + q * s) * (k + q * s) * (k + q * s) + 27 * (k + q * u) * (k + q * u) - (4 * k * k * k + 27 * k * k) = (q : Int) * (4 * s * ((k + q * s) * (k + q * s) + (k + q * s) * k + k * k) + 27 * u * (k + q * u + k)) by grind]
          exact Int.mul_emod_right _ _
        rw [h3, show disc (a * d * d) (b * d * d * d) = d * (d * (d * (d * (d * (d * disc a b))))) by unfold disc; grind] at h4
        exact hd (prime_mul hp (prime_mul hp (prime_mul hp (prime_mul hp (prime_mul hp (prime_mul hp h4 hd0) hd0) hd0) hd0) hd0) hd0)
      have h5 := hk k (by omega)
      unfold kk1 at h5
      simp only [Bool.or_eq_true] at h5
      rcases h5 with (h5 | h5) | h5
      · exact absurd (Nat.eq_of_beq_eq_true h5) hk0
      · exact absurd (Nat.eq_of_beq_eq_true h5) hkd
      · exact atW_sq hp1 ht hw h5
end M
end Go.Proofs.Ytjolmigpeghaoaa
