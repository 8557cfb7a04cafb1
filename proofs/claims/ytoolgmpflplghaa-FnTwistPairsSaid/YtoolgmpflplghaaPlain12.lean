/-
  Plain mathematics: curves of one isogeny of degree two have the same counts (primes up to 59).
-/
import Derived.Test.YtoolgmpflplghaaPlain11
import Derived.Test.YtoolgmpflplghaaPlain4
namespace Go.Proofs.Ytoolgmpflplghaa
set_option linter.unusedSimpArgs false
set_option linter.unusedVariables false
namespace M
/-- the cubic with the root 0 -/
def qx (α β x : Int) : Int := x * (x * x + α * x + β)
theorem qx_mod (α β p x : Int) : qx α β (x % p) % p = qx α β x % p := by
  unfold qx
  have e : x % p = x - p * (x / p) := by have := Int.emod_add_mul_ediv x p; omega
  generalize hq : x / p = q at e
  rw [e]
  apply Int.emod_eq_emod_iff_emod_sub_eq_zero.2
  rw [show (x - p * q) * ((x - p * q) * (x - p * q) + α * (x - p * q) + β) - x * (x * x + α * x + β) = p * (-q * (3 * x * x - 3 * x * p * q + p * p * q * q + 2 * α * x - α * p * q + β)) by grind]
  exact Int.mul_emod_right _ _
def S (α β p : Int) : Int := psum (qx α β) p
theorem S_mod {α β α' β' p : Int} (h1 : α % p = α' % p) (h2 : β % p = β' % p) : S α β p = S α' β' p := by
  apply psum_congr
  intro x
  have k1 := Int.emod_eq_emod_iff_emod_sub_eq_zero.1 h1
  have k2 := Int.emod_eq_emod_iff_emod_sub_eq_zero.1 h2
  obtain ⟨u, hu⟩ := Int.dvd_of_emod_eq_zero k1
  obtain ⟨v, hv⟩ := Int.dvd_of_emod_eq_zero k2
  apply Int.emod_eq_emod_iff_emod_sub_eq_zero.2
  unfold qx
  rw [show α = α' + p * u by omega, show β = β' + p * v by omega, show x * (x * x + (α' + p * u) * x + (β' + p * v)) - x * (x * x + α' * x + β') = p * (x * (u * x + v)) by grind]
  exact Int.mul_emod_right _ _
theorem S_scale {α β l p : Int} (hp : Prime p) (h1 : 3 ≤ p) (h2 : p ≤ 997) (hl : ¬ l % p = 0) : S (l * α) (l * l * β) p = symb l p * S α β p := by
  unfold S
  rw [← psum_lin (l := l) (m := 0) hp hl (qx_mod (l * α) (l * l * β) p)]
  rw [show (fun x => qx (l * α) (l * l * β) (l * x + 0)) = fun x => l * (l * (l * qx α β x)) by funext x; unfold qx; grind]
  rw [psum_mul hp h1 h2, psum_mul hp h1 h2, psum_mul hp h1 h2, ← Int.mul_assoc, symb_sq hp h1 h2 hl, Int.one_mul]
/-- the kernel's count: symbols, each one greater -/
def chN (p z : Nat) : Nat := let t := z ^ ((p - 1) / 2) % p; bif Nat.beq t 0 then 1 else (bif Nat.beq t 1 then 2 else 0)
def sN (p α β : Nat) : Nat → Nat
  | 0 => 0
  | x + 1 => sN p α β x + chN p (x * (x * x + α * x + β) % p)
def isoAt (p β : Nat) : Bool := (Nat.beq β 0 || Nat.beq (sN p 0 β p) (sN p 0 (4 * (p - β) % p) p)) && (Nat.beq β 0 || Nat.beq ((1 + 4 * (p - β)) % p) 0 || Nat.beq (sN p 1 β p) (sN p (p - 2) ((1 + 4 * (p - β)) % p) p))
def isoP (p : Nat) : Bool := Nat.blt p 5 || hasDiv p || allB (isoAt p) p
theorem iso_all : allB isoP 60 = true := by kernel_rfl
theorem chN_eq {p z : Nat} (hp : 1 ≤ p) : (chN p z : Int) = 1 + symb (z : Int) (p : Int) := by
  have e : powm (z : Int) (((p : Int) - 1) / 2) (p : Int) = ((z ^ ((p - 1) / 2) % p : Nat) : Int) := by
    unfold powm
    push_cast
    congr 2
    omega
  unfold chN symb
  rw [e]
  generalize z ^ ((p - 1) / 2) % p = t
  cases h0 : Nat.beq t 0
  · have n0 : ¬ t = 0 := fun h => by rw [h] at h0; cases h0
    cases h1 : Nat.beq t 1
    · have n1 : ¬ t = 1 := fun h => by rw [h] at h1; cases h1
      have n0' : ¬ (t : Int) = 0 := by omega
      have n1' : ¬ (t : Int) = 1 := by omega
      simp [h0, h1, n0, n1, n0', n1']
    · obtain rfl := Nat.eq_of_beq_eq_true h1
      simp [Nat.beq]
  · obtain rfl := Nat.eq_of_beq_eq_true h0
    simp [Nat.beq]
theorem sN_eq {p α β : Nat} (hp : 1 ≤ p) : ∀ k : Nat, (sN p α β k : Int) = k + sumTo (fun x => symb (qx α β x) p) k
  | 0 => rfl
  | k + 1 => by
    have e : symb (qx α β (k : Int)) p = symb ((k * (k * k + α * k + β) % p : Nat) : Int) p := by
      unfold qx
      push_cast
      rw [symb_mod]
    rw [sN, sumTo, e]
    push_cast
    rw [sN_eq hp k, chN_eq hp]
    push_cast
    omega
theorem S_nat {p α β : Nat} (hp : 1 ≤ p) : (sN p α β p : Int) = p + S α β p := by
  rw [sN_eq hp p]
  rfl
theorem prime_isoP {p : Int} (hp : Prime p) (h1 : 5 ≤ p) (h2 : p ≤ 59) {β : Nat} (hb : (β : Int) < p) : isoAt p.toNat β = true := by
  have h := allB_at iso_all (k := p.toNat) (by omega)
  unfold isoP at h
  rw [hasDiv_not hp] at h
  have h3 : Nat.blt p.toNat 5 = false := by
    cases h3 : Nat.blt p.toNat 5
    · rfl
    · rw [Nat.blt_eq] at h3; omega
  rw [h3] at h
  exact allB_at h (k := β) (by omega)
theorem iso0 {p β : Int} (hp : Prime p) (h1 : 5 ≤ p) (h2 : p ≤ 59) (hb : ¬ β % p = 0) : S 0 β p = S 0 (-4 * β) p := by
  have hm := mod_bd (a := β) (p := p) (by omega)
  obtain ⟨b, hb'⟩ : ∃ b : Nat, (b : Int) = β % p := ⟨(β % p).toNat, by omega⟩
  obtain ⟨q, rfl⟩ : ∃ q : Nat, p = q := ⟨p.toNat, by omega⟩
  have h := prime_isoP hp h1 h2 (β := b) (by omega)
  rw [Int.toNat_natCast] at h
  unfold isoAt at h
  simp only [Bool.and_eq_true, Bool.or_eq_true] at h
  have h0 := h.1.resolve_left (fun k => by have := Nat.eq_of_beq_eq_true k; omega)
  have h0 := Nat.eq_of_beq_eq_true h0
  have k1 := S_nat (p := q) (α := 0) (β := b) (by omega)
  have k2 := S_nat (p := q) (α := 0) (β := 4 * (q - b) % q) (by omega)
  rw [h0] at k1
  have e1 : S 0 β q = S ((0 : Nat) : Int) (b : Int) q := S_mod rfl (by rw [hb', Int.emod_emod])
  have e2 : S 0 (-4 * β) q = S ((0 : Nat) : Int) ((4 * (q - b) % q : Nat) : Int) q := S_mod rfl (by
    push_cast
    rw [Int.emod_emod, Int.ofNat_sub (by omega), hb']
    apply Int.emod_eq_emod_iff_emod_sub_eq_zero.2
    have hq := Int.emod_add_mul_ediv β q
    rw [show -4 * β - 4 * (↑q - β % ↑q) = (q : Int) * (-4 * (β / q) - 4) by grind]
    exact Int.mul_emod_right _ _)
  omega
theorem iso1 {p β : Int} (hp : Prime p) (h1 : 5 ≤ p) (h2 : p ≤ 59) (hb : ¬ β % p = 0) (hc : ¬ (1 - 4 * β) % p = 0) : S 1 β p = S (-2) (1 - 4 * β) p := by
  have hm := mod_bd (a := β) (p := p) (by omega)
  obtain ⟨b, hb'⟩ : ∃ b : Nat, (b : Int) = β % p := ⟨(β % p).toNat, by omega⟩
  obtain ⟨q, rfl⟩ : ∃ q : Nat, p = q := ⟨p.toNat, by omega⟩
  have h := prime_isoP hp h1 h2 (β := b) (by omega)
  rw [Int.toNat_natCast] at h
  unfold isoAt at h
  simp only [Bool.and_eq_true, Bool.or_eq_true] at h
  have em : (1 - 4 * β) % q = (((1 + 4 * (q - b)) % q : Nat) : Int) % q := by
    push_cast
    rw [Int.emod_emod, Int.ofNat_sub (by omega), hb']
    apply Int.emod_eq_emod_iff_emod_sub_eq_zero.2
    have hq := Int.emod_add_mul_ediv β q
    rw [show 1 - 4 * β - (1 + 4 * (↑q - β % ↑q)) = (q : Int) * (-4 * (β / q) - 4) by grind]
    exact Int.mul_emod_right _ _
  have h0 := h.2.resolve_left (fun k => by
    rcases k with k | k
    · have := Nat.eq_of_beq_eq_true k; omega
    · have := Nat.eq_of_beq_eq_true k
      apply hc
      rw [em, this]
      simp)
  have h0 := Nat.eq_of_beq_eq_true h0
  have k1 := S_nat (p := q) (α := 1) (β := b) (by omega)
  have k2 := S_nat (p := q) (α := q - 2) (β := (1 + 4 * (q - b)) % q) (by omega)
  rw [h0] at k1
  have e1 : S 1 β q = S ((1 : Nat) : Int) (b : Int) q := S_mod rfl (by rw [hb', Int.emod_emod])
  have e2 : S (-2) (1 - 4 * β) q = S ((q - 2 : Nat) : Int) (((1 + 4 * (q - b)) % q : Nat) : Int) q := S_mod (by
    rw [Int.ofNat_sub (by omega)]
    apply Int.emod_eq_emod_iff_emod_sub_eq_zero.2
    rw [show (-2 : Int) - (↑q - ((2 : Nat) : Int)) = (q : Int) * (-1) by push_cast; omega]
    exact Int.mul_emod_right _ _) em
  omega
/-- the two curves of an isogeny -/
theorem iso_S {p α β : Int} (hp : Prime p) (h1 : 5 ≤ p) (h2 : p ≤ 59) (hb : ¬ β % p = 0) (hc : ¬ (α * α - 4 * β) % p = 0) : S α β p = S (-2 * α) (α * α - 4 * β) p := by
  by_cases ha : α % p = 0
  · obtain ⟨u, hu⟩ := Int.dvd_of_emod_eq_zero ha
    have e0 : (0 : Int) % p = 0 := Int.zero_emod _
    rw [S_mod (α' := 0) (β' := β) (by rw [ha, e0]) rfl, iso0 hp h1 h2 hb]
    refine S_mod ?_ ?_
    · rw [hu, show -2 * (p * u) = p * (-2 * u) by grind, Int.mul_emod_right, e0]
    · apply Int.emod_eq_emod_iff_emod_sub_eq_zero.2
      rw [hu, show -4 * β - (p * u * (p * u) - 4 * β) = p * (-(u * (p * u))) by grind]
      exact Int.mul_emod_right _ _
  · obtain ⟨m, hm⟩ := inv_ex hp ha
    have hm1 : (α * m - 1) % p = 0 := by
      apply Int.emod_eq_emod_iff_emod_sub_eq_zero.1
      rw [hm, Int.emod_eq_of_lt (by omega) (by omega)]
    obtain ⟨u, hu⟩ := Int.dvd_of_emod_eq_zero hm1
    have hβ : β % p = (α * α * (m * m * β)) % p := by
      apply Int.emod_eq_emod_iff_emod_sub_eq_zero.2
      rw [show β - α * α * (m * m * β) = p * (-(u * (α * m + 1) * β)) by grind]
      exact Int.mul_emod_right _ _
    have hmb : ¬ (m * m * β) % p = 0 := fun h => hb (by
      rw [hβ]
      obtain ⟨v, hv⟩ := Int.dvd_of_emod_eq_zero h
      rw [hv, show α * α * (p * v) = p * (α * α * v) by grind]
      exact Int.mul_emod_right _ _)
    have hβ2 : (α * α - 4 * β) % p = (α * α * (1 - 4 * (m * m * β))) % p := by
      apply Int.emod_eq_emod_iff_emod_sub_eq_zero.2
      rw [show α * α - 4 * β - α * α * (1 - 4 * (m * m * β)) = p * (4 * (u * (α * m + 1) * β)) by grind]
      exact Int.mul_emod_right _ _
    have hmc : ¬ (1 - 4 * (m * m * β)) % p = 0 := fun h => hc (by
      rw [hβ2]
      obtain ⟨v, hv⟩ := Int.dvd_of_emod_eq_zero h
      rw [hv, show α * α * (p * v) = p * (α * α * v) by grind]
      exact Int.mul_emod_right _ _)
    have k1 := S_scale (α := 1) (β := m * m * β) hp (by omega) (by omega) ha
    have k2 := S_scale (α := -2) (β := 1 - 4 * (m * m * β)) hp (by omega) (by omega) ha
    rw [S_mod (α' := α * 1) (by rw [Int.mul_one]) hβ, k1, iso1 hp h1 h2 hmb hmc, ← k2]
    exact S_mod (by rw [Int.mul_comm]) hβ2.symm
end M
end Go.Proofs.Ytoolgmpflplghaa
