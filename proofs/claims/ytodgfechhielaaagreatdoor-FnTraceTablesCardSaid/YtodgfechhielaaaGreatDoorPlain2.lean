/-
  Euler's criterion for the primes up to 997, reckoned by the kernel.
-/
import Derived.Test.YtodgfechhielaaaGreatDoorPlain1
import Derived.KernelRfl
namespace Go.Proofs.YtodgfechhielaaaGreatDoor
set_option linter.unusedSimpArgs false
set_option linter.unusedVariables false
namespace M
def allB (f : Nat → Bool) : Nat → Bool
  | 0 => true
  | n + 1 => f n && allB f n
theorem allB_at {f : Nat → Bool} : ∀ {n k : Nat}, allB f n = true → k < n → f k = true
  | n + 1, k, h, hk => by
    simp only [allB, Bool.and_eq_true] at h
    rcases Nat.lt_or_ge k n with q | q
    · exact allB_at h.2 q
    · obtain rfl : k = n := by omega
      exact h.1
def hasDiv (p : Nat) : Bool := !(allB (fun d => (Nat.blt d 2) || (Nat.blt p (d * d)) || !(Nat.beq (p % d) 0)) 32)
def eulAt (p x : Nat) : Bool := let t := x ^ ((p - 1) / 2) % p; Nat.beq t 0 || Nat.beq t 1 || Nat.beq t (p - 1)
def eulP (p : Nat) : Bool := Nat.blt p 3 || hasDiv p || allB (eulAt p) p
theorem eul_all : allB eulP 998 = true := by kernel_rfl
theorem hasDiv_not {p : Int} (hp : Prime p) : hasDiv p.toNat = false := by
  unfold hasDiv
  rw [Bool.not_eq_false']
  have key : ∀ n : Nat, allB (fun d => (Nat.blt d 2) || (Nat.blt p.toNat (d * d)) || !(Nat.beq (p.toNat % d) 0)) n = true := by
    intro n
    induction n with
    | zero => rfl
    | succ n ih =>
      simp only [allB, ih, Bool.and_true]
      cases h1 : Nat.blt n 2
      · cases h2 : Nat.blt p.toNat (n * n)
        · simp only [Bool.false_or, Bool.not_eq_true']
          have h1' : ¬ n < 2 := by
            intro h; rw [← Nat.blt_eq] at h; rw [h] at h1; cases h1
          have h2' : ¬ p.toNat < n * n := by
            intro h; rw [← Nat.blt_eq] at h; rw [h] at h2; cases h2
          have hp2 := hp.1
          have h3 := hp.2 (n : Int) (by omega) (by have : ((n * n : Nat) : Int) ≤ (p.toNat : Int) := Int.ofNat_le.2 (by omega); push_cast at this; omega)
          cases h4 : Nat.beq (p.toNat % n) 0
          · rfl
          · exfalso
            apply h3
            have := Nat.eq_of_beq_eq_true h4
            have e : p = ((p.toNat : Nat) : Int) := by omega
            rw [e]
            exact_mod_cast this
        · rfl
      · rfl
  exact key 32
theorem euler {p : Int} (hp : Prime p) (h1 : 3 ≤ p) (h2 : p ≤ 997) (a : Int) : powm a ((p - 1) / 2) p = 0 ∨ powm a ((p - 1) / 2) p = 1 ∨ powm a ((p - 1) / 2) p = p - 1 := by
  have hx := mod_bd (a := a) (p := p) (by omega)
  have h := allB_at eul_all (k := p.toNat) (by omega)
  unfold eulP at h
  rw [hasDiv_not hp] at h
  have h3 : Nat.blt p.toNat 3 = false := by
    cases h3 : Nat.blt p.toNat 3
    · rfl
    · rw [Nat.blt_eq] at h3; omega
  rw [h3] at h
  have h := allB_at h (k := (a % p).toNat) (by omega)
  have e : powm a ((p - 1) / 2) p = (((a % p).toNat ^ ((p.toNat - 1) / 2) % p.toNat : Nat) : Int) := by
    unfold powm
    rw [← pow_mod_base]
    push_cast
    rw [Int.toNat_of_nonneg hx.1, Int.toNat_of_nonneg (a := p) (by omega)]
    congr 2
    omega
  rw [e]
  simp only [eulAt, Bool.or_eq_true] at h
  rcases h with (h | h) | h
  · have := Nat.eq_of_beq_eq_true h; omega
  · have := Nat.eq_of_beq_eq_true h; omega
  · have := Nat.eq_of_beq_eq_true h; omega
/-- the other way to say the symbol -/
theorem symb_alt {p : Int} (hp : Prime p) (h1 : 3 ≤ p) (h2 : p ≤ 997) (a : Int) : symb a p = if powm a ((p - 1) / 2) p = p - 1 then -1 else powm a ((p - 1) / 2) p := by
  unfold symb
  rcases euler hp h1 h2 a with h | h | h
  · rw [h, if_pos rfl, if_neg (by omega)]
  · rw [h, if_neg (by omega), if_pos rfl, if_neg (by omega)]
  · rw [h, if_neg (by omega), if_neg (by omega), if_pos rfl]
end M
end Go.Proofs.YtodgfechhielaaaGreatDoor
