/-
  Joined texts: contracts and plain laws.
-/
import Derived.Test.YtgkjmjlkhnfbiaaGreatB9
import Derived.Test.YtgkjmjlkhnfbiaaGreatB3
import Derived.RegionTactic
namespace Go.Proofs.YtgkjmjlkhnfbiaaGreat
set_option linter.unusedSimpArgs false
set_option linter.unusedVariables false
open Go.RowKit
namespace M
/-- a number that is reckoned before it is used -/
def frc {α : Type} (v : Nat) (F : Nat → α) : α := match v with
  | 0 => F 0
  | n + 1 => F (n + 1)
theorem frc_eq {α : Type} (v : Nat) (F : Nat → α) : frc v F = F v := by cases v <;> rfl
def nz (a b : Nat) : Nat := match a with
  | 0 => b
  | n + 1 => n + 1
theorem nz_zero {a b : Nat} : nz a b = 0 ↔ a = 0 ∧ b = 0 := by cases a <;> simp [nz]
theorem nz_one {a b : Nat} (h : nz a b = 1) : a = 1 ∨ b = 1 := by
  cases a with
  | zero => exact Or.inr h
  | succ n => exact Or.inl h
def lp (g : Nat → Nat) (st : Nat) : Nat → Nat → Nat
  | 0, _ => 0
  | t + 1, x => nz (g x) (frc (Nat.add x st) (lp g st t))
theorem lp_zero {g : Nat → Nat} {st : Nat} : ∀ {n x : Nat}, lp g st n x = 0 → ∀ t, t < n → g (x + t * st) = 0
  | n + 1, x, h, t, ht => by
    rw [lp, frc_eq] at h
    obtain ⟨h1, h2⟩ := nz_zero.1 h
    cases t with
    | zero => rw [Nat.zero_mul, Nat.add_zero]; exact h1
    | succ t =>
      have := lp_zero h2 t (by omega)
      rw [show x + (t + 1) * st = Nat.add x st + t * st by rw [Nat.add_mul, Nat.one_mul]; show _ = x + st + t * st; omega]
      exact this
theorem lp_one {g : Nat → Nat} {st : Nat} : ∀ {n x : Nat}, lp g st n x = 1 → ∃ t, t < n ∧ g (x + t * st) = 1
  | 0, x, h => by cases h
  | n + 1, x, h => by
    rw [lp, frc_eq] at h
    rcases nz_one h with h | h
    · exact ⟨0, by omega, by rw [Nat.zero_mul, Nat.add_zero]; exact h⟩
    · obtain ⟨t, ht, hg⟩ := lp_one h
      refine ⟨t + 1, by omega, ?_⟩
      rw [show x + (t + 1) * st = Nat.add x st + t * st by rw [Nat.add_mul, Nat.one_mul]; show _ = x + st + t * st; omega]
      exact hg
/-- squares modulo powers; T has the squares modulo p -/
def unK (p T v : Nat) : Bool := bif Nat.beq p 2 then Nat.beq (Nat.mod v 8) 1 else Nat.beq (Nat.land (Nat.shiftRight T (Nat.mod v p)) 1) 1
def sqK (p T : Nat) : Nat → Nat → Bool
  | 0, _ => false
  | f + 1, v => bif Nat.beq v 0 then true else bif Nat.beq (Nat.mod v p) 0 then (bif Nat.beq (Nat.mod v (Nat.mul p p)) 0 then sqK p T f (Nat.div v (Nat.mul p p)) else false) else unK p T v
/-- a table of squares -/
def TOk (p T : Nat) : Prop := ∀ z : Nat, z < p → z ≠ 0 → (Nat.beq (Nat.land (Nat.shiftRight T z) 1) 1 = (symb (z : Int) p == 1))
theorem beqF {a b : Nat} (h : a ≠ b) : Nat.beq a b = false := by
  cases hb : Nat.beq a b
  · rfl
  · exact absurd (Nat.eq_of_beq_eq_true hb) h
theorem beqT {a b : Nat} (h : a = b) : Nat.beq a b = true := by subst h; exact Nat.beq_refl a
theorem beqI (a b : Nat) : Nat.beq a b = decide (a = b) := by
  by_cases h : a = b
  · rw [beqT h]; simp [h]
  · rw [beqF h]; simp [h]
theorem sqK_eq {p T : Nat} (hp : 2 ≤ p) (ht : 2 < p → TOk p T) : ∀ (f k v : Nat), k < 2 * f → (v : Int) < ipow p k → sqK p T f v = sqm (v : Int) p k
  | 0, k, v, hk, _ => by omega
  | f + 1, k, v, hk, hv => by
    rw [sqK]
    by_cases h0 : v = 0
    · subst h0
      rfl
    · rw [beqF h0, cond_false]
      by_cases h1 : v % p = 0
      · rw [show Nat.beq (Nat.mod v p) 0 = true from beqT h1, cond_true]
        have h1' : (v : Int) % p = 0 := by omega
        by_cases h2 : v % (p * p) = 0
        · rw [show Nat.beq (Nat.mod v (Nat.mul p p)) 0 = true from beqT h2, cond_true]
          obtain ⟨c, rfl⟩ := Nat.dvd_of_mod_eq_zero h2
          have hpp : 0 < p * p := Nat.mul_pos (by omega) (by omega)
          rw [show Nat.div (p * p * c) (Nat.mul p p) = c from Nat.mul_div_cancel_left c hpp]
          have hc : 0 < c := by
            rcases Nat.eq_zero_or_pos c with q | q
            · subst q; simp at h0
            · exact q
          have hge : (p : Int) * p * 1 ≤ (p : Int) * p * c := Int.mul_le_mul_of_nonneg_left (by omega) (by exact_mod_cast Nat.zero_le (p * p))
          have hpi : (p : Int) ≤ (p : Int) * p := by
            have := Int.mul_le_mul_of_nonneg_left (show (1 : Int) ≤ p by omega) (show (0 : Int) ≤ p by omega)
            omega
          push_cast at hv
          cases k with
          | zero => simp only [ipow] at hv; omega
          | succ k =>
            cases k with
            | zero => simp only [ipow] at hv; omega
            | succ k =>
              have hv' : (c : Int) < ipow p k := by
                have e : ipow p (k + 1 + 1) = (p : Int) * p * ipow p k := by simp only [ipow]; grind
                rw [e] at hv
                exact Int.lt_of_mul_lt_mul_left hv (by exact_mod_cast Nat.zero_le (p * p))
              rw [sqK_eq hp ht f k c (by omega) hv']
              push_cast
              rw [sqm_step (by omega)]
        · rw [show Nat.beq (Nat.mod v (Nat.mul p p)) 0 = false from beqF h2, cond_false]
          symm
          refine sqm_odd (by omega) h1' fun h => h2 ?_
          have : ((v % (p * p) : Nat) : Int) = 0 := by push_cast; exact h
          omega
      · rw [show Nat.beq (Nat.mod v p) 0 = false from beqF h1, cond_false]
        rw [sqm_unit (by omega) (by omega) hv (by omega)]
        unfold unK
        by_cases hp2 : p = 2
        · subst hp2
          rw [if_neg (by decide)]
          show Nat.beq (v % 8) 1 = _
          rw [beqI, Bool.eq_iff_iff, decide_eq_true_eq, beq_iff_eq]
          omega
        · rw [show Nat.beq p 2 = false from beqF hp2, cond_false, if_pos (by omega)]
          have := ht (by omega) (v % p) (Nat.mod_lt _ (by omega)) h1
          rw [show Nat.mod v p = v % p from rfl, this]
          push_cast
          rw [symb_mod]
theorem ipow_dvd_of {p : Int} {i j : Nat} (h : i ≤ j) : ipow p i ∣ ipow p j := ⟨ipow p (j - i), by rw [← ipow_add]; congr 1; omega⟩
theorem ofn_le {p X : Int} {h k : Nat} (hp : 2 ≤ p) (hk : h < k) : ofn (X % ipow p k) p k ≤ h ↔ ¬ X % ipow p (h + 1) = 0 := by
  have hpos := ipow_pos (p := p) (by omega) k
  have hm := mod_bd (a := X) hpos
  have hd := ipow_dvd_of (p := p) (show h + 1 ≤ k by omega)
  rw [← Int.emod_emod_of_dvd X hd]
  generalize X % ipow p k = x at *
  unfold ofn
  split
  · rename_i h0
    subst h0
    simp only [Int.zero_emod, not_true_eq_false, iff_false]
    omega
  · rename_i h0
    obtain ⟨u, h1, h2⟩ := valn_pow hp h0
    have hv := valn_nn x p
    constructor
    · intro hle hz
      apply h2
      obtain ⟨c, hc⟩ := Int.dvd_of_emod_eq_zero hz
      have e : ipow p (h + 1) = ipow p (valn x p).toNat * ipow p (h + 1 - (valn x p).toNat) := by rw [← ipow_add]; congr 1; omega
      rw [e] at hc
      obtain ⟨d, hd⟩ := ipow_dvd (p := p) (k := h + 1 - (valn x p).toNat) (by omega)
      rw [hd] at hc
      have hq := ipow_pos (p := p) (by omega) (valn x p).toNat
      generalize ipow p (valn x p).toNat = q at *
      have : u = p * (d * c) := Int.eq_of_mul_eq_mul_left (a := q) (by omega) (by rw [← h1, hc]; grind)
      rw [this]
      exact Int.mul_emod_right _ _
    · intro hz
      rcases Int.lt_or_le (h : Int) (valn x p) with q | q
      · exfalso
        apply hz
        rw [h1]
        exact Int.emod_eq_zero_of_dvd (Int.dvd_trans (ipow_dvd_of (by omega)) ⟨u, rfl⟩)
      · exact q
/-- whether a possible pair lifts -/
theorem lift_iff {p v X Y : Int} {h k : Nat} (hp : 2 ≤ p) (hk : k = 2 * h + 1 ∨ k = 2 * h + 2) (hv0 : 0 ≤ v) (hv : v < ipow p k) :
    2 * lw v (X % ipow p k) (Y % ipow p k) p k + 1 ≤ k ↔ (¬ X % ipow p (h + 1) = 0 ∨ ¬ Y % ipow p (h + 1) = 0) ∨ (2 < p ∧ v ≠ 0) ∨ (p = 2 ∧ ¬ v % ipow p (2 * h) = 0) := by
  have h1 := ofn_le (X := X) hp (show h < k by omega)
  have h2 := ofn_le (X := Y) hp (show h < k by omega)
  rw [← h1, ← h2]
  unfold lw
  generalize ofn (X % ipow p k) p k = x at *
  generalize ofn (Y % ipow p k) p k = y at *
  split
  · rename_i h0
    subst h0
    simp only [Int.zero_emod, ne_eq, not_true_eq_false, and_false, or_false]
    omega
  · rename_i h0
    have hv1 := valn_res hp h0 hv0 hv
    by_cases h2p : p = 2
    · subst h2p
      rw [if_pos rfl]
      cases h with
      | zero =>
        simp only [Nat.mul_zero]
        have : v % ipow 2 0 = 0 := Int.emod_one v
        rw [this]
        simp only [not_true_eq_false, and_false, or_false]
        omega
      | succ h =>
        have h3 := ofn_le (X := v) (p := 2) (h := 2 * h + 1) (k := k) (by omega) (by omega)
        rw [Int.emod_eq_of_lt hv0 hv] at h3
        have e : 2 * (h + 1) = 2 * h + 1 + 1 := by omega
        rw [e, ← h3, show ofn v 2 k = valn v 2 from if_neg h0]
        omega
    · rw [if_neg h2p]
      have : 2 < p := by omega
      omega
/-- the value of a quartic in one number -/
def fq (a c e x q : Nat) : Nat := frc (Nat.mul x x) fun y => Nat.mod (Nat.add (Nat.mul (Nat.add (Nat.mul a y) c) y) e) q
def g1 (a c x : Nat) : Nat := Nat.mul (Nat.mul 2 x) (Nat.add (Nat.mul 2 (Nat.mul a (Nat.mul x x))) c)
def g2 (c e x : Nat) : Nat := Nat.add (Nat.mul 2 (Nat.mul c (Nat.mul x x))) (Nat.mul 4 e)
def nz0 (x : Nat) : Bool := match x with
  | 0 => false
  | _ + 1 => true
theorem nz0_iff {x : Nat} : nz0 x = true ↔ x ≠ 0 := by cases x <;> simp [nz0]
def lfK (p a c e k x v : Nat) : Bool :=
  bif Nat.beq p 2 then frc (Nat.pow 2 (Nat.div (Nat.add k 1) 2)) fun r => nz0 (Nat.mod v (Nat.pow 2 (Nat.mul 2 (Nat.div (Nat.sub k 1) 2)))) || nz0 (Nat.mod (g1 a c x) r) || nz0 (Nat.mod (g2 c e x) r)
  else bif nz0 v then true else frc (Nat.pow p (Nat.div (Nat.add k 1) 2)) fun r => nz0 (Nat.mod (g1 a c x) r) || nz0 (Nat.mod (g2 c e x) r)
/-- the tree of pairs below one: 0 none, 1 one lifts, 2 not known -/
def dfs (p T a c e : Nat) : Nat → Nat → Nat → Nat → Nat
  | 0, _, _, _ => 2
  | f + 1, k, q, x => frc (fq a c e x q) fun v => bif sqK p T k v then (bif lfK p a c e k x v then (bif Nat.ble q 1000000000 then 1 else 2) else frc (Nat.mul q p) fun q' => lp (dfs p T a c e f (Nat.add k 1) q') q p x) else 0
/-- a quartic's coefficients as residues -/
def rsd (D : Int) (Q : Nat) : Nat := (D % (Q : Int)).toNat
def solK (p T L : Nat) (D A C : Int) : Nat :=
  frc (Nat.pow p L) fun Q => frc (rsd D Q) fun d => frc (rsd A Q) fun a => frc (rsd C Q) fun c =>
    nz (dfs p T c a d L 1 p 0) (lp (dfs p T d a c L 1 p) 1 p 0)
end M
end Go.Proofs.YtgkjmjlkhnfbiaaGreat

namespace Go.Proofs.YtgkjmjlkhnfbiaaGreat
set_option linter.unusedSimpArgs false
set_option linter.unusedVariables false
open Go.RowKit
namespace M
theorem ipow_nat (p : Nat) : ∀ k : Nat, ((p ^ k : Nat) : Int) = ipow p k
  | 0 => rfl
  | k + 1 => by rw [Nat.pow_succ, ipow, ← ipow_nat p k]; push_cast; rfl
theorem qval_swap (D A C x : Int) : qval D A C 1 x = qval C A D x 1 := by unfold qval; grind
theorem byM_swap (D A x : Int) : byM D A 1 x = byE A D x 1 := by unfold byM byE; grind
theorem byE_swap (A C x : Int) : byE A C 1 x = byM C A x 1 := by unfold byM byE; grind
theorem lw_comm (v x y p : Int) (k : Nat) : lw v x y p k = lw v y x p k := by
  unfold lw
  split <;> omega
theorem qok_swap (D A C : Int) (p i : Nat) (x : Int) : qok D A C p true i x = qok C A D p false i x := by
  unfold qok poss
  rw [if_pos rfl, if_neg (by decide), qval_swap]
theorem qlf_swap (D A C : Int) (p i : Nat) (x : Int) : qlf D A C p true i x = qlf C A D p false i x := by
  unfold qlf lift poss
  rw [if_pos rfl, if_neg (by decide), qval_swap, byM_swap, byE_swap, lw_comm]
theorem Cg.natAbs {q x y : Int} (h : Cg q x y) : x % q = y % q := h.mod
theorem fq_eq {D A C : Int} {a c e x q : Nat} (hD : Cg q a D) (hA : Cg q c A) (hC : Cg q e C) : ((fq a c e x q : Nat) : Int) = qval D A C x 1 % q := by
  unfold fq
  rw [frc_eq]
  show (((((a * (x * x) + c) * (x * x) + e) % q : Nat)) : Int) = _
  push_cast
  have h1 : Cg q (((a : Int) * (x * x) + c) * (x * x) + e) ((D * (x * x) + A) * (x * x) + C) :=
    (((hD.mul (Cg.refl _ _)).add hA).mul (Cg.refl _ _)).add hC
  rw [h1.mod]
  congr 1
  unfold qval
  grind
theorem g1_cg {D A : Int} {a c x : Nat} {q : Int} (hD : Cg q a D) (hA : Cg q c A) : Cg q ((g1 a c x : Nat) : Int) (byM D A x 1) := by
  unfold g1
  show Cg q (((2 * x * (2 * (a * (x * x)) + c) : Nat)) : Int) _
  push_cast
  have h1 : Cg q (2 * (x : Int) * (2 * (a * (x * x)) + c)) (2 * (x : Int) * (2 * (D * (x * x)) + A)) :=
    (Cg.refl _ _).mul (((Cg.refl _ _).mul (hD.mul (Cg.refl _ _))).add hA)
  rw [show byM D A x 1 = 2 * (x : Int) * (2 * (D * (x * x)) + A) by unfold byM; grind]
  exact h1
theorem g2_cg {A C : Int} {c e x : Nat} {q : Int} (hA : Cg q c A) (hC : Cg q e C) : Cg q ((g2 c e x : Nat) : Int) (byE A C x 1) := by
  unfold g2
  show Cg q (((2 * (c * (x * x)) + 4 * e : Nat)) : Int) _
  push_cast
  have h1 : Cg q (2 * ((c : Int) * (x * x)) + 4 * e) (2 * (A * (x * x)) + 4 * C) :=
    ((Cg.refl _ _).mul (hA.mul (Cg.refl _ _))).add ((Cg.refl _ _).mul hC)
  rw [show byE A C x 1 = 2 * (A * (x * x)) + 4 * C by unfold byE; grind]
  exact h1
theorem nz0_mod {g r : Nat} {G : Int} (h : Cg r g G) : nz0 (Nat.mod g r) = true ↔ ¬ G % r = 0 := by
  rw [nz0_iff, ← h.mod]
  have : ((Nat.mod g r : Nat) : Int) = (g : Int) % r := by
    show ((g % r : Nat) : Int) = _
    push_cast
    rfl
  omega
theorem lfK_iff {D A C : Int} {p a c e k x v h : Nat} (hp : 2 ≤ p) (hk : k = 2 * h + 1 ∨ k = 2 * h + 2) (hD : Cg (ipow p k) a D) (hA : Cg (ipow p k) c A) (hC : Cg (ipow p k) e C) :
    lfK p a c e k x v = true ↔ (¬ byM D A x 1 % ipow p (h + 1) = 0 ∨ ¬ byE A C x 1 % ipow p (h + 1) = 0) ∨ (2 < (p : Int) ∧ (v : Int) ≠ 0) ∨ ((p : Int) = 2 ∧ ¬ (v : Int) % ipow p (2 * h) = 0) := by
  have e1 : Nat.div (Nat.add k 1) 2 = h + 1 := by show (k + 1) / 2 = h + 1; omega
  have e2 : Nat.mul 2 (Nat.div (Nat.sub k 1) 2) = 2 * h := by show 2 * ((k - 1) / 2) = 2 * h; omega
  have hn := ipow_nat p (h + 1)
  have c1 : Cg ((p ^ (h + 1) : Nat) : Int) ((g1 a c x : Nat) : Int) (byM D A x 1) := by
    rw [hn]
    exact g1_cg (Cg.pow (by omega) hD) (Cg.pow (by omega) hA)
  have c2 : Cg ((p ^ (h + 1) : Nat) : Int) ((g2 c e x : Nat) : Int) (byE A C x 1) := by
    rw [hn]
    exact g2_cg (Cg.pow (by omega) hA) (Cg.pow (by omega) hC)
  have n1 := nz0_mod c1
  have n2 := nz0_mod c2
  rw [hn] at n1 n2
  unfold lfK
  rw [e1, e2]
  by_cases h2 : p = 2
  · subst h2
    rw [show Nat.beq 2 2 = true from rfl, cond_true, frc_eq]
    have n3 := nz0_mod (g := v) (r := 2 ^ (2 * h)) (G := (v : Int)) (Cg.refl _ _)
    rw [ipow_nat] at n3
    rw [Bool.or_eq_true, Bool.or_eq_true]
    rw [show Nat.pow 2 (h + 1) = 2 ^ (h + 1) from rfl, show Nat.pow 2 (2 * h) = 2 ^ (2 * h) from rfl, n1, n2, n3]
    constructor
    · rintro ((q | q) | q)
      · exact Or.inr (Or.inr ⟨rfl, q⟩)
      · exact Or.inl (Or.inl q)
      · exact Or.inl (Or.inr q)
    · rintro ((q | q) | ⟨q, -⟩ | ⟨-, q⟩)
      · exact Or.inl (Or.inr q)
      · exact Or.inr q
      · omega
      · exact Or.inl (Or.inl q)
  · rw [beqF h2, cond_false]
    cases hv : nz0 v
    · have h0 : v = 0 := by
        rcases Nat.eq_zero_or_pos v with q | q
        · exact q
        · rw [nz0_iff.2 (by omega)] at hv; cases hv
      subst h0
      rw [cond_false, frc_eq, Bool.or_eq_true]
      rw [show Nat.pow p (h + 1) = p ^ (h + 1) from rfl, n1, n2]
      constructor
      · intro q; exact Or.inl q
      · rintro (q | ⟨-, q⟩ | ⟨q, -⟩)
        · exact q
        · exact absurd rfl q
        · omega
    · have h0 := nz0_iff.1 hv
      rw [cond_true]
      constructor
      · intro _; exact Or.inr (Or.inl ⟨by omega, by omega⟩)
      · intro _; rfl
/-- the next level's residue -/
theorem next_ex {p x u : Int} {k : Nat} (hp : 1 ≤ p) (h : Cg (ipow p k) u x) : ∃ t : Nat, (t : Int) < p ∧ Cg (ipow p (k + 1)) u (x + t * ipow p k) := by
  obtain ⟨c, rfl⟩ := h
  have hm := mod_bd (a := c) (p := p) hp
  refine ⟨(c % p).toNat, by omega, c / p, ?_⟩
  rw [Int.toNat_of_nonneg hm.1]
  have := Int.emod_add_mul_ediv c p
  simp only [ipow]
  generalize c % p = r at *
  generalize c / p = s at *
  generalize ipow p k = q at *
  rw [← this]
  grind
section
variable {D A C : Int} {p T a c e L : Nat}
theorem node_ok (hp : 2 ≤ p) (ht : 2 < p → TOk p T) {k q x : Nat} (hk : 1 ≤ k) (hkL : k ≤ L) (hq : (q : Int) = ipow p k) (hD : Cg (ipow p L) a D) (hA : Cg (ipow p L) c A) (hC : Cg (ipow p L) e C) :
    sqK p T k (fq a c e x q) = qok D A C p false k x ∧ (qok D A C p false k x = true → lfK p a c e k x (fq a c e x q) = qlf D A C p false k x) := by
  have hD' := Cg.pow hkL hD
  have hA' := Cg.pow hkL hA
  have hC' := Cg.pow hkL hC
  have hv := fq_eq (x := x) (q := q) (hq ▸ hD') (hq ▸ hA') (hq ▸ hC')
  rw [hq] at hv
  have hpos := ipow_pos (p := (p : Int)) (by omega) k
  have hm := mod_bd (a := qval D A C x 1) hpos
  have h1 : qok D A C p false k x = poss D A C x 1 p k := by unfold qok; rw [if_neg (by decide)]
  have h2 : qlf D A C p false k x = lift D A C x 1 p k := by unfold qlf; rw [if_neg (by decide)]
  rw [h1, h2]
  refine ⟨?_, fun hp1 => ?_⟩
  · rw [sqK_eq hp ht k k _ (by omega) (by omega), hv]
    rfl
  · unfold lift
    rw [hp1, Bool.true_and, Bool.eq_iff_iff, decide_eq_true_eq]
    obtain ⟨h, hh⟩ : ∃ h, k = 2 * h + 1 ∨ k = 2 * h + 2 := ⟨(k - 1) / 2, by omega⟩
    rw [lfK_iff hp hh hD' hA' hC', hv]
    exact (lift_iff (by omega) hh hm.1 hm.2).symm
theorem dfs_zero (hp : 2 ≤ p) (ht : 2 < p → TOk p T) (hD : Cg (ipow p L) a D) (hA : Cg (ipow p L) c A) (hC : Cg (ipow p L) e C) : ∀ (f k q x : Nat), k + f = L + 1 → 1 ≤ k → (q : Int) = ipow p k → dfs p T a c e f k q x = 0 →
    ∀ u : Int, Cg (ipow p k) u x → ∃ i, k ≤ i ∧ qok D A C p false i u = false ∧ ∀ j, k ≤ j → j < i → qlf D A C p false j u = false
  | 0, k, q, x, _, _, _, h => by cases h
  | f + 1, k, q, x, hf, hk, hq, h => by
    intro u hu
    obtain ⟨n1, n2⟩ := node_ok (x := x) hp ht hk (show k ≤ L by omega) hq hD hA hC
    rw [dfs, frc_eq, n1] at h
    have o1 : qok D A C p false k u = qok D A C p false k x := qok_cg hu
    have o2 : qlf D A C p false k u = qlf D A C p false k x := qlf_cg hu
    cases ho : qok D A C p false k x
    · exact ⟨k, Nat.le_refl k, by rw [o1, ho], fun j h1 h2 => by omega⟩
    · rw [ho, cond_true, n2 ho] at h
      cases hl : qlf D A C p false k x
      · rw [hl, cond_false, frc_eq] at h
        obtain ⟨t, ht', hc⟩ := next_ex (p := p) (by omega) hu
        have hz := lp_zero h t (by omega)
        have hq' : ((Nat.mul q p : Nat) : Int) = ipow p (k + 1) := by
          show ((q * p : Nat) : Int) = _
          push_cast
          rw [hq]; rfl
        obtain ⟨i, h1, h2, h3⟩ := dfs_zero hp ht hD hA hC f (k + 1) _ _ (by omega) (by omega) hq' hz u (by push_cast; rw [hq]; exact hc)
        refine ⟨i, by omega, h2, fun j j1 j2 => ?_⟩
        by_cases hj : j = k
        · subst hj; rw [o2, hl]
        · exact h3 j (by omega) j2
      · rw [hl, cond_true] at h
        cases hb : Nat.ble q 1000000000 <;> rw [hb] at h <;> cases h
theorem dfs_one (hp : 2 ≤ p) (ht : 2 < p → TOk p T) (hD : Cg (ipow p L) a D) (hA : Cg (ipow p L) c A) (hC : Cg (ipow p L) e C) : ∀ (f k q x : Nat), k + f = L + 1 → 1 ≤ k → (q : Int) = ipow p k → dfs p T a c e f k q x = 1 →
    ∃ (u : Int) (i : Nat), Cg (ipow p k) u x ∧ k ≤ i ∧ ipow p i ≤ 1000000000 ∧ (∀ j, k ≤ j → j ≤ i → qok D A C p false j u = true) ∧ qlf D A C p false i u = true
  | 0, k, q, x, _, _, _, h => by cases h
  | f + 1, k, q, x, hf, hk, hq, h => by
    obtain ⟨n1, n2⟩ := node_ok (x := x) hp ht hk (show k ≤ L by omega) hq hD hA hC
    rw [dfs, frc_eq, n1] at h
    cases ho : qok D A C p false k x
    · rw [ho] at h; cases h
    · rw [ho, cond_true, n2 ho] at h
      cases hl : qlf D A C p false k x
      · rw [hl, cond_false, frc_eq] at h
        obtain ⟨t, ht', hz⟩ := lp_one h
        have hq' : ((Nat.mul q p : Nat) : Int) = ipow p (k + 1) := by
          show ((q * p : Nat) : Int) = _
          push_cast
          rw [hq]; rfl
        obtain ⟨u, i, h1, h2, h3, h4, h5⟩ := dfs_one hp ht hD hA hC f (k + 1) _ _ (by omega) (by omega) hq' hz
        have hu : Cg (ipow p k) u x := (Cg.pow (show k ≤ k + 1 by omega) h1).trans ⟨t, by push_cast; rw [hq, Int.mul_comm]⟩
        refine ⟨u, i, hu, by omega, h3, fun j j1 j2 => ?_, h5⟩
        by_cases hj : j = k
        · subst hj; rw [qok_cg hu, ho]
        · exact h4 j (by omega) j2
      · rw [hl, cond_true] at h
        cases hb : Nat.ble q 1000000000
        · rw [hb] at h; cases h
        · have := Nat.le_of_ble_eq_true hb
          exact ⟨x, k, Cg.refl _ _, Nat.le_refl k, by omega, fun j j1 j2 => by obtain rfl : j = k := by omega
                                                                               exact ho, hl⟩
end
theorem rsd_cg {D : Int} {p L Q : Nat} (hp : 1 ≤ p) (hQ : (Q : Int) = ipow p L) : Cg (ipow p L) ((rsd D Q : Nat) : Int) D := by
  unfold rsd
  have hpos := ipow_pos (p := (p : Int)) (by omega) L
  rw [hQ, Int.toNat_of_nonneg (mod_bd hpos).1]
  exact Cg.emod _ _
theorem solK_zero {D A C : Int} {p T L d : Nat} (hp : 2 ≤ p) (ht : 2 < p → TOk p T) (hd : 1 ≤ d) (h : solK p T L D A C = 0) : solv D A C p d = false := by
  unfold solK at h
  rw [frc_eq, frc_eq, frc_eq, frc_eq] at h
  have hQ : ((Nat.pow p L : Nat) : Int) = ipow p L := ipow_nat p L
  have cD := rsd_cg (D := D) (show 1 ≤ p by omega) hQ
  have cA := rsd_cg (D := A) (show 1 ≤ p by omega) hQ
  have cC := rsd_cg (D := C) (show 1 ≤ p by omega) hQ
  generalize rsd D (Nat.pow p L) = rd at *
  generalize rsd A (Nat.pow p L) = ra at *
  generalize rsd C (Nat.pow p L) = rc at *
  obtain ⟨h1, h2⟩ := nz_zero.1 h
  have hp1 : (p : Int) = ipow p 1 := by simp [ipow]
  unfold solv
  rw [List.any_eq_false]
  intro j hj hl
  obtain ⟨b, u, ⟨hb, hc⟩, hlf⟩ := Lf_to hp hl
  have key : ∀ i, 1 ≤ i → qok D A C p b i u = false → (∀ j', 1 ≤ j' → j' < i → qlf D A C p b j' u = false) → False := fun i i1 i2 i3 => by
    rcases Nat.lt_or_ge (j + 1) i with q | q
    · rw [i3 (j + 1) (by omega) q] at hlf; cases hlf
    · rw [hc i i1 q] at i2; cases i2
  cases b
  · have hm := mod_bd (a := u) (p := (p : Int)) (by omega)
    have := lp_zero h2 (u % p).toNat (by omega)
    obtain ⟨i, i1, i2, i3⟩ := dfs_zero hp ht cD cA cC L 1 p _ (by omega) (by omega) hp1 this u (by
      rw [← hp1]
      refine Cg.of_mod ?_
      push_cast
      rw [Int.toNat_of_nonneg hm.1, Int.zero_add, Int.mul_one, Int.emod_emod])
    exact key i i1 i2 i3
  · obtain ⟨i, i1, i2, i3⟩ := dfs_zero hp ht cC cA cD L 1 p 0 (by omega) (by omega) hp1 h1 u (by
      rw [← hp1]
      refine Cg.of_mod ?_
      rw [hb rfl]
      rfl)
    exact key i i1 (by rw [qok_swap]; exact i2) fun j' j1 j2 => by rw [qlf_swap]; exact i3 j' j1 j2
theorem solK_one {D A C : Int} {p T L d : Nat} (hp : 2 ≤ p) (ht : 2 < p → TOk p T) (hd : IsDep p d) (h : solK p T L D A C = 1) : solv D A C p d = true := by
  unfold solK at h
  rw [frc_eq, frc_eq, frc_eq, frc_eq] at h
  have hQ : ((Nat.pow p L : Nat) : Int) = ipow p L := ipow_nat p L
  have cD := rsd_cg (D := D) (show 1 ≤ p by omega) hQ
  have cA := rsd_cg (D := A) (show 1 ≤ p by omega) hQ
  have cC := rsd_cg (D := C) (show 1 ≤ p by omega) hQ
  generalize rsd D (Nat.pow p L) = rd at *
  generalize rsd A (Nat.pow p L) = ra at *
  generalize rsd C (Nat.pow p L) = rc at *
  have hp1 : (p : Int) = ipow p 1 := by simp [ipow]
  have fin : ∀ (b : Bool) (u : Int) (i : Nat), (b = true → u % p = 0) → 1 ≤ i → ipow p i ≤ 1000000000 → (∀ j, 1 ≤ j → j ≤ i → qok D A C p b j u = true) → qlf D A C p b i u = true → solv D A C p d = true := fun b u i hb i1 i2 i3 i4 => by
    have hid := (hd.iff (by omega)).1 i2
    obtain ⟨j, rfl⟩ : ∃ j, i = j + 1 := ⟨i - 1, by omega⟩
    exact solv_yes (j := j) (by omega) (Lf_of hp ⟨hb, i3⟩ i4)
  rcases nz_one h with h | h
  · obtain ⟨u, i, h1, h2, h3, h4, h5⟩ := dfs_one hp ht cC cA cD L 1 p 0 (by omega) (by omega) hp1 h
    refine fin true u i (fun _ => ?_) h2 h3 (fun j j1 j2 => by rw [qok_swap]; exact h4 j j1 j2) (by rw [qlf_swap]; exact h5)
    rw [← hp1] at h1
    have := h1.mod
    rw [this]
    rfl
  · obtain ⟨t, ht', hz⟩ := lp_one h
    obtain ⟨u, i, h1, h2, h3, h4, h5⟩ := dfs_one hp ht cD cA cC L 1 p _ (by omega) (by omega) hp1 hz
    exact fin false u i (fun h => Bool.noConfusion h) h2 h3 h4 h5
end M
end Go.Proofs.YtgkjmjlkhnfbiaaGreat

namespace Go.Proofs.YtgkjmjlkhnfbiaaGreat
set_option linter.unusedSimpArgs false
set_option linter.unusedVariables false
namespace M
theorem flatget {α β : Type} {f : α → List β} {k : Nat} (hl : ∀ x, (f x).length = k) : ∀ (xs : List α) (j i : Nat) (x : α), xs[j]? = some x → i < k → (xs.flatMap f)[j * k + i]? = (f x)[i]?
  | [], _, _, _, h, _ => by simp at h
  | y :: ys, 0, i, x, h, hi => by
    simp only [List.getElem?_cons_zero, Option.some.injEq] at h
    subst h
    rw [List.flatMap_cons, Nat.zero_mul, Nat.zero_add, List.getElem?_append_left (by rw [hl]; exact hi)]
  | y :: ys, j + 1, i, x, h, hi => by
    have ih := flatget hl ys j i x (by simpa using h) hi
    rw [List.flatMap_cons, List.getElem?_append_right (by rw [hl, Nat.add_mul]; omega), hl]
    rw [← ih]
    congr 1
    rw [Nat.add_mul]
    omega
theorem flatlen {α β : Type} {f : α → List β} {k : Nat} (hl : ∀ x, (f x).length = k) : ∀ xs : List α, (xs.flatMap f).length = xs.length * k
  | [] => by simp
  | x :: xs => by rw [List.flatMap_cons, List.length_append, flatlen hl xs, hl, List.length_cons, Nat.add_mul]; omega
/-- all that are looked at, in the program's order -/
def tri (p : Nat) (l : List (Int × Int)) : List (Bool × Nat × (Int × Int)) :=
  [true, false].flatMap fun pl => (List.range p).flatMap fun j => l.map fun x => (pl, j, x)
/-- what comes of one -/
def triF (s : Int) (t : Bool × Nat × (Int × Int)) : Option (Int × Int) :=
  if (t.2.2.2 == 1) == t.1 then some (if t.1 then (t.2.2.1 + t.2.1 * s, t.2.2.2) else (t.2.2.1, t.2.2.2 + t.2.1 * s)) else none
theorem fm_flat {α β γ : Type} (f : α → List β) (g : β → Option γ) : ∀ xs : List α, (xs.flatMap f).filterMap g = xs.flatMap fun x => (f x).filterMap g
  | [] => rfl
  | x :: xs => by rw [List.flatMap_cons, List.filterMap_append, fm_flat f g xs, List.flatMap_cons]
theorem cands_tri (p : Nat) (l : List (Int × Int)) (i : Nat) : cands p l i = (tri p l).filterMap (triF (ipow p i)) := by
  unfold cands tri
  rw [fm_flat]
  congr 1
  funext pl
  rw [fm_flat]
  congr 1
  funext j
  induction l with
  | nil => rfl
  | cons x l ih =>
    rw [List.map_cons, List.filterMap_cons]
    by_cases h : ((x.2 == 1) == pl) = true
    · rw [List.filter_cons_of_pos (p := fun x : Int × Int => (x.2 == 1) == pl) h, List.map_cons, ih]
      have : triF (ipow p i) (pl, j, x) = some (if pl then (x.1 + j * ipow p i, x.2) else (x.1, x.2 + j * ipow p i)) := by
        unfold triF
        exact if_pos h
      rw [this]
    · rw [List.filter_cons_of_neg (p := fun x : Int × Int => (x.2 == 1) == pl) h, ih]
      have : triF (ipow p i) (pl, j, x) = none := by
        unfold triF
        exact if_neg h
      rw [this]
theorem tri_len (p : Nat) (l : List (Int × Int)) : (tri p l).length = 2 * (p * l.length) := by
  unfold tri
  rw [flatlen (k := p * l.length) (fun pl => by rw [flatlen (k := l.length) (fun j => by simp)]; simp)]
  rfl
theorem tri_get {p : Nat} {l : List (Int × Int)} {a j i : Nat} {x : Int × Int} (ha : a < 2) (hj : j < p) (hx : l[i]? = some x) :
    (tri p l)[a * (p * l.length) + (j * l.length + i)]? = some (a == 0, j, x) := by
  have hi : i < l.length := (List.getElem?_eq_some_iff.1 hx).1
  have h1 : j * l.length + i < p * l.length := by
    have : (j + 1) * l.length ≤ p * l.length := Nat.mul_le_mul_right _ hj
    rw [Nat.add_mul] at this
    omega
  unfold tri
  rw [flatget (k := p * l.length) (fun pl => by rw [flatlen (k := l.length) (fun j => by simp)]; simp) _ a _ (a == 0) (by rcases (show a = 0 ∨ a = 1 by omega) with rfl | rfl <;> rfl) h1]
  rw [flatget (k := l.length) (fun j => by simp) _ j i j (by simp [hj]) hi]
  rw [List.getElem?_map, hx]
  rfl
/-- what has come when t of them have been looked at -/
def come (p : Nat) (l : List (Int × Int)) (s : Int) (t : Nat) : List (Int × Int) := ((tri p l).take t).filterMap (triF s)
theorem come_next {p : Nat} {l : List (Int × Int)} {s : Int} {t : Nat} {y : Bool × Nat × (Int × Int)} (h : (tri p l)[t]? = some y) : come p l s (t + 1) = come p l s t ++ (triF s y).toList := by
  unfold come
  rw [List.take_add_one, h, List.filterMap_append]
  cases hf : triF s y <;> simp [hf]
theorem come_all (p : Nat) (l : List (Int × Int)) (i : Nat) {t : Nat} (ht : 2 * (p * l.length) ≤ t) : come p l (ipow p i) t = cands p l i := by
  rw [cands_tri]
  unfold come
  rw [List.take_of_length_le (by rw [tri_len]; exact ht)]
theorem come_pre (p : Nat) (l : List (Int × Int)) (i t : Nat) : come p l (ipow p i) t <+: cands p l i := by
  rw [cands_tri]
  unfold come
  refine ⟨((tri p l).drop t).filterMap (triF (ipow p i)), ?_⟩
  rw [← List.filterMap_append, List.take_append_drop]
theorem filt_split {α : Type} (f : α → Bool) : ∀ l : List α, (l.filter fun x => f x == true).length + (l.filter fun x => f x == false).length = l.length
  | [] => rfl
  | x :: l => by
    have := filt_split f l
    cases h : f x <;> simp [h] at this ⊢ <;> omega
theorem cands_len (p : Nat) (l : List (Int × Int)) (i : Nat) : (cands p l i).length = p * l.length := by
  have h : ∀ pl : Bool, ((List.range p).flatMap fun (j : Nat) => (l.filter fun x => (x.2 == 1) == pl).map fun x => if pl then (x.1 + j * ipow p i, x.2) else (x.1, x.2 + j * ipow p i)).length = p * (l.filter fun x => (x.2 == 1) == pl).length := fun pl => by
    rw [flatlen (k := (l.filter fun x => (x.2 == 1) == pl).length) (fun j => by simp)]
    simp
  have hs := filt_split (fun x : Int × Int => x.2 == 1) l
  unfold cands
  rw [List.flatMap_cons, List.flatMap_cons, List.flatMap_nil, List.append_nil, List.length_append, h true, h false, ← Nat.mul_add, hs]
theorem lst_len (p : Nat) (ok : Bool → Nat → Int → Bool) (hp : 2 ≤ p) : ∀ i : Nat, ((lst p ok i).length : Int) ≤ 2 * ipow p (i + 1)
  | 0 => by
    have h1 : ((List.range p).filter fun (m : Nat) => ok false 1 (m : Int)).length ≤ p := by
      have := List.length_filter_le (fun (m : Nat) => ok false 1 (m : Int)) (List.range p)
      simpa using this
    have h2 : (if ok true 1 0 = true then [((1 : Int), (0 : Int))] else []).length ≤ 1 := by split <;> simp
    simp only [lst, List.length_append, List.length_map, ipow]
    omega
  | i + 1 => by
    have ih := lst_len p ok hp i
    have h1 := List.length_filter_le (okP (ok := ok) (i + 2)) (cands p (lst p ok i) (i + 1))
    rw [cands_len] at h1
    have h2 : ((p * (lst p ok i).length : Nat) : Int) ≤ p * (2 * ipow p (i + 1)) := by
      rw [Int.natCast_mul]
      exact Int.mul_le_mul_of_nonneg_left ih (by omega)
    have h3 : (p : Int) * (2 * ipow p (i + 1)) = 2 * ipow p (i + 2) := by
      show _ = 2 * (ipow p (i + 1) * p)
      rw [Int.mul_comm, Int.mul_assoc]
    simp only [lst]
    show _ ≤ 2 * ipow p (i + 2)
    omega
end M
end Go.Proofs.YtgkjmjlkhnfbiaaGreat

namespace Go.Proofs.YtgkjmjlkhnfbiaaGreat
set_option linter.unusedSimpArgs false
set_option linter.unusedVariables false
open Go.RowKit
namespace Rw
variable {α : Type}

/-- how an element lies: its type, its cells -/
structure Enc (α : Type) where
  t : TypeId
  k : Nat
  cells : α → List Value
  len : ∀ x, (cells x).length = k
  one : ∀ x, ∀ u ∈ cells x, u.oneCell' = true
  pos : 0 < k

theorem flat_len (E : Enc α) : ∀ xs : List α, (xs.flatMap E.cells).length = xs.length * E.k
  | [] => by simp
  | x :: xs => by rw [List.flatMap_cons, List.length_append, flat_len E xs, E.len, List.length_cons, Nat.add_mul]; omega
theorem flat_get (E : Enc α) : ∀ (xs : List α) (j i : Nat) (x : α), xs[j]? = some x → i < E.k → (xs.flatMap E.cells)[j * E.k + i]? = (E.cells x)[i]?
  | [], _, _, _, h, _ => by simp at h
  | y :: ys, 0, i, x, h, hi => by
    simp only [List.getElem?_cons_zero, Option.some.injEq] at h
    subst h
    rw [List.flatMap_cons, Nat.zero_mul, Nat.zero_add, List.getElem?_append_left (by rw [E.len]; exact hi)]
  | y :: ys, j + 1, i, x, h, hi => by
    have ih := flat_get E ys j i x (by simpa using h) hi
    rw [List.flatMap_cons, List.getElem?_append_right (by rw [E.len, Nat.add_mul]; omega), E.len]
    rw [← ih]
    congr 1
    rw [Nat.add_mul]
    omega
theorem flat_take (E : Enc α) (xs : List α) (n : Nat) : (xs.take n).flatMap E.cells = (xs.flatMap E.cells).take (n * E.k) := by
  have e : xs.flatMap E.cells = (xs.take n).flatMap E.cells ++ (xs.drop n).flatMap E.cells := by rw [← List.flatMap_append, List.take_append_drop]
  rcases Nat.lt_or_ge n xs.length with h | h
  · have hl : ((xs.take n).flatMap E.cells).length = n * E.k := by rw [flat_len, List.length_take, Nat.min_eq_left (by omega)]
    rw [e, ← hl, List.take_left]
  · rw [List.take_of_length_le h, List.take_of_length_le (by rw [flat_len]; exact Nat.mul_le_mul_right _ h)]
theorem flat_drop (E : Enc α) (xs : List α) (n : Nat) : (xs.drop n).flatMap E.cells = (xs.flatMap E.cells).drop (n * E.k) := by
  have e : xs.flatMap E.cells = (xs.take n).flatMap E.cells ++ (xs.drop n).flatMap E.cells := by rw [← List.flatMap_append, List.take_append_drop]
  rcases Nat.lt_or_ge n xs.length with h | h
  · have hl : ((xs.take n).flatMap E.cells).length = n * E.k := by rw [flat_len, List.length_take, Nat.min_eq_left (by omega)]
    rw [e, ← hl, List.drop_left]
  · rw [List.drop_eq_nil_of_le h, List.drop_eq_nil_of_le (by rw [flat_len]; exact Nat.mul_le_mul_right _ h)]
    rfl
theorem cells_mem (E : Enc α) (xs : List α) : ∀ u ∈ xs.flatMap E.cells, u.oneCell' = true := by
  intro u hu
  obtain ⟨x, -, h⟩ := List.mem_flatMap.1 hu
  exact E.one x u h

/-- a slice of such elements that lies in blocks from base on and may be appended to -/
def Own (E : Enc α) (w : World) (base : Nat) (v : Value) (xs : List α) : Prop := w.ownsRow base E.t E.k v xs.length (xs.flatMap E.cells)
variable {E : Enc α} {w w' : World} {base base' : Nat} {v : Value} {xs : List α}
theorem Own.nil (E : Enc α) (w : World) (base : Nat) : Own E w base (.slice none 0 0) ([] : List α) := World.ownsRow_nil w base _ _
theorem Own.lit0 (E : Enc α) (w : World) (base : Nat) (hb : base ≤ w.heap.size) : Own E (w.alloc (.cells #[] E.t)) base (.slice (some ⟨w.heap.size, 0, none⟩) 0 0) ([] : List α) :=
  World.ownsRow_made w #[] 0 hb (by unfold maxLen; omega) (by simp)
theorem Own.kept {r : Option Nat} (h : Own E w base v xs) (hg : w.grownBy w' r) (hr : ∀ g, r = some g → v.ownBlock ≠ some g) : Own E w' base v xs := by
  refine World.ownsRow.kept h hg ?_
  cases r with
  | none =>
    cases hv : v.ownBlock
    · exact Or.inl rfl
    · exact Or.inr (by simp)
  | some g => exact Or.inr (hr g rfl)
theorem Own.below (h : Own E w base v xs) (hb : Below w.heap.size w w') : Own E w' base v xs := h.kept (below_grown hb none) fun g hg => by cases hg
theorem Own.down (h : Own E w base v xs) (hb : base' ≤ base) : Own E w base' v xs := by
  obtain ⟨h1, h2⟩ := h
  refine ⟨h1, ?_⟩
  rcases h2 with h2 | ⟨g, cap, cur, hv, hg, hh, r⟩
  · exact Or.inl h2
  · exact Or.inr ⟨g, cap, cur, hv, Nat.le_trans hb hg, hh, r⟩
theorem Own.alloc (h : Own E w base v xs) (o : Obj) : Own E (w.alloc o) base v xs := World.ownsRow.alloc h o
theorem Own.lt (h : Own E w base v xs) : ∀ g, v.ownBlock = some g → base ≤ g ∧ g < w.heap.size := World.ownsRow.lt h
theorem Own.forms (h : Own E w base v xs) : (v = .slice none 0 0 ∧ xs = []) ∨ ∃ g cap, v = .slice (some ⟨g, 0, none⟩) xs.length cap ∧ base ≤ g ∧ g < w.heap.size ∧ xs.length ≤ cap ∧ cap ≤ 9223372036854775807 := by
  rcases h.2 with ⟨e, h2⟩ | ⟨g, cap', cur, e, hg, hh, h3, h4, -⟩
  · exact Or.inl ⟨e, List.eq_nil_of_length_eq_zero h2⟩
  · exact Or.inr ⟨g, cap', e, hg, (Array.getElem?_eq_some_iff.1 hh).1, h3, by unfold maxLen at h4; omega⟩

/-- a slice of such elements that can be read; its cells lie below block hi -/
def Seen (E : Enc α) (w : World) (hi : Nat) (v : Value) (xs : List α) : Prop :=
  ∃ (a : Option Addr) (cap : Nat), v = .slice a xs.length cap ∧ xs.length ≤ cap ∧ cap ≤ 9223372036854775807 ∧
    ∀ j, j < xs.length → ∃ g x, a = some ⟨g, 0, none⟩ ∧ g < hi ∧ Hid (xs[j]? = some x) ∧ ∀ i u, (E.cells x)[i]? = some u → w.cell? ⟨g, j * E.k + i, none⟩ = some u
theorem Seen.below {hi : Nat} (h : Seen E w hi v xs) (hb : Below hi w w') : Seen E w' hi v xs := by
  obtain ⟨a, cap, h1, h2, h2', h3⟩ := h
  refine ⟨a, cap, h1, h2, h2', fun k hk => ?_⟩
  obtain ⟨g, x, e1, e2, e3, e4⟩ := h3 k hk
  exact ⟨g, x, e1, e2, e3, fun i u hu => (hb.cell (p := ⟨g, k * E.k + i, none⟩) e2).trans (e4 i u hu)⟩
theorem Own.seen (h : Own E w base v xs) : Seen E w w.heap.size v xs := by
  have hf := h.forms
  obtain ⟨h1, h2⟩ := h
  rcases h2 with ⟨rfl, hn⟩ | ⟨g, cap, cur, rfl, hg, hh, hc, hm, hs, ht⟩
  · exact ⟨none, 0, by rw [hn], by omega, by omega, fun k hk => by omega⟩
  · refine ⟨some ⟨g, 0, none⟩, cap, rfl, hc, by unfold maxLen at hm; omega, fun j hj => ⟨g, xs[j], rfl, (Array.getElem?_eq_some_iff.1 hh).1, List.getElem?_eq_getElem hj, fun i u hu => ?_⟩⟩
    rw [cell_of_row w g _ cur _ (0, 0) hh]
    have hi : i < E.k := by rw [← E.len xs[j]]; exact (List.getElem?_eq_some_iff.1 hu).1
    have e := flat_get E xs j i _ (List.getElem?_eq_getElem hj) hi
    rw [hu, ← ht, List.getElem?_take] at e
    split at e
    · simpa using e
    · cases e

/-- elements that are read from A on -/
def From (E : Enc α) (w : World) (A : Option Addr) (ys : List α) : Prop := ∀ j u, (ys.flatMap E.cells)[j]? = some u → ∃ ad, A = some ad ∧ w.cell? (ad.add j) = some u
theorem From.nil (E : Enc α) (w : World) (A : Option Addr) : From E w A ([] : List α) := fun j u h => by simp at h
theorem From.lit (E : Enc α) (w : World) (x : α) (H : Nat) (hH : w.heap.size = H) : From E (w.alloc (.cells (E.cells x).toArray E.t)) (some ⟨H, 0, none⟩) [x] := by
  intro j u h
  subst hH
  have hadd : ∀ b i : Nat, (⟨b, 0, none⟩ : Addr).add i = ⟨b, i, none⟩ := fun b i => by unfold Addr.add; split <;> simp_all
  refine ⟨_, rfl, ?_⟩
  rw [hadd, World.cell?_alloc_at _ _ _ _ rfl]
  simpa using h
theorem Own.cellAt {g n cap : Nat} (hn : n = xs.length) (h : Own E w base (.slice (some ⟨g, 0, none⟩) n cap) xs) (j : Nat) (u : Value) (hu : (xs.flatMap E.cells)[j]? = some u) : w.cell? ⟨g, j, none⟩ = some u ∧ w.frozen? ⟨g, j, none⟩ = false := by
  subst hn
  have hj := (List.getElem?_eq_some_iff.1 hu).1
  rw [flat_len] at hj
  exact ⟨(World.ownsRow.cellAt h j hj).trans hu, World.ownsRow.frozenAt h j⟩
theorem Own.take_ {g n cap : Nat} (hn : n = xs.length) (h : Own E w base (.slice (some ⟨g, 0, none⟩) n cap) xs) {hi : Nat} (hhi : g < hi) (hb : Below hi w w') (m : Nat) : From E w' (some ⟨g, 0, none⟩) (xs.take m) := by
  intro j u hu
  have hadd : ∀ b i : Nat, (⟨b, 0, none⟩ : Addr).add i = ⟨b, i, none⟩ := fun b i => by unfold Addr.add; split <;> simp_all
  rw [flat_take, List.getElem?_take] at hu
  split at hu
  · exact ⟨_, rfl, by rw [hadd]; exact (hb.cell (p := ⟨g, j, none⟩) hhi).trans (h.cellAt hn j u hu).1⟩
  · cases hu
theorem Own.drop_ {g n cap : Nat} (hn : n = xs.length) (h : Own E w base (.slice (some ⟨g, 0, none⟩) n cap) xs) {hi : Nat} (hhi : g < hi) (hb : Below hi w w') (m o : Nat) (ho : o = m * E.k) : From E w' (some ⟨g, o, none⟩) (xs.drop m) := by
  intro j u hu
  subst ho
  have hadd2 : ∀ b i j : Nat, (⟨b, i, none⟩ : Addr).add j = ⟨b, i + j, none⟩ := fun b i j => by unfold Addr.add; split <;> simp_all
  rw [flat_drop, List.getElem?_drop] at hu
  exact ⟨_, rfl, by rw [hadd2]; exact (hb.cell (p := ⟨g, m * E.k + j, none⟩) hhi).trans (h.cellAt hn _ u hu).1⟩

theorem row_setCells (base g cap n : Nat) (t : TypeId) (k : Nat) : ∀ (l : List Value) (o : Nat) (w : World) (zs : List Value), w.ownsRow base t k (.slice (some ⟨g, 0, none⟩) n cap) n zs →
    ∃ ys, (w.setCells g o l).ownsRow base t k (.slice (some ⟨g, 0, none⟩) n cap) n ys ∧ ys.take o = zs.take o ∧ w.grownBy (w.setCells g o l) (some g)
  | [], o, w, zs, h => ⟨zs, h, rfl, grown_rf _ _⟩
  | u :: l, o, w, zs, h => by
    have h1 := World.ownsRow.stored h o u
    obtain ⟨ys, k1, k2, k3⟩ := row_setCells base g cap n t k l (o + 1) _ _ h1.1
    refine ⟨ys, k1, ?_, grown_tr h1.2 k3⟩
    have := congrArg (List.take o) k2
    rw [List.take_take, List.take_take, Nat.min_eq_left (by omega)] at this
    rw [this, List.take_set, List.set_eq_of_length_le (by rw [List.length_take]; omega)]
theorem row_cut {t : TypeId} {k g n cap i : Nat} {zs : List Value} (h : w.ownsRow base t k (.slice (some ⟨g, 0, none⟩) n cap) n zs) (hi : i ≤ n) : w.ownsRow base t k (.slice (some ⟨g, 0, none⟩) i cap) i (zs.take (i * k)) := by
  obtain ⟨h1, h2⟩ := h
  have hik : i * k ≤ n * k := Nat.mul_le_mul_right _ hi
  rcases h2 with ⟨e, -⟩ | ⟨g', cap', cur, e, hg, hh, hc, hm, hs, ht⟩
  · cases e
  · injection e with e1 e2 e3
    simp only [Option.some.injEq, Addr.mk.injEq, and_true] at e1
    subst e1 e3
    refine ⟨by rw [List.length_take]; omega, Or.inr ⟨g, cap, cur, rfl, hg, hh, by omega, hm, hs, ?_⟩⟩
    rw [← ht, List.take_take, Nat.min_eq_left hik]
/-- cells from the i-th element on are written, and the slice cut to i elements -/
theorem Own.cut {g n cap i : Nat} {ys : List α} (hn : n = xs.length) (h : Own E w base (.slice (some ⟨g, 0, none⟩) n cap) xs) (hi : i ≤ n) (l : List Value) (hy : ys = xs.take i) (o : Nat) (ho : o = i * E.k) :
    Own E (w.setCells g o l) base (.slice (some ⟨g, 0, none⟩) i cap) ys ∧ w.grownBy (w.setCells g o l) (some g) := by
  subst hn hy ho
  obtain ⟨rs, k1, k2, k3⟩ := row_setCells base g cap xs.length E.t E.k l (i * E.k) w _ h
  refine ⟨?_, k3⟩
  have hl : (xs.take i).length = i := by rw [List.length_take]; omega
  have := row_cut k1 hi
  rw [k2, ← flat_take] at this
  unfold Own
  rw [hl]
  exact this
theorem flat_set (E : Enc α) : ∀ (xs : List α) (j : Nat) (x : α), j < xs.length → ∀ t, ((xs.set j x).flatMap E.cells)[t]? = if j * E.k ≤ t ∧ t < j * E.k + E.k then (E.cells x)[t - j * E.k]? else (xs.flatMap E.cells)[t]?
  | [], j, x, h, _ => by simp at h
  | y :: ys, 0, x, h, t => by
    rw [List.set_cons_zero, List.flatMap_cons, List.flatMap_cons]
    by_cases ht : t < E.k
    · rw [List.getElem?_append_left (by rw [E.len]; exact ht), if_pos ⟨by omega, by omega⟩]
      simp
    · rw [List.getElem?_append_right (by rw [E.len]; omega), if_neg (by omega), List.getElem?_append_right (by rw [E.len]; omega), E.len, E.len]
  | y :: ys, j + 1, x, h, t => by
    have ih := flat_set E ys j x (by simpa using h)
    rw [List.set_cons_succ, List.flatMap_cons, List.flatMap_cons]
    have e : (j + 1) * E.k = j * E.k + E.k := by rw [Nat.add_mul]; omega
    by_cases ht : t < E.k
    · rw [List.getElem?_append_left (by rw [E.len]; exact ht), List.getElem?_append_left (by rw [E.len]; exact ht), if_neg (by omega)]
    · rw [List.getElem?_append_right (by rw [E.len]; omega), List.getElem?_append_right (by rw [E.len]; omega), E.len, ih (t - E.k), e]
      by_cases hc : j * E.k ≤ t - E.k ∧ t - E.k < j * E.k + E.k
      · rw [if_pos hc, if_pos (by omega)]
        congr 1
        omega
      · rw [if_neg hc, if_neg (by omega)]
/-- what is asked of a program's types -/
structure Fits (P : Program) (E : Enc α) (ts : TypeId) : Prop where
  under : P.underlying ts = some (.slice E.t)
  info : ∃ i z, P.info? E.t = some i ∧ i.zero = some z ∧ i.size = E.k ∧ i.bytes ≤ 1000 ∧ z.cells.size = E.k

/-- 'append(out, src...)' -/
theorem run_push {P : Program} {ts : TypeId} (F : Fits P E ts) {W : World} (ty : TypeId) (ys : List α) (A : Option Addr) (c : Nat)
    (hr : From E w A ys) (hown : Own E w base v xs) (hW : Below base W w) (hB : base ≤ w.heap.size) (hl : xs.length + ys.length ≤ 100000000000) :
    ∃ v' w', (Builtin.append_ #[ts, ts] ty #[v, .slice A ys.length c]).run P w = .ok v' w' ∧ Own E w' base v' (xs ++ ys) ∧ Below base W w' := by
  obtain ⟨i, z, hi, hz, hs, hby, hzc⟩ := F.info
  cases A with
  | none =>
    have he : ys = [] := by
      cases ys with
      | nil => rfl
      | cons y ys =>
        have hp := E.pos
        have hl := E.len y
        obtain ⟨ad, h, -⟩ := hr 0 ((E.cells y)[0]'(by omega)) (by rw [List.flatMap_cons, List.getElem?_append_left (by omega)]; exact List.getElem?_eq_getElem _)
        cases h
    subst he
    exact ⟨v, w, run_append_of_nil w base _ _ _ i E.k F.under hi _ _ _ hown c, by simpa using hown, hW⟩
  | some ad =>
    have hbb : (xs.length + ys.length) * i.bytes ≤ 140737488355328 := Nat.le_trans (Nat.mul_le_mul hl hby) (by omega)
    obtain ⟨v', w', h1, h2, h3, -, -⟩ := run_append_own_at (P := P) w base ts ty E.t i z E.k i.bytes F.under hi hz hs rfl hzc E.pos v xs.length (xs.flatMap E.cells) hown ad ys.length c (ys.flatMap E.cells)
      (flat_len E ys) (fun j u hu => by
        obtain ⟨ad', h1, h2⟩ := hr j u hu
        obtain rfl := Option.some.inj h1
        exact h2) (cells_mem E ys) (by unfold maxLen; omega) hbb hB
    refine ⟨v', w', h1, ?_, hW.grown h3 hB fun k hk => (Own.lt hown k hk).1⟩
    unfold Own
    rw [List.flatMap_append, List.length_append]
    exact h2

theorem push {P : Program} {ts : TypeId} (F : Fits P E ts) {ops : Array Oper} {rest : List Oper} {o : Oper} {a : Act} {Q : Exit → Act → World → Prop} {W : World} (base : Nat) (ys xs : List α) (v : Value) (A : Option Addr) (m c : Nat) (hm : ys.length = m) (hgd : o.guard = none) (s x : Operand)
    (ho : o.op = .call { callee := .builtin .append, args := #[s, x], argTypes := #[ts, ts] }) (hs : a.eval s = v) (hx : a.eval x = .slice A m c)
    (hr : From E w A ys) (hown : Own E w base v xs) (hW : Below base W w) (hB : base ≤ w.heap.size) (hl : xs.length + ys.length ≤ 100000000000)
    (h : ∀ v' w', Own E w' base v' (xs ++ ys) → Below base W w' → wpList P ops Q rest (a.put o.dst v') w') :
    wpList P ops Q (o :: rest) a w := by
  subst hm
  refine wpList_plain hgd fun _ hK => ?_
  obtain ⟨v', w', h1, h2, h3⟩ := run_push F (w := w) (W := W) (base := base) o.type ys A c hr hown hW hB hl
  unfold Oper.wp execOp
  simp only [ho, resolve, invoke, builtin, Sem.run_bind, Sem.run_pure, Result.andThen_ok, List.map_toArray, List.map_cons, List.map_nil, hs, hx, h1]
  exact hK _ _ (h v' w' h2 h3)

/-- the same at a step of a region that draws -/
theorem step_push {P : Program} {ts : TypeId} (F : Fits P E ts) {ops : Array Oper} {o : Oper} {a : Act} {K : Act → World → Prop} {Q : Exit → Act → World → Prop} {B : Prop} {W : World} (base : Nat) (ys xs : List α) (v : Value) (A : Option Addr) (m c : Nat) (hm : ys.length = m) (hgd : o.guard = none) (s x : Operand)
    (ho : o.op = .call { callee := .builtin .append, args := #[s, x], argTypes := #[ts, ts] }) (hs : a.eval s = v) (hx : a.eval x = .slice A m c)
    (hr : From E w A ys) (hown : Own E w base v xs) (hW : Below base W w) (hB : base ≤ w.heap.size) (hl : xs.length + ys.length ≤ 100000000000)
    (h : ∀ v' w', Own E w' base v' (xs ++ ys) → Below base W w' → K (a.put o.dst v') w') :
    if Region.wanted o (yielded ops a.tmps) = true then Oper.wp P o a w K Q else B := by
  subst hm
  have hw : Region.wanted o (yielded ops a.tmps) = true := by simp [Region.wanted, hgd]
  rw [if_pos hw]
  obtain ⟨v', w', h1, h2, h3⟩ := run_push F (w := w) (W := W) (base := base) o.type ys A c hr hown hW hB hl
  unfold Oper.wp execOp
  simp only [ho, resolve, invoke, builtin, Sem.run_bind, Sem.run_pure, Result.andThen_ok, List.map_toArray, List.map_cons, List.map_nil, hs, hx, h1]
  exact h v' w' h2 h3
/-- the same, and what the append leaves as it was -/
theorem run_push2 {P : Program} {ts : TypeId} (F : Fits P E ts) {W : World} (ty : TypeId) (ys : List α) (A : Option Addr) (c : Nat)
    (hr : From E w A ys) (hown : Own E w base v xs) (hW : Below base W w) (hB : base ≤ w.heap.size) (hl : xs.length + ys.length ≤ 100000000000) :
    ∃ v' w', (Builtin.append_ #[ts, ts] ty #[v, .slice A ys.length c]).run P w = .ok v' w' ∧ Own E w' base v' (xs ++ ys) ∧ Below base W w' ∧ w.grownBy w' v.ownBlock := by
  obtain ⟨i, z, hi, hz, hs, hby, hzc⟩ := F.info
  cases A with
  | none =>
    have he : ys = [] := by
      cases ys with
      | nil => rfl
      | cons y ys =>
        have hp := E.pos
        have hl := E.len y
        obtain ⟨ad, h, -⟩ := hr 0 ((E.cells y)[0]'(by omega)) (by rw [List.flatMap_cons, List.getElem?_append_left (by omega)]; exact List.getElem?_eq_getElem _)
        cases h
    subst he
    exact ⟨v, w, run_append_of_nil w base _ _ _ i E.k F.under hi _ _ _ hown c, by simpa using hown, hW, World.grownBy.refl _ _⟩
  | some ad =>
    have hbb : (xs.length + ys.length) * i.bytes ≤ 140737488355328 := Nat.le_trans (Nat.mul_le_mul hl hby) (by omega)
    obtain ⟨v', w', h1, h2, h3, -, -⟩ := run_append_own_at (P := P) w base ts ty E.t i z E.k i.bytes F.under hi hz hs rfl hzc E.pos v xs.length (xs.flatMap E.cells) hown ad ys.length c (ys.flatMap E.cells)
      (flat_len E ys) (fun j u hu => by
        obtain ⟨ad', h1, h2⟩ := hr j u hu
        obtain rfl := Option.some.inj h1
        exact h2) (cells_mem E ys) (by unfold maxLen; omega) hbb hB
    refine ⟨v', w', h1, ?_, hW.grown h3 hB fun k hk => (Own.lt hown k hk).1, h3⟩
    unfold Own
    rw [List.flatMap_append, List.length_append]
    exact h2
theorem step_push2 {P : Program} {ts : TypeId} (F : Fits P E ts) {ops : Array Oper} {o : Oper} {a : Act} {K : Act → World → Prop} {Q : Exit → Act → World → Prop} {B : Prop} {W : World} (base : Nat) (ys xs : List α) (v : Value) (A : Option Addr) (m c : Nat) (hm : ys.length = m) (hgd : o.guard = none) (s x : Operand)
    (ho : o.op = .call { callee := .builtin .append, args := #[s, x], argTypes := #[ts, ts] }) (hs : a.eval s = v) (hx : a.eval x = .slice A m c)
    (hr : From E w A ys) (hown : Own E w base v xs) (hW : Below base W w) (hB : base ≤ w.heap.size) (hl : xs.length + ys.length ≤ 100000000000)
    (h : ∀ v' w', Own E w' base v' (xs ++ ys) → Below base W w' → w.grownBy w' v.ownBlock → K (a.put o.dst v') w') :
    if Region.wanted o (yielded ops a.tmps) = true then Oper.wp P o a w K Q else B := by
  subst hm
  have hw : Region.wanted o (yielded ops a.tmps) = true := by simp [Region.wanted, hgd]
  rw [if_pos hw]
  obtain ⟨v', w', h1, h2, h3, h4⟩ := run_push2 F (w := w) (W := W) (base := base) o.type ys A c hr hown hW hB hl
  unfold Oper.wp execOp
  simp only [ho, resolve, invoke, builtin, Sem.run_bind, Sem.run_pure, Result.andThen_ok, List.map_toArray, List.map_cons, List.map_nil, hs, hx, h1]
  exact h v' w' h2 h3 h4
end Rw
end Go.Proofs.YtgkjmjlkhnfbiaaGreat
