/-
  Plain mathematics: points of order two, neighbours.
-/
import Derived.Test.YtodgfechhielaaaGreatDoorPlain3
namespace Go.Proofs.YtodgfechhielaaaGreatDoor
set_option linter.unusedSimpArgs false
set_option linter.unusedVariables false
namespace M
def order2 (a b e : Int) : Bool := ins e (-200) 200 && root3 a b e
/-- an integer root is small -/
theorem root_small {a b e : Int} (h : inCurve a b = true) (hr : val a b e = 0) : -100 ≤ e ∧ e ≤ 100 := by
  obtain ⟨g1, g2, g3, g4⟩ := inCurve_bd h
  unfold val at hr
  constructor
  · rcases Int.lt_or_le e (-100) with k | k
    · exfalso
      have s : 10201 ≤ e * e := by
        have : 0 ≤ (-101 - e) * (-101 - e) := Int.mul_nonneg (by omega) (by omega)
        simp only [Int.sub_mul, Int.mul_sub] at this
        omega
      have c : e * e * e ≤ 10201 * e := Int.mul_le_mul_of_nonpos_right s (by omega)
      have d : a * e ≤ -1000 * e := Int.mul_le_mul_of_nonpos_right g1 (by omega)
      omega
    · exact k
  · rcases Int.lt_or_le 100 e with k | k
    · exfalso
      have s : 10201 ≤ e * e := by
        have : 101 * 101 ≤ e * e := Int.mul_le_mul (by omega) (by omega) (by omega) (by omega)
        omega
      have c : 10201 * e ≤ e * e * e := Int.mul_le_mul_of_nonneg_right s (by omega)
      have d : -1000 * e ≤ a * e := Int.mul_le_mul_of_nonneg_right g1 (by omega)
      omega
    · exact k
theorem order2_mem {a b e : Int} (h : inCurve a b = true) : decide (e ∈ roots a b) = order2 a b e := by
  rw [Bool.eq_iff_iff]
  simp only [decide_eq_true_eq, roots, mem_sel, order2, Bool.and_eq_true, ins_iff]
  constructor
  · rintro ⟨⟨h1, h2⟩, h3⟩
    exact ⟨by omega, h3⟩
  · rintro ⟨h1, h3⟩
    have := root_small h (by simpa [root3] using h3)
    exact ⟨by omega, h3⟩
/-- the raw neighbour -/
def rawT (a e : Int) : Int := 3 * e * e + a
def rawA (a e : Int) : Int := a - 5 * rawT a e
def rawB (a b e : Int) : Int := b - 7 * e * rawT a e
/-- divided as often as both can be -/
def strip (u4 u6 : Int) : Nat → Int → Int → Int × Int
  | 0, a, b => (a, b)
  | f + 1, a, b => if a % u4 = 0 ∧ b % u6 = 0 ∧ (a ≠ 0 ∨ b ≠ 0) then strip u4 u6 f (a / u4) (b / u6) else (a, b)
theorem strip_go {u4 u6 : Int} {f : Nat} {a b : Int} (hf : a.natAbs + b.natAbs ≤ f) (h : a % u4 = 0) (h' : b % u6 = 0) (hn : a ≠ 0 ∨ b ≠ 0) : strip u4 u6 f a b = strip u4 u6 (f - 1) (a / u4) (b / u6) := by
  cases f with
  | zero => omega
  | succ f => simp [strip, h, h', hn]
theorem strip_stop {u4 u6 : Int} {f : Nat} {a b : Int} (h : ¬ (a % u4 = 0 ∧ b % u6 = 0)) : strip u4 u6 f a b = (a, b) := by
  cases f with
  | zero => rfl
  | succ f => rw [strip, if_neg (fun k => h ⟨k.1, k.2.1⟩)]
theorem abs_div0 {a p : Int} (hp : 2 ≤ p) (h : a % p = 0) : (a / p).natAbs ≤ a.natAbs ∧ (a ≠ 0 → (a / p).natAbs < a.natAbs ∧ a / p ≠ 0) := by
  by_cases ha : a = 0
  · subst ha; simp
  · have := abs_div hp ha h
    exact ⟨by omega, fun _ => this⟩
theorem strip_sum {u4 u6 a b : Int} (h4 : 2 ≤ u4) (h6 : 2 ≤ u6) (h : a % u4 = 0) (h' : b % u6 = 0) (hn : a ≠ 0 ∨ b ≠ 0) :
    (a / u4).natAbs + (b / u6).natAbs < a.natAbs + b.natAbs ∧ (a / u4 ≠ 0 ∨ b / u6 ≠ 0) := by
  have h1 := abs_div0 h4 h
  have h2 := abs_div0 h6 h'
  rcases hn with k | k
  · have := h1.2 k
    exact ⟨by omega, Or.inl this.2⟩
  · have := h2.2 k
    exact ⟨by omega, Or.inr this.2⟩
/-- what is known of the end -/
theorem strip_end {u4 u6 : Int} (h4 : 2 ≤ u4) (h6 : 2 ≤ u6) : ∀ (f : Nat) (a b : Int), a.natAbs + b.natAbs ≤ f → (a ≠ 0 ∨ b ≠ 0) →
    ((strip u4 u6 f a b).1 ≠ 0 ∨ (strip u4 u6 f a b).2 ≠ 0) ∧ ¬ ((strip u4 u6 f a b).1 % u4 = 0 ∧ (strip u4 u6 f a b).2 % u6 = 0) ∧
    (strip u4 u6 f a b).1 ∣ a ∧ (strip u4 u6 f a b).2 ∣ b ∧ (strip u4 u6 f a b).1.natAbs ≤ a.natAbs ∧ (strip u4 u6 f a b).2.natAbs ≤ b.natAbs
  | 0, a, b, hf, hn => by omega
  | f + 1, a, b, hf, hn => by
    by_cases h : a % u4 = 0 ∧ b % u6 = 0
    · rw [strip_go hf h.1 h.2 hn]
      have hs := strip_sum h4 h6 h.1 h.2 hn
      have h1 := abs_div0 h4 h.1
      have h2 := abs_div0 h6 h.2
      obtain ⟨e1, e2, e3, e4, e5, e6⟩ := strip_end h4 h6 f (a / u4) (b / u6) (by omega) hs.2
      refine ⟨e1, e2, Int.dvd_trans e3 ⟨u4, ?_⟩, Int.dvd_trans e4 ⟨u6, ?_⟩, by simp only [Nat.add_sub_cancel]; omega, by simp only [Nat.add_sub_cancel]; omega⟩
      · exact (exact_div (by omega) h.1).symm
      · exact (exact_div (by omega) h.2).symm
    · rw [strip_stop h]
      exact ⟨hn, h, Int.dvd_refl _, Int.dvd_refl _, Nat.le_refl _, Nat.le_refl _⟩
def stripT (u4 u6 : Int) (x : Int × Int) : Int × Int := strip u4 u6 (x.1.natAbs + x.2.natAbs) x.1 x.2
def nb1 (x : Int × Int) : Int × Int := stripT 16 64 x
def nb2 (x : Int × Int) : Int × Int := stripT 81 729 (nb1 x)
def nb3 (x : Int × Int) : Int × Int := stripT 625 15625 (nb2 x)
theorem nb_props {x : Int × Int} (hx : x.1 ≠ 0 ∨ x.2 ≠ 0) :
    ((nb1 x).1 ≠ 0 ∨ (nb1 x).2 ≠ 0) ∧ ((nb2 x).1 ≠ 0 ∨ (nb2 x).2 ≠ 0) ∧ ((nb3 x).1 ≠ 0 ∨ (nb3 x).2 ≠ 0) ∧
    (nb1 x).1.natAbs ≤ x.1.natAbs ∧ (nb1 x).2.natAbs ≤ x.2.natAbs ∧ (nb2 x).1.natAbs ≤ x.1.natAbs ∧ (nb2 x).2.natAbs ≤ x.2.natAbs ∧ (nb3 x).1.natAbs ≤ x.1.natAbs ∧ (nb3 x).2.natAbs ≤ x.2.natAbs ∧
    ¬ ((nb2 x).1 % 256 = 0 ∧ (nb2 x).2 % 4096 = 0) := by
  obtain ⟨a1, a2, a3, a4, a5, a6⟩ := strip_end (u4 := 16) (u6 := 64) (by omega) (by omega) _ x.1 x.2 (Nat.le_refl _) hx
  obtain ⟨b1, b2, b3, b4, b5, b6⟩ := strip_end (u4 := 81) (u6 := 729) (by omega) (by omega) _ (nb1 x).1 (nb1 x).2 (Nat.le_refl _) a1
  obtain ⟨c1, c2, c3, c4, c5, c6⟩ := strip_end (u4 := 625) (u6 := 15625) (by omega) (by omega) _ (nb2 x).1 (nb2 x).2 (Nat.le_refl _) b1
  have a5' : (nb1 x).1.natAbs ≤ x.1.natAbs := a5
  have a6' : (nb1 x).2.natAbs ≤ x.2.natAbs := a6
  have b5' : (nb2 x).1.natAbs ≤ (nb1 x).1.natAbs := b5
  have b6' : (nb2 x).2.natAbs ≤ (nb1 x).2.natAbs := b6
  have c5' : (nb3 x).1.natAbs ≤ (nb2 x).1.natAbs := c5
  have c6' : (nb3 x).2.natAbs ≤ (nb2 x).2.natAbs := c6
  refine ⟨a1, b1, c1, a5', a6', by omega, by omega, by omega, by omega, fun ⟨k1, k2⟩ => a2 ⟨?_, ?_⟩⟩
  · exact Int.emod_eq_zero_of_dvd (Int.dvd_trans (Int.dvd_of_emod_eq_zero (show (nb2 x).1 % 16 = 0 by omega)) b3)
  · exact Int.emod_eq_zero_of_dvd (Int.dvd_trans (Int.dvd_of_emod_eq_zero (show (nb2 x).2 % 64 = 0 by omega)) b4)
/-- the numbers behind k rounds: of the program; of the reference, which tries 4, too -/
def nbI (x : Int × Int) : Nat → Int × Int
  | 0 => x
  | 1 => nb1 x
  | 2 => nb2 x
  | _ => nb3 x
def nbS (x : Int × Int) : Nat → Int × Int
  | 0 => x
  | 1 => nb1 x
  | 2 => nb2 x
  | 3 => nb2 x
  | _ => nb3 x
theorem nb_noop {x : Int × Int} (h : ¬ (x.1 % 256 = 0 ∧ x.2 % 4096 = 0)) : stripT 256 4096 x = x := by
  unfold stripT
  rw [strip_stop h]
/-- the inner loop's relation -/
structure SRel (u4 u6 : Int) (p : Int × Int) (x y : Int) : Prop where
  ne : x ≠ 0 ∨ y ≠ 0
  bx : x.natAbs ≤ p.1.natAbs
  bY : y.natAbs ≤ p.2.natAbs
  st : ∃ f, x.natAbs + y.natAbs ≤ f ∧ strip u4 u6 f x y = stripT u4 u6 p
theorem SRel.start {u4 u6 x y : Int} {p : Int × Int} (hp : (x, y) = p) (h : x ≠ 0 ∨ y ≠ 0) : SRel u4 u6 p x y := by
  subst hp
  exact ⟨h, Nat.le_refl _, Nat.le_refl _, _, Nat.le_refl _, rfl⟩
theorem SRel.step {u4 u6 x y : Int} {p : Int × Int} (h4 : 2 ≤ u4) (h6 : 2 ≤ u6) (h : SRel u4 u6 p x y) (hx : x % u4 = 0) (hy : y % u6 = 0) : SRel u4 u6 p (x / u4) (y / u6) := by
  obtain ⟨f, hf, hs⟩ := h.st
  have hsum := strip_sum h4 h6 hx hy h.ne
  have h1 := (abs_div0 h4 hx).1
  have h2 := (abs_div0 h6 hy).1
  refine ⟨hsum.2, Nat.le_trans h1 h.bx, Nat.le_trans h2 h.bY, f - 1, by omega, ?_⟩
  rw [← strip_go hf hx hy h.ne]
  exact hs
theorem SRel.stop {u4 u6 x y : Int} {p : Int × Int} (h : SRel u4 u6 p x y) (hn : ¬ (x % u4 = 0 ∧ y % u6 = 0)) : (x, y) = stripT u4 u6 p := by
  obtain ⟨f, -, hs⟩ := h.st
  rw [← hs, strip_stop hn]
theorem SRel.less {u4 u6 x y : Int} {p : Int × Int} (h4 : 2 ≤ u4) (h6 : 2 ≤ u6) (h : SRel u4 u6 p x y) (hx : x % u4 = 0) (hy : y % u6 = 0) : (x / u4).natAbs + (y / u6).natAbs < x.natAbs + y.natAbs :=
  (strip_sum h4 h6 hx hy h.ne).1
/-- the raw neighbour of a curve is not 0, 0 -/
theorem raw_ne {a b e : Int} (hg : good a b = true) (hr : val a b e = 0) : rawA a e ≠ 0 ∨ rawB a b e ≠ 0 := by
  by_cases h1 : rawA a e = 0
  · right
    intro h2
    unfold rawA rawT at h1
    unfold rawB rawT at h2
    unfold val at hr
    have e1 : 3 * e * e = 3 * (e * e) := Int.mul_assoc 3 e e
    have ha : 4 * a = -(15 * (e * e)) := by omega
    have hu : 4 * (a * e) = -(15 * (e * e * e)) := by
      rw [← Int.mul_assoc, ha, Int.neg_mul, Int.mul_assoc]
    have e2 : 7 * e * (3 * e * e + a) = 21 * (e * e * e) + 7 * (a * e) := by
      rw [Int.mul_add, e1]
      have f1 : 7 * e * (3 * (e * e)) = 21 * (e * e * e) := by
        rw [show (7 : Int) * e * (3 * (e * e)) = 7 * 3 * (e * (e * e)) from by simp only [Int.mul_assoc, Int.mul_left_comm], ← Int.mul_assoc e e e]
        rfl
      have f2 : 7 * e * a = 7 * (a * e) := by rw [Int.mul_assoc, Int.mul_comm e a]
      omega
    have ht : e * e * e = 0 := by omega
    have he : e = 0 := by
      rcases Int.mul_eq_zero.1 ht with k | k
      · rcases Int.mul_eq_zero.1 k with k | k <;> exact k
      · exact k
    subst he
    have a0 : a = 0 := by omega
    subst a0
    have b0 : b = 0 := by omega
    subst b0
    exact good_disc hg rfl
  · exact Or.inl h1
theorem raw_bd {a b e : Int} (h : inCurve a b = true) (h1 : -200 ≤ e) (h2 : e ≤ 200) :
    (0 ≤ e * e ∧ e * e ≤ 40000) ∧ (-600 ≤ 3 * e ∧ 3 * e ≤ 600) ∧ (-120000 ≤ 3 * e * e ∧ 3 * e * e ≤ 120000) ∧ (-121000 ≤ rawT a e ∧ rawT a e ≤ 121000) ∧ (-169400000 ≤ 7 * e * rawT a e ∧ 7 * e * rawT a e ≤ 169400000) ∧
    (-1000000 ≤ rawA a e ∧ rawA a e ≤ 1000000) ∧ (-170000000 ≤ rawB a b e ∧ rawB a b e ≤ 170000000) := by
  obtain ⟨g1, g2, g3, g4⟩ := inCurve_bd h
  have s := sq_bd (x := e) (m := 200) (by omega) h2
  have b1 := mul_bd (x := 3 * e) (y := e) (m := 600) (n := 200) (by omega) (by omega) (by omega) (by omega)
  have ht : -121000 ≤ rawT a e ∧ rawT a e ≤ 121000 := by unfold rawT; omega
  have b2 := mul_bd (x := 7 * e) (y := rawT a e) (m := 1400) (n := 121000) (by omega) (by omega) (by omega) (by omega)
  refine ⟨by omega, by omega, by omega, ht, by omega, ?_, ?_⟩
  · unfold rawA; omega
  · unfold rawB; omega
end M
end Go.Proofs.YtodgfechhielaaaGreatDoor
