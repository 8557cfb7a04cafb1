/-
  Plain mathematics: traces of neighbours and of smallest models.
-/
import Derived.Test.YtoolgmpflplghaaPlain12
import Derived.Test.YtoolgmpflplghaaPlain7
namespace Go.Proofs.Ytoolgmpflplghaa
set_option linter.unusedSimpArgs false
set_option linter.unusedVariables false
namespace M
def k4 (k : Int) : Int := k * k * k * k
def k6 (k : Int) : Int := k * k * k * k * k * k
theorem disc_k (a b k : Int) : disc (a * k4 k) (b * k6 k) = k6 k * k6 k * disc a b := by unfold disc k4 k6; grind
theorem strip_k {r u4 u6 : Int} (h4 : u4 = k4 r) (h6 : u6 = k6 r) : ∀ (f : Nat) (a b : Int), ∃ k : Int, a = (strip u4 u6 f a b).1 * k4 k ∧ b = (strip u4 u6 f a b).2 * k6 k
  | 0, a, b => ⟨1, by simp [strip, k4], by simp [strip, k6]⟩
  | f + 1, a, b => by
    unfold strip
    split
    · rename_i h
      obtain ⟨k, e1, e2⟩ := strip_k h4 h6 f (a / u4) (b / u6)
      have d1 := Int.ediv_mul_cancel (Int.dvd_of_emod_eq_zero h.1)
      have d2 := Int.ediv_mul_cancel (Int.dvd_of_emod_eq_zero h.2.1)
      generalize (strip u4 u6 f (a / u4) (b / u6)).1 = x at *
      generalize (strip u4 u6 f (a / u4) (b / u6)).2 = y at *
      refine ⟨k * r, ?_, ?_⟩
      · rw [← d1, e1, h4]; unfold k4; grind
      · rw [← d2, e2, h6]; unfold k6; grind
    · exact ⟨1, by simp [k4], by simp [k6]⟩
theorem nb3_k (x : Int × Int) : ∃ k : Int, x.1 = (nb3 x).1 * k4 k ∧ x.2 = (nb3 x).2 * k6 k := by
  obtain ⟨k1, a1, b1⟩ := strip_k (r := 2) (u4 := 16) (u6 := 64) (by decide) (by decide) (x.1.natAbs + x.2.natAbs) x.1 x.2
  obtain ⟨k2, a2, b2⟩ := strip_k (r := 3) (u4 := 81) (u6 := 729) (by decide) (by decide) ((nb1 x).1.natAbs + (nb1 x).2.natAbs) (nb1 x).1 (nb1 x).2
  obtain ⟨k3, a3, b3⟩ := strip_k (r := 5) (u4 := 625) (u6 := 15625) (by decide) (by decide) ((nb2 x).1.natAbs + (nb2 x).2.natAbs) (nb2 x).1 (nb2 x).2
  change x.1 = (nb1 x).1 * k4 k1 at a1
  change x.2 = (nb1 x).2 * k6 k1 at b1
  change (nb1 x).1 = (nb2 x).1 * k4 k2 at a2
  change (nb1 x).2 = (nb2 x).2 * k6 k2 at b2
  change (nb2 x).1 = (nb3 x).1 * k4 k3 at a3
  change (nb2 x).2 = (nb3 x).2 * k6 k3 at b3
  refine ⟨k3 * k2 * k1, ?_, ?_⟩
  · rw [a1, a2, a3]; unfold k4; grind
  · rw [b1, b2, b3]; unfold k6; grind
theorem k_unit {p k a b : Int} (h : ¬ disc (a * k4 k) (b * k6 k) % p = 0) : ¬ k % p = 0 := fun hk => h (by
  obtain ⟨v, hv⟩ := Int.dvd_of_emod_eq_zero hk
  rw [disc_k, show k6 k * k6 k * disc a b = p * (v * k * k * k * k * k * k6 k * disc a b) by unfold k6; grind]
  exact Int.mul_emod_right _ _)
theorem k_psum {p k a b : Int} (hp : Prime p) (h1 : 3 ≤ p) (h2 : p ≤ 997) (h : ¬ disc (a * k4 k) (b * k6 k) % p = 0) : psum (val (a * k4 k) (b * k6 k)) p = psum (val a b) p :=
  sc_psum hp h1 h2 (k_unit h)
theorem sm_k (a b : Int) : a = smA a b * k4 (sm a b) ∧ b = smB a b * k6 (sm a b) := by
  obtain ⟨d1, d2⟩ := divU_iff.1 (sm_div a b)
  exact ⟨(Int.ediv_mul_cancel (Int.dvd_of_emod_eq_zero d1)).symm, (Int.ediv_mul_cancel (Int.dvd_of_emod_eq_zero d2)).symm⟩
theorem sm_psum {p a b : Int} (hp : Prime p) (h1 : 3 ≤ p) (h2 : p ≤ 997) (h : ¬ disc a b % p = 0) : psum (val a b) p = psum (val (smA a b) (smB a b)) p := by
  obtain ⟨e1, e2⟩ := sm_k a b
  generalize smA a b = x at *
  generalize smB a b = y at *
  generalize sm a b = u at *
  subst e1 e2
  exact k_psum hp h1 h2 h
/-- a curve with a root -/
theorem root_psum {a b e p : Int} (hp : Prime p) (h : val a b e = 0) : psum (val a b) p = S (3 * e) (3 * e * e + a) p := by
  have h2 := hp.1
  unfold S
  rw [← psum_lin (l := 1) (m := e) hp (by rw [Int.emod_eq_of_lt (by omega) (by omega)]; omega) (val_mod a b p)]
  congr 1
  funext x
  unfold val at h
  unfold val qx
  grind
theorem raw_root {a b e : Int} (h : val a b e = 0) : val (rawA a e) (rawB a b e) (-2 * e) = 0 := by
  unfold val at *
  unfold rawA rawB rawT
  grind
theorem disc_root {a b e : Int} (h : val a b e = 0) : disc a b = -((3 * e * e + a) * (3 * e * e + a) * (9 * e * e - 4 * (3 * e * e + a))) := by
  unfold val at h
  unfold disc
  grind
theorem disc_raw {a b e : Int} (h : val a b e = 0) : disc (rawA a e) (rawB a b e) = -16 * ((3 * e * e + a) * ((9 * e * e - 4 * (3 * e * e + a)) * (9 * e * e - 4 * (3 * e * e + a)))) := by
  unfold val at h
  unfold disc rawA rawB rawT
  grind
theorem raw_psum {a b e p : Int} (hp : Prime p) (h1 : 5 ≤ p) (h2 : p ≤ 59) (hv : val a b e = 0) (hd : ¬ disc a b % p = 0) :
    psum (val a b) p = psum (val (rawA a e) (rawB a b e)) p ∧ ¬ disc (rawA a e) (rawB a b e) % p = 0 := by
  have ht : ¬ (3 * e * e + a) % p = 0 := fun k => hd (by
    obtain ⟨v, hv'⟩ := Int.dvd_of_emod_eq_zero k
    rw [disc_root hv, show -((3 * e * e + a) * (3 * e * e + a) * (9 * e * e - 4 * (3 * e * e + a))) = p * (-(v * (3 * e * e + a) * (9 * e * e - 4 * (3 * e * e + a)))) by grind]
    exact Int.mul_emod_right _ _)
  have hs : ¬ (9 * e * e - 4 * (3 * e * e + a)) % p = 0 := fun k => hd (by
    obtain ⟨v, hv'⟩ := Int.dvd_of_emod_eq_zero k
    rw [disc_root hv, show -((3 * e * e + a) * (3 * e * e + a) * (9 * e * e - 4 * (3 * e * e + a))) = p * (-(v * (3 * e * e + a) * (3 * e * e + a))) by grind]
    exact Int.mul_emod_right _ _)
  refine ⟨?_, ?_⟩
  · rw [root_psum hp hv, root_psum hp (raw_root hv), iso_S hp h1 h2 ht (by rw [show 3 * e * (3 * e) - 4 * (3 * e * e + a) = 9 * e * e - 4 * (3 * e * e + a) by grind]; exact hs)]
    rw [show -2 * (3 * e) = 3 * (-2 * e) by grind, show 3 * e * (3 * e) - 4 * (3 * e * e + a) = 3 * (-2 * e) * (-2 * e) + rawA a e by unfold rawA rawT; grind]
  · rw [disc_raw hv]
    intro k
    have h16 : ¬ (-16 : Int) % p = 0 := fun k => by
      have k' : (16 : Int) % p = 0 := by
        obtain ⟨v, hv'⟩ := Int.dvd_of_emod_eq_zero k
        rw [show (16 : Int) = p * (-v) by grind]
        exact Int.mul_emod_right _ _
      have k2 : (4 * 4 : Int) % p = 0 := k'
      have h4 : ¬ (4 : Int) % p = 0 := by rw [Int.emod_eq_of_lt (by omega) (by omega)]; omega
      exact h4 (prime_mul hp k2 h4)
    have k := prime_mul hp k h16
    have k := prime_mul hp k ht
    exact hs (prime_mul hp k hs)
/-- a curve and the one whose smallest model is a neighbour -/
theorem iso_trace {a b c d e p : Int} (hp : Prime p) (h1 : 5 ≤ p) (h2 : p ≤ 59) (hv : val a b e = 0) (hd : ¬ disc a b % p = 0) (hd' : ¬ disc c d % p = 0)
    (hn : nb3 (rawA a e, rawB a b e) = (smA c d, smB c d)) : trace a b p = trace c d p := by
  obtain ⟨k, x1, x2⟩ := nb3_k (rawA a e, rawB a b e)
  obtain ⟨r1, r2⟩ := raw_psum hp h1 h2 hv hd
  rw [hn] at x1 x2
  simp only at x1 x2
  rw [x1, x2] at r1 r2
  rw [trace_psum, trace_psum, r1, k_psum hp (by omega) (by omega) r2, sm_psum hp (by omega) (by omega) hd']
end M
end Go.Proofs.Ytoolgmpflplghaa
