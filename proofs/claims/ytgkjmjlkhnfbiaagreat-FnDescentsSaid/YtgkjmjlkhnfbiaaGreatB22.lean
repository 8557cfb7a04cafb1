/-
  Joined texts: contracts and plain laws.
-/
import Derived.Test.YtgkjmjlkhnfbiaaGreatB18
import Derived.Test.YtgkjmjlkhnfbiaaGreatB21
import Derived.Test.YtgkjmjlkhnfbiaaGreatB14
import Derived.Test.YtgkjmjlkhnfbiaaGreatB2
namespace Go.Proofs.YtgkjmjlkhnfbiaaGreat
set_option linter.unusedSimpArgs false
set_option linter.unusedVariables false
open Go.RowKit
namespace M
/-- a number on the way to its squarefree part -/
def QInv (n : Int) (done : List Int) (out : Int) : Prop :=
  ∃ t r : Int, n = out * (t * t) * r ∧ 0 < r ∧ (∀ q, Prime q → q ∉ done → ¬ (out * t) % q = 0) ∧ ∀ q ∈ done, ¬ r % q = 0
theorem QInv.start {n : Int} (hn : n ≠ 0) : QInv n [] (sgn1 n) := by
  have h := SInv.start (n := n)
  refine ⟨1, n.natAbs, ?_, by omega, fun q hq hm => ?_, fun q hq => by cases hq⟩
  · have e : sgn1 n = 1 ∧ 0 ≤ n ∨ sgn1 n = -1 ∧ n < 0 := by
      unfold sgn1
      split
      · exact Or.inr ⟨rfl, by assumption⟩
      · exact Or.inl ⟨rfl, by omega⟩
    rcases e with ⟨e, e2⟩ | ⟨e, e2⟩ <;> rw [e] <;> omega
  · rw [Int.mul_one]
    exact h.cop q hq hm
theorem ipow_cop {p q : Int} (hp : 2 ≤ p) (hq : Prime q) (h : q ≠ p) (hpp : Prime p) : ∀ k, ¬ ipow p k % q = 0
  | 0, hz => by
    have hz : (1 : Int) % q = 0 := hz
    have := hq.1
    have := Int.le_of_dvd (by decide) (Int.dvd_of_emod_eq_zero hz)
    omega
  | k + 1, hz => by
    have h1 := prime_mul hq (x := ipow p k) (y := p) hz (ipow_cop hp hq h hpp k)
    exact h (prime_div hpp hq.1 h1)
theorem QInv.step {n p : Int} {done : List Int} {out : Int} (hn : n ≠ 0) (hb : n.natAbs ≤ 1000000000000000000) (h : QInv n done out) (hs : SInv n done out) (hp : Prime p) (hpd : p ∉ done) : QInv n (done ++ [p]) (sfStep n out p) := by
  obtain ⟨t, r, hr, hr0, hc, hd⟩ := h
  have h2 := hp.1
  obtain ⟨u, hu1, hu2⟩ := valn_pow h2 (a := r) (by omega)
  have hv := valn_nn r p
  have hcp := hc p hp hpd
  generalize hw : (valn r p).toNat = w at *
  have hpw := ipow_pos (p := p) (by omega) w
  have hu0 : 0 < u := by
    rcases Int.lt_or_le 0 u with q | q
    · exact q
    · have := Int.mul_nonneg_of_nonpos_of_nonpos (a := -ipow p w) (b := u) (by omega) q
      rw [Int.neg_mul] at this
      omega
  have hnv : valn n p = w := by
    refine valn_uniq h2 (u := out * (t * t) * u) (by rw [hr, hu1]; grind) (fun hz => ?_) hn
    have e1 := prime_mul hp (x := out * t) (y := t * u) (by rw [show out * t * (t * u) = out * (t * t) * u by grind]; exact hz) hcp
    have e2 : ¬ t % p = 0 := fun q => hcp (by obtain ⟨c, hc⟩ := Int.dvd_of_emod_eq_zero q; exact Int.emod_eq_zero_of_dvd ⟨out * c, by rw [hc]; grind⟩)
    exact hu2 (prime_mul hp e1 e2)
  have hdone : ∀ q ∈ done ++ [p], ¬ u % q = 0 := fun q hq hz => by
    rcases List.mem_append.1 hq with hq | hq
    · refine hd q hq ?_
      obtain ⟨c, hc⟩ := Int.dvd_of_emod_eq_zero hz
      exact Int.emod_eq_zero_of_dvd ⟨ipow p w * c, by rw [hu1, hc]; grind⟩
    · rw [List.mem_singleton] at hq
      subst hq
      exact hu2 hz
  have hcop : ∀ (k : Nat) (q : Int), Prime q → q ∉ done ++ [p] → ¬ (out * (t * ipow p k)) % q = 0 := fun k q hq hm hz => by
    rw [List.mem_append, List.mem_singleton, not_or] at hm
    have e := prime_mul hq (x := out * t) (y := ipow p k) (by rw [Int.mul_assoc]; exact hz) (hc q hq hm.1)
    exact ipow_cop h2 hq hm.2 hp k e
  by_cases ho : valn n p % 2 = 1
  · obtain ⟨k, hk⟩ : ∃ k, w = k + k + 1 := ⟨w / 2, by omega⟩
    have hle : (out * p) ∣ n := ⟨(t * ipow p k) * (t * ipow p k) * u, by
      rw [hr, hu1, hk]
      show out * (t * t) * ((ipow p (k + k) * p) * u) = _
      rw [ipow_add]
      grind⟩
    have hle := Nat.le_of_dvd (by omega) (Int.natAbs_dvd_natAbs.2 hle)
    have hw : wrap64 (out * p) = out * p := by unfold wrap64; omega
    rw [sfStep_odd ho, hw]
    refine ⟨t * ipow p k, u, ?_, hu0, fun q hq hm hz => ?_, hdone⟩
    · rw [hr, hu1, hk]
      show out * (t * t) * ((ipow p (k + k) * p) * u) = _
      rw [ipow_add]
      grind
    · have hm' := hm
      rw [List.mem_append, List.mem_singleton, not_or] at hm'
      have e := prime_mul hq (x := out * (t * ipow p k)) (y := p) (by rw [show out * (t * ipow p k) * p = out * p * (t * ipow p k) by grind]; exact hz) (hcop k q hq hm)
      exact hm'.2 (prime_div hp hq.1 e)
  · obtain ⟨k, hk⟩ : ∃ k, w = k + k := ⟨w / 2, by omega⟩
    rw [sfStep_even ho]
    refine ⟨t * ipow p k, u, ?_, hu0, hcop k, hdone⟩
    rw [hr, hu1, hk, ipow_add]
    grind
theorem primes_not {n : Int} {k : Nat} (hk : k < (primesOf n).length) : (primesOf n)[k] ∉ (primesOf n).take k := fun hm => by
  obtain ⟨hi, -⟩ := primes_ok n
  obtain ⟨j, hj, he⟩ := List.getElem_of_mem hm
  rw [List.length_take] at hj
  rw [List.getElem_take] at he
  have := List.pairwise_iff_getElem.1 hi j k (by omega) (by omega) (by omega)
  omega
theorem sqfree_qinv {n : Int} (hn : n ≠ 0) (hb : n.natAbs ≤ 1000000000000000000) : ∀ k, k ≤ (primesOf n).length → QInv n ((primesOf n).take k) (((primesOf n).take k).foldl (sfStep n) (sgn1 n))
  | 0, _ => QInv.start hn
  | k + 1, hk => by
    have ih := sqfree_qinv hn hb k (by omega)
    have hx : (primesOf n)[k]? = some (primesOf n)[k] := List.getElem?_eq_getElem (by omega)
    have hp := (primes_ok n).2 _ (List.mem_of_getElem? hx)
    have hs := sqfree_inv hn hb k (by omega)
    rw [foldl_next _ _ hx, take_next hx]
    exact ih.step hn hb hs hp.1 (primes_not (by omega))
theorem sqfree_sq {n : Int} (hn : n ≠ 0) (hb : n.natAbs ≤ 1000000000000000000) : ∃ t : Int, n = sqfree n * (t * t) := by
  obtain ⟨t, r, h1, h2, -, h4⟩ := sqfree_qinv hn hb _ (Nat.le_refl _)
  rw [List.take_length] at h1 h4
  have hr : r = 1 := by
    by_cases h1' : r = 1
    · exact h1'
    · exfalso
      obtain ⟨p, hp, hz⟩ := prime_factor_int (s := r) (by omega) h1' (by omega)
      refine h4 p ((mem_primes hn).2 ⟨hp, ?_⟩) hz
      obtain ⟨c, hc⟩ := Int.dvd_of_emod_eq_zero hz
      rw [h1]
      exact Int.emod_eq_zero_of_dvd ⟨(primesOf n).foldl (sfStep n) (sgn1 n) * (t * t) * c, by rw [hc]; grind⟩
  rw [hr, Int.mul_one] at h1
  exact ⟨t, h1⟩
theorem nosq_dcat {b : Int} : ∀ (k : Nat), k ≤ (primesOf b).length → ∀ x : Int, x ≠ 0 → nosq x → (∀ p, Prime p → x % p = 0 → p ∈ (primesOf b).take k) → x ∈ dcat ((primesOf b).take k)
  | 0, _, x, h0, hn, hp => by
    show x ∈ [-1, 1]
    by_cases h1 : x = 1
    · rw [h1]; simp
    · by_cases h2 : x = -1
      · rw [h2]; simp
      · obtain ⟨p, q1, q2⟩ := prime_factor_int h0 h1 h2
        have := hp p q1 q2
        rw [List.take_zero] at this
        cases this
  | k + 1, hk, x, h0, hn, hp => by
    have hx' : (primesOf b)[k]? = some (primesOf b)[k] := List.getElem?_eq_getElem (by omega)
    have hpr := ((primes_ok b).2 _ (List.mem_of_getElem? hx')).1
    rw [dcat_next hx']
    have hcase : ∀ q, Prime q → x % q = 0 → q ∈ (primesOf b).take k ∨ q = (primesOf b)[k] := fun q hq hz => by
      have := hp q hq hz
      rw [take_next hx', List.mem_append, List.mem_singleton] at this
      exact this
    generalize (primesOf b)[k] = p at *
    by_cases hz : x % p = 0
    · obtain ⟨y, rfl⟩ := Int.dvd_of_emod_eq_zero hz
      have hy0 : y ≠ 0 := fun e => h0 (by rw [e, Int.mul_zero])
      have hny : nosq y := nosq_div hn rfl
      have hpy : ¬ y % p = 0 := fun q => hn p hpr (by obtain ⟨c, hc⟩ := Int.dvd_of_emod_eq_zero q; exact Int.emod_eq_zero_of_dvd ⟨c, by rw [hc]; grind⟩)
      refine List.mem_append.2 (Or.inr (List.mem_map.2 ⟨y, nosq_dcat k (by omega) y hy0 hny fun q hq hzq => ?_, Int.mul_comm _ _⟩))
      rcases hcase q hq (by obtain ⟨c, hc⟩ := Int.dvd_of_emod_eq_zero hzq; exact Int.emod_eq_zero_of_dvd ⟨p * c, by rw [hc]; grind⟩) with h | h
      · exact h
      · exact absurd (h ▸ hzq) hpy
    · refine List.mem_append.2 (Or.inl (nosq_dcat k (by omega) x h0 hn fun q hq hzq => ?_))
      rcases hcase q hq hzq with h | h
      · exact h
      · exact absurd (h ▸ hzq) hz
theorem nosq_dvs {b x : Int} (hb : b ≠ 0) (h0 : x ≠ 0) (hn : nosq x) (hd : x ∣ b) : x ∈ dvs b := by
  rw [← dvs_srt hb, (srt_perm _).mem_iff]
  have := nosq_dcat (b := b) _ (Nat.le_refl _) x h0 hn fun p hp hz => by
    rw [List.take_length]
    exact (mem_primes hb).2 ⟨hp, Int.emod_eq_zero_of_dvd (Int.dvd_trans (Int.dvd_of_emod_eq_zero hz) hd)⟩
  rwa [List.take_length] at this
theorem one_dvs {b : Int} (hb : b ≠ 0) : 1 ∈ dvs b := nosq_dvs hb (by decide) (nosq_unit (Or.inl rfl)) (Int.one_dvd b)
/-- a divisor with a point stays -/
theorem pt_real {d a c m e n : Int} (hd : d ≠ 0) (hc : c ≠ 0) (h : qval d a c m e = n * n) (hg : Int.gcd m e = 1) : real d a c = true := by
  have hnn : 0 ≤ n * n := by
    rcases Int.le_total 0 n with q | q
    · exact Int.mul_nonneg q q
    · exact Int.mul_nonneg_of_nonpos_of_nonpos q q
  rw [← h] at hnn
  unfold real
  by_cases h1 : 0 < d
  · simp [h1]
  by_cases h2 : 0 < c
  · simp [h2]
  have hm : 0 ≤ m * m := by
    rcases Int.le_total 0 m with q | q
    · exact Int.mul_nonneg q q
    · exact Int.mul_nonneg_of_nonpos_of_nonpos q q
  have he : 0 ≤ e * e := by
    rcases Int.le_total 0 e with q | q
    · exact Int.mul_nonneg q q
    · exact Int.mul_nonneg_of_nonpos_of_nonpos q q
  have ev : qval d a c m e = d * (m * m) * (m * m) + a * (m * m) * (e * e) + c * (e * e) * (e * e) := by unfold qval; grind
  rw [ev] at hnn
  have hne : ¬ (m * m = 0 ∧ e * e = 0) := by
    rintro ⟨k1, k2⟩
    have m0 : m = 0 := by rcases Int.mul_eq_zero.1 k1 with q | q <;> exact q
    have e0 : e = 0 := by rcases Int.mul_eq_zero.1 k2 with q | q <;> exact q
    rw [m0, e0] at hg
    cases hg
  generalize m * m = u at *
  generalize e * e = v at *
  have hu : d * u * u ≤ 0 := by
    have := Int.mul_nonneg (Int.mul_nonneg (a := -d) (b := u) (by omega) hm) hm
    rw [show -d * u * u = -(d * u * u) by grind] at this
    omega
  have hv : c * v * v ≤ 0 := by
    have := Int.mul_nonneg (Int.mul_nonneg (a := -c) (b := v) (by omega) he) he
    rw [show -c * v * v = -(c * v * v) by grind] at this
    omega
  have hu0 : 0 < u := by
    rcases Int.lt_or_le 0 u with q | q
    · exact q
    · exfalso
      have : u = 0 := by omega
      subst this
      have hv0 : 0 < v := by omega
      have := Int.mul_pos (Int.mul_pos (a := -c) (b := v) (by omega) hv0) hv0
      rw [show -c * v * v = -(c * v * v) by grind] at this
      simp at hnn
      omega
  have hv0 : 0 < v := by
    rcases Int.lt_or_le 0 v with q | q
    · exact q
    · exfalso
      have : v = 0 := by omega
      subst this
      have := Int.mul_pos (Int.mul_pos (a := -d) (b := u) (by omega) hu0) hu0
      rw [show -d * u * u = -(d * u * u) by grind] at this
      simp at hnn
      omega
  have ha : 0 < a := by
    rcases Int.lt_or_le 0 a with q | q
    · exact q
    · exfalso
      have k1 := Int.mul_nonneg (Int.mul_nonneg (a := -a) (b := u) (by omega) hm) he
      rw [show -a * u * v = -(a * u * v) by grind] at k1
      have := Int.mul_pos (Int.mul_pos (a := -d) (b := u) (by omega) hu0) hu0
      rw [show -d * u * u = -(d * u * u) by grind] at this
      omega
  have hD : 4 * d * c ≤ a * a := by
    rcases Int.lt_or_le (a * a) (4 * d * c) with q | q
    · exfalso
      have k0 : 0 ≤ (2 * d * u + a * v) * (2 * d * u + a * v) := by
        rcases Int.le_total 0 (2 * d * u + a * v) with q | q
        · exact Int.mul_nonneg q q
        · exact Int.mul_nonneg_of_nonpos_of_nonpos q q
      have k1 : (2 * d * u + a * v) * (2 * d * u + a * v) = 4 * (d * (d * u * u + a * u * v + c * v * v)) + (a * a - 4 * d * c) * (v * v) := by grind
      have k2 := Int.mul_nonneg (a := -d) (by omega) hnn
      rw [Int.neg_mul] at k2
      have k3 := Int.mul_pos (a := 4 * d * c - a * a) (b := v * v) (by omega) (Int.mul_pos hv0 hv0)
      have k4 : (4 * d * c - a * a) * (v * v) = -((a * a - 4 * d * c) * (v * v)) := by grind
      omega
    · exact q
  simp [ha, hD]
theorem pt_slm {A B d m e n : Int} {dual : Bool} (hk : slk A B dual = true) (ht : tc A B) (hd : d ∈ dvs (sB A B dual)) (h : qval d (sA A dual) (dC A B dual d) m e = n * n) (hg : Int.gcd m e = 1) : d ∈ slm A B dual := by
  have hs := ht.dsc hd
  refine (slm_iff hk).2 ⟨hd, pt_real hs.1.2.2.1 hs.1.2.2.2 h hg, fun p hp => ?_⟩
  have hf : fok d (sA A dual) (dC A B dual d) = true := by
    unfold slk at hk
    rw [List.all_eq_true] at hk
    exact hk d hd
  unfold fok at hf
  rw [List.all_eq_true] at hf
  have hpk := hf p hp
  have hpr := bads_prime hp
  have h2 := hpr.1
  unfold pok at hpk
  rw [Bool.and_eq_true, decide_eq_true_eq] at hpk
  obtain ⟨h3, h4⟩ := hpk
  have hpe : ((p.toNat : Nat) : Int) = p := Int.toNat_of_nonneg (by omega)
  have hne := pt_Ne (p := p.toNat) (by rw [hpe]; exact hpr) (by rw [hpe]; exact h3) h (fun ⟨q1, q2⟩ => by
    rw [hpe] at q1 q2
    have := Int.dvd_coe_gcd (Int.dvd_of_emod_eq_zero q1) (Int.dvd_of_emod_eq_zero q2)
    rw [hg] at this
    have := Int.le_of_dvd (by decide) this
    omega) (dep p - 1)
  unfold td told at h4
  unfold sv
  rw [hne] at h4
  simpa using h4
theorem hpt_pt {A B d : Int} {dual : Bool} {k : Nat} (h : hpt A B dual k d = true) : ∃ m e n : Int, qval d (sA A dual) (dC A B dual d) m e = n * n ∧ Int.gcd m e = 1 := by
  unfold hpt pts at h
  rw [List.any_eq_true] at h
  obtain ⟨m, -, h⟩ := h
  unfold ptRow at h
  rw [List.any_eq_true] at h
  obtain ⟨e, -, h⟩ := h
  unfold ptAt at h
  rw [Bool.and_eq_true, beq_iff_eq] at h
  obtain ⟨h1, h2⟩ := h
  unfold isSq at h2
  rw [Bool.and_eq_true, beq_iff_eq] at h2
  refine ⟨m, e, _, h2.2.symm, ?_⟩
  unfold M.gcd at h1
  omega
theorem fnd_slm {A B : Int} {dual : Bool} (hk : slk A B dual = true) (ht : tc A B) (n : Nat) : ∀ x ∈ fnd A B dual n, x ∈ slm A B dual := fun x hx => by
  unfold fnd at hx
  obtain ⟨h1, h2⟩ := List.mem_filter.1 hx
  obtain ⟨m, e, n, h3, h4⟩ := hpt_pt h2
  exact pt_slm hk ht h1 h3 h4
theorem one_fnd {A B : Int} {dual : Bool} (ht : tc A B) {n : Nat} (hn : 1 ≤ n) : 1 ∈ fnd A B dual n := by
  have hb := (ht.side dual).2.2.1
  unfold fnd
  refine List.mem_filter.2 ⟨one_dvs hb, ?_⟩
  unfold hpt pts
  rw [List.any_eq_true]
  refine ⟨1, List.mem_range.2 (by omega), ?_⟩
  unfold ptRow
  rw [List.any_eq_true]
  refine ⟨0, List.mem_range.2 (by omega), ?_⟩
  unfold ptAt
  rw [Bool.and_eq_true]
  refine ⟨rfl, isSq_yes (r := 1) ?_⟩
  unfold qval
  simp
theorem one_slm {A B : Int} {dual : Bool} (hk : slk A B dual = true) (ht : tc A B) : 1 ∈ slm A B dual := fnd_slm hk ht 1 1 (one_fnd ht (Nat.le_refl _))
theorem sqf_slm {A B : Int} {dual : Bool} (hk : slk A B dual = true) (ht : tc A B) : sqfree (sB A B dual) ∈ slm A B dual := by
  obtain ⟨-, h1, h2, -⟩ := ht.side dual
  have hb : (sB A B dual).natAbs ≤ 1000000000000000000 := by omega
  obtain ⟨k1, k2, k3⟩ := sqfree_ok h2 hb
  obtain ⟨t, ht2⟩ := sqfree_sq h2 hb
  refine pt_slm hk ht (nosq_dvs h2 k2 k1 k3) (m := 0) (e := 1) (n := t) ?_ rfl
  have : dC A B dual (sqfree (sB A B dual)) = t * t := by
    unfold dC
    generalize sqfree (sB A B dual) = s at *
    rw [ht2]
    exact Int.mul_ediv_cancel_left _ k2
  rw [this]
  unfold qval
  grind
/-- what a group of classes is made of -/
theorem gfo_sub {T : List Int} (h1 : 1 ∈ T) (hc : ∀ x ∈ T, ∀ y ∈ T, prd x y ∈ T) : ∀ (l acc acc' : List Int), (∀ x ∈ l, x ∈ T) → (∀ x ∈ acc, x ∈ T) → l.foldl (fun o d => o.bind fun acc => gst acc d) (some acc) = some acc' → ∀ x ∈ acc', x ∈ T
  | [], acc, acc', _, ha, h => by
    cases h
    exact ha
  | d :: l, acc, acc', hl, ha, h => by
    rw [List.foldl_cons] at h
    have hd := hl d List.mem_cons_self
    cases hg : gst acc d with
    | none =>
      rw [show (some acc).bind (fun acc => gst acc d) = none from hg] at h
      rw [gfo_none] at h
      cases h
    | some a2 =>
      rw [show (some acc).bind (fun acc => gst acc d) = some a2 from hg] at h
      refine gfo_sub h1 hc l a2 acc' (fun x hx => hl x (List.mem_cons_of_mem _ hx)) ?_ h
      intro x hx
      unfold gst at hg
      split at hg
      · cases hg; exact ha x hx
      · split at hg
        · cases hg
          rcases List.mem_append.1 hx with q | q
          · exact ha x q
          · obtain ⟨z, hz, rfl⟩ := List.mem_map.1 q
            exact hc d hd z (ha z hz)
        · cases hg
theorem grp_sub {T l : List Int} (h1 : 1 ∈ T) (hc : ∀ x ∈ T, ∀ y ∈ T, prd x y ∈ T) (hl : ∀ x ∈ l, x ∈ T) : ∀ x ∈ grp l, x ∈ T := fun x hx => by
  unfold grp at hx
  rw [(srt_perm _).mem_iff] at hx
  cases hg : gfo l with
  | none => rw [hg] at hx; cases hx
  | some acc =>
    rw [hg] at hx
    exact gfo_sub h1 hc l [1] acc hl (fun y hy => by rw [List.mem_singleton] at hy; rw [hy]; exact h1) hg x hx
theorem fg_slm {A B : Int} {dual : Bool} (hk : slk A B dual = true) (ht : tc A B) (hc : ∀ x ∈ slm A B dual, ∀ y ∈ slm A B dual, prd x y ∈ slm A B dual) (n : Nat) : ∀ x ∈ fg A B dual n, x ∈ slm A B dual := by
  refine grp_sub (one_slm hk ht) hc fun x hx => ?_
  unfold fgl at hx
  rcases List.mem_cons.1 hx with rfl | hx
  · exact sqf_slm hk ht
  · exact fnd_slm hk ht n x hx
theorem prd_one (d : Int) : prd d 1 = d := by
  unfold prd
  have : gcd d 1 = 1 := by unfold M.gcd; simp
  rw [this]
  simp
theorem gst_has {acc acc' : List Int} {d : Int} (h : gst acc d = some acc') (h1 : 1 ∈ acc) : d ∈ acc' ∧ ∀ x ∈ acc, x ∈ acc' := by
  unfold gst at h
  split at h
  · cases h
    exact ⟨by assumption, fun x hx => hx⟩
  · split at h
    · cases h
      exact ⟨List.mem_append.2 (Or.inr (List.mem_map.2 ⟨1, h1, prd_one d⟩)), fun x hx => List.mem_append.2 (Or.inl hx)⟩
    · cases h
theorem gfo_has : ∀ (l acc acc' : List Int), 1 ∈ acc → l.foldl (fun o d => o.bind fun acc => gst acc d) (some acc) = some acc' → ∀ x, (x ∈ l ∨ x ∈ acc) → x ∈ acc'
  | [], acc, acc', _, h, x, hx => by
    cases h
    rcases hx with q | q
    · cases q
    · exact q
  | d :: l, acc, acc', h1, h, x, hx => by
    rw [List.foldl_cons] at h
    cases hg : gst acc d with
    | none =>
      rw [show (some acc).bind (fun acc => gst acc d) = none from hg] at h
      rw [gfo_none] at h
      cases h
    | some a2 =>
      rw [show (some acc).bind (fun acc => gst acc d) = some a2 from hg] at h
      obtain ⟨k1, k2⟩ := gst_has hg h1
      refine gfo_has l a2 acc' (k2 1 h1) h x ?_
      rcases hx with q | q
      · rcases List.mem_cons.1 q with rfl | q
        · exact Or.inr k1
        · exact Or.inl q
      · exact Or.inr (k2 x q)
/-- groups of classes have a power of two of them -/
theorem gst_len {acc acc' : List Int} {d : Int} (h : gst acc d = some acc') : acc'.length = acc.length ∨ acc'.length = 2 * acc.length := by
  unfold gst at h
  split at h
  · cases h; exact Or.inl rfl
  · split at h
    · cases h
      rw [List.length_append, List.length_map]
      exact Or.inr (by omega)
    · cases h
theorem gfo_len : ∀ (l acc acc' : List Int), l.foldl (fun o d => o.bind fun acc => gst acc d) (some acc) = some acc' → (∃ k, acc.length = 2 ^ k) → ∃ k, acc'.length = 2 ^ k
  | [], acc, acc', h, hk => by cases h; exact hk
  | d :: l, acc, acc', h, ⟨k, hk⟩ => by
    rw [List.foldl_cons] at h
    cases hg : gst acc d with
    | none =>
      rw [show (some acc).bind (fun acc => gst acc d) = none from hg] at h
      rw [gfo_none] at h
      cases h
    | some a2 =>
      rw [show (some acc).bind (fun acc => gst acc d) = some a2 from hg] at h
      refine gfo_len l a2 acc' h ?_
      rcases gst_len hg with q | q
      · exact ⟨k, q.trans hk⟩
      · exact ⟨k + 1, by rw [q, hk, Nat.pow_succ, Nat.mul_comm]⟩
theorem fg_pow {A B : Int} {dual : Bool} {n : Nat} (h : fgk A B dual n = true) : (fg A B dual n).length = 2 ^ Nat.log2 (fg A B dual n).length := by
  unfold fgk at h
  unfold fg grp
  rw [(srt_perm _).length_eq]
  cases hg : gfo (fgl A B dual n) with
  | none => rw [gok_f hg] at h; cases h
  | some acc =>
    obtain ⟨k, hk⟩ := gfo_len _ [1] acc hg ⟨0, rfl⟩
    show acc.length = 2 ^ Nat.log2 acc.length
    rw [hk, Nat.log2_two_pow]
theorem inc_nodup {l : List Int} (h : Inc l) : l.Nodup := h.imp fun h => Int.ne_of_lt h
theorem sub_len {l m : List Int} (h : l.Nodup) (hs : ∀ x ∈ l, x ∈ m) : l.length ≤ m.length := by
  rcases Nat.le_total l.length m.length with q | q
  · exact q
  · exact Nat.le_of_eq (perm_of_sub h hs q).length_eq
theorem log2_mono {m n : Nat} (h : m ≤ n) : Nat.log2 m ≤ Nat.log2 n := by
  by_cases hm : m = 0
  · subst hm
    exact Nat.zero_le _
  · have h1 := Nat.log2_self_le hm
    exact (Nat.le_log2 (by omega)).2 (Nat.le_trans h1 h)
/-- what the ranks are like -/
theorem fR_le {A B : Int} {dual : Bool} (hk : slk A B dual = true) (ht : tc A B) (hc : ∀ x ∈ slm A B dual, ∀ y ∈ slm A B dual, prd x y ∈ slm A B dual) (hi : isg (slm A B dual) = true) (n : Nat) : fR A B dual n ≤ sR A B dual := by
  unfold fR sR rkc
  rw [hi, if_pos rfl]
  split
  · have := log2_mono (sub_len (inc_nodup (fg_inc ht dual n)) (fg_slm hk ht hc n))
    omega
  · omega
theorem fR_mono {A B : Int} {dual : Bool} (ht : tc A B) {n : Nat} (h1 : fgk A B dual n = true) (h2 : fgk A B dual (n + 1) = true) : fR A B dual n ≤ fR A B dual (n + 1) := by
  unfold fR rkc
  rw [fg_isg ht dual n h1, fg_isg ht dual (n + 1) h2, if_pos rfl, if_pos rfl]
  have g : Gp (fg A B dual (n + 1)) := by
    unfold fgk at h2
    cases hg : gfo (fgl A B dual (n + 1)) with
    | none => rw [gok_f hg] at h2; cases h2
    | some acc =>
      have g0 := gfo_gp (fun y hy => (fgl_bd ht dual (n + 1) y hy).1) _ (Nat.le_refl _) acc (by rw [List.take_length]; exact hg)
      have e : fg A B dual (n + 1) = srt acc := (gok_t hg).2
      have hm : ∀ x, x ∈ srt acc ↔ x ∈ acc := fun x => (srt_perm acc).mem_iff
      rw [e]
      exact ⟨(hm _).2 g0.one, (srt_perm acc).nodup_iff.2 g0.nodup, fun x hx => g0.cl x ((hm x).1 hx), fun x hx y hy => (hm _).2 (g0.closed x ((hm x).1 hx) y ((hm y).1 hy)), by rw [(srt_perm acc).length_eq]; exact g0.len⟩
  have hgen : ∀ x ∈ fgl A B dual (n + 1), x ∈ fg A B dual (n + 1) := by
    unfold fgk at h2
    cases hg : gfo (fgl A B dual (n + 1)) with
    | none => rw [gok_f hg] at h2; cases h2
    | some acc =>
      intro x hx
      have e : fg A B dual (n + 1) = srt acc := (gok_t hg).2
      rw [e, (srt_perm acc).mem_iff]
      exact gfo_has _ [1] acc (by simp) hg x (Or.inl hx)
  have hsub : ∀ x ∈ fgl A B dual n, x ∈ fgl A B dual (n + 1) := fun x hx => by
    unfold fgl at *
    rcases List.mem_cons.1 hx with rfl | hx
    · exact List.mem_cons_self
    · refine List.mem_cons_of_mem _ ?_
      unfold fnd at *
      obtain ⟨q1, q2⟩ := List.mem_filter.1 hx
      refine List.mem_filter.2 ⟨q1, ?_⟩
      unfold hpt pts at *
      rw [List.any_eq_true] at *
      obtain ⟨m, r1, r2⟩ := q2
      refine ⟨m, List.mem_range.2 (by have := List.mem_range.1 r1; omega), ?_⟩
      unfold ptRow at *
      rw [List.any_eq_true] at *
      obtain ⟨e, s1, s2⟩ := r2
      exact ⟨e, List.mem_range.2 (by have := List.mem_range.1 s1; omega), s2⟩
  have hin : ∀ x ∈ fg A B dual n, x ∈ fg A B dual (n + 1) := grp_sub g.one g.closed fun x hx => hgen x (hsub x hx)
  have := log2_mono (sub_len (inc_nodup (fg_inc ht dual n)) hin)
  omega
end M
end Go.Proofs.YtgkjmjlkhnfbiaaGreat

namespace Go.Proofs.YtgkjmjlkhnfbiaaGreat
set_option linter.unusedSimpArgs false
set_option linter.unusedVariables false
namespace M
def colK (B : Int) : Bool := allB (fun k => frcI (Int.ofNat k - 10) fun A => rowK A B) 21
theorem colK_ok {A B : Int} (ht : tc A B) (h1 : -10 ≤ A) (h2 : A ≤ 10) (h : colK B = true) : SelP A B := by
  have := allB_at h (k := (A + 10).toNat) (by omega)
  rw [frcI_eq] at this
  have e : Int.ofNat (A + 10).toNat - 10 = A := by
    show (((A + 10).toNat : Nat) : Int) - 10 = A
    omega
  rw [e] at this
  exact rowK_ok ht this
set_option maxRecDepth 100000 in
theorem cw_49 : colK (-49) = true := by kernel_rfl
set_option maxRecDepth 100000 in
theorem pw_0_m82 : rowK (0) (-82) = true := by kernel_rfl
set_option maxRecDepth 100000 in
theorem pw_1_m82 : rowK (1) (-82) = true := by kernel_rfl
set_option maxRecDepth 100000 in
theorem pw_m3_m82 : rowK (-3) (-82) = true := by kernel_rfl
set_option maxRecDepth 100000 in
theorem pw_6_m82 : rowK (6) (-82) = true := by kernel_rfl
set_option maxRecDepth 100000 in
theorem pw_300_300 : rowK (300) (300) = true := by kernel_rfl
set_option maxRecDepth 100000 in
theorem pw_300_m300 : rowK (300) (-300) = true := by kernel_rfl
set_option maxRecDepth 100000 in
theorem pw_300_1 : rowK (300) (1) = true := by kernel_rfl
set_option maxRecDepth 100000 in
theorem pw_m300_300 : rowK (-300) (300) = true := by kernel_rfl
set_option maxRecDepth 100000 in
theorem pw_m300_m300 : rowK (-300) (-300) = true := by kernel_rfl
set_option maxRecDepth 100000 in
theorem pw_m300_1 : rowK (-300) (1) = true := by kernel_rfl
theorem prime_by {n : Nat} (h2 : 2 ≤ n) (hn : n < 1296) (h : allB (fun k => Nat.blt k 2 || !(Nat.beq (n % k) 0)) 36 = true) : Prime (n : Int) := by
  refine ⟨by omega, fun d h2d hdd hz => ?_⟩
  have hd : d < 36 := by
    rcases Int.lt_or_le d 36 with q | q
    · exact q
    · have : (36 : Int) * 36 ≤ d * d := Int.mul_le_mul q q (by decide) (by omega)
      omega
  have e : ((d.toNat : Nat) : Int) = d := Int.toNat_of_nonneg (by omega)
  have := allB_at h (k := d.toNat) (by omega)
  rw [Bool.or_eq_true, Nat.blt_eq, Bool.not_eq_true'] at this
  rcases this with q | q
  · omega
  · have hz' : n % d.toNat = 0 := by
      have : ((n % d.toNat : Nat) : Int) = 0 := by push_cast; rw [e]; exact hz
      omega
    rw [hz'] at q
    cases q
theorem pr_1151 : Prime ((1151 : Nat) : Int) := prime_by (by decide) (by decide) (by decide)
theorem pr_1249 : Prime ((1249 : Nat) : Int) := prime_by (by decide) (by decide) (by decide)
/-- a prime that is too great: nothing is told -/
theorem slk_big {A B q : Int} (ht : tc A B) (hq : Prime q) (hb : 997 < q) (hz : (A * A - 4 * B) % q = 0) (dual : Bool) : slk A B dual = false := by
  have h0 := (ht.side dual).2.2.1
  have hs := ht.dsc (one_dvs h0)
  have hm : q ∈ bads 1 (sA A dual) (dC A B dual 1) := by
    refine bads_of hs.1.2.2.1 hs.1.2.2.2 hs.2 hq ?_
    have e : dC A B dual 1 = sB A B dual := by unfold dC; exact Int.ediv_one _
    rw [e]
    obtain ⟨c, hc⟩ := Int.dvd_of_emod_eq_zero hz
    cases dual
    · refine Int.emod_eq_zero_of_dvd ⟨2 * B * c, ?_⟩
      unfold qdisc sA sB
      simp only [Bool.false_eq_true, if_false]
      rw [show 2 * (1 * B) * (A * A - 4 * 1 * B) = 2 * B * (A * A - 4 * B) by grind, hc]
      grind
    · refine Int.emod_eq_zero_of_dvd ⟨2 * c * qdisc 1 (sA A true) (sB A B true), ?_⟩
      generalize qdisc 1 (sA A true) (sB A B true) = z
      unfold sB
      simp only [if_true]
      rw [hc]
      grind
  cases h : slk A B dual
  · rfl
  · exfalso
    unfold slk at h
    rw [List.all_eq_true] at h
    have := h 1 (one_dvs h0)
    unfold rsk fok at this
    rw [List.all_eq_true] at this
    have := this q hm
    unfold pok at this
    rw [Bool.and_eq_true, decide_eq_true_eq] at this
    omega
theorem SelP.big {A B q : Int} (ht : tc A B) (hq : Prime q) (hb : 997 < q) (hz : (A * A - 4 * B) % q = 0) : SelP A B := by
  have := slk_big ht hq hb hz
  refine ⟨fun dual h => ?_, fun h => ?_⟩
  · rw [this dual] at h; cases h
  · rw [this false] at h; cases h
/-- the two-curves that are drawn -/
def Dr (A B : Int) : Prop := (-20 ≤ A ∧ A ≤ 20 ∧ -36 ≤ B ∧ B ≤ 30) ∨ (B = -49 ∧ -10 ≤ A ∧ A ≤ 10) ∨ (B = -82 ∧ (A = 0 ∨ A = 1 ∨ A = -3 ∨ A = 6)) ∨ ((A = 300 ∨ A = -300 ∨ A = 7) ∧ (B = 300 ∨ B = -300 ∨ B = 1))
theorem Dr.sel {A B : Int} (ht : tc A B) (h : Dr A B) : SelP A B := by
  rcases h with ⟨a1, a2, b1, b2⟩ | ⟨rfl, a1, a2⟩ | ⟨rfl, h⟩ | ⟨ha, hb⟩
  · by_cases h1 : A ≤ -11
    · exact rows_m20 ht b1 b2 a1 h1
    · by_cases h2 : A ≤ -1
      · exact rows_m10 ht b1 b2 (by omega) h2
      · by_cases h3 : A ≤ 9
        · exact rows_0 ht b1 b2 (by omega) h3
        · exact rows_10 ht b1 b2 (by omega) a2
  · exact colK_ok ht a1 a2 cw_49
  · rcases h with rfl | rfl | rfl | rfl
    · exact rowK_ok ht pw_0_m82
    · exact rowK_ok ht pw_1_m82
    · exact rowK_ok ht pw_m3_m82
    · exact rowK_ok ht pw_6_m82
  · rcases ha with rfl | rfl | rfl <;> rcases hb with rfl | rfl | rfl
    · exact rowK_ok ht pw_300_300
    · exact rowK_ok ht pw_300_m300
    · exact rowK_ok ht pw_300_1
    · exact rowK_ok ht pw_m300_300
    · exact rowK_ok ht pw_m300_m300
    · exact rowK_ok ht pw_m300_1
    · exact SelP.big ht (q := 1151) pr_1151 (by decide) (by decide)
    · exact SelP.big ht (q := 1249) pr_1249 (by decide) (by decide)
    · exact rows_0 ht (by decide) (by decide) (by decide) (by decide)
end M
end Go.Proofs.YtgkjmjlkhnfbiaaGreat

namespace Go.Proofs.YtgkjmjlkhnfbiaaGreat
set_option linter.unusedSimpArgs false
set_option linter.unusedVariables false
open Go.RowKit
namespace M
def eqb (x y : Int) : Bool := decide (x = y)
def leb (x y : Int) : Bool := decide (x ≤ y)
noncomputable def rb (A B n : Int) : Bool := (tcb A B && ins n 1 60) && bOk A B n.toNat
noncomputable def cl (A B lo hi n : Int) : Bool := ((tcb A B && ins n 1 60) && (ins lo 0 20 && ins hi 0 20)) && bOk A B n.toNat
noncomputable def clv (A B lo hi n : Int) : Bool := leb lo (low A B n.toNat) && leb (up A B) hi
end M
set_option maxRecDepth 100000 in
set_option maxHeartbeats 1000000 in
theorem implRankBounds_c (A B n : Int) (w : World) :
    Calls Tryz.prog 28 #[.agg #[.int .i64 A, .int .i64 B], .int .i64 n] w fun e w' => e = .returned (.tuple #[.int .i64 (M.pick (M.rb A B n) (M.low A B n.toNat)), .int .i64 (M.pick (M.rb A B n) (M.up A B)), .bool (M.rb A B n)]) ∧ Below w.heap.size w w' := by
  have PT := fun W => isTwoCurve_c A B W
  unfold M.rb
  have bx := Box.new w A B 25
  cases h1 : M.tcb A B
  · simp only [h1, Bool.true_and, Bool.and_true, Bool.false_and, Bool.and_false, M.pick_t, M.pick_f] at PT ⊢
    have PT := Lib.hid PT
    go_enter Tryz.func28, Tryz.ntmps28
    go_wp2_with (first | (go_at_call 46; (with_reducible refine (PT.out _).mono ?_); rintro e w1 ⟨rfl, hb1⟩; (have bx1 := bx.keep hb1); (have c0 := bx1.c0); (have c1 := bx1.c1); (have B1 : Below w.heap.size w w1 := (by repeat (first | exact Below.refl _ _ | refine below_alloc ?_ _ | refine below_step ?_ (by assumption) | refine Below.drew ?_ | refine Below.setCell ?_ (by first | exact Nat.le_refl _ | exact Nat.le_add_right _ _ | (simp <;> omega)) _ | refine below_drewN ?_ _)))) | (go_at_call 61; refine (inside_c _ _ _ _).mono ?_; rintro e w' ⟨rfl, rfl⟩))
    exact bodyPost_ret (v := .tuple #[.int .i64 0, .int .i64 0, .bool false]) (by simp [results, Tryz.results28, go_sem, *]) rfl (⟨rfl, B1⟩)
  · skip
    cases h2 : M.ins n 1 60
    · simp only [h1, h2, Bool.true_and, Bool.and_true, Bool.false_and, Bool.and_false, M.pick_t, M.pick_f] at PT ⊢
      have PT := Lib.hid PT
      go_enter Tryz.func28, Tryz.ntmps28
      go_wp2_with (first | (go_at_call 46; (with_reducible refine (PT.out _).mono ?_); rintro e w1 ⟨rfl, hb1⟩; (have bx1 := bx.keep hb1); (have c0 := bx1.c0); (have c1 := bx1.c1); (have B1 : Below w.heap.size w w1 := (by repeat (first | exact Below.refl _ _ | refine below_alloc ?_ _ | refine below_step ?_ (by assumption) | refine Below.drew ?_ | refine Below.setCell ?_ (by first | exact Nat.le_refl _ | exact Nat.le_add_right _ _ | (simp <;> omega)) _ | refine below_drewN ?_ _)))) | (go_at_call 61; refine (inside_c _ _ _ _).mono ?_; rintro e w' ⟨rfl, rfl⟩))
      exact bodyPost_ret (v := .tuple #[.int .i64 0, .int .i64 0, .bool false]) (by simp [results, Tryz.results28, go_sem, *]) rfl (⟨rfl, B1⟩)
    · skip
      have ht := M.tcb_t h1
      have hk := M.ins_t h2
      simp only [h1, h2, Bool.true_and, Bool.and_true, Bool.false_and, Bool.and_false, M.pick_t, M.pick_f] at PT ⊢
      have PT := Lib.hid PT
      obtain ⟨k, rfl⟩ : ∃ k : Nat, n = k := ⟨n.toNat, by omega⟩
      have P := fun W => rankBounds_c A B k W ht (by omega)
      simp only [Bool.true_and, Bool.and_true, Bool.false_and, Bool.and_false, M.pick_t, M.pick_f, Int.toNat_natCast]
      clear ht
      generalize M.low A B k = a at *
      generalize M.up A B = b at *
      generalize M.bOk A B k = q at *
      cases q
      · simp only [Bool.true_and, Bool.and_true, Bool.false_and, Bool.and_false, M.pick_t, M.pick_f] at P ⊢
        have P := Lib.hid P
        go_enter Tryz.func28, Tryz.ntmps28
        go_wp2_with (first | (go_at_call 46; (with_reducible refine (PT.out _).mono ?_); rintro e w1 ⟨rfl, hb1⟩; (have bx1 := bx.keep hb1); (have c0 := bx1.c0); (have c1 := bx1.c1); (have B1 : Below w.heap.size w w1 := (by repeat (first | exact Below.refl _ _ | refine below_alloc ?_ _ | refine below_step ?_ (by assumption) | refine Below.drew ?_ | refine Below.setCell ?_ (by first | exact Nat.le_refl _ | exact Nat.le_add_right _ _ | (simp <;> omega)) _ | refine below_drewN ?_ _)))) | (go_at_call 61; refine (inside_c _ _ _ _).mono ?_; rintro e w' ⟨rfl, rfl⟩) | (go_at_call 78; (with_reducible refine (P.out _).mono ?_); rintro e w2 ⟨rfl, hb2⟩; (have B2 := B1.trans (hb2.mono B1.size))))
        exact bodyPost_ret (v := .tuple #[.int .i64 0, .int .i64 0, .bool false]) (by simp [results, Tryz.results28, go_sem, *]) rfl (⟨rfl, B2⟩)
      · simp only [Bool.true_and, Bool.and_true, Bool.false_and, Bool.and_false, M.pick_t, M.pick_f] at P ⊢
        have P := Lib.hid P
        go_enter Tryz.func28, Tryz.ntmps28
        go_wp2_with (first | (go_at_call 46; (with_reducible refine (PT.out _).mono ?_); rintro e w1 ⟨rfl, hb1⟩; (have bx1 := bx.keep hb1); (have c0 := bx1.c0); (have c1 := bx1.c1); (have B1 : Below w.heap.size w w1 := (by repeat (first | exact Below.refl _ _ | refine below_alloc ?_ _ | refine below_step ?_ (by assumption) | refine Below.drew ?_ | refine Below.setCell ?_ (by first | exact Nat.le_refl _ | exact Nat.le_add_right _ _ | (simp <;> omega)) _ | refine below_drewN ?_ _)))) | (go_at_call 61; refine (inside_c _ _ _ _).mono ?_; rintro e w' ⟨rfl, rfl⟩) | (go_at_call 78; (with_reducible refine (P.out _).mono ?_); rintro e w2 ⟨rfl, hb2⟩; (have B2 := B1.trans (hb2.mono B1.size))))
        exact bodyPost_ret (v := .tuple #[.int .i64 a, .int .i64 b, .bool true]) (by simp [results, Tryz.results28, go_sem, *]) rfl (⟨rfl, B2⟩)
set_option maxRecDepth 100000 in
set_option maxHeartbeats 1000000 in
theorem specRankBounds_c (A B n : Int) (w : World) :
    Calls Tryz.prog 29 #[.agg #[.int .i64 A, .int .i64 B], .int .i64 n] w fun e w' => e = .returned (.tuple #[.int .i64 (M.pick (M.rb A B n) (M.low A B n.toNat)), .int .i64 (M.pick (M.rb A B n) (M.up A B)), .bool (M.rb A B n)]) ∧ Below w.heap.size w w' := by
  have PT := fun W => rkAsked_c A B n W
  unfold M.rb
  have bx := Box.new w A B 25
  cases h1 : M.tcb A B
  · simp only [h1, Bool.true_and, Bool.and_true, Bool.false_and, Bool.and_false, M.pick_t, M.pick_f] at PT ⊢
    have PT := Lib.hid PT
    go_enter Tryz.func29, Tryz.ntmps29
    go_wp2_with (first | (go_at_call 79; (with_reducible refine (PT.out _).mono ?_); rintro e w1 ⟨rfl, hb1⟩; (have bx1 := bx.keep hb1); (have c0 := bx1.c0); (have c1 := bx1.c1); (have B1 : Below w.heap.size w w1 := (by repeat (first | exact Below.refl _ _ | refine below_alloc ?_ _ | refine below_step ?_ (by assumption) | refine Below.drew ?_ | refine Below.setCell ?_ (by first | exact Nat.le_refl _ | exact Nat.le_add_right _ _ | (simp <;> omega)) _ | refine below_drewN ?_ _)))))
    exact bodyPost_ret (v := .tuple #[.int .i64 0, .int .i64 0, .bool false]) (by simp [results, Tryz.results29, go_sem, *]) rfl (⟨rfl, B1⟩)
  · skip
    cases h2 : M.ins n 1 60
    · simp only [h1, h2, Bool.true_and, Bool.and_true, Bool.false_and, Bool.and_false, M.pick_t, M.pick_f] at PT ⊢
      have PT := Lib.hid PT
      go_enter Tryz.func29, Tryz.ntmps29
      go_wp2_with (first | (go_at_call 79; (with_reducible refine (PT.out _).mono ?_); rintro e w1 ⟨rfl, hb1⟩; (have bx1 := bx.keep hb1); (have c0 := bx1.c0); (have c1 := bx1.c1); (have B1 : Below w.heap.size w w1 := (by repeat (first | exact Below.refl _ _ | refine below_alloc ?_ _ | refine below_step ?_ (by assumption) | refine Below.drew ?_ | refine Below.setCell ?_ (by first | exact Nat.le_refl _ | exact Nat.le_add_right _ _ | (simp <;> omega)) _ | refine below_drewN ?_ _)))))
      exact bodyPost_ret (v := .tuple #[.int .i64 0, .int .i64 0, .bool false]) (by simp [results, Tryz.results29, go_sem, *]) rfl (⟨rfl, B1⟩)
    · skip
      have ht := M.tcb_t h1
      have hk := M.ins_t h2
      simp only [h1, h2, Bool.true_and, Bool.and_true, Bool.false_and, Bool.and_false, M.pick_t, M.pick_f] at PT ⊢
      have PT := Lib.hid PT
      obtain ⟨k, rfl⟩ : ∃ k : Nat, n = k := ⟨n.toNat, by omega⟩
      have P := fun W => rkBounds_c A B k W ht (by omega)
      simp only [Bool.true_and, Bool.and_true, Bool.false_and, Bool.and_false, M.pick_t, M.pick_f, Int.toNat_natCast]
      clear ht
      generalize M.low A B k = a at *
      generalize M.up A B = b at *
      generalize M.bOk A B k = q at *
      cases q
      · simp only [Bool.true_and, Bool.and_true, Bool.false_and, Bool.and_false, M.pick_t, M.pick_f] at P ⊢
        have P := Lib.hid P
        go_enter Tryz.func29, Tryz.ntmps29
        go_wp2_with (first | (go_at_call 79; (with_reducible refine (PT.out _).mono ?_); rintro e w1 ⟨rfl, hb1⟩; (have bx1 := bx.keep hb1); (have c0 := bx1.c0); (have c1 := bx1.c1); (have B1 : Below w.heap.size w w1 := (by repeat (first | exact Below.refl _ _ | refine below_alloc ?_ _ | refine below_step ?_ (by assumption) | refine Below.drew ?_ | refine Below.setCell ?_ (by first | exact Nat.le_refl _ | exact Nat.le_add_right _ _ | (simp <;> omega)) _ | refine below_drewN ?_ _)))) | (go_at_call 80; (with_reducible refine (P.out _).mono ?_); rintro e w2 ⟨rfl, hb2⟩; (have B2 := B1.trans (hb2.mono B1.size))))
        exact bodyPost_ret (v := .tuple #[.int .i64 0, .int .i64 0, .bool false]) (by simp [results, Tryz.results29, go_sem, *]) rfl (⟨rfl, B2⟩)
      · simp only [Bool.true_and, Bool.and_true, Bool.false_and, Bool.and_false, M.pick_t, M.pick_f] at P ⊢
        have P := Lib.hid P
        go_enter Tryz.func29, Tryz.ntmps29
        go_wp2_with (first | (go_at_call 79; (with_reducible refine (PT.out _).mono ?_); rintro e w1 ⟨rfl, hb1⟩; (have bx1 := bx.keep hb1); (have c0 := bx1.c0); (have c1 := bx1.c1); (have B1 : Below w.heap.size w w1 := (by repeat (first | exact Below.refl _ _ | refine below_alloc ?_ _ | refine below_step ?_ (by assumption) | refine Below.drew ?_ | refine Below.setCell ?_ (by first | exact Nat.le_refl _ | exact Nat.le_add_right _ _ | (simp <;> omega)) _ | refine below_drewN ?_ _)))) | (go_at_call 80; (with_reducible refine (P.out _).mono ?_); rintro e w2 ⟨rfl, hb2⟩; (have B2 := B1.trans (hb2.mono B1.size))))
        exact bodyPost_ret (v := .tuple #[.int .i64 a, .int .i64 b, .bool true]) (by simp [results, Tryz.results29, go_sem, *]) rfl (⟨rfl, B2⟩)
end Go.Proofs.YtgkjmjlkhnfbiaaGreat

namespace Go.Proofs.YtgkjmjlkhnfbiaaGreat
set_option linter.unusedSimpArgs false
set_option linter.unusedVariables false
open Go.RowKit
namespace M
def ncl (G : List Int) (d : Int) : Bool := !decide (d ∈ G)
noncomputable def oc1 (A B : Int) (dual : Bool) (n : Nat) : Nat := ((slm A B dual).filter (ncl (fg A B dual n))).length
noncomputable def opk (A B : Int) (dual : Bool) (n : Nat) : Bool := slk A B dual && fgk A B dual n
noncomputable def occ (A B : Int) (n : Nat) : Nat → Nat
  | 0 => 0
  | 1 => oc1 A B false n
  | _ => oc1 A B false n + oc1 A B true n
noncomputable def opi (A B : Int) (n : Nat) : Nat → Bool
  | 0 => true
  | 1 => opk A B false n
  | _ => opk A B false n && opk A B true n
noncomputable def ocO (A B n : Int) : Bool := (tcb A B && ins n 1 60) && opi A B n.toNat 2
theorem oc1_le {A B : Int} (h : tc A B) (dual : Bool) (n : Nat) : oc1 A B dual n ≤ 200000 :=
  Nat.le_trans (List.length_filter_le _ _) (Nat.le_trans (List.length_filter_le _ _) (dvs_side_len h dual))
theorem oc_step {A B : Int} (h : tc A B) (n i : Nat) (hi : i < 2) (Q : Bool → Nat → Prop) (q0 : Q false 0) (q1 : Q true 1) :
    ∃ dual, Q dual i ∧ occ A B n (i + 1) = occ A B n i + oc1 A B dual n ∧ opi A B n (i + 1) = (opi A B n i && opk A B dual n) ∧ (opk A B dual n = false → opi A B n 2 = false) ∧ occ A B n i ≤ 200000 := by
  obtain rfl | rfl : i = 0 ∨ i = 1 := by omega
  · exact ⟨false, q0, (Nat.zero_add _).symm, rfl, fun h => by show (opk A B false n && opk A B true n) = false; rw [h]; rfl, Nat.zero_le _⟩
  · exact ⟨true, q1, rfl, rfl, fun h => by show (opk A B false n && opk A B true n) = false; rw [h, Bool.and_false], oc1_le h false n⟩
theorem filt_len (f : Int → Bool) (L : List Int) (j : Nat) : ((L.take j).filter f).length ≤ L.length :=
  Nat.le_trans (List.length_filter_le _ _) (by rw [List.length_take]; omega)
end M
end Go.Proofs.YtgkjmjlkhnfbiaaGreat

namespace Go.Proofs.YtgkjmjlkhnfbiaaGreat
set_option linter.unusedSimpArgs false
set_option linter.unusedVariables false
open Go.RowKit Go.Shelf
/-- a function value's contract: a test of a number, in every world that has grown at block r alone -/
def TestG (g : Nat) (lb : Array Value) (p : Int → Bool) (xs : List Int) (r : Option Nat) (w : World) : Prop :=
  ∀ (x : Int) (_ : x ∈ xs) (W : World), w.grownBy W r → Calls Tryz.prog g (#[.int .i64 x] ++ lb) W fun e W' => e = .returned (.bool (p x)) ∧ Below W.heap.size W W'
set_option maxHeartbeats 400000 in
theorem deleteFuncG_c (g : Nat) (lb : Array Value) (eg : ∀ args w, (callFunc g args).run Tryz.prog w = .ok (.enter g args) w) (p : Int → Bool) (v : Value) (xs : List Int) (w : World) (base : Nat) (hx : OwnI w base v xs) (hb0 : base ≤ w.heap.size) (hp : TestG g lb p xs v.ownBlock w) :
    Calls Tryz.prog 71 #[v, .func (.func g) #[] lb] w fun e w' => ∃ v', e = .returned v' ∧ OwnI w' base v' (xs.filter fun x => !p x) ∧ Below base w w' := by
  have hI := fun W (h : Below w.heap.size w W) => indexFunc_c g lb eg p v xs W W.heap.size W.heap.size (hx.below h).seen (Nat.le_refl _) (Nat.le_refl _) (fun x hx W2 h2 => hp x hx W2 (grown_tr (below_grown h _) (below_grown h2 _)))
  have hI := Lib.hid (hI w (Below.refl _ _))
  have hp := Lib.hid hp
  obtain ⟨a, cap, rfl⟩ := hx.nil_form
  have hm := hx.cap
  go_enter Tryz.func71, Tryz.ntmps71
  go_wp2_with fail
  refine (hI.out).mono ?_; rintro e w1 ⟨r, rfl, hr, hb1⟩
  rcases hr with ⟨rfl, hall⟩ | ⟨i0, rfl, hi0, hpi, hall⟩
  · have hfl : Hid (xs.filter (fun x => !p x) = xs) := Lib.hid (List.filter_eq_self.2 fun x hx => by rw [hall x hx]; rfl)
    clear hall
    go_wp2
    go_ret
    exact ⟨_, rfl, by rw [hfl.out]; exact hx.below hb1, hb1.mono hb0⟩
  · obtain ⟨b, cap', e1, hbg, -⟩ := hx.form (by omega)
    injection e1 with e1 e2 e3
    subst e1 e3
    clear e2
    have hx1 := hx.below hb1
    have hnn : ((i0 : Int) == -1) = false := beq_eq_false_iff_ne.2 (by omega)
    have hpi := Lib.hid hpi
    have hst : Hid (∃ m0 mid, xs = xs.take i0 ++ (m0 :: mid) ++ xs.drop (i0 + 1) ∧ (xs.take i0 ++ (m0 :: mid)).length = i0 + 1 ∧ (xs.take (i0 + 1)).filter (fun x => !p x) = xs.take i0) := Lib.hid (by
      have hx := List.getElem?_eq_getElem hi0
      refine ⟨xs[i0], [], ?_, ?_, ?_⟩
      · have := (List.take_append_drop (i0 + 1) xs).symm
        rw [take_next hx] at this
        exact this
      · rw [List.length_append, List.length_take]; simp; omega
      · rw [take_next hx, List.filter_append, List.filter_eq_self.2 fun x hx => by rw [hall x hx]; rfl]
        simp [hpi.out _ hx])
    clear hall hx
    go_wp2
    go_loopw [5, 6, 7] (fun vi vj _ wr => ∃ (i j : Nat) (kept : List Int) (m0 : Int) (mid : List Int), vi = .int .i64 i ∧ vj = .int .i64 j ∧ i < j ∧ j ≤ xs.length ∧ kept.length = i ∧ kept.length + mid.length + 1 = j ∧ Hid ((xs.take j).filter (fun x => !p x) = kept) ∧ OwnI wr base (.slice (some ⟨b, 0, none⟩) xs.length cap) (kept ++ (m0 :: mid) ++ xs.drop j) ∧ Below base w wr ∧ w.grownBy wr (some b)) (fun _ vj _ _ => xs.length - (intOf vj).toNat)
    case atStart =>
      obtain ⟨m0, mid, h1, h2, h3⟩ := hst.out
      refine ⟨i0, i0 + 1, xs.take i0, m0, mid, rfl, by go_num, by omega, by omega, by rw [List.length_take]; omega, by simp at h2 ⊢; omega, Lib.hid h3, by rw [← h1]; exact hx1, hb1.mono hb0, below_grown hb1 _⟩
    case round =>
      obtain ⟨i, j, kept, m0, mid, rfl, rfl, hij, hj, hki, hkj, hfl, hown, hbr, hgr⟩ := hrel
      have hki' : Hid (kept.length = i) := Lib.hid hki
      have hlen : Hid ((kept ++ (m0 :: mid) ++ xs.drop j).length = xs.length) := Lib.hid (by simp only [List.length_append, List.length_cons, List.length_drop]; omega)
      have hcells : Hid (∀ q : Nat, q < xs.length → wr.cell? ⟨b, q, none⟩ = ((kept ++ (m0 :: mid) ++ xs.drop j)[q]?).map (Value.int .i64) ∧ wr.frozen? ⟨b, q, none⟩ = false) := Lib.hid fun q hq => by
        have h := hown
        unfold OwnI at h
        rw [hlen.out] at h
        refine ⟨?_, World.ownsRow.frozenAt h q⟩
        rw [World.ownsRow.cellAt h q (by omega), List.getElem?_map]
      have hci : wr.cell? ⟨b, i, none⟩ = some (.int .i64 m0) := by
        rw [(hcells.out i (by omega)).1, List.append_assoc, List.getElem?_append_right (by omega), hki, Nat.sub_self]
        rfl
      have hfi : wr.frozen? ⟨b, i, none⟩ = false := (hcells.out i (by omega)).2
      have hbs : b < wr.heap.size := World.block_lt_of_cell? wr _ hci
      clear hki
      by_cases hlt : j < xs.length
      · have hx : Hid (xs[j]? = some xs[j]) := Lib.hid (List.getElem?_eq_getElem hlt)
        generalize xs[j] = x at hx
        have hcj : wr.cell? ⟨b, j, none⟩ = some (.int .i64 x) := by
          rw [(hcells.out j hlt).1, List.getElem?_append_right (by simp only [List.length_append, List.length_cons]; omega)]
          have e : j - (kept ++ (m0 :: mid)).length = 0 := by simp only [List.length_append, List.length_cons]; omega
          rw [e, List.getElem?_drop, Nat.add_zero, hx.out]
          rfl
        have hcall := hp.out x (List.mem_of_getElem? hx.out) wr hgr
        have hdrop : Hid (xs.drop j = x :: xs.drop (j + 1)) := Lib.hid (by
          have h := hx.out
          obtain ⟨h1, h2⟩ := List.getElem?_eq_some_iff.1 h
          rw [List.drop_eq_getElem_cons h1, h2])
        cases hq : p x
        · rw [hq] at hcall
          have hcall := Lib.hid hcall
          have hset : Hid ((kept ++ (m0 :: mid) ++ xs.drop j).set i x = (kept ++ [x]) ++ (mid ++ [x]) ++ xs.drop (j + 1)) := Lib.hid (by
            rw [hdrop.out, List.append_assoc, List.set_append_right _ _ (by rw [hki'.out]; exact Nat.le_refl _), hki'.out, Nat.sub_self, List.cons_append, List.set_cons_zero]
            simp)
          have hfl2 : Hid ((xs.take (j + 1)).filter (fun x => !p x) = kept ++ [x]) := Lib.hid (by rw [take_next hx.out, List.filter_append, hfl.out]; simp [hq])
          have hw2 : Hid (∀ w2, Below wr.heap.size wr w2 → OwnI (w2.setCell ⟨b, i, none⟩ (.int .i64 x)) base (.slice (some ⟨b, 0, none⟩) xs.length cap) ((kept ++ [x]) ++ (mid ++ [x]) ++ xs.drop (j + 1)) ∧ Below base w (w2.setCell ⟨b, i, none⟩ (.int .i64 x))) := Lib.hid fun w2 hb2 => by
            have h1 := OwnI.set (j := i) hlen.out.symm (hown.below hb2) x hset.out.symm
            refine ⟨h1.1, ?_⟩
            exact (hbr.trans (hb2.mono (Nat.le_trans hb0 hbr.size))).setCell hbg _
          clear hcells
          go_wp2_with (go_at_fn g; refine (hcall.out).mono ?_; rintro e w2 ⟨rfl, hb2⟩; have e1 := keepCell hb2 hci; have e2 := keepFrz hb2 hbs hfi)
          go_roundw
          case rel =>
            have := hw2.out w2 hb2
            cases mid with
            | nil => exact ⟨i + 1, j + 1, kept ++ [x], x, [], by go_num, by go_num, by omega, by omega, by rw [List.length_append, hki'.out]; rfl, by have := hki'.out; simp only [List.length_append, List.length_cons, List.length_nil] at hkj ⊢; omega, hfl2, this.1, this.2, Gr.set (grown_tr hgr (below_grown hb2 _)) i _⟩
            | cons m1 ms => exact ⟨i + 1, j + 1, kept ++ [x], m1, ms ++ [x], by go_num, by go_num, by omega, by omega, by rw [List.length_append, hki'.out]; rfl, by have := hki'.out; simp only [List.length_append, List.length_cons, List.length_nil] at hkj ⊢; omega, hfl2, this.1, this.2, Gr.set (grown_tr hgr (below_grown hb2 _)) i _⟩
          case measure => simp [intOf]; omega
        · rw [hq] at hcall
          have hcall := Lib.hid hcall
          have hfl2 : Hid ((xs.take (j + 1)).filter (fun x => !p x) = kept) := Lib.hid (by rw [take_next hx.out, List.filter_append, hfl.out]; simp [hq])
          have hap : Hid (kept ++ (m0 :: mid) ++ xs.drop j = kept ++ (m0 :: (mid ++ [x])) ++ xs.drop (j + 1)) := Lib.hid (by rw [hdrop.out]; simp)
          clear hcells
          go_wp2_with (go_at_fn g; refine (hcall.out).mono ?_; rintro e w2 ⟨rfl, hb2⟩)
          go_roundw
          case rel => exact ⟨i, j + 1, kept, m0, mid ++ [x], rfl, by go_num, by omega, by omega, hki'.out, by rw [List.length_append]; simp; omega, hfl2, by rw [← hap.out]; exact hown.below hb2, hbr.trans (hb2.mono (Nat.le_trans hb0 hbr.size)), grown_tr hgr (below_grown hb2 _)⟩
          case measure => simp [intOf]; omega
      · obtain rfl : j = xs.length := by omega
        have hic : (i : Int) ≤ cap := by omega
        have hcl : ∀ ty, (Builtin.clear_ #[28] ty #[.slice (some ⟨b, i, none⟩) (xs.length - i) (cap - i)]).run Tryz.prog wr = .ok (.tuple #[]) (wr.setCells b i (List.replicate (xs.length - i) (.int .i64 0))) :=
          fun ty => Lib.run_clear_slice wr _ _ ty _ Tryz.underlying28 (fun w => by kernel_rfl) rfl rfl b i _ _ (by omega) (fun t ht => by rw [(hcells.out (i + t) (by omega)).1, List.getElem?_eq_getElem (by rw [hlen.out]; omega)]; rfl) (fun t ht => (hcells.out (i + t) (by omega)).2)
        have hend : Hid (OwnI (wr.setCells b i (List.replicate (xs.length - i) (.int .i64 0))) base (.slice (some ⟨b, 0, none⟩) i cap) (xs.filter (fun x => !p x)) ∧ Below base w (wr.setCells b i (List.replicate (xs.length - i) (.int .i64 0)))) := Lib.hid (by
          obtain ⟨ys, k1, k2, k3, k4⟩ := OwnI.setCells base b cap xs.length (List.replicate (xs.length - i) 0) i wr _ hlen.out.symm hown
          rw [List.map_replicate] at k1 k4
          refine ⟨k1.cut (by rw [k3, hlen.out]) (by omega) ?_, hbr.grown k4 (Nat.le_trans hb0 hbr.size) fun k hk => by injection hk with hk; omega⟩
          rw [k2]
          have := hfl.out
          rw [List.take_length] at this
          rw [this, List.append_assoc, List.take_append_of_le_length (by rw [hki'.out]; exact Nat.le_refl _), ← hki'.out, List.take_length])
        clear hcells
        go_wp2
        go_ret
        exact ⟨_, rfl, hend.out.1, hend.out.2⟩
end Go.Proofs.YtgkjmjlkhnfbiaaGreat
