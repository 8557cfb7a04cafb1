/-
  Joined texts: contracts and plain laws.
-/
import Derived.Test.YtgkjmjlkhnfbiaaGreatB10
import Derived.Test.YtgkjmjlkhnfbiaaGreatB17
import Derived.Test.YtgkjmjlkhnfbiaaGreatB9
import Derived.Test.YtgkjmjlkhnfbiaaGreatB3
namespace Go.Proofs.YtgkjmjlkhnfbiaaGreat
set_option linter.unusedSimpArgs false
set_option linter.unusedVariables false
open Go.RowKit
namespace M
theorem mem_primes {n p : Int} (hn : n ≠ 0) : p ∈ primesOf n ↔ Prime p ∧ n % p = 0 := by
  unfold primesOf
  rw [mem_sel]
  unfold pdiv
  rw [Bool.and_eq_true, beq_iff_eq, prime_iff]
  constructor
  · rintro ⟨-, h⟩; exact h
  · rintro ⟨h1, h2⟩
    have hd := Nat.le_of_dvd (by omega) (Int.natAbs_dvd_natAbs.2 (Int.dvd_of_emod_eq_zero h2))
    have := h1.1
    exact ⟨⟨by omega, by omega⟩, h1, h2⟩
theorem slm_iff {A B d : Int} {dual : Bool} (hk : slk A B dual = true) : d ∈ slm A B dual ↔ d ∈ dvs (sB A B dual) ∧ real d (sA A dual) (dC A B dual d) = true ∧ ∀ p ∈ bads d (sA A dual) (dC A B dual d), sv d (sA A dual) (dC A B dual d) p = true := by
  unfold slm
  rw [List.mem_filter]
  refine and_congr_right fun hd => ?_
  have hf : fok d (sA A dual) (dC A B dual d) = true := by
    unfold slk at hk
    rw [List.all_eq_true] at hk
    exact hk d hd
  unfold rs0 rsn
  rw [if_pos hf]
  unfold rsOf
  rw [beq_iff_eq]
  cases hr : real d (sA A dual) (dC A B dual d)
  · simp
  · rw [if_pos rfl]
    have hbp : ∀ p ∈ fl d (sA A dual) (dC A B dual d), 2 ≤ p := fun p hp => by
      unfold fl at hp
      exact (bads_prime (List.mem_filter.1 hp).1).1
    constructor
    · intro h
      refine ⟨rfl, fun p hp => ?_⟩
      cases hs : sv d (sA A dual) (dC A B dual d) p
      · exfalso
        have hm : p ∈ fl d (sA A dual) (dC A B dual d) := by
          unfold fl
          refine List.mem_filter.2 ⟨hp, ?_⟩
          unfold nsv
          rw [hs]; rfl
        cases hl : fl d (sA A dual) (dC A B dual d) with
        | nil => rw [hl] at hm; cases hm
        | cons x l =>
          rw [hl] at h
          have := hbp x (by rw [hl]; exact List.mem_cons_self)
          have h : x = 0 := h
          omega
      · rfl
    · rintro ⟨-, h⟩
      have : fl d (sA A dual) (dC A B dual d) = [] := by
        unfold fl
        rw [List.filter_eq_nil_iff]
        intro p hp
        unfold nsv
        rw [h p hp]
        decide
      rw [this]
      rfl
theorem bads_of {d a c p : Int} (hd : d ≠ 0) (hc : c ≠ 0) (hq : qdisc d a c ≠ 0) (hp : Prime p) (h : 2 * (d * c) * qdisc d a c % p = 0) : p ∈ bads d a c := by
  rw [mem_bads, mem_primes hd, mem_primes hc, mem_primes hq]
  by_cases h1 : qdisc d a c % p = 0
  · exact Or.inr (Or.inr (Or.inr ⟨hp, h1⟩))
  · have h2 := prime_mul hp (x := qdisc d a c) (y := 2 * (d * c)) (by rw [Int.mul_comm]; exact h) h1
    by_cases h3 : d % p = 0
    · exact Or.inr (Or.inl ⟨hp, h3⟩)
    · by_cases h4 : c % p = 0
      · exact Or.inr (Or.inr (Or.inl ⟨hp, h4⟩))
      · have h5 := prime_mul hp (x := d) (y := c * 2) (by rw [show d * (c * 2) = 2 * (d * c) by grind]; exact h2) h3
        have h6 := prime_mul hp h5 h4
        have := hp.1
        have h7 := Int.le_of_dvd (by decide) (Int.dvd_of_emod_eq_zero h6)
        exact Or.inl (by omega)
theorem bads_to {d a c p : Int} (hd : d ≠ 0) (hc : c ≠ 0) (hq : qdisc d a c ≠ 0) (h : p ∈ bads d a c) : Prime p ∧ 2 * (d * c) * qdisc d a c % p = 0 := by
  refine ⟨bads_prime h, ?_⟩
  rw [mem_bads, mem_primes hd, mem_primes hc, mem_primes hq] at h
  refine Int.emod_eq_zero_of_dvd ?_
  rcases h with rfl | ⟨-, h⟩ | ⟨-, h⟩ | ⟨-, h⟩
  · exact ⟨d * c * qdisc d a c, by grind⟩
  · obtain ⟨x, hx⟩ := Int.dvd_of_emod_eq_zero h
    exact ⟨2 * (x * c) * qdisc d a c, by rw [show 2 * (d * c) * qdisc d a c = d * (2 * c * qdisc d a c) by grind]; generalize qdisc d a c = z; rw [hx]; grind⟩
  · obtain ⟨x, hx⟩ := Int.dvd_of_emod_eq_zero h
    exact ⟨2 * (d * x) * qdisc d a c, by rw [show 2 * (d * c) * qdisc d a c = c * (2 * d * qdisc d a c) by grind]; generalize qdisc d a c = z; rw [hx]; grind⟩
  · obtain ⟨x, hx⟩ := Int.dvd_of_emod_eq_zero h
    exact ⟨2 * (d * c) * x, by rw [hx]; grind⟩
def unPw (p : Nat) : Nat → Nat → Nat
  | 0, n => n
  | f + 1, n => bif Nat.beq (Nat.mod n p) 0 then frc (Nat.div n p) (unPw p f) else n
theorem unPw_dvd (p : Nat) : ∀ f n : Nat, unPw p f n ∣ n
  | 0, n => Nat.dvd_refl n
  | f + 1, n => by
    rw [unPw]
    cases h : Nat.beq (Nat.mod n p) 0
    · exact Nat.dvd_refl n
    · rw [cond_true, frc_eq]
      have h0 : n % p = 0 := Nat.eq_of_beq_eq_true h
      exact Nat.dvd_trans (unPw_dvd p f _) ⟨p, by rw [show Nat.div n p = n / p from rfl, Nat.div_mul_cancel (Nat.dvd_of_mod_eq_zero h0)]⟩
theorem unPw_has {p : Nat} {q : Int} (hp : Prime (p : Int)) (hq : Prime q) (hne : q ≠ p) : ∀ f n : Nat, (n : Int) % q = 0 → ((unPw p f n : Nat) : Int) % q = 0
  | 0, n, h => h
  | f + 1, n, h => by
    rw [unPw]
    cases hb : Nat.beq (Nat.mod n p) 0
    · exact h
    · rw [cond_true, frc_eq]
      have h0 : n % p = 0 := Nat.eq_of_beq_eq_true hb
      refine unPw_has hp hq hne f _ ?_
      have e : n = p * (n / p) := (Nat.mul_div_cancel' (Nat.dvd_of_mod_eq_zero h0)).symm
      have hqp : ¬ (p : Int) % q = 0 := fun hz => hne (prime_div hp hq.1 hz)
      refine prime_mul hq (x := (p : Int)) ?_ hqp
      show (p : Int) * ((n / p : Nat) : Int) % q = 0
      rw [e] at h
      push_cast at h ⊢
      exact h
def selP (K : List (Nat × Nat) → Bool) : List (Nat × Nat) → Nat → List (Nat × Nat) → Bool
  | [], n, P => bif Nat.beq n 1 then K P else false
  | x :: l, n, P => bif Nat.beq (Nat.mod n x.1) 0 then frc (unPw x.1 24 n) fun n' => selP K l n' (x :: P) else selP K l n P
theorem selP_ok {K : List (Nat × Nat) → Bool} : ∀ (l : List (Nat × Nat)) (n : Nat) (P : List (Nat × Nat)), (∀ x ∈ l, Prime (x.1 : Int)) → selP K l n P = true →
    ∃ P', K P' = true ∧ (∀ x ∈ P', x ∈ P ∨ (x ∈ l ∧ x.1 ∣ n)) ∧ (∀ x ∈ P, x ∈ P') ∧ ∀ q, Prime q → (n : Int) % q = 0 → ∃ x ∈ P', (x.1 : Int) = q
  | [], n, P, _, h => by
    rw [selP] at h
    cases hb : Nat.beq n 1
    · rw [hb] at h; cases h
    · rw [hb] at h
      have h1 := Nat.eq_of_beq_eq_true hb
      subst h1
      refine ⟨P, h, fun x hx => Or.inl hx, fun x hx => hx, fun q hq hz => ?_⟩
      have := hq.1
      have := Int.le_of_dvd (by decide) (Int.dvd_of_emod_eq_zero hz)
      omega
  | y :: l, n, P, hl, h => by
    have hl' : ∀ x ∈ l, Prime (x.1 : Int) := fun x hx => hl x (List.mem_cons_of_mem _ hx)
    have hy := hl y List.mem_cons_self
    rw [selP] at h
    cases hb : Nat.beq (Nat.mod n y.1) 0
    · rw [hb, cond_false] at h
      obtain ⟨P', h1, h2, h3, h4⟩ := selP_ok l n P hl' h
      exact ⟨P', h1, fun x hx => (h2 x hx).imp id fun q => ⟨List.mem_cons_of_mem _ q.1, q.2⟩, h3, h4⟩
    · rw [hb, cond_true, frc_eq] at h
      have h0 : n % y.1 = 0 := Nat.eq_of_beq_eq_true hb
      have hyn : y.1 ∣ n := Nat.dvd_of_mod_eq_zero h0
      obtain ⟨P', h1, h2, h3, h4⟩ := selP_ok l _ _ hl' h
      refine ⟨P', h1, fun x hx => ?_, fun x hx => h3 x (List.mem_cons_of_mem _ hx), fun q hq hz => ?_⟩
      · rcases h2 x hx with q | ⟨q, r⟩
        · rcases List.mem_cons.1 q with rfl | q
          · exact Or.inr ⟨List.mem_cons_self, hyn⟩
          · exact Or.inl q
        · exact Or.inr ⟨List.mem_cons_of_mem _ q, Nat.dvd_trans r (unPw_dvd _ _ _)⟩
      · by_cases hqy : q = y.1
        · exact ⟨y, h3 y List.mem_cons_self, hqy.symm⟩
        · exact h4 q hq (unPw_has hy hq hqy _ _ hz)
/-- 1: soluble at each of some primes; 0: not so at one; else not known -/
def tst (d a c : Int) : List (Nat × Nat) → Nat
  | [] => 1
  | x :: l => frc (solK x.1 x.2 16 d a c) fun r => bif Nat.beq r 1 then tst d a c l else r
theorem tst_one {d a c : Int} : ∀ {P : List (Nat × Nat)}, tst d a c P = 1 → ∀ x ∈ P, solK x.1 x.2 16 d a c = 1
  | y :: P, h, x, hx => by
    rw [tst, frc_eq] at h
    cases hb : Nat.beq (solK y.1 y.2 16 d a c) 1
    · rw [hb, cond_false] at h
      rw [h] at hb; cases hb
    · rw [hb, cond_true] at h
      rcases List.mem_cons.1 hx with rfl | hx
      · exact Nat.eq_of_beq_eq_true hb
      · exact tst_one h x hx
theorem tst_zero {d a c : Int} : ∀ {P : List (Nat × Nat)}, tst d a c P = 0 → ∃ x ∈ P, solK x.1 x.2 16 d a c = 0
  | [], h => by cases h
  | y :: P, h => by
    rw [tst, frc_eq] at h
    cases hb : Nat.beq (solK y.1 y.2 16 d a c) 1
    · rw [hb, cond_false] at h
      exact ⟨y, List.mem_cons_self, h⟩
    · rw [hb, cond_true] at h
      obtain ⟨x, hx, h1⟩ := tst_zero h
      exact ⟨x, List.mem_cons_of_mem _ hx, h1⟩
def tsr (d a c : Int) (P : List (Nat × Nat)) : Nat := bif real d a c then tst d a c P else 0
def frcI {α : Type} (z : Int) (F : Int → α) : α := match z with
  | .ofNat n => frc n fun n => F (.ofNat n)
  | .negSucc n => frc n fun n => F (.negSucc n)
theorem frcI_eq {α : Type} (z : Int) (F : Int → α) : frcI z F = F z := by
  cases z <;> simp only [frcI, frc_eq]
def sw (r : Nat) (x y : Bool) : Bool := match r with
  | 0 => x
  | 1 => y
  | _ + 2 => false
theorem sw_ok {r : Nat} {x y : Bool} (h : sw r x y = true) : (r = 0 ∧ x = true) ∨ (r = 1 ∧ y = true) := by
  match r with
  | 0 => exact Or.inl ⟨rfl, h⟩
  | 1 => exact Or.inr ⟨rfl, h⟩
  | _ + 2 => cases h
def filt (K : List Int → Bool) (a b : Int) (P : List (Nat × Nat)) : List Int → List Int → Bool
  | [], S => K S
  | d :: l, S => frcI d fun d => frcI (b / d) fun c => sw (tsr d a c P) (filt K a b P l S) (filt K a b P l (d :: S))
theorem filt_ok {K : List Int → Bool} {a b : Int} {P : List (Nat × Nat)} : ∀ (l S : List Int), filt K a b P l S = true →
    ∃ S', K S' = true ∧ (∀ d, d ∈ S' ↔ d ∈ S ∨ (d ∈ l ∧ tsr d a (b / d) P = 1)) ∧ ∀ d ∈ l, tsr d a (b / d) P = 0 ∨ tsr d a (b / d) P = 1
  | [], S, h => ⟨S, h, fun d => by simp, fun d hd => by cases hd⟩
  | e :: l, S, h => by
    rw [filt, frcI_eq, frcI_eq] at h
    rcases sw_ok h with ⟨h1, h2⟩ | ⟨h1, h2⟩
    · obtain ⟨S', k1, k2, k3⟩ := filt_ok l S h2
      refine ⟨S', k1, fun d => ?_, fun d hd => ?_⟩
      · rw [k2, List.mem_cons]
        constructor
        · rintro (q | ⟨q, r⟩)
          · exact Or.inl q
          · exact Or.inr ⟨Or.inr q, r⟩
        · rintro (q | ⟨rfl | q, r⟩)
          · exact Or.inl q
          · rw [h1] at r; cases r
          · exact Or.inr ⟨q, r⟩
      · rcases List.mem_cons.1 hd with rfl | q
        · exact Or.inl h1
        · exact k3 d q
    · obtain ⟨S', k1, k2, k3⟩ := filt_ok l _ h2
      refine ⟨S', k1, fun d => ?_, fun d hd => ?_⟩
      · rw [k2, List.mem_cons, List.mem_cons]
        constructor
        · rintro ((rfl | q) | ⟨q, r⟩)
          · exact Or.inr ⟨Or.inl rfl, h1⟩
          · exact Or.inl q
          · exact Or.inr ⟨Or.inr q, r⟩
        · rintro (q | ⟨rfl | q, r⟩)
          · exact Or.inl (Or.inr q)
          · exact Or.inl (Or.inl rfl)
          · exact Or.inr ⟨q, r⟩
      · rcases List.mem_cons.1 hd with rfl | q
        · exact Or.inr h1
        · exact k3 d q
def prms (b : Int) : List (Nat × Nat) → List Int
  | [] => []
  | x :: l => bif Nat.beq (Nat.mod b.natAbs x.1) 0 then (x.1 : Int) :: prms b l else prms b l
theorem mem_prms {b : Int} {p : Int} : ∀ {l : List (Nat × Nat)}, p ∈ prms b l ↔ ∃ x ∈ l, (x.1 : Int) = p ∧ b.natAbs % x.1 = 0
  | [] => by simp [prms]
  | y :: l => by
    rw [prms]
    cases hb : Nat.beq (Nat.mod b.natAbs y.1) 0
    · rw [cond_false, mem_prms]
      constructor
      · rintro ⟨x, h1, h2⟩; exact ⟨x, List.mem_cons_of_mem _ h1, h2⟩
      · rintro ⟨x, h1, h2, h3⟩
        rcases List.mem_cons.1 h1 with rfl | h1
        · rw [beqT (show Nat.mod b.natAbs x.1 = 0 from h3)] at hb; cases hb
        · exact ⟨x, h1, h2, h3⟩
    · rw [cond_true, List.mem_cons, mem_prms]
      constructor
      · rintro (rfl | ⟨x, h1, h2⟩)
        · exact ⟨y, List.mem_cons_self, rfl, Nat.eq_of_beq_eq_true hb⟩
        · exact ⟨x, List.mem_cons_of_mem _ h1, h2⟩
      · rintro ⟨x, h1, h2, h3⟩
        rcases List.mem_cons.1 h1 with rfl | h1
        · exact Or.inl h2.symm
        · exact Or.inr ⟨x, h1, h2, h3⟩
def incB : List Int → Bool
  | x :: y :: l => decide (x < y) && incB (y :: l)
  | _ => true
theorem incB_ok : ∀ {l : List Int}, incB l = true → Inc l
  | [], _ => by unfold Inc; simp
  | [x], _ => by unfold Inc; simp
  | x :: y :: l, h => by
    rw [incB, Bool.and_eq_true, decide_eq_true_eq] at h
    have ih := incB_ok h.2
    unfold Inc at *
    rw [List.pairwise_cons]
    refine ⟨fun z hz => ?_, ih⟩
    rcases List.mem_cons.1 hz with rfl | hz
    · exact h.1
    · exact Int.lt_trans h.1 ((List.pairwise_cons.1 ih).1 z hz)
/-- an entry of the table: a prime and its squares -/
def EntOk (x : Nat × Nat) : Prop := Prime (x.1 : Int) ∧ x.1 ≤ 997 ∧ (2 < x.1 → TOk x.1 x.2)
def sideK (T : List (Nat × Nat)) (a b : Int) (K : List Int → Bool) : Bool :=
  selP (fun P => bif incB (prms b P) then filt K a b P (dcat (prms b P)) [] else false) T (2 * b * (a * a - 4 * b)).natAbs []
theorem sideK_ok {T : List (Nat × Nat)} {a b : Int} {K : List Int → Bool} (hT : ∀ x ∈ T, EntOk x) (hb : b ≠ 0) (hd : a * a - 4 * b ≠ 0) (h : sideK T a b K = true) :
    ∃ S, K S = true ∧ ∀ d, d ∈ S ↔ d ∈ dvs b ∧ real d a (b / d) = true ∧ ∀ p ∈ bads d a (b / d), sv d a (b / d) p = true := by
  unfold sideK at h
  obtain ⟨P, hK, hP, -, hQ⟩ := selP_ok T _ [] (fun x hx => (hT x hx).1) h
  cases hi : incB (prms b P)
  · rw [hi] at hK; cases hK
  rw [hi, cond_true] at hK
  have hinc := incB_ok hi
  have hP' : ∀ x ∈ P, EntOk x ∧ (2 * b * (a * a - 4 * b)) % (x.1 : Int) = 0 := fun x hx => by
    rcases hP x hx with q | ⟨q, r⟩
    · cases q
    · refine ⟨hT x q, Int.emod_eq_zero_of_dvd ?_⟩
      exact Int.dvd_natAbs.1 (Int.natCast_dvd_natCast.2 r)
  have hQ' : ∀ q, Prime q → (2 * b * (a * a - 4 * b)) % q = 0 → ∃ x ∈ P, (x.1 : Int) = q := fun q hq hz => by
    refine hQ q hq (Int.emod_eq_zero_of_dvd ?_)
    exact Int.dvd_natAbs.2 (Int.dvd_of_emod_eq_zero hz)
  have hpr : prms b P = primesOf b := by
    refine Inc.ext hinc (primes_ok b).1 fun p => ?_
    rw [mem_prms, mem_primes hb]
    constructor
    · rintro ⟨x, h1, rfl, h3⟩
      refine ⟨(hP' x h1).1.1, Int.emod_eq_zero_of_dvd ?_⟩
      exact Int.dvd_natAbs.1 (Int.natCast_dvd_natCast.2 (Nat.dvd_of_mod_eq_zero h3))
    · rintro ⟨h1, h2⟩
      obtain ⟨c, hc⟩ := Int.dvd_of_emod_eq_zero h2
      obtain ⟨x, h3, h4⟩ := hQ' p h1 (Int.emod_eq_zero_of_dvd ⟨2 * c * (a * a - 4 * b), by rw [show 2 * b * (a * a - 4 * b) = b * (2 * (a * a - 4 * b)) by grind]; generalize a * a - 4 * b = z; rw [hc]; grind⟩)
      refine ⟨x, h3, h4, Nat.mod_eq_zero_of_dvd ?_⟩
      rw [← h4] at h2
      exact Int.natCast_dvd_natCast.1 (Int.dvd_natAbs.2 (Int.dvd_of_emod_eq_zero h2))
  rw [hpr] at hK
  obtain ⟨S, k1, k2, k3⟩ := filt_ok _ _ hK
  refine ⟨S, k1, fun d => ?_⟩
  have hmem : d ∈ dcat (primesOf b) ↔ d ∈ dvs b := by rw [← dvs_srt hb, (srt_perm _).mem_iff]
  have hsol : d ∈ dvs b → (tsr d a (b / d) P = 1 ↔ real d a (b / d) = true ∧ ∀ p ∈ bads d a (b / d), sv d a (b / d) p = true) := fun hm => by
    obtain ⟨d0, d1⟩ := mem_dvs hb hm
    have he : d * (b / d) = b := Int.mul_ediv_cancel' (Int.dvd_of_emod_eq_zero d1)
    have hc : b / d ≠ 0 := fun q => by rw [q] at he; omega
    have hqd : qdisc d a (b / d) = a * a - 4 * b := by unfold qdisc; rw [Int.mul_assoc, he]
    have hq0 : qdisc d a (b / d) ≠ 0 := by rw [hqd]; exact hd
    have hone : ∀ x ∈ P, solK x.1 x.2 16 d a (b / d) = 1 → sv d a (b / d) x.1 = true := fun x hx hs => by
      obtain ⟨⟨e1, e2, e3⟩, -⟩ := hP' x hx
      have hds := dep_spec e1.1 (by omega)
      unfold sv
      rw [Int.toNat_natCast]
      exact solK_one (by have := e1.1; omega) e3 hds.2.2 hs
    have hzero : ∀ x ∈ P, solK x.1 x.2 16 d a (b / d) = 0 → sv d a (b / d) x.1 = false := fun x hx hs => by
      obtain ⟨⟨e1, e2, e3⟩, -⟩ := hP' x hx
      have hds := dep_spec e1.1 (by omega)
      unfold sv
      rw [Int.toNat_natCast]
      exact solK_zero (by have := e1.1; omega) e3 hds.1 hs
    constructor
    · intro ht
      unfold tsr at ht
      cases hr : real d a (b / d)
      · rw [hr] at ht; cases ht
      · rw [hr, cond_true] at ht
        refine ⟨rfl, fun p hp => ?_⟩
        obtain ⟨p1, p2⟩ := bads_to d0 hc hq0 hp
        rw [he, hqd] at p2
        obtain ⟨x, hx, rfl⟩ := hQ' p p1 p2
        exact hone x hx (tst_one ht x hx)
    · rintro ⟨hr, hs⟩
      rcases k3 d (hmem.2 hm) with q | q
      · exfalso
        unfold tsr at q
        rw [hr, cond_true] at q
        obtain ⟨x, hx, hz⟩ := tst_zero q
        obtain ⟨e, hdv⟩ := hP' x hx
        have := hs x.1 (bads_of d0 hc hq0 e.1 (by rw [he, hqd]; exact hdv))
        rw [hzero x hx hz] at this
        cases this
      · exact q
  rw [k2]
  constructor
  · rintro (q | ⟨q, r⟩)
    · cases q
    · have hm := hmem.1 q
      exact ⟨hm, (hsol hm).1 r⟩
  · rintro ⟨q, r⟩
    exact Or.inr ⟨hmem.2 q, (hsol q).2 r⟩
end M
end Go.Proofs.YtgkjmjlkhnfbiaaGreat

namespace Go.Proofs.YtgkjmjlkhnfbiaaGreat
set_option linter.unusedSimpArgs false
set_option linter.unusedVariables false
namespace M
/-- the cubic with the root 0 -/
def qx (α β x : Int) : Int := x * (x * x + α * x + β)
theorem qx_mod (α β p x : Int) : qx α β (x % p) % p = qx α β x % p := by
  unfold qx
  have e : x % p = x - p * (x / p) := by have := Int.emod_add_mul_ediv x p; omega
  generalize hq : x / p = q at e
  rw [e]
  apply Int.emod_eq_emod_iff_emod_sub_eq_zero.2
  rw [show (x - p * q) * ((x - p * q) * (x - p * q) + α * (x - p * q) + β) - x * (x * x + α * x + β) = p * (-q * (3 * x * x - 3 * x * p * q + p * p * q * q + 2 * α * x - α * p * q + β)) by grind]
  exact Int.mul_emod_right _ _
def S (α β p : Int) : Int := psum (qx α β) p
theorem S_mod {α β α' β' p : Int} (h1 : α % p = α' % p) (h2 : β % p = β' % p) : S α β p = S α' β' p := by
  apply psum_congr
  intro x
  have k1 := Int.emod_eq_emod_iff_emod_sub_eq_zero.1 h1
  have k2 := Int.emod_eq_emod_iff_emod_sub_eq_zero.1 h2
  obtain ⟨u, hu⟩ := Int.dvd_of_emod_eq_zero k1
  obtain ⟨v, hv⟩ := Int.dvd_of_emod_eq_zero k2
  apply Int.emod_eq_emod_iff_emod_sub_eq_zero.2
  unfold qx
  rw [show α = α' + p * u by omega, show β = β' + p * v by omega, show x * (x * x + (α' + p * u) * x + (β' + p * v)) - x * (x * x + α' * x + β') = p * (x * (u * x + v)) by grind]
  exact Int.mul_emod_right _ _
theorem S_scale {α β l p : Int} (hp : Prime p) (h1 : 3 ≤ p) (h2 : p ≤ 997) (hl : ¬ l % p = 0) : S (l * α) (l * l * β) p = symb l p * S α β p := by
  unfold S
  rw [← psum_lin (l := l) (m := 0) hp hl (qx_mod (l * α) (l * l * β) p)]
  rw [show (fun x => qx (l * α) (l * l * β) (l * x + 0)) = fun x => l * (l * (l * qx α β x)) by funext x; unfold qx; grind]
  rw [psum_mul hp h1 h2, psum_mul hp h1 h2, psum_mul hp h1 h2, ← Int.mul_assoc, symb_sq hp h1 h2 hl, Int.one_mul]
/-- the kernel's count: symbols, each one greater -/
def chN (p z : Nat) : Nat := let t := z ^ ((p - 1) / 2) % p; bif Nat.beq t 0 then 1 else (bif Nat.beq t 1 then 2 else 0)
def sN (p α β : Nat) : Nat → Nat
  | 0 => 0
  | x + 1 => sN p α β x + chN p (x * (x * x + α * x + β) % p)
def isoAt (p β : Nat) : Bool := (Nat.beq β 0 || Nat.beq (sN p 0 β p) (sN p 0 (4 * (p - β) % p) p)) && (Nat.beq β 0 || Nat.beq ((1 + 4 * (p - β)) % p) 0 || Nat.beq (sN p 1 β p) (sN p (p - 2) ((1 + 4 * (p - β)) % p) p))
def isoP (p : Nat) : Bool := Nat.blt p 5 || hasDiv p || allB (isoAt p) p
theorem iso_all : allB isoP 60 = true := by kernel_rfl
theorem chN_eq {p z : Nat} (hp : 1 ≤ p) : (chN p z : Int) = 1 + symb (z : Int) (p : Int) := by
  have e : powm (z : Int) (((p : Int) - 1) / 2) (p : Int) = ((z ^ ((p - 1) / 2) % p : Nat) : Int) := by
    unfold powm
    push_cast
    congr 2
    omega
  unfold chN symb
  rw [e]
  generalize z ^ ((p - 1) / 2) % p = t
  cases h0 : Nat.beq t 0
  · have n0 : ¬ t = 0 := fun h => by rw [h] at h0; cases h0
    cases h1 : Nat.beq t 1
    · have n1 : ¬ t = 1 := fun h => by rw [h] at h1; cases h1
      have n0' : ¬ (t : Int) = 0 := by omega
      have n1' : ¬ (t : Int) = 1 := by omega
      simp [h0, h1, n0, n1, n0', n1']
    · obtain rfl := Nat.eq_of_beq_eq_true h1
      simp [Nat.beq]
  · obtain rfl := Nat.eq_of_beq_eq_true h0
    simp [Nat.beq]
theorem sN_eq {p α β : Nat} (hp : 1 ≤ p) : ∀ k : Nat, (sN p α β k : Int) = k + sumTo (fun x => symb (qx α β x) p) k
  | 0 => rfl
  | k + 1 => by
    have e : symb (qx α β (k : Int)) p = symb ((k * (k * k + α * k + β) % p : Nat) : Int) p := by
      unfold qx
      push_cast
      rw [symb_mod]
    rw [sN, sumTo, e]
    push_cast
    rw [sN_eq hp k, chN_eq hp]
    push_cast
    omega
theorem S_nat {p α β : Nat} (hp : 1 ≤ p) : (sN p α β p : Int) = p + S α β p := by
  rw [sN_eq hp p]
  rfl
theorem prime_isoP {p : Int} (hp : Prime p) (h1 : 5 ≤ p) (h2 : p ≤ 59) {β : Nat} (hb : (β : Int) < p) : isoAt p.toNat β = true := by
  have h := allB_at iso_all (k := p.toNat) (by omega)
  unfold isoP at h
  rw [hasDiv_not hp] at h
  have h3 : Nat.blt p.toNat 5 = false := by
    cases h3 : Nat.blt p.toNat 5
    · rfl
    · rw [Nat.blt_eq] at h3; omega
  rw [h3] at h
  exact allB_at h (k := β) (by omega)
theorem iso0 {p β : Int} (hp : Prime p) (h1 : 5 ≤ p) (h2 : p ≤ 59) (hb : ¬ β % p = 0) : S 0 β p = S 0 (-4 * β) p := by
  have hm := mod_bd (a := β) (p := p) (by omega)
  obtain ⟨b, hb'⟩ : ∃ b : Nat, (b : Int) = β % p := ⟨(β % p).toNat, by omega⟩
  obtain ⟨q, rfl⟩ : ∃ q : Nat, p = q := ⟨p.toNat, by omega⟩
  have h := prime_isoP hp h1 h2 (β := b) (by omega)
  rw [Int.toNat_natCast] at h
  unfold isoAt at h
  simp only [Bool.and_eq_true, Bool.or_eq_true] at h
  have h0 := h.1.resolve_left (fun k => by have := Nat.eq_of_beq_eq_true k; omega)
  have h0 := Nat.eq_of_beq_eq_true h0
  have k1 := S_nat (p := q) (α := 0) (β := b) (by omega)
  have k2 := S_nat (p := q) (α := 0) (β := 4 * (q - b) % q) (by omega)
  rw [h0] at k1
  have e1 : S 0 β q = S ((0 : Nat) : Int) (b : Int) q := S_mod rfl (by rw [hb', Int.emod_emod])
  have e2 : S 0 (-4 * β) q = S ((0 : Nat) : Int) ((4 * (q - b) % q : Nat) : Int) q := S_mod rfl (by
    push_cast
    rw [Int.emod_emod, Int.ofNat_sub (by omega), hb']
    apply Int.emod_eq_emod_iff_emod_sub_eq_zero.2
    have hq := Int.emod_add_mul_ediv β q
    rw [show -4 * β - 4 * (↑q - β % ↑q) = (q : Int) * (-4 * (β / q) - 4) by grind]
    exact Int.mul_emod_right _ _)
  omega
theorem iso1 {p β : Int} (hp : Prime p) (h1 : 5 ≤ p) (h2 : p ≤ 59) (hb : ¬ β % p = 0) (hc : ¬ (1 - 4 * β) % p = 0) : S 1 β p = S (-2) (1 - 4 * β) p := by
  have hm := mod_bd (a := β) (p := p) (by omega)
  obtain ⟨b, hb'⟩ : ∃ b : Nat, (b : Int) = β % p := ⟨(β % p).toNat, by omega⟩
  obtain ⟨q, rfl⟩ : ∃ q : Nat, p = q := ⟨p.toNat, by omega⟩
  have h := prime_isoP hp h1 h2 (β := b) (by omega)
  rw [Int.toNat_natCast] at h
  unfold isoAt at h
  simp only [Bool.and_eq_true, Bool.or_eq_true] at h
  have em : (1 - 4 * β) % q = (((1 + 4 * (q - b)) % q : Nat) : Int) % q := by
    push_cast
    rw [Int.emod_emod, Int.ofNat_sub (by omega), hb']
    apply Int.emod_eq_emod_iff_emod_sub_eq_zero.2
    have hq := Int.emod_add_mul_ediv β q
    rw [show 1 - 4 * β - (1 + 4 * (↑q - β % ↑q)) = (q : Int) * (-4 * (β / q) - 4) by grind]
    exact Int.mul_emod_right _ _
  have h0 := h.2.resolve_left (fun k => by
    rcases k with k | k
    · have := Nat.eq_of_beq_eq_true k; omega
    · have := Nat.eq_of_beq_eq_true k
      apply hc
      rw [em, this]
      simp)
  have h0 := Nat.eq_of_beq_eq_true h0
  have k1 := S_nat (p := q) (α := 1) (β := b) (by omega)
  have k2 := S_nat (p := q) (α := q - 2) (β := (1 + 4 * (q - b)) % q) (by omega)
  rw [h0] at k1
  have e1 : S 1 β q = S ((1 : Nat) : Int) (b : Int) q := S_mod rfl (by rw [hb', Int.emod_emod])
  have e2 : S (-2) (1 - 4 * β) q = S ((q - 2 : Nat) : Int) (((1 + 4 * (q - b)) % q : Nat) : Int) q := S_mod (by
    rw [Int.ofNat_sub (by omega)]
    apply Int.emod_eq_emod_iff_emod_sub_eq_zero.2
    rw [show (-2 : Int) - (↑q - ((2 : Nat) : Int)) = (q : Int) * (-1) by push_cast; omega]
    exact Int.mul_emod_right _ _) em
  omega
/-- the two curves of an isogeny -/
theorem iso_S {p α β : Int} (hp : Prime p) (h1 : 5 ≤ p) (h2 : p ≤ 59) (hb : ¬ β % p = 0) (hc : ¬ (α * α - 4 * β) % p = 0) : S α β p = S (-2 * α) (α * α - 4 * β) p := by
  by_cases ha : α % p = 0
  · obtain ⟨u, hu⟩ := Int.dvd_of_emod_eq_zero ha
    have e0 : (0 : Int) % p = 0 := Int.zero_emod _
    rw [S_mod (α' := 0) (β' := β) (by rw [ha, e0]) rfl, iso0 hp h1 h2 hb]
    refine S_mod ?_ ?_
    · rw [hu, show -2 * (p * u) = p * (-2 * u) by grind, Int.mul_emod_right, e0]
    · apply Int.emod_eq_emod_iff_emod_sub_eq_zero.2
      rw [hu, show -4 * β - (p * u * (p * u) - 4 * β) = p * (-(u * (p * u))) by grind]
      exact Int.mul_emod_right _ _
  · obtain ⟨m, hm⟩ := inv_ex hp ha
    have hm1 : (α * m - 1) % p = 0 := by
      apply Int.emod_eq_emod_iff_emod_sub_eq_zero.1
      rw [hm, Int.emod_eq_of_lt (by omega) (by omega)]
    obtain ⟨u, hu⟩ := Int.dvd_of_emod_eq_zero hm1
    have hβ : β % p = (α * α * (m * m * β)) % p := by
      apply Int.emod_eq_emod_iff_emod_sub_eq_zero.2
      rw [show β - α * α * (m * m * β) = p * (-(u * (α * m + 1) * β)) by grind]
      exact Int.mul_emod_right _ _
    have hmb : ¬ (m * m * β) % p = 0 := fun h => hb (by
      rw [hβ]
      obtain ⟨v, hv⟩ := Int.dvd_of_emod_eq_zero h
      rw [hv, show α * α * (p * v) = p * (α * α * v) by grind]
      exact Int.mul_emod_right _ _)
    have hβ2 : (α * α - 4 * β) % p = (α * α * (1 - 4 * (m * m * β))) % p := by
      apply Int.emod_eq_emod_iff_emod_sub_eq_zero.2
      rw [show α * α - 4 * β - α * α * (1 - 4 * (m * m * β)) = p * (4 * (u * (α * m + 1) * β)) by grind]
      exact Int.mul_emod_right _ _
    have hmc : ¬ (1 - 4 * (m * m * β)) % p = 0 := fun h => hc (by
      rw [hβ2]
      obtain ⟨v, hv⟩ := Int.dvd_of_emod_eq_zero h
      rw [hv, show α * α * (p * v) = p * (α * α * v) by grind]
      exact Int.mul_emod_right _ _)
    have k1 := S_scale (α := 1) (β := m * m * β) hp (by omega) (by omega) ha
    have k2 := S_scale (α := -2) (β := 1 - 4 * (m * m * β)) hp (by omega) (by omega) ha
    rw [S_mod (α' := α * 1) (by rw [Int.mul_one]) hβ, k1, iso1 hp h1 h2 hmb hmc, ← k2]
    exact S_mod (by rw [Int.mul_comm]) hβ2.symm
end M
end Go.Proofs.YtgkjmjlkhnfbiaaGreat

namespace Go.Proofs.YtgkjmjlkhnfbiaaGreat
set_option linter.unusedSimpArgs false
set_option linter.unusedVariables false
open Go.RowKit
namespace M
def sqTab : List (Nat × Nat) := [
  (461, 3640530664219605567412746389086058483415677198488266967892158889717636676533318023187884695911330467823771126920858450045985496136039481970), (457, 359909599818857142715147353490993586009213404814983778920603390482643578515362190085331272383107425747002172966654920655351325885897593822), (449, 1248662661423980444914818796674194362036920864455673634208698732411227820431058058246861457398229696367217714426204764181535489585926070), (433, 21291129190095410600714071351012772155855991784927912779218197902360461665594269956035277204626097521332545348492100200658641566558),
  (421, 3949445622305176386755003133448184876039089337598897863828857360602444246915301673056949163751883592807506464458842357416303290), (409, 1310891794381713504106693705494537642025638899746944271237440210341365622869331803727811484296477256813649651520213421102974), (401, 4436140311412247378139563605390312287712527394596350843662283064418223641753432334082160678221054773873778802779382697910), (397, 223119457432457937267339883389312649333468491895433175102264973351420385548178152819598328051099243883695224555601223194),
  (389, 781454403109685730892365377736105128167337980101733391188276713931562579849636714889719622034173783002679600368790258), (373, 13441164165595192128075624613497592429017173615966348547562994047754991012683433506518188685411292583009267693210), (353, 15025308521976818203027363667218369523285940328354501943614189557605158215676581093439953044403628748540694), (349, 826880766488940389749994088849087325215025223839551146871575989527824718111256954121844499338046920708666),
  (337, 270797398336555998627119313511295496411949204456569064142835694875978510192256662880220307588026561502), (317, 157369238136686112970781192890630969999092085396861042834556831330300265560874800463414770634450), (313, 16017569878755853917349457629960494352338426658084572966766104817661640601391076862541857373022), (293, 9248938232079160737261423097449729211062279038682900649748876150083337078455243253204562),
  (281, 3335512621666647477180763715801135334944612684158658211820507123833350750386829871030), (277, 169649982235686309130470802228531269774199279225300883921181709875809568356557207194), (269, 580539669191279374314387280562189650426427849693336474503682780225423163520019058), (257, 189673887108532091883640599555809057228439300247316657175789612993071949523734),
  (241, 3503677951953348316105854456354073289344456812647089274464254465766954878), (233, 11407298157331152343070632129032946256988158338589093115578919345316758), (229, 622496887405363581323637999554697472253602734436003095745513373030970), (197, 118293807873742757827437296739134280345237452048103702628050),
  (193, 12141444129520299540464513365627305638510449038044929807326), (181, 2211898081514375631961044640985059119846564062529976890), (173, 6959499201072490563778903106400207980707536372360786), (167, 6058870142380879454330449817022811454536025988062),
  (163, 4897055654650805677578640992142773019711325193810), (157, 126304807362733370595828809000324029340048915994), (151, 425021430996567349671854096638566139059703606), (149, 441852139177177952668163358831104772057793266),
  (139, 264983527547230301571683161851591864167154), (137, 144045494737659012533968429665233398647702), (131, 736595995152387833549853625256200223418), (127, 30790515292689894969866990722818747158),
  (113, 8586949319576899938239170417650582), (109, 473022961816146413042658758988474), (107, 50079290986288516948354744811034), (103, 1760368345969468176824550810518),
  (101, 1550432784880709368503235994226), (97, 152076272278209298711361952606), (89, 526807005835216593886842678), (83, 2911111237809585785085594),
  (79, 89932533647391829339958), (73, 9059857384996697084766), (71, 20052041432995567486), (67, 61808106872519771730),
  (61, 1662926210933060154), (59, 156326468341437114), (53, 5310023542746834), (47, 4626135339998),
  (43, 3678700564050), (41, 1870503675702), (37, 96068509338), (31, 303908790),
  (29, 332473074), (23, 340830), (19, 199410), (17, 107286),
  (13, 5658), (11, 570), (7, 22), (5, 18),
  (3, 2), (2, 0)]
def entB (x : Nat × Nat) : Bool := primeS x.1 && Nat.ble x.1 997 && (Nat.beq x.1 2 || allB (fun z => Nat.beq z 0 || (bif Nat.beq (chN x.1 z) 2 then Nat.beq (Nat.land (Nat.shiftRight x.2 z) 1) 1 else Nat.beq (Nat.land (Nat.shiftRight x.2 z) 1) 0)) x.1)
theorem entB_ok {x : Nat × Nat} (h : entB x = true) : EntOk x := by
  unfold entB at h
  rw [Bool.and_eq_true, Bool.and_eq_true] at h
  obtain ⟨⟨h1, h2⟩, h3⟩ := h
  have h2 := Nat.le_of_ble_eq_true h2
  refine ⟨prime_iff.1 (by rw [prime_small (by omega)]; exact h1), h2, fun h4 z hz h0 => ?_⟩
  rw [beqF (show x.1 ≠ 2 by omega), Bool.false_or] at h3
  have h5 := allB_at h3 hz
  rw [beqF h0, Bool.false_or] at h5
  have h6 := chN_eq (p := x.1) (z := z) (by omega)
  cases hb : Nat.beq (chN x.1 z) 2
  · rw [hb, cond_false] at h5
    have h7 := Nat.eq_of_beq_eq_true h5
    rw [h7]
    have h8 : ¬ chN x.1 z = 2 := fun e => by rw [beqT e] at hb; cases hb
    have h9 : ¬ symb (z : Int) x.1 = 1 := fun e => h8 (by omega)
    rw [show (symb (z : Int) x.1 == 1) = false from by simpa using h9]
    rfl
  · rw [hb, cond_true] at h5
    have h8 := Nat.eq_of_beq_eq_true hb
    rw [h5, show symb (z : Int) x.1 = 1 by omega]
    rfl
def entsB : List (Nat × Nat) → Bool
  | [] => true
  | x :: l => entB x && entsB l
theorem entsB_ok : ∀ {l : List (Nat × Nat)}, entsB l = true → ∀ x ∈ l, EntOk x
  | y :: l, h, x, hx => by
    rw [entsB, Bool.and_eq_true] at h
    rcases List.mem_cons.1 hx with rfl | hx
    · exact entB_ok h.1
    · exact entsB_ok h.2 x hx
set_option maxRecDepth 100000 in
theorem sqTab_ok : ∀ x ∈ sqTab, EntOk x := entsB_ok (by kernel_rfl)
def eqZ (x y : Int) : Bool := match x, y with
  | .ofNat m, .ofNat n => Nat.beq m n
  | .negSucc m, .negSucc n => Nat.beq m n
  | _, _ => false
theorem eqZ_ok {x y : Int} (h : eqZ x y = true) : x = y := by
  cases x <;> cases y <;> simp only [eqZ] at h
  · rw [Nat.eq_of_beq_eq_true h]
  · cases h
  · cases h
  · rw [Nat.eq_of_beq_eq_true h]
theorem eqZ_self (x : Int) : eqZ x x = true := by cases x <;> exact Nat.beq_refl _
def memZ (x : Int) : List Int → Bool
  | [] => false
  | y :: l => bif eqZ x y then true else memZ x l
theorem memZ_iff {x : Int} : ∀ {l : List Int}, memZ x l = true ↔ x ∈ l
  | [] => by simp [memZ]
  | y :: l => by
    rw [memZ, List.mem_cons]
    cases h : eqZ x y
    · rw [cond_false, memZ_iff]
      constructor
      · intro q; exact Or.inr q
      · rintro (rfl | q)
        · rw [eqZ_self] at h; cases h
        · exact q
    · rw [cond_true]
      exact ⟨fun _ => Or.inl (eqZ_ok h), fun _ => rfl⟩
def closB (S : List Int) : Bool := S.all fun x => S.all fun y => frcI (prd x y) fun z => memZ z S
theorem closB_ok {S : List Int} (h : closB S = true) : ∀ x ∈ S, ∀ y ∈ S, prd x y ∈ S := fun x hx y hy => by
  unfold closB at h
  rw [List.all_eq_true] at h
  have := h x hx
  rw [List.all_eq_true] at this
  have := this y hy
  rw [frcI_eq] at this
  exact memZ_iff.1 this
def nodB : List Int → Bool
  | [] => true
  | x :: l => bif memZ x l then false else nodB l
theorem nodB_ok : ∀ {l : List Int}, nodB l = true → l.Nodup
  | [], _ => List.nodup_nil
  | x :: l, h => by
    rw [nodB] at h
    cases hm : memZ x l
    · rw [hm, cond_false] at h
      exact List.nodup_cons.2 ⟨fun q => (by rw [memZ_iff.2 q] at hm; cases hm), nodB_ok h⟩
    · rw [hm] at h; cases h
def fitB (S : List Int) : Bool := closB S && nodB S
def rowK (A B : Int) : Bool := bif (eqZ B 0 || eqZ (A * A) (4 * B)) then true else
  frcI (-2 * A) fun A' => frcI (A * A - 4 * B) fun B' =>
  sideK sqTab A B fun S => fitB S && sideK sqTab A' B' fun S' => fitB S' && Nat.ble 4 (Nat.mul S.length S'.length)
/-- what is wanted of the descents of a two-curve -/
structure SelP (A B : Int) : Prop where
  closed : ∀ dual, slk A B dual = true → ∀ x ∈ slm A B dual, ∀ y ∈ slm A B dual, prd x y ∈ slm A B dual
  four : slk A B false = true → slk A B true = true → 4 ≤ (slm A B false).length * (slm A B true).length
theorem slm_nodup (A B : Int) (dual : Bool) : (slm A B dual).Nodup := by
  have : (dvs (sB A B dual)).Nodup := (dvs_inc _).imp fun h => Int.ne_of_lt h
  exact this.filter _
theorem rowK_ok {A B : Int} (ht : tc A B) (h : rowK A B = true) : SelP A B := by
  obtain ⟨-, -, hB, hD⟩ := ht
  unfold rowK at h
  have hc : (eqZ B 0 || eqZ (A * A) (4 * B)) = false := by
    cases h1 : eqZ B 0
    · cases h2 : eqZ (A * A) (4 * B)
      · rfl
      · exact absurd (eqZ_ok h2) hD
    · exact absurd (eqZ_ok h1) hB
  rw [hc, cond_false, frcI_eq, frcI_eq] at h
  obtain ⟨S, h1, h2⟩ := sideK_ok sqTab_ok hB (by omega) h
  rw [Bool.and_eq_true] at h1
  obtain ⟨S', h3, h4⟩ := sideK_ok sqTab_ok (b := A * A - 4 * B) (by omega) (by rw [show -2 * A * (-2 * A) - 4 * (A * A - 4 * B) = 16 * B by grind]; omega) h1.2
  rw [Bool.and_eq_true] at h3
  unfold fitB at h1 h3
  rw [Bool.and_eq_true] at h1 h3
  have m1 : slk A B false = true → ∀ d, d ∈ slm A B false ↔ d ∈ S := fun hk d => by
    rw [slm_iff hk, h2]
    rfl
  have m2 : slk A B true = true → ∀ d, d ∈ slm A B true ↔ d ∈ S' := fun hk d => by
    rw [slm_iff hk, h4]
    rfl
  refine ⟨fun dual => ?_, fun k1 k2 => ?_⟩
  · cases dual
    · intro hk x hx y hy
      exact (m1 hk _).2 (closB_ok h1.1.1 x ((m1 hk x).1 hx) y ((m1 hk y).1 hy))
    · intro hk x hx y hy
      exact (m2 hk _).2 (closB_ok h3.1.1 x ((m2 hk x).1 hx) y ((m2 hk y).1 hy))
  · have e1 := ((List.perm_ext_iff_of_nodup (slm_nodup A B false) (nodB_ok h1.1.2)).2 (m1 k1)).length_eq
    have e2 := ((List.perm_ext_iff_of_nodup (slm_nodup A B true) (nodB_ok h3.1.2)).2 (m2 k2)).length_eq
    rw [e1, e2]
    exact Nat.le_of_ble_eq_true h3.2
def rowsK (A : Int) : Bool := allB (fun k => frcI (Int.ofNat k - 36) fun B => rowK A B) 67
theorem rowsK_ok {A B : Int} (ht : tc A B) (h1 : -36 ≤ B) (h2 : B ≤ 30) (h : rowsK A = true) : SelP A B := by
  have := allB_at h (k := (B + 36).toNat) (by omega)
  rw [frcI_eq] at this
  have e : Int.ofNat (B + 36).toNat - 36 = B := by
    show (((B + 36).toNat : Nat) : Int) - 36 = B
    omega
  rw [e] at this
  exact rowK_ok ht this
end M
end Go.Proofs.YtgkjmjlkhnfbiaaGreat

namespace Go.Proofs.YtgkjmjlkhnfbiaaGreat
set_option linter.unusedSimpArgs false
set_option linter.unusedVariables false
namespace M
set_option maxRecDepth 100000 in
theorem rw_m20 : rowsK (-20) = true := by kernel_rfl
set_option maxRecDepth 100000 in
theorem rw_m19 : rowsK (-19) = true := by kernel_rfl
set_option maxRecDepth 100000 in
theorem rw_m18 : rowsK (-18) = true := by kernel_rfl
set_option maxRecDepth 100000 in
theorem rw_m17 : rowsK (-17) = true := by kernel_rfl
set_option maxRecDepth 100000 in
theorem rw_m16 : rowsK (-16) = true := by kernel_rfl
set_option maxRecDepth 100000 in
theorem rw_m15 : rowsK (-15) = true := by kernel_rfl
set_option maxRecDepth 100000 in
theorem rw_m14 : rowsK (-14) = true := by kernel_rfl
set_option maxRecDepth 100000 in
theorem rw_m13 : rowsK (-13) = true := by kernel_rfl
set_option maxRecDepth 100000 in
theorem rw_m12 : rowsK (-12) = true := by kernel_rfl
set_option maxRecDepth 100000 in
theorem rw_m11 : rowsK (-11) = true := by kernel_rfl
theorem rows_m20 {A B : Int} (ht : tc A B) (h1 : -36 ≤ B) (h2 : B ≤ 30) (a1 : -20 ≤ A) (a2 : A ≤ -11) : SelP A B := by
  have h : A = -20 ∨ A = -19 ∨ A = -18 ∨ A = -17 ∨ A = -16 ∨ A = -15 ∨ A = -14 ∨ A = -13 ∨ A = -12 ∨ A = -11 := by omega
  rcases h with rfl | rfl | rfl | rfl | rfl | rfl | rfl | rfl | rfl | rfl
  · exact rowsK_ok ht h1 h2 rw_m20
  · exact rowsK_ok ht h1 h2 rw_m19
  · exact rowsK_ok ht h1 h2 rw_m18
  · exact rowsK_ok ht h1 h2 rw_m17
  · exact rowsK_ok ht h1 h2 rw_m16
  · exact rowsK_ok ht h1 h2 rw_m15
  · exact rowsK_ok ht h1 h2 rw_m14
  · exact rowsK_ok ht h1 h2 rw_m13
  · exact rowsK_ok ht h1 h2 rw_m12
  · exact rowsK_ok ht h1 h2 rw_m11
end M
end Go.Proofs.YtgkjmjlkhnfbiaaGreat

namespace Go.Proofs.YtgkjmjlkhnfbiaaGreat
set_option linter.unusedSimpArgs false
set_option linter.unusedVariables false
namespace M
set_option maxRecDepth 100000 in
theorem rw_m10 : rowsK (-10) = true := by kernel_rfl
set_option maxRecDepth 100000 in
theorem rw_m9 : rowsK (-9) = true := by kernel_rfl
set_option maxRecDepth 100000 in
theorem rw_m8 : rowsK (-8) = true := by kernel_rfl
set_option maxRecDepth 100000 in
theorem rw_m7 : rowsK (-7) = true := by kernel_rfl
set_option maxRecDepth 100000 in
theorem rw_m6 : rowsK (-6) = true := by kernel_rfl
set_option maxRecDepth 100000 in
theorem rw_m5 : rowsK (-5) = true := by kernel_rfl
set_option maxRecDepth 100000 in
theorem rw_m4 : rowsK (-4) = true := by kernel_rfl
set_option maxRecDepth 100000 in
theorem rw_m3 : rowsK (-3) = true := by kernel_rfl
set_option maxRecDepth 100000 in
theorem rw_m2 : rowsK (-2) = true := by kernel_rfl
set_option maxRecDepth 100000 in
theorem rw_m1 : rowsK (-1) = true := by kernel_rfl
theorem rows_m10 {A B : Int} (ht : tc A B) (h1 : -36 ≤ B) (h2 : B ≤ 30) (a1 : -10 ≤ A) (a2 : A ≤ -1) : SelP A B := by
  have h : A = -10 ∨ A = -9 ∨ A = -8 ∨ A = -7 ∨ A = -6 ∨ A = -5 ∨ A = -4 ∨ A = -3 ∨ A = -2 ∨ A = -1 := by omega
  rcases h with rfl | rfl | rfl | rfl | rfl | rfl | rfl | rfl | rfl | rfl
  · exact rowsK_ok ht h1 h2 rw_m10
  · exact rowsK_ok ht h1 h2 rw_m9
  · exact rowsK_ok ht h1 h2 rw_m8
  · exact rowsK_ok ht h1 h2 rw_m7
  · exact rowsK_ok ht h1 h2 rw_m6
  · exact rowsK_ok ht h1 h2 rw_m5
  · exact rowsK_ok ht h1 h2 rw_m4
  · exact rowsK_ok ht h1 h2 rw_m3
  · exact rowsK_ok ht h1 h2 rw_m2
  · exact rowsK_ok ht h1 h2 rw_m1
end M
end Go.Proofs.YtgkjmjlkhnfbiaaGreat

namespace Go.Proofs.YtgkjmjlkhnfbiaaGreat
set_option linter.unusedSimpArgs false
set_option linter.unusedVariables false
namespace M
set_option maxRecDepth 100000 in
theorem rw_0 : rowsK (0) = true := by kernel_rfl
set_option maxRecDepth 100000 in
theorem rw_1 : rowsK (1) = true := by kernel_rfl
set_option maxRecDepth 100000 in
theorem rw_2 : rowsK (2) = true := by kernel_rfl
set_option maxRecDepth 100000 in
theorem rw_3 : rowsK (3) = true := by kernel_rfl
set_option maxRecDepth 100000 in
theorem rw_4 : rowsK (4) = true := by kernel_rfl
set_option maxRecDepth 100000 in
theorem rw_5 : rowsK (5) = true := by kernel_rfl
set_option maxRecDepth 100000 in
theorem rw_6 : rowsK (6) = true := by kernel_rfl
set_option maxRecDepth 100000 in
theorem rw_7 : rowsK (7) = true := by kernel_rfl
set_option maxRecDepth 100000 in
theorem rw_8 : rowsK (8) = true := by kernel_rfl
set_option maxRecDepth 100000 in
theorem rw_9 : rowsK (9) = true := by kernel_rfl
theorem rows_0 {A B : Int} (ht : tc A B) (h1 : -36 ≤ B) (h2 : B ≤ 30) (a1 : 0 ≤ A) (a2 : A ≤ 9) : SelP A B := by
  have h : A = 0 ∨ A = 1 ∨ A = 2 ∨ A = 3 ∨ A = 4 ∨ A = 5 ∨ A = 6 ∨ A = 7 ∨ A = 8 ∨ A = 9 := by omega
  rcases h with rfl | rfl | rfl | rfl | rfl | rfl | rfl | rfl | rfl | rfl
  · exact rowsK_ok ht h1 h2 rw_0
  · exact rowsK_ok ht h1 h2 rw_1
  · exact rowsK_ok ht h1 h2 rw_2
  · exact rowsK_ok ht h1 h2 rw_3
  · exact rowsK_ok ht h1 h2 rw_4
  · exact rowsK_ok ht h1 h2 rw_5
  · exact rowsK_ok ht h1 h2 rw_6
  · exact rowsK_ok ht h1 h2 rw_7
  · exact rowsK_ok ht h1 h2 rw_8
  · exact rowsK_ok ht h1 h2 rw_9
end M
end Go.Proofs.YtgkjmjlkhnfbiaaGreat

namespace Go.Proofs.YtgkjmjlkhnfbiaaGreat
set_option linter.unusedSimpArgs false
set_option linter.unusedVariables false
namespace M
set_option maxRecDepth 100000 in
theorem rw_10 : rowsK (10) = true := by kernel_rfl
set_option maxRecDepth 100000 in
theorem rw_11 : rowsK (11) = true := by kernel_rfl
set_option maxRecDepth 100000 in
theorem rw_12 : rowsK (12) = true := by kernel_rfl
set_option maxRecDepth 100000 in
theorem rw_13 : rowsK (13) = true := by kernel_rfl
set_option maxRecDepth 100000 in
theorem rw_14 : rowsK (14) = true := by kernel_rfl
set_option maxRecDepth 100000 in
theorem rw_15 : rowsK (15) = true := by kernel_rfl
set_option maxRecDepth 100000 in
theorem rw_16 : rowsK (16) = true := by kernel_rfl
set_option maxRecDepth 100000 in
theorem rw_17 : rowsK (17) = true := by kernel_rfl
set_option maxRecDepth 100000 in
theorem rw_18 : rowsK (18) = true := by kernel_rfl
set_option maxRecDepth 100000 in
theorem rw_19 : rowsK (19) = true := by kernel_rfl
set_option maxRecDepth 100000 in
theorem rw_20 : rowsK (20) = true := by kernel_rfl
theorem rows_10 {A B : Int} (ht : tc A B) (h1 : -36 ≤ B) (h2 : B ≤ 30) (a1 : 10 ≤ A) (a2 : A ≤ 20) : SelP A B := by
  have h : A = 10 ∨ A = 11 ∨ A = 12 ∨ A = 13 ∨ A = 14 ∨ A = 15 ∨ A = 16 ∨ A = 17 ∨ A = 18 ∨ A = 19 ∨ A = 20 := by omega
  rcases h with rfl | rfl | rfl | rfl | rfl | rfl | rfl | rfl | rfl | rfl | rfl
  · exact rowsK_ok ht h1 h2 rw_10
  · exact rowsK_ok ht h1 h2 rw_11
  · exact rowsK_ok ht h1 h2 rw_12
  · exact rowsK_ok ht h1 h2 rw_13
  · exact rowsK_ok ht h1 h2 rw_14
  · exact rowsK_ok ht h1 h2 rw_15
  · exact rowsK_ok ht h1 h2 rw_16
  · exact rowsK_ok ht h1 h2 rw_17
  · exact rowsK_ok ht h1 h2 rw_18
  · exact rowsK_ok ht h1 h2 rw_19
  · exact rowsK_ok ht h1 h2 rw_20
end M
end Go.Proofs.YtgkjmjlkhnfbiaaGreat
