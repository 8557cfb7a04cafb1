/-
  Plain mathematics: sums over residues, permuted; the symbol of a product; counts of twists.
-/
import Derived.Test.YtoolgmpflplghaaPlain3
namespace Go.Proofs.Ytoolgmpflplghaa
set_option linter.unusedSimpArgs false
set_option linter.unusedVariables false
namespace M
/-- lists without repetition that hold the same -/
theorem perm_of_sub : ∀ {l m : List Int}, l.Nodup → (∀ x ∈ l, x ∈ m) → m.length ≤ l.length → l.Perm m
  | [], m, _, _, h => by
    have : m = [] := List.eq_nil_of_length_eq_zero (by simpa using h)
    rw [this]
  | x :: l, m, hn, hs, h => by
    obtain ⟨h1, h2⟩ := List.nodup_cons.1 hn
    have hx : x ∈ m := hs x List.mem_cons_self
    have hp := List.perm_cons_erase hx
    have hl : (m.erase x).length + 1 = m.length := by
      have := hp.length_eq
      simp at this
      omega
    refine List.Perm.trans ?_ hp.symm
    refine List.Perm.cons x (perm_of_sub h2 (fun y hy => ?_) (by simp at h; omega))
    have hy' := hs y (List.mem_cons_of_mem _ hy)
    have hne : y ≠ x := fun e => h1 (e ▸ hy)
    exact (List.mem_erase_of_ne hne).2 hy'
def lsum (f : Int → Int) : List Int → Int
  | [] => 0
  | x :: l => f x + lsum f l
theorem lsum_perm (f : Int → Int) {l m : List Int} (h : l.Perm m) : lsum f l = lsum f m := by
  induction h with
  | nil => rfl
  | cons x _ ih => simp only [lsum, ih]
  | swap x y l => simp only [lsum]; omega
  | trans _ _ ih1 ih2 => rw [ih1, ih2]
theorem lsum_append (f : Int → Int) : ∀ l m : List Int, lsum f (l ++ m) = lsum f l + lsum f m
  | [], m => by simp [lsum]
  | x :: l, m => by simp only [List.cons_append, lsum, lsum_append f l m]; omega
theorem lsum_map (f g : Int → Int) : ∀ l : List Int, lsum f (l.map g) = lsum (fun x => f (g x)) l
  | [] => rfl
  | x :: l => by simp only [List.map_cons, lsum, lsum_map f g l]
theorem lsum_congr {f g : Int → Int} : ∀ {l : List Int}, (∀ x ∈ l, f x = g x) → lsum f l = lsum g l
  | [], _ => rfl
  | x :: l, h => by simp only [lsum]; rw [h x List.mem_cons_self, lsum_congr fun y hy => h y (List.mem_cons_of_mem _ hy)]
theorem lsum_mul (c : Int) (f : Int → Int) : ∀ l : List Int, lsum (fun x => c * f x) l = c * lsum f l
  | [] => by simp [lsum]
  | x :: l => by simp only [lsum]; rw [lsum_mul c f l, Int.mul_add]
theorem sumTo_lsum (f : Int → Int) : ∀ k : Nat, sumTo f k = lsum f (upto 0 k)
  | 0 => rfl
  | k + 1 => by
    rw [sumTo, sumTo_lsum f k, upto_succ, lsum_append]
    simp [lsum]
theorem upto_nodup (k : Nat) : (upto 0 k).Nodup := by
  unfold upto
  rw [List.nodup_iff_pairwise_ne, List.pairwise_map]
  refine List.Pairwise.imp ?_ (List.nodup_iff_pairwise_ne.1 List.nodup_range)
  intro x y h e
  apply h
  omega
theorem upto_len (lo : Int) (k : Nat) : (upto lo k).length = k := by simp [upto]
/-- the residues, permuted -/
theorem lin_perm {p l m : Int} (hp : Prime p) (hl : ¬ l % p = 0) : ((upto 0 p.toNat).map fun x => (l * x + m) % p).Perm (upto 0 p.toNat) := by
  have h2 := hp.1
  refine perm_of_sub ?_ (fun y hy => ?_) (by simp [upto_len])
  · rw [List.nodup_iff_pairwise_ne, List.pairwise_map]
    refine List.Pairwise.imp_of_mem ?_ (List.nodup_iff_pairwise_ne.1 (upto_nodup p.toNat))
    intro x y hx hy hne e
    rw [mem_upto] at hx hy
    have e1 : (l * x + m - (l * y + m)) % p = 0 := Int.emod_eq_emod_iff_emod_sub_eq_zero.1 e
    have e2 : l * (x - y) % p = 0 := by
      rw [show l * (x - y) = l * x + m - (l * y + m) by rw [Int.mul_sub]; omega]
      exact e1
    have e3 := prime_mul hp e2 hl
    apply hne
    have e4 := Int.emod_eq_emod_iff_emod_sub_eq_zero.2 e3
    rw [Int.emod_eq_of_lt (by omega) (by omega), Int.emod_eq_of_lt (by omega) (by omega)] at e4
    exact e4
  · obtain ⟨x, -, rfl⟩ := List.mem_map.1 hy
    rw [mem_upto]
    have := mod_bd (a := l * x + m) (p := p) (by omega)
    omega
/-- a sum over all residues, permuted -/
theorem sumTo_lin {p l m : Int} (hp : Prime p) (hl : ¬ l % p = 0) (f : Int → Int) : sumTo (fun x => f ((l * x + m) % p)) p.toNat = sumTo f p.toNat := by
  rw [sumTo_lsum, sumTo_lsum, ← lsum_map f (fun x => (l * x + m) % p)]
  exact lsum_perm f (lin_perm hp hl)
/-- an inverse -/
theorem inv_ex {l p : Int} (hp : Prime p) (hl : ¬ l % p = 0) : ∃ m : Int, (l * m) % p = 1 := by
  have h2 := hp.1
  have h1 : (1 : Int) ∈ upto 0 p.toNat := by rw [mem_upto]; omega
  rw [← (lin_perm (m := 0) hp hl).mem_iff] at h1
  obtain ⟨x, -, e⟩ := List.mem_map.1 h1
  exact ⟨x, by rw [← e, Int.add_zero]⟩
theorem sumTo_congr {f g : Int → Int} {k : Nat} (h : ∀ x : Int, 0 ≤ x → x < k → f x = g x) : sumTo f k = sumTo g k := by
  rw [sumTo_lsum, sumTo_lsum]
  apply lsum_congr
  intro x hx
  rw [mem_upto] at hx
  exact h x (by omega) (by omega)
theorem sumTo_mul (c : Int) (f : Int → Int) (k : Nat) : sumTo (fun x => c * f x) k = c * sumTo f k := by
  rw [sumTo_lsum, sumTo_lsum, lsum_mul]
/-- symbols -/
theorem symb_mod (z p : Int) : symb (z % p) p = symb z p := by
  unfold symb powm
  rw [pow_mod_base]
theorem powm_mul (a b n p : Int) : powm (a * b) n p = powm a n p * powm b n p % p := by
  unfold powm
  rw [Int.mul_pow, ← Int.mul_emod]
theorem symb_mul {p : Int} (hp : Prime p) (h1 : 3 ≤ p) (h2 : p ≤ 997) (a b : Int) : symb (a * b) p = symb a p * symb b p := by
  have ea := euler hp h1 h2 a
  have eb := euler hp h1 h2 b
  have hm := powm_mul a b ((p - 1) / 2) p
  have q1 : (p - 1) * (p - 1) % p = 1 := by
    rw [show (p - 1) * (p - 1) = 1 + p * (p - 2) by grind, Int.add_mul_emod_self_left]
    exact Int.emod_eq_of_lt (by omega) (by omega)
  have q2 : (p - 1) % p = p - 1 := Int.emod_eq_of_lt (by omega) (by omega)
  have q3 : (1 : Int) % p = 1 := Int.emod_eq_of_lt (by omega) (by omega)
  unfold symb
  rw [hm]
  rcases ea with ea | ea | ea <;> rcases eb with eb | eb | eb <;> rw [ea, eb]
  · simp
  · simp
  · have n0 : ¬ p - 1 = 0 := by omega
    have n1 : ¬ p - 1 = 1 := by omega
    simp [n0, n1]
  · simp
  · simp [q3]
  · have n0 : ¬ p - 1 = 0 := by omega
    have n1 : ¬ p - 1 = 1 := by omega
    simp [n0, n1, q2]
  · have n0 : ¬ p - 1 = 0 := by omega
    have n1 : ¬ p - 1 = 1 := by omega
    simp [n0, n1]
  · have n0 : ¬ p - 1 = 0 := by omega
    have n1 : ¬ p - 1 = 1 := by omega
    simp [n0, n1, q2]
  · have n0 : ¬ p - 1 = 0 := by omega
    have n1 : ¬ p - 1 = 1 := by omega
    simp [n0, n1, q1]
theorem pow_ne {p a : Int} (hp : Prime p) (ha : ¬ a % p = 0) : ∀ n : Nat, ¬ a ^ n % p = 0
  | 0 => by
    have := hp.1
    rw [Int.pow_zero, Int.emod_eq_of_lt (by omega) (by omega)]
    omega
  | n + 1 => fun h => by
    rw [Int.pow_succ, Int.mul_comm] at h
    exact pow_ne hp ha n (prime_mul hp h ha)
theorem symb_unit {p a : Int} (hp : Prime p) (h1 : 3 ≤ p) (h2 : p ≤ 997) (ha : ¬ a % p = 0) : symb a p = 1 ∨ symb a p = -1 := by
  have h0 : ¬ powm a ((p - 1) / 2) p = 0 := pow_ne hp ha _
  unfold symb
  rw [if_neg h0]
  split
  · exact Or.inl rfl
  · exact Or.inr rfl
theorem symb_sq {p a : Int} (hp : Prime p) (h1 : 3 ≤ p) (h2 : p ≤ 997) (ha : ¬ a % p = 0) : symb a p * symb a p = 1 := by
  rcases symb_unit hp h1 h2 ha with h | h <;> rw [h] <;> rfl
/-- the sum over a polynomial's symbols -/
def psum (f : Int → Int) (p : Int) : Int := sumTo (fun x => symb (f x) p) p.toNat
theorem count_psum (a b p : Int) : count a b p = p + 1 + psum (val a b) p := by
  unfold count psum
  congr 1
  apply sumTo_congr
  intro x _ _
  unfold chi rhs
  rw [symb_mod]
theorem trace_psum (a b p : Int) : trace a b p = -psum (val a b) p := by
  unfold trace
  rw [count_psum]
  omega
theorem psum_congr {f g : Int → Int} {p : Int} (h : ∀ x, f x % p = g x % p) : psum f p = psum g p := by
  unfold psum
  apply sumTo_congr
  intro x _ _
  rw [← symb_mod, h x, symb_mod]
theorem psum_lin {p l m : Int} (hp : Prime p) (hl : ¬ l % p = 0) {f : Int → Int} (hf : ∀ x, f (x % p) % p = f x % p) : psum (fun x => f (l * x + m)) p = psum f p := by
  unfold psum
  rw [← sumTo_lin (m := m) hp hl fun x => symb (f x) p]
  apply sumTo_congr
  intro x _ _
  rw [← symb_mod (f (l * x + m)), ← hf, symb_mod]
theorem psum_mul {p c : Int} (hp : Prime p) (h1 : 3 ≤ p) (h2 : p ≤ 997) (f : Int → Int) : psum (fun x => c * f x) p = symb c p * psum f p := by
  unfold psum
  rw [← sumTo_mul]
  apply sumTo_congr
  intro x _ _
  exact symb_mul hp h1 h2 c (f x)
theorem val_mod (a b p x : Int) : val a b (x % p) % p = val a b x % p := by
  unfold val
  have e : x % p = x - p * (x / p) := by have := Int.emod_add_mul_ediv x p; omega
  generalize hq : x / p = q at e
  rw [e]
  apply Int.emod_eq_emod_iff_emod_sub_eq_zero.2
  rw [show (x - p * q) * (x - p * q) * (x - p * q) + a * (x - p * q) + b - (x * x * x + a * x + b) = p * (-q * (3 * x * x - 3 * x * p * q + p * p * q * q + a)) by grind]
  exact Int.mul_emod_right _ _
/-- counts of a twist -/
theorem tw_psum {a b d p : Int} (hp : Prime p) (h1 : 3 ≤ p) (h2 : p ≤ 997) (hd : ¬ d % p = 0) : psum (val (a * d * d) (b * d * d * d)) p = symb d p * psum (val a b) p := by
  rw [← psum_lin (l := d) (m := 0) hp hd (val_mod (a * d * d) (b * d * d * d) p)]
  rw [show (fun x => val (a * d * d) (b * d * d * d) (d * x + 0)) = fun x => d * (d * (d * val a b x)) by funext x; unfold val; grind]
  rw [psum_mul hp h1 h2, psum_mul hp h1 h2, psum_mul hp h1 h2, ← Int.mul_assoc, symb_sq hp h1 h2 hd, Int.one_mul]
/-- counts of a scaled curve -/
theorem sc_psum {a b u p : Int} (hp : Prime p) (h1 : 3 ≤ p) (h2 : p ≤ 997) (hu : ¬ u % p = 0) : psum (val (a * (u * u * u * u)) (b * (u * u * u * u * u * u))) p = psum (val a b) p := by
  have hu2 : ¬ (u * u) % p = 0 := fun h => hu (prime_mul hp h hu)
  have h := tw_psum (a := a) (b := b) hp h1 h2 hu2
  rw [symb_mul hp h1 h2, symb_sq hp h1 h2 hu, Int.one_mul] at h
  rw [← h, show a * (u * u) * (u * u) = a * (u * u * u * u) by grind, show b * (u * u) * (u * u) * (u * u) = b * (u * u * u * u * u * u) by grind]
end M
end Go.Proofs.Ytoolgmpflplghaa
