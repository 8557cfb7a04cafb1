/-
  Plain mathematics: smallest models of curves; curves by A, then by B.
-/
import Derived.Test.YtpemckpnlemkfaaPlain6
namespace Go.Proofs.Ytpemckpnlemkfaa
set_option linter.unusedSimpArgs false
set_option linter.unusedVariables false
namespace M
/-- u^4 divides a and u^6 divides b -/
def four (u : Int) : Int := u * u * u * u
def six (u : Int) : Int := u * u * u * u * u * u
def divU (a b u : Int) : Bool := decide (a % four u = 0) && decide (b % six u = 0)
theorem divU_iff {a b u : Int} : divU a b u = true ↔ a % four u = 0 ∧ b % six u = 0 := by simp [divU]
/-- the greatest such u from 1 to 5 -/
def sm (a b : Int) : Int := if divU a b 5 then 5 else if divU a b 4 then 4 else if divU a b 3 then 3 else if divU a b 2 then 2 else 1
theorem divU_one (a b : Int) : divU a b 1 = true := by simp [divU, four, six]
theorem sm_bd (a b : Int) : 1 ≤ sm a b ∧ sm a b ≤ 5 := by
  unfold sm
  repeat' split
  all_goals omega
theorem sm_div (a b : Int) : divU a b (sm a b) = true := by
  unfold sm
  split
  · assumption
  · split
    · assumption
    · split
      · assumption
      · split
        · assumption
        · exact divU_one a b
/-- from above: the first that divides -/
theorem sm_down {a b u : Int} (h1 : 1 ≤ u) (h5 : u ≤ 5) (hd : divU a b u = true) (hn : ∀ v : Int, u < v → v ≤ 5 → divU a b v = false) : sm a b = u := by
  unfold sm
  rcases (show u = 1 ∨ u = 2 ∨ u = 3 ∨ u = 4 ∨ u = 5 by omega) with rfl | rfl | rfl | rfl | rfl
  · rw [hn 5 (by omega) (by omega), hn 4 (by omega) (by omega), hn 3 (by omega) (by omega), hn 2 (by omega) (by omega)]; rfl
  · rw [hn 5 (by omega) (by omega), hn 4 (by omega) (by omega), hn 3 (by omega) (by omega), hd]; rfl
  · rw [hn 5 (by omega) (by omega), hn 4 (by omega) (by omega), hd]; rfl
  · rw [hn 5 (by omega) (by omega), hd]; rfl
  · rw [hd]; rfl
/-- greater ones divide no curve -/
theorem divU_big {a b u : Int} (h : good a b = true) (h6 : 6 ≤ u) (h10 : u ≤ 10) : divU a b u = false := by
  cases hd : divU a b u
  · rfl
  · exfalso
    obtain ⟨d1, d2⟩ := divU_iff.1 hd
    obtain ⟨b1, b2, b3, b4⟩ := inCurve_bd (good_in h)
    have hz : a = 0 ∧ b = 0 := by
      unfold four at d1
      unfold six at d2
      rcases (show u = 6 ∨ u = 7 ∨ u = 8 ∨ u = 9 ∨ u = 10 by omega) with rfl | rfl | rfl | rfl | rfl <;> simp only [Int.reduceMul] at d1 d2 <;> omega
    obtain ⟨rfl, rfl⟩ := hz
    exact good_disc h rfl
theorem four_pos {u : Int} (h : 1 ≤ u) (h5 : u ≤ 10) : 1 ≤ four u ∧ four u ≤ 10000 := by
  unfold four
  rcases (show u = 1 ∨ u = 2 ∨ u = 3 ∨ u = 4 ∨ u = 5 ∨ u = 6 ∨ u = 7 ∨ u = 8 ∨ u = 9 ∨ u = 10 by omega) with rfl | rfl | rfl | rfl | rfl | rfl | rfl | rfl | rfl | rfl <;> decide
theorem six_pos {u : Int} (h : 1 ≤ u) (h5 : u ≤ 10) : 1 ≤ six u ∧ six u ≤ 1000000 := by
  unfold six
  rcases (show u = 1 ∨ u = 2 ∨ u = 3 ∨ u = 4 ∨ u = 5 ∨ u = 6 ∨ u = 7 ∨ u = 8 ∨ u = 9 ∨ u = 10 by omega) with rfl | rfl | rfl | rfl | rfl | rfl | rfl | rfl | rfl | rfl <;> decide
/-- the smallest model -/
def smA (a b : Int) : Int := a / four (sm a b)
def smB (a b : Int) : Int := b / six (sm a b)
theorem div_bd {a d m : Int} (hd : 1 ≤ d) (h1 : -m ≤ a) (h2 : a ≤ m) (hz : a % d = 0) : -m ≤ a / d ∧ a / d ≤ m := by
  have he := exact_div hd hz
  have h3 : (a / d).natAbs ≤ a.natAbs := by
    have : a.natAbs = (a / d).natAbs * d.natAbs := by rw [← Int.natAbs_mul, he]
    rw [this]
    exact Nat.le_mul_of_pos_right _ (by omega)
  omega
theorem sm_good {a b : Int} (h : good a b = true) : good (smA a b) (smB a b) = true := by
  obtain ⟨b1, b2, b3, b4⟩ := inCurve_bd (good_in h)
  have hs := sm_bd a b
  obtain ⟨d1, d2⟩ := divU_iff.1 (sm_div a b)
  have f1 := four_pos (u := sm a b) (by omega) (by omega)
  have f2 := six_pos (u := sm a b) (by omega) (by omega)
  have e1 := exact_div (n := a) (p := four (sm a b)) (by omega) d1
  have e2 := exact_div (n := b) (p := six (sm a b)) (by omega) d2
  have t1 := div_bd (m := 1000) f1.1 (by omega) (by omega) d1
  have t2 := div_bd (m := 10000) f2.1 (by omega) (by omega) d2
  have hdisc := good_disc h
  unfold smA smB
  generalize hx : a / four (sm a b) = x at *
  generalize hy : b / six (sm a b) = y at *
  generalize sm a b = u at *
  have hk : four u * four u * four u = six u * six u := by
    unfold four six
    simp only [Int.mul_assoc]
  have : disc a b = (six u * six u) * disc x y := by
    unfold disc
    rw [← e1, ← e2, Int.mul_add, ← hk]
    congr 1
    · simp only [Int.mul_assoc, Int.mul_comm, Int.mul_left_comm]
    · rw [hk]; simp only [Int.mul_assoc, Int.mul_comm, Int.mul_left_comm]
  have hne : disc x y ≠ 0 := by
    intro hz
    rw [hz, Int.mul_zero] at this
    exact hdisc this
  simp only [good, inCurve, Bool.and_eq_true, ins_iff, bne_iff_ne]
  exact ⟨⟨t1, t2⟩, hne⟩

/-- A, then B -/
def clt (c d : Int × Int) : Bool := decide (c.1 < d.1) || (decide (c.1 = d.1) && decide (c.2 < d.2))
theorem clt_iff {c d : Int × Int} : clt c d = true ↔ c.1 < d.1 ∨ (c.1 = d.1 ∧ c.2 < d.2) := by simp [clt]
theorem clt_irr (c : Int × Int) : clt c c = false := by
  cases h : clt c c
  · rfl
  · rw [clt_iff] at h; omega
theorem clt_tr {a b c : Int × Int} (h1 : clt a b = true) (h2 : clt b c = true) : clt a c = true := by
  rw [clt_iff] at *; omega
theorem clt_tot {a b : Int × Int} (h1 : clt a b = false) (h2 : clt b a = false) : a = b := by
  have h1' : ¬ clt a b = true := by rw [h1]; decide
  have h2' : ¬ clt b a = true := by rw [h2]; decide
  rw [clt_iff] at h1' h2'
  exact Prod.ext (by omega) (by omega)
def CInc (l : List (Int × Int)) : Prop := l.Pairwise (fun a b => clt a b = true)
theorem CInc.ext : ∀ {l m : List (Int × Int)}, CInc l → CInc m → (∀ x, x ∈ l ↔ x ∈ m) → l = m
  | [], [], _, _, _ => rfl
  | [], y :: m, _, _, h => absurd ((h y).2 List.mem_cons_self) (by simp)
  | x :: l, [], _, _, h => absurd ((h x).1 List.mem_cons_self) (by simp)
  | x :: l, y :: m, h1, h2, h => by
    obtain ⟨a1, b1⟩ := List.pairwise_cons.1 h1
    obtain ⟨a2, b2⟩ := List.pairwise_cons.1 h2
    have hxy : x = y := by
      rcases List.mem_cons.1 ((h x).1 List.mem_cons_self) with e | e
      · exact e
      · rcases List.mem_cons.1 ((h y).2 List.mem_cons_self) with e' | e'
        · exact e'.symm
        · have := clt_tr (a1 y e') (a2 x e)
          rw [clt_irr] at this
          cases this
    subst hxy
    congr 1
    refine CInc.ext b1 b2 fun z => ⟨fun hz => ?_, fun hz => ?_⟩
    · rcases List.mem_cons.1 ((h z).1 (List.mem_cons_of_mem _ hz)) with e | e
      · have := a1 z hz; rw [e, clt_irr] at this; cases this
      · exact e
    · rcases List.mem_cons.1 ((h z).2 (List.mem_cons_of_mem _ hz)) with e | e
      · have := a2 z hz; rw [e, clt_irr] at this; cases this
      · exact e
/-- the place of a curve, and the list with it -/
def cplace (xs : List (Int × Int)) (c : Int × Int) : Nat := (xs.takeWhile (fun d => clt d c)).length
def cput (xs : List (Int × Int)) (c : Int × Int) : List (Int × Int) := if xs[cplace xs c]? = some c then xs else xs.take (cplace xs c) ++ [c] ++ xs.drop (cplace xs c)
theorem cplace_le (xs : List (Int × Int)) (c : Int × Int) : cplace xs c ≤ xs.length := (List.takeWhile_prefix (fun d => clt d c) (l := xs)).length_le
theorem cplace_eq : ∀ (xs : List (Int × Int)) (c : Int × Int) (k : Nat), k ≤ xs.length → (∀ j y, j < k → xs[j]? = some y → clt y c = true) → (∀ y, xs[k]? = some y → clt y c = false) → k = cplace xs c
  | [], c, k, hk, _, _ => by simp at hk; simp [cplace, hk]
  | x :: xs, c, 0, _, _, h => by
    have := h x rfl
    simp [cplace, List.takeWhile_cons, this]
  | x :: xs, c, k + 1, hk, h1, h2 => by
    have hx := h1 0 x (by omega) rfl
    have ih := cplace_eq xs c k (by simpa using hk) (fun j y hj hy => h1 (j + 1) y (by omega) (by simpa using hy)) (fun y hy => h2 y (by simpa using hy))
    simp only [cplace, List.takeWhile_cons, hx, if_true, List.length_cons]
    unfold cplace at ih
    omega
theorem inc_cput {xs : List (Int × Int)} {c : Int × Int} (h : CInc xs) : CInc (cput xs c) ∧ ∀ x, x ∈ cput xs c ↔ x ∈ xs ∨ x = c := by
  have hp := cplace_le xs c
  have h1 : ∀ y ∈ xs.take (cplace xs c), clt y c = true := by
    intro y hy
    have e : xs.take (cplace xs c) = xs.takeWhile (fun d => clt d c) := (List.prefix_iff_eq_take.1 (List.takeWhile_prefix (fun d => clt d c) (l := xs))).symm
    rw [e] at hy
    exact List.all_eq_true.1 (List.all_takeWhile (p := fun d => clt d c) (l := xs)) y hy
  have h2 : ∀ y, xs[cplace xs c]? = some y → clt y c = false := by
    intro y hy
    have hd : xs.dropWhile (fun d => clt d c) = xs.drop (cplace xs c) := by
      have e1 := List.takeWhile_append_dropWhile (p := fun d => clt d c) (l := xs)
      have e2 : (xs.takeWhile (fun d => clt d c) ++ xs.dropWhile (fun d => clt d c)).drop (cplace xs c) = xs.dropWhile (fun d => clt d c) := List.drop_left' rfl
      rw [e1] at e2
      exact e2.symm
    have hh := List.head?_dropWhile_not (p := fun d => clt d c) (l := xs)
    rw [hd, List.head?_drop, hy] at hh
    simpa using hh
  have hs : xs = xs.take (cplace xs c) ++ xs.drop (cplace xs c) := (List.take_append_drop _ _).symm
  unfold cput
  split
  · rename_i he
    refine ⟨h, fun x => ⟨Or.inl, fun hx => ?_⟩⟩
    rcases hx with hx | rfl
    · exact hx
    · exact List.mem_of_getElem? he
  · rename_i he
    have hgt : ∀ y ∈ xs.drop (cplace xs c), clt c y = true := by
      intro y hy
      cases hd : xs.drop (cplace xs c) with
      | nil => rw [hd] at hy; cases hy
      | cons z zs =>
        have hz : xs[cplace xs c]? = some z := by rw [← List.head?_drop, hd]; rfl
        have hzc : clt c z = true := by
          cases hc : clt c z
          · exact absurd (by rw [hz, clt_tot (h2 z hz) hc]) he
          · rfl
        have hinc : CInc (xs.drop (cplace xs c)) := List.Pairwise.sublist (List.drop_sublist _ _) h
        rw [hd] at hinc hy
        rcases List.mem_cons.1 hy with e | e
        · rw [e]; exact hzc
        · exact clt_tr hzc ((List.pairwise_cons.1 hinc).1 y e)
    refine ⟨?_, fun x => ?_⟩
    · unfold CInc
      rw [List.append_assoc, List.pairwise_append]
      refine ⟨List.Pairwise.sublist (List.take_sublist _ _) h, ?_, fun a ha b hb => ?_⟩
      · rw [List.pairwise_append]
        refine ⟨by simp, List.Pairwise.sublist (List.drop_sublist _ _) h, fun a ha b hb => ?_⟩
        simp only [List.mem_singleton] at ha
        subst ha
        exact hgt b hb
      · have ha' := h1 a ha
        rcases List.mem_append.1 hb with hb | hb
        · simp only [List.mem_singleton] at hb
          rw [hb]; exact ha'
        · exact clt_tr ha' (hgt b hb)
    · simp only [List.mem_append, List.mem_singleton]
      constructor
      · rintro ((hx | hx) | hx)
        · exact Or.inl (List.mem_of_mem_take hx)
        · exact Or.inr hx
        · exact Or.inl (List.mem_of_mem_drop hx)
      · rintro (hx | hx)
        · rw [hs, List.mem_append] at hx
          rcases hx with hx | hx
          · exact Or.inl (Or.inl hx)
          · exact Or.inr hx
        · exact Or.inl (Or.inr hx)
theorem cput_le (xs : List (Int × Int)) (c : Int × Int) : (cput xs c).length ≤ xs.length + 1 := by
  have hp := cplace_le xs c
  unfold cput
  split
  · omega
  · simp only [List.length_append, List.length_take, List.length_drop, List.length_singleton]
    omega
def cputs (l : List (Int × Int)) : List (Int × Int) := l.foldl cput []
theorem inc_cputs : ∀ (l acc : List (Int × Int)), CInc acc → CInc (l.foldl cput acc) ∧ ∀ x, x ∈ l.foldl cput acc ↔ x ∈ acc ∨ x ∈ l
  | [], acc, h => ⟨h, by simp⟩
  | d :: l, acc, h => by
    have hs := inc_cput (c := d) h
    have ih := inc_cputs l _ hs.1
    rw [List.foldl_cons]
    refine ⟨ih.1, fun x => ?_⟩
    rw [ih.2, hs.2, List.mem_cons, or_assoc]
/-- the first p elements without those that repeat the one before -/
def ddl (xs : List (Int × Int)) : Nat → List (Int × Int)
  | 0 => []
  | 1 => xs.take 1
  | p + 2 => if xs[p + 1]? = xs[p]? then ddl xs (p + 1) else ddl xs (p + 1) ++ (xs.drop (p + 1)).take 1
theorem ddl_le (xs : List (Int × Int)) : ∀ p, (ddl xs p).length ≤ p
  | 0 => by simp [ddl]
  | 1 => by rw [ddl, List.length_take]; omega
  | p + 2 => by
    have ih := ddl_le xs (p + 1)
    rw [ddl]
    split
    · omega
    · rw [List.length_append, List.length_take]; omega
theorem ddl_plain {xs : List (Int × Int)} : ∀ {p : Nat}, p ≤ xs.length → (∀ j, j + 1 < p → xs[j + 1]? ≠ xs[j]?) → ddl xs p = xs.take p
  | 0, _, _ => by simp [ddl]
  | 1, _, _ => rfl
  | p + 2, hp, h => by
    rw [ddl, if_neg (h p (by omega)), ddl_plain (by omega) (fun j hj => h j (by omega))]
    rw [show p + 2 = (p + 1) + 1 from rfl, List.take_add (i := p + 1) (j := 1)]
theorem ddl_snoc {xs : List (Int × Int)} {p : Nat} {x : Int × Int} (hx : xs[p + 1]? = some x) (h : xs[p + 1]? ≠ xs[p]?) : ddl xs (p + 2) = ddl xs (p + 1) ++ [x] := by
  rw [ddl, if_neg h]
  obtain ⟨h1, h2⟩ := List.getElem?_eq_some_iff.1 hx
  rw [List.drop_eq_getElem_cons h1, h2]
  simp
theorem ddl_skip {xs : List (Int × Int)} {p : Nat} (h : xs[p + 1]? = xs[p]?) : ddl xs (p + 2) = ddl xs (p + 1) := by
  rw [ddl, if_pos h]
/-- of a sorted list: strictly increasing, of the same elements -/
theorem ddl_sorted {xs : List (Int × Int)} (hs : xs.Pairwise (fun a b => clt b a = false)) : ∀ p, p ≤ xs.length → CInc (ddl xs p) ∧ (∀ x, x ∈ ddl xs p ↔ x ∈ xs.take p) ∧ ∀ x ∈ ddl xs p, ∀ y, xs[p - 1]? = some y → clt x y = true ∨ x = y
  | 0, _ => ⟨List.Pairwise.nil, fun x => by simp [ddl], fun x h => by simp [ddl] at h⟩
  | 1, h => by
    obtain ⟨x, l, rfl⟩ : ∃ x l, xs = x :: l := by cases xs with
      | nil => simp at h
      | cons x l => exact ⟨x, l, rfl⟩
    refine ⟨by simp [ddl, CInc], fun y => by simp [ddl], fun y hy z hz => ?_⟩
    simp [ddl] at hy
    simp at hz
    right; rw [hy, hz]
  | p + 2, h => by
    obtain ⟨i1, i2, i3⟩ := ddl_sorted hs (p + 1) (by omega)
    have hx : xs[p + 1]? = some xs[p + 1] := List.getElem?_eq_getElem (by omega)
    have hy : xs[p]? = some xs[p] := List.getElem?_eq_getElem (by omega)
    have hle : clt xs[p + 1] xs[p] = false := List.pairwise_iff_getElem.1 hs p (p + 1) (by omega) (by omega) (by omega)
    have htk : xs.take (p + 2) = xs.take (p + 1) ++ [xs[p + 1]] := List.take_succ_eq_append_getElem (by omega)
    have htk0 : xs[p] ∈ xs.take (p + 1) := by
      rw [List.take_succ_eq_append_getElem (show p < xs.length by omega)]
      exact List.mem_append.2 (Or.inr (List.mem_singleton.2 rfl))
    by_cases he : xs[p + 1]? = xs[p]?
    · have hee : xs[p + 1] = xs[p] := by
        rw [hx, hy] at he
        exact Option.some.inj he
      rw [ddl_skip he]
      refine ⟨i1, fun x => ?_, fun x hm y hz => i3 x hm y ?_⟩
      · rw [i2, htk, List.mem_append, List.mem_singleton, hee]
        constructor
        · exact Or.inl
        · rintro (h | rfl)
          · exact h
          · exact htk0
      · have : xs[p + 1]? = some y := hz
        rw [he] at this
        exact this
    · rw [ddl_snoc hx he]
      have hne : xs[p + 1] ≠ xs[p] := fun e => he (by rw [hx, hy, e])
      have hlt : clt xs[p] xs[p + 1] = true := by
        cases hc : clt xs[p] xs[p + 1]
        · exact absurd (clt_tot hle hc) hne
        · rfl
      have hall : ∀ x ∈ ddl xs (p + 1), clt x xs[p + 1] = true := fun x hm => by
        rcases i3 x hm xs[p] hy with h | h
        · exact clt_tr h hlt
        · rw [h]; exact hlt
      refine ⟨?_, fun x => ?_, fun x hm y hz => ?_⟩
      · unfold CInc
        rw [List.pairwise_append]
        refine ⟨i1, by simp, fun a ha b hb => ?_⟩
        simp only [List.mem_singleton] at hb
        rw [hb]
        exact hall a ha
      · rw [htk, List.mem_append, List.mem_append, i2]
      · have : xs[p + 1]? = some y := hz
        rw [hx] at this
        obtain rfl := Option.some.inj this
        rcases List.mem_append.1 hm with hm | hm
        · exact Or.inl (hall x hm)
        · simp only [List.mem_singleton] at hm
          exact Or.inr hm
/-- sorting and freeing of repetitions is putting one after the other -/
theorem ddl_cputs {xs ys : List (Int × Int)} (hp : ys.Perm xs) (hs : ys.Pairwise (fun a b => clt b a = false)) : ddl ys ys.length = cputs xs := by
  have h1 := ddl_sorted hs ys.length (Nat.le_refl _)
  have h2 := inc_cputs xs [] List.Pairwise.nil
  refine CInc.ext h1.1 h2.1 fun x => ?_
  rw [h1.2.1, List.take_length, hp.mem_iff]
  refine Iff.trans ?_ (h2.2 x).symm
  simp
end M
end Go.Proofs.Ytpemckpnlemkfaa
