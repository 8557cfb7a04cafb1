/-
  Plain mathematics: increasing lists, a number put in its place; twist numbers by their distance.
-/
import Derived.Test.YtodgfechhielaaaGreatDoorPlain5
namespace Go.Proofs.YtodgfechhielaaaGreatDoor
set_option linter.unusedSimpArgs false
set_option linter.unusedVariables false
namespace M
/-- strictly increasing -/
def Inc (l : List Int) : Prop := l.Pairwise (· < ·)
theorem Inc.ext : ∀ {l m : List Int}, Inc l → Inc m → (∀ x, x ∈ l ↔ x ∈ m) → l = m
  | [], [], _, _, _ => rfl
  | [], y :: m, _, _, h => absurd ((h y).2 List.mem_cons_self) (by simp)
  | x :: l, [], _, _, h => absurd ((h x).1 List.mem_cons_self) (by simp)
  | x :: l, y :: m, h1, h2, h => by
    obtain ⟨a1, b1⟩ := List.pairwise_cons.1 h1
    obtain ⟨a2, b2⟩ := List.pairwise_cons.1 h2
    have hxy : x = y := by
      rcases List.mem_cons.1 ((h x).1 List.mem_cons_self) with e | e
      · exact e
      · rcases List.mem_cons.1 ((h y).2 List.mem_cons_self) with e' | e'
        · exact e'.symm
        · have := a1 y e'
          have := a2 x e
          omega
    subst hxy
    congr 1
    refine Inc.ext b1 b2 fun z => ⟨fun hz => ?_, fun hz => ?_⟩
    · rcases List.mem_cons.1 ((h z).1 (List.mem_cons_of_mem _ hz)) with e | e
      · have := a1 z hz; omega
      · exact e
    · rcases List.mem_cons.1 ((h z).2 (List.mem_cons_of_mem _ hz)) with e | e
      · have := a2 z hz; omega
      · exact e
theorem inc_upto (lo : Int) (k : Nat) : Inc (upto lo k) := by
  unfold Inc upto
  rw [List.pairwise_map]
  exact List.Pairwise.imp (fun h => by omega) List.pairwise_lt_range
theorem inc_sel (p : Int → Bool) (lo : Int) (k : Nat) : Inc (sel p lo k) := List.Pairwise.filter _ (inc_upto lo k)
/-- the place of a number, and the list with it -/
def place (xs : List Int) (n : Int) : Nat := (xs.takeWhile (decide <| · < n)).length
def put (xs : List Int) (n : Int) : List Int := if xs[place xs n]? = some n then xs else xs.take (place xs n) ++ [n] ++ xs.drop (place xs n)
theorem place_le (xs : List Int) (n : Int) : place xs n ≤ xs.length := by
  have := (List.takeWhile_prefix (decide <| · < n) (l := xs)).length_le
  exact this
theorem place_eq : ∀ (xs : List Int) (n : Int) (k : Nat), k ≤ xs.length → (∀ j y, j < k → xs[j]? = some y → y < n) → (∀ y, xs[k]? = some y → ¬ y < n) → k = place xs n
  | [], n, k, hk, _, _ => by simp at hk; simp [place, hk]
  | x :: xs, n, 0, _, _, h => by
    have := h x rfl
    simp [place, List.takeWhile_cons, this]
  | x :: xs, n, k + 1, hk, h1, h2 => by
    have hx := h1 0 x (by omega) rfl
    have ih := place_eq xs n k (by simpa using hk) (fun j y hj hy => h1 (j + 1) y (by omega) (by simpa using hy)) (fun y hy => h2 y (by simpa using hy))
    simp only [place, List.takeWhile_cons, hx, decide_true, if_true, List.length_cons]
    unfold place at ih
    omega
theorem inc_put {xs : List Int} {n : Int} (h : Inc xs) : Inc (put xs n) ∧ ∀ x, x ∈ put xs n ↔ x ∈ xs ∨ x = n := by
  have hp := place_le xs n
  have h1 : ∀ y ∈ xs.take (place xs n), y < n := by
    intro y hy
    have e : xs.take (place xs n) = xs.takeWhile (decide <| · < n) := by
      have := List.takeWhile_prefix (decide <| · < n) (l := xs)
      exact (List.prefix_iff_eq_take.1 this).symm
    rw [e] at hy
    have := List.all_takeWhile (p := (decide <| · < n)) (l := xs)
    have := List.all_eq_true.1 this y hy
    simpa using this
  have h2 : ∀ y, xs[place xs n]? = some y → ¬ y < n := by
    intro y hy
    have hd : xs.dropWhile (decide <| · < n) = xs.drop (place xs n) := by
      have e1 := List.takeWhile_append_dropWhile (p := (decide <| · < n)) (l := xs)
      have e2 : (xs.takeWhile (decide <| · < n) ++ xs.dropWhile (decide <| · < n)).drop (place xs n) = xs.dropWhile (decide <| · < n) := List.drop_left' rfl
      rw [e1] at e2
      exact e2.symm
    have hh := List.head?_dropWhile_not (p := (decide <| · < n)) (l := xs)
    rw [hd, List.head?_drop, hy] at hh
    simpa using hh
  have hs : xs = xs.take (place xs n) ++ xs.drop (place xs n) := (List.take_append_drop _ _).symm
  unfold put
  split
  · rename_i he
    refine ⟨h, fun x => ⟨Or.inl, fun hx => ?_⟩⟩
    rcases hx with hx | rfl
    · exact hx
    · exact List.mem_of_getElem? he
  · rename_i he
    have hgt : ∀ y ∈ xs.drop (place xs n), n < y := by
      intro y hy
      cases hd : xs.drop (place xs n) with
      | nil => rw [hd] at hy; cases hy
      | cons z zs =>
        have hz : xs[place xs n]? = some z := by rw [← List.head?_drop, hd]; rfl
        have hzn : n < z := by
          have := h2 z hz
          have : z ≠ n := fun e => he (by rw [hz, e])
          omega
        have hinc : Inc (xs.drop (place xs n)) := List.Pairwise.sublist (List.drop_sublist _ _) h
        rw [hd] at hinc hy
        rcases List.mem_cons.1 hy with e | e
        · omega
        · have := (List.pairwise_cons.1 hinc).1 y e
          omega
    refine ⟨?_, fun x => ?_⟩
    · unfold Inc
      rw [List.append_assoc, List.pairwise_append]
      refine ⟨List.Pairwise.sublist (List.take_sublist _ _) h, ?_, fun a ha b hb => ?_⟩
      · rw [List.pairwise_append]
        refine ⟨by simp, List.Pairwise.sublist (List.drop_sublist _ _) h, fun a ha b hb => ?_⟩
        simp only [List.mem_singleton] at ha
        subst ha
        exact hgt b hb
      · have ha' := h1 a ha
        rcases List.mem_append.1 hb with hb | hb
        · simp only [List.mem_singleton] at hb
          omega
        · have := hgt b hb; omega
    · simp only [List.mem_append, List.mem_singleton]
      constructor
      · rintro ((hx | hx) | hx)
        · exact Or.inl (List.mem_of_mem_take hx)
        · exact Or.inr hx
        · exact Or.inl (List.mem_of_mem_drop hx)
      · rintro (hx | hx)
        · rw [hs, List.mem_append] at hx
          rcases hx with hx | hx
          · exact Or.inl (Or.inl hx)
          · exact Or.inr hx
        · exact Or.inl (Or.inr hx)
theorem put_le (xs : List Int) (n : Int) : (put xs n).length ≤ xs.length + 1 := by
  have hp := place_le xs n
  unfold put
  split
  · omega
  · simp only [List.length_append, List.length_take, List.length_drop, List.length_singleton]
    omega
/-- put one after the other, those that pass a test -/
def puts (f : Int → Bool) (l : List Int) : List Int := l.foldl (fun acc d => if f d then put acc d else acc) []
theorem inc_puts (f : Int → Bool) : ∀ (l : List Int) (acc : List Int), Inc acc → Inc (l.foldl (fun acc d => if f d then put acc d else acc) acc) ∧ ∀ x, x ∈ l.foldl (fun acc d => if f d then put acc d else acc) acc ↔ x ∈ acc ∨ x ∈ l ∧ f x = true
  | [], acc, h => ⟨h, by simp⟩
  | d :: l, acc, h => by
    have hs : Inc (if f d then put acc d else acc) ∧ ∀ x, x ∈ (if f d then put acc d else acc) ↔ x ∈ acc ∨ x = d ∧ f d = true := by
      split
      · rename_i hf
        have := inc_put (n := d) h
        exact ⟨this.1, fun x => by rw [this.2]; simp [hf]⟩
      · rename_i hf
        exact ⟨h, fun x => by simp [hf]⟩
    have ih := inc_puts f l _ hs.1
    rw [List.foldl_cons]
    refine ⟨ih.1, fun x => ?_⟩
    rw [ih.2, hs.2, List.mem_cons]
    constructor
    · rintro ((h | ⟨rfl, h⟩) | ⟨h, h'⟩)
      · exact Or.inl h
      · exact Or.inr ⟨Or.inl rfl, h⟩
      · exact Or.inr ⟨Or.inr h, h'⟩
    · rintro (h | ⟨rfl | h, h'⟩)
      · exact Or.inl (Or.inl h)
      · exact Or.inl (Or.inr ⟨rfl, h'⟩)
      · exact Or.inr ⟨h, h'⟩
/-- twist numbers, the nearest to 0 first, negative ones before -/
def near : Nat → List Int
  | 0 => []
  | k + 1 => near k ++ if tw ((k : Int) + 1) then [-((k : Int) + 1), (k : Int) + 1] else []
theorem tw_neg (d : Int) : tw (-d) = tw d := by
  rw [Bool.eq_iff_iff, tw_iff, tw_iff]
  omega
theorem mem_near : ∀ (k : Nat) (x : Int), x ∈ near k ↔ tw x = true ∧ x.natAbs ≤ k
  | 0, x => by
    simp only [near, List.not_mem_nil, false_iff]
    rintro ⟨h1, h2⟩
    have := (tw_iff.1 h1).1
    omega
  | k + 1, x => by
    rw [near, List.mem_append, mem_near k x]
    split
    · rename_i ht
      simp only [List.mem_cons, List.not_mem_nil, or_false]
      constructor
      · rintro (⟨h1, h2⟩ | rfl | rfl)
        · exact ⟨h1, by omega⟩
        · exact ⟨by rw [tw_neg]; exact ht, by omega⟩
        · exact ⟨ht, by omega⟩
      · rintro ⟨h1, h2⟩
        rcases Nat.lt_or_ge x.natAbs (k + 1) with h | h
        · exact Or.inl ⟨h1, by omega⟩
        · right; omega
    · rename_i ht
      simp only [List.not_mem_nil, or_false]
      constructor
      · rintro ⟨h1, h2⟩
        exact ⟨h1, by omega⟩
      · rintro ⟨h1, h2⟩
        refine ⟨h1, ?_⟩
        rcases Nat.lt_or_ge x.natAbs (k + 1) with h | h
        · omega
        · exfalso
          apply ht
          rcases (show x = (k : Int) + 1 ∨ x = -((k : Int) + 1) by omega) with e | e
          · rw [← e]; exact h1
          · rw [← tw_neg, ← e]; exact h1
theorem near_le : ∀ k : Nat, (near k).length ≤ 2 * k
  | 0 => by simp [near]
  | k + 1 => by
    have := near_le k
    rw [near, List.length_append]
    split <;> simp <;> omega
/-- those with a valid twist -/
def twOk (a b d : Int) : Bool := good (a * d * d) (b * d * d * d)
def twp (a b d : Int) : Bool := tw d && twOk a b d
def tws (a b : Int) : List Int := sel (twp a b) (-30) 61
theorem tws_puts (a b : Int) : puts (twOk a b) (near 30) = tws a b := by
  have h := inc_puts (twOk a b) (near 30) [] List.Pairwise.nil
  refine Inc.ext h.1 (inc_sel _ _ _) fun x => ?_
  refine (h.2 x).trans ?_
  rw [mem_near, tws, mem_sel]
  simp only [List.not_mem_nil, false_or, twp, Bool.and_eq_true]
  constructor
  · rintro ⟨⟨h1, h2⟩, h3⟩
    exact ⟨by omega, h1, h3⟩
  · rintro ⟨h1, h2, h3⟩
    have := tw_iff.1 h2
    exact ⟨⟨h2, by omega⟩, h3⟩
end M
end Go.Proofs.YtodgfechhielaaaGreatDoor
