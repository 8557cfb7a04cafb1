/-
  Plain: curves grouped by their models.
-/
import Derived.Test.YtpemckpnlemkfaaPlain1
namespace Go.Proofs.Ytpemckpnlemkfaa
set_option linter.unusedSimpArgs false
set_option linter.unusedVariables false
namespace M
/-- a row takes index i: its first index has the same model -/
def mrow (ms : List (Int × Int)) (i : Nat) (r : List Int) : Bool := ms[(r.headD 0).toNat]? == ms[i]?
def addG (m : List Int → Bool) (i : Nat) (rs : List (List Int)) : List (List Int) :=
  if rs.findIdx m < rs.length then rs.set (rs.findIdx m) (rs.getD (rs.findIdx m) [] ++ [(i : Int)]) else rs ++ [[(i : Int)]]
def grp (ms : List (Int × Int)) : Nat → List (List Int)
  | 0 => []
  | i + 1 => addG (mrow ms i) i (grp ms i)
/-- h is the first index with its model -/
def Fst (ms : List (Int × Int)) (h : Nat) : Prop := ∀ j, j < h → ms[j]? ≠ ms[h]?
structure GI (ms : List (Int × Int)) (i : Nat) (rs : List (List Int)) : Prop where
  row : ∀ r ∈ rs, ∃ (h : Nat) (t : List Int), r = (h : Int) :: t ∧ h < i ∧ Fst ms h ∧ t.length < i
  all : ∀ x, x < i → ∃ r ∈ rs, ms[(r.headD 0).toNat]? = ms[x]?
  len : rs.length ≤ i
theorem addG_find {m : List Int → Bool} {i k : Nat} {rs : List (List Int)} {r : List Int} (hk : rs[k]? = some r) (h1 : m r = true) (h2 : ∀ q ∈ rs.take k, m q = false) : rs.findIdx m = k ∧ addG m i rs = rs.set k (r ++ [(i : Int)]) := by
  obtain ⟨hl, he⟩ := List.getElem?_eq_some_iff.1 hk
  have e : rs.findIdx m = k := by
    rw [List.findIdx_eq hl]
    refine ⟨by rw [he]; exact h1, fun j hj => ?_⟩
    exact h2 _ (List.mem_take_iff_getElem.2 ⟨j, by omega, rfl⟩)
  refine ⟨e, ?_⟩
  unfold addG
  rw [e, if_pos hl, List.getD_eq_getElem?_getD, hk]
  rfl
theorem addG_none {m : List Int → Bool} {i : Nat} {rs : List (List Int)} (h : ∀ q ∈ rs, m q = false) : addG m i rs = rs ++ [[(i : Int)]] := by
  have e : rs.findIdx m = rs.length := List.findIdx_eq_length.2 h
  unfold addG
  rw [e, if_neg (by omega)]
theorem set_mem {α : Type} {l : List α} {k : Nat} {x y : α} (h : y ∈ l.set k x) : y ∈ l ∨ y = x := by
  rcases List.mem_or_eq_of_mem_set h with h | h
  · exact Or.inl h
  · exact Or.inr h
theorem grp_inv (ms : List (Int × Int)) : ∀ i : Nat, GI ms i (grp ms i)
  | 0 => ⟨fun r h => by simp [grp] at h, fun x h => by omega, by simp [grp]⟩
  | i + 1 => by
    obtain ⟨h1, h2, h3⟩ := grp_inv ms i
    rw [grp]
    generalize grp ms i = rs at *
    by_cases hf : ∃ q ∈ rs, mrow ms i q = true
    · have hl : rs.findIdx (mrow ms i) < rs.length := List.findIdx_lt_length.2 hf
      have hm := List.findIdx_getElem (w := hl)
      have he : rs[rs.findIdx (mrow ms i)]? = some (rs[rs.findIdx (mrow ms i)]'hl) := List.getElem?_eq_getElem hl
      have hmem := List.getElem_mem hl
      unfold addG
      rw [if_pos hl, List.getD_eq_getElem?_getD, he]
      generalize rs.findIdx (mrow ms i) = k at *
      generalize rs[k]'hl = r at *
      obtain ⟨h, t, rfl, k1, k2, k3⟩ := h1 r hmem
      simp only [Option.getD_some]
      refine ⟨fun q hq => ?_, fun x hx => ?_, by rw [List.length_set]; omega⟩
      · rcases set_mem hq with hq | rfl
        · obtain ⟨h', t', e, l1, l2, l3⟩ := h1 q hq
          exact ⟨h', t', e, by omega, l2, by omega⟩
        · exact ⟨h, t ++ [(i : Int)], rfl, by omega, k2, by simp; omega⟩
      · have hk : k < (rs.set k (((h : Int) :: t) ++ [(i : Int)])).length := by rw [List.length_set]; exact hl
        have hin : ((h : Int) :: t) ++ [(i : Int)] ∈ rs.set k (((h : Int) :: t) ++ [(i : Int)]) := List.mem_iff_getElem.2 ⟨k, hk, by simp⟩
        by_cases hxi : x = i
        · subst hxi
          exact ⟨_, hin, by simpa [mrow] using hm⟩
        · obtain ⟨q, hq, e⟩ := h2 x (by omega)
          by_cases hqr : q = (h : Int) :: t
          · subst hqr
            exact ⟨_, hin, e⟩
          · obtain ⟨j, hj, rfl⟩ := List.mem_iff_getElem.1 hq
            have hjk : k ≠ j := fun hjk => by
              subst hjk
              rw [List.getElem?_eq_getElem hj] at he
              exact hqr (Option.some.inj he)
            exact ⟨rs[j], List.mem_iff_getElem.2 ⟨j, by rw [List.length_set]; exact hj, by rw [List.getElem_set_ne hjk]⟩, e⟩
    · have hf' : ∀ q ∈ rs, mrow ms i q = false := fun q hq => by
        cases h : mrow ms i q
        · rfl
        · exact absurd ⟨q, hq, h⟩ hf
      rw [addG_none hf']
      refine ⟨fun q hq => ?_, fun x hx => ?_, by simp; omega⟩
      · rcases List.mem_append.1 hq with hq | hq
        · obtain ⟨h', t', e, l1, l2, l3⟩ := h1 q hq
          exact ⟨h', t', e, by omega, l2, by omega⟩
        · simp only [List.mem_singleton] at hq
          subst hq
          refine ⟨i, [], rfl, by omega, fun j hj he => ?_, by simp⟩
          obtain ⟨q, hq, e⟩ := h2 j hj
          have := hf' q hq
          unfold mrow at this
          rw [e, he] at this
          simp at this
      · by_cases hxi : x = i
        · subst hxi
          exact ⟨[(x : Int)], by simp, by simp⟩
        · obtain ⟨q, hq, e⟩ := h2 x (by omega)
          exact ⟨q, by simp [hq], e⟩
/-- what the program asks of a row -/
def prow (f : Int) (r : List Int) : Bool := (r.length == 0) || (r.headD 0 == f)
theorem prow_row {ms : List (Int × Int)} {i f : Nat} {rs : List (List Int)} (h : GI ms i rs) (hf : ms[f]? = ms[i]?) (hm : ∀ j, j < f → ms[j]? ≠ ms[i]?) {r : List Int} (hr : r ∈ rs) : prow f r = mrow ms i r := by
  obtain ⟨h', t, rfl, l1, l2, l3⟩ := h.row r hr
  unfold prow mrow
  by_cases e : ms[h']? = ms[i]?
  · have : h' = f := by
      rcases Nat.lt_trichotomy h' f with k | k | k
      · exact absurd e (hm h' k)
      · exact k
      · exact absurd (hf.trans e.symm) (l2 f k)
    subst this
    simp [hf]
  · have : ¬ (h' : Int) = f := fun k => by
      obtain rfl : h' = f := by omega
      exact e hf
    have a1 : ((h' : Int) == (f : Int)) = false := beq_eq_false_iff_ne.2 this
    have a2 : (ms[h']? == ms[i]?) = false := beq_eq_false_iff_ne.2 e
    simp [a1, a2]
theorem first_none {ms : List (Int × Int)} {i : Nat} {rs : List (List Int)} (h : GI ms i rs) (hm : ∀ j, j < i → ms[j]? ≠ ms[i]?) : ∀ r ∈ rs, mrow ms i r = false := fun r hr => by
  obtain ⟨h', t, rfl, l1, l2, l3⟩ := h.row r hr
  unfold mrow
  have := hm h' l1
  simp [this]
theorem first_some {ms : List (Int × Int)} {i f : Nat} {rs : List (List Int)} (h : GI ms i rs) (hl : f < i) (hf : ms[f]? = ms[i]?) : ∃ r ∈ rs, mrow ms i r = true := by
  obtain ⟨r, hr, e⟩ := h.all f hl
  exact ⟨r, hr, by unfold mrow; rw [e, hf]; simp⟩
end M
end Go.Proofs.Ytpemckpnlemkfaa
