/-
  Slices of slices of numbers, marked and held by a law.
-/
import Derived.Test.YtodgfechhielaaaGreatDoorS4
namespace Go.Proofs.YtodgfechhielaaaGreatDoor
set_option linter.unusedSimpArgs false
set_option linter.unusedVariables false
open Go.RowKit

/-- a slice of slices of numbers -/
def OwnII (w : World) (base : Nat) (v : Value) (rows : List (List Int)) : Prop := ∃ vs, OwnV w base v vs rows
theorem OwnII.nil (w : World) (base : Nat) : OwnII w base (.slice none 0 0) [] := ⟨[], OwnV.nil w base⟩
theorem OwnII.base {w : World} {base base' : Nat} {v : Value} {rows : List (List Int)} (h : OwnII w base v rows) (hb : base' ≤ base) : OwnII w base' v rows := h.elim fun vs k => ⟨vs, k.base hb⟩
theorem OwnII.below {w w' : World} {base : Nat} {v : Value} {rows : List (List Int)} (h : OwnII w base v rows) (hb : Below w.heap.size w w') : OwnII w' base v rows := h.elim fun vs k => ⟨vs, k.below hb⟩
theorem OwnII.seen {w : World} {base : Nat} {v : Value} {rows : List (List Int)} (h : OwnII w base v rows) : SeenII w w.heap.size v rows := h.elim fun _ k => k.seen

/-- the numbers from k on, through all rows -/
def M.tot (rows : List (List Int)) : Nat := (rows.map List.length).sum
def M.marksL (k : Int) : List (List Int) → List (List Int)
  | [] => []
  | r :: rs => M.marks k r.length :: M.marksL (k + r.length) rs
theorem M.tot_append (l m : List (List Int)) : M.tot (l ++ m) = M.tot l + M.tot m := by simp [M.tot]
theorem M.marksL_len (k : Int) : ∀ rows : List (List Int), (M.marksL k rows).length = rows.length
  | [] => rfl
  | r :: rs => by simp [M.marksL, M.marksL_len]
theorem M.marksL_snoc (k : Int) (r : List Int) : ∀ l : List (List Int), M.marksL k (l ++ [r]) = M.marksL k l ++ [M.marks (k + M.tot l) r.length]
  | [] => by simp [M.marksL, M.tot]
  | q :: l => by
    have e : k + (q.length : Int) + (M.tot l : Int) = k + (M.tot (q :: l) : Int) := by
      have : M.tot (q :: l) = q.length + M.tot l := by simp [M.tot]
      rw [this]
      push_cast
      omega
    simp only [List.cons_append, M.marksL, M.marksL_snoc _ r l]
    rw [e]
theorem M.take_snoc {rows : List (List Int)} {j : Nat} {r : List Int} (h : rows[j]? = some r) : rows.take (j + 1) = rows.take j ++ [r] := by
  obtain ⟨hk, e⟩ := List.getElem?_eq_some_iff.1 h
  rw [List.take_succ_eq_append_getElem hk, e]
theorem M.marksL_step {k : Int} {rows : List (List Int)} {j : Nat} {r : List Int} (h : rows[j]? = some r) :
    (M.marksL k (rows.take j) ++ rows.drop j).set j (M.marks (k + M.tot (rows.take j)) r.length) = M.marksL k (rows.take (j + 1)) ++ rows.drop (j + 1) := by
  obtain ⟨hk, e⟩ := List.getElem?_eq_some_iff.1 h
  have hl : (M.marksL k (rows.take j)).length = j := by rw [M.marksL_len, List.length_take]; omega
  rw [List.set_append_right _ _ (by omega), hl, Nat.sub_self, List.drop_eq_getElem_cons hk, List.set_cons_zero, M.take_snoc h, M.marksL_snoc]
  simp
theorem M.tot_le {rows : List (List Int)} {j : Nat} {r : List Int} (h : rows[j]? = some r) : M.tot (rows.take j) + r.length ≤ M.tot rows := by
  have e : rows = rows.take (j + 1) ++ rows.drop (j + 1) := (List.take_append_drop _ _).symm
  have h2 := congrArg M.tot e
  rw [M.tot_append, M.take_snoc h, M.tot_append] at h2
  have : M.tot [r] = r.length := by simp [M.tot]
  omega

theorem OwnV.mark {w w' : World} {base : Nat} {v : Value} {vs : List Value} {rows : List (List Int)} {j : Nat} {u : Value} {r : List Int} (h : OwnV w base v vs rows) (hj : vs[j]? = some u) (hu : OwnI w' base u r) (hg : w.grownBy w' u.ownBlock) : OwnV w' base v vs (rows.set j r) := by
  obtain ⟨h1, h2, h3, h4⟩ := h
  have hjl := (List.getElem?_eq_some_iff.1 hj).1
  have hur := h3 j u _ hj (List.getElem?_eq_getElem (by omega))
  refine ⟨by rw [List.length_set]; exact World.ownsRow.kept h1 hg (by
      cases hb : u.ownBlock with
      | none => cases hv : v.ownBlock <;> simp
      | some g => exact Or.inr (own_ne (t1 := 30) (t2 := 3) h1 hur ints_ne_int g hb)), by rw [List.length_set]; exact h2, fun i z q hz hq => ?_, h4⟩
  by_cases hij : j = i
  · subst hij
    rw [hj] at hz
    rw [List.getElem?_set_self (by omega)] at hq
    obtain rfl := Option.some.inj hz
    obtain rfl := Option.some.inj hq
    exact hu
  · rw [List.getElem?_set_ne hij] at hq
    refine (h3 i z q hz hq).kept hg fun g hb => ?_
    have hil := (List.getElem?_eq_some_iff.1 hz).1
    obtain ⟨_, ez⟩ := List.getElem?_eq_some_iff.1 hz
    obtain ⟨_, ej⟩ := List.getElem?_eq_some_iff.1 hj
    have hp := List.pairwise_iff_getElem.1 h4
    rcases Nat.lt_or_gt_of_ne hij with hlt | hlt
    · have := hp j i hjl hil hlt g (by rw [ej]; exact hb)
      rwa [ez] at this
    · intro hzb
      have := hp i j hil hjl hlt g (by rw [ez]; exact hzb)
      rw [ej] at this
      exact this hb

end Go.Proofs.YtodgfechhielaaaGreatDoor
