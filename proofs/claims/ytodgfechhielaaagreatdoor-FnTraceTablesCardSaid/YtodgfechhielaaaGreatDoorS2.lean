/-
  Slices of numbers, marked and held by a law.
-/
import Derived.Test.YtodgfechhielaaaGreatDoorS1
import Derived.Laws.OwnMore
namespace Go.Proofs.YtodgfechhielaaaGreatDoor
set_option linter.unusedSimpArgs false
set_option linter.unusedVariables false
open Go.RowKit

theorem grown_tr {a b c : World} {r : Option Nat} (h : a.grownBy b r) (k : b.grownBy c r) : a.grownBy c r :=
  ⟨k.os.trans h.os, k.tape.trans h.tape, k.output.trans h.output, Nat.le_trans h.size k.size, fun i hi hne => (k.block i (Nat.lt_of_lt_of_le hi h.size) hne).trans (h.block i hi hne)⟩
theorem grown_rf (a : World) (r : Option Nat) : a.grownBy a r := ⟨rfl, rfl, rfl, Nat.le_refl _, fun _ _ _ => rfl⟩
theorem grown_dr {a b : World} {r : Option Nat} (h : a.grownBy b r) (n : Nat) : a.grownBy (b.drewN n) r := ⟨h.os, h.tape, h.output, h.size, h.block⟩
theorem grown_below {a b : World} {r : Option Nat} {base : Nat} (h : a.grownBy b r) (hb : base ≤ a.heap.size) (hr : ∀ k, r = some k → base ≤ k) : Below base a b :=
  ⟨h.os, h.tape, h.output, h.size, fun i hi => h.block i (by omega) (fun e => by have := hr i e.symm; omega)⟩
theorem below_grown {a b : World} (h : Below a.heap.size a b) (r : Option Nat) : a.grownBy b r := ⟨h.os, h.tape, h.output, h.size, fun i hi _ => h.block i hi⟩

/-- the numbers from k on -/
def M.marks (k : Int) (n : Nat) : List Int := M.upto k n
theorem M.marks_len (k : Int) (n : Nat) : (M.marks k n).length = n := by simp [M.marks, M.upto]
theorem M.marks_get {k : Int} {n j : Nat} (h : j < n) : (M.marks k n)[j]? = some (k + j) := by
  simp [M.marks, M.upto, h]
theorem M.marks_step {k : Int} {j : Nat} {xs : List Int} (h : j < xs.length) : (M.marks k j ++ xs.drop j).set j (k + j) = M.marks k (j + 1) ++ xs.drop (j + 1) := by
  have hl := M.marks_len k j
  rw [List.set_append_right _ _ (by omega)]
  rw [hl, Nat.sub_self, List.drop_eq_getElem_cons h, List.set_cons_zero]
  show _ = M.upto k (j + 1) ++ _
  rw [M.upto_succ]
  simp [M.marks]
theorem OwnI.set {w : World} {base g cap n j : Nat} {xs : List Int} (hn : n = xs.length) (h : OwnI w base (.slice (some ⟨g, 0, none⟩) n cap) xs) (x : Int) {ys : List Int} (he : ys = xs.set j x) :
    OwnI (w.setCell ⟨g, j, none⟩ (.int .i64 x)) base (.slice (some ⟨g, 0, none⟩) n cap) ys ∧ w.grownBy (w.setCell ⟨g, j, none⟩ (.int .i64 x)) (some g) := by
  subst he hn
  have := World.ownsRow.stored (g := g) (cap := cap) h j (.int .i64 x)
  refine ⟨?_, this.2⟩
  unfold OwnI
  rw [List.map_set, List.length_set]
  exact this.1
theorem OwnI.form {w : World} {base : Nat} {v : Value} {xs : List Int} (h : OwnI w base v xs) (hn : 0 < xs.length) : ∃ g cap, v = .slice (some ⟨g, 0, none⟩) xs.length cap ∧ base ≤ g ∧ g < w.heap.size := by
  rcases h.2 with ⟨rfl, h2⟩ | ⟨g, cap, cur, rfl, hg, hh, -⟩
  · omega
  · exact ⟨g, cap, rfl, hg, (Array.getElem?_eq_some_iff.1 hh).1⟩
theorem OwnI.nil_form {w : World} {base : Nat} {v : Value} {xs : List Int} (h : OwnI w base v xs) : ∃ a cap, v = .slice a xs.length cap := by
  obtain ⟨a, cap, h1, -⟩ := h.view
  exact ⟨a, cap, h1⟩

end Go.Proofs.YtodgfechhielaaaGreatDoor
