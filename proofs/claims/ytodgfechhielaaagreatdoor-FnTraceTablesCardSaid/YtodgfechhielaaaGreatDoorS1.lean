/-
  Slices of numbers, read and marked by a law.
-/
import Derived.Test.YtodgfechhielaaaGreatDoorC3
import Derived.Test.YtodgfechhielaaaGreatDoorC4
import Derived.Test.YtodgfechhielaaaGreatDoorC2
namespace Go.Proofs.YtodgfechhielaaaGreatDoor
set_option linter.unusedSimpArgs false
set_option linter.unusedVariables false
open Go.RowKit

/-- a slice of numbers that can be read; its cells lie below block hi -/
def SeenI (w : World) (hi : Nat) (v : Value) (xs : List Int) : Prop :=
  ∃ (a : Option Addr) (cap : Nat), v = .slice a xs.length cap ∧ (xs.length : Int) ≤ 9223372036854775807 ∧
    ∀ k, k < xs.length → ∃ g x, a = some ⟨g, 0, none⟩ ∧ g < hi ∧ Hid (xs[k]? = some x) ∧ w.cell? ⟨g, k, none⟩ = some (.int .i64 x)
theorem SeenI.below {w w' : World} {hi : Nat} {v : Value} {xs : List Int} (h : SeenI w hi v xs) (hb : Below hi w w') : SeenI w' hi v xs := by
  obtain ⟨a, cap, h1, h2, h3⟩ := h
  refine ⟨a, cap, h1, h2, fun k hk => ?_⟩
  obtain ⟨g, x, e1, e2, e3, e4⟩ := h3 k hk
  exact ⟨g, x, e1, e2, e3, (hb.cell (p := ⟨g, k, none⟩) e2).trans e4⟩
theorem SeenI.mono {w : World} {hi hi' : Nat} {v : Value} {xs : List Int} (h : SeenI w hi v xs) (hh : hi ≤ hi') : SeenI w hi' v xs := by
  obtain ⟨a, cap, h1, h2, h3⟩ := h
  refine ⟨a, cap, h1, h2, fun k hk => ?_⟩
  obtain ⟨g, x, e1, e2, e3, e4⟩ := h3 k hk
  exact ⟨g, x, e1, by omega, e3, e4⟩
theorem OwnI.seen {w : World} {base : Nat} {v : Value} {xs : List Int} (h : OwnI w base v xs) : SeenI w w.heap.size v xs := by
  obtain ⟨a, cap, h1, h2, h3⟩ := h.view
  refine ⟨a, cap, h1, h2, fun k hk => ?_⟩
  obtain ⟨g, x, e1, e2, e3, e4⟩ := h3 k hk
  exact ⟨g, x, e1, World.block_lt_of_cell? w _ e4, e3, e4⟩
theorem SeenI.len {w : World} {hi : Nat} {v : Value} {xs : List Int} (h : SeenI w hi v xs) : (xs.length : Int) ≤ 9223372036854775807 := by
  obtain ⟨a, cap, h1, h2, h3⟩ := h
  exact h2

end Go.Proofs.YtodgfechhielaaaGreatDoor
