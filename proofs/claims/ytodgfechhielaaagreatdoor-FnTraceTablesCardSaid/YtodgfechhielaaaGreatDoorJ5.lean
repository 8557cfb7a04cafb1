/-
  Contracts: draws of arguments for laws on twists.
-/
import Derived.Test.YtodgfechhielaaaGreatDoorJ4
import Derived.Test.YtodgfechhielaaaGreatDoorC7
import Derived.Deep.DeepCutAuto
namespace Go.Proofs.YtodgfechhielaaaGreatDoor
set_option linter.unusedSimpArgs false
set_option linter.unusedVariables false
open Go.RowKit

theorem Bytes.keepB {w w' : World} {B n : Nat} {v : Value} (h : Bytes w B v n) (hb : Below B w w') : Bytes w' B v n := by
  obtain ⟨A, cap, e, hn, hx⟩ := h
  refine ⟨A, cap, e, hn, fun j hj => ?_⟩
  obtain ⟨gb, ob, b, e, hgb, hc, h1, h2⟩ := hx j hj
  exact ⟨gb, ob, b, e, hgb, (hb.cell (p := ⟨gb, ob + j, none⟩) hgb).trans hc, h1, h2⟩
theorem Bytes.mono {w : World} {B B' n : Nat} {v : Value} (h : Bytes w B v n) (hB : B ≤ B') : Bytes w B' v n := by
  obtain ⟨A, cap, e, hn, hx⟩ := h
  refine ⟨A, cap, e, hn, fun j hj => ?_⟩
  obtain ⟨gb, ob, b, e, hgb, hc, h1, h2⟩ := hx j hj
  exact ⟨gb, ob, b, e, by omega, hc, h1, h2⟩
/-- a new reader of bytes -/
theorem St.new {w W : World} {v : Value} {n : Nat} (h : Bytes w w.heap.size v n) (hb : Below w.heap.size w W) (T : TypeId) :
    St w (W.alloc (.cells #[v, .int .i64 0, .int .u64 0] T)) W.heap.size w.heap.size v n 0 := by
  have hb2 : Below w.heap.size w (W.alloc (.cells #[v, .int .i64 0, .int .u64 0] T)) := hb.alloc hb.size _
  refine ⟨⟨0, Nat.le_refl _, ⟨h.keepB hb2, hb.size, ?_, ?_, ⟨0, ?_⟩, by simp [go_sem], by simp [go_sem], by rw [World.size_alloc]; omega⟩⟩, below_grown hb2 _, hb.size⟩
  all_goals (rw [World.cell?_alloc_at _ _ _ _ rfl]; rfl)
theorem St.below {w W : World} {g B n K : Nat} {v : Value} (h : St w W g B v n K) (hg : w.heap.size ≤ g) : Below w.heap.size w W := grown_below h.gr (Nat.le_refl _) fun k hk => by cases hk; exact hg
def DrawCI (w : World) (e : Ending) (w' : World) : Prop := ∃ a b d : Int, e = .returned (.tuple #[.agg #[.int .i64 a, .int .i64 b], .int .i64 d]) ∧ Below w.heap.size w w'
def DrawCII (w : World) (e : Ending) (w' : World) : Prop := ∃ a b d p : Int, e = .returned (.tuple #[.agg #[.int .i64 a, .int .i64 b], .int .i64 d, .int .i64 p]) ∧ Below w.heap.size w w'
def DrawII (w : World) (e : Ending) (w' : World) : Prop := ∃ a b : Int, e = .returned (.tuple #[.int .i64 a, .int .i64 b]) ∧ Below w.heap.size w w'

end Go.Proofs.YtodgfechhielaaaGreatDoor
