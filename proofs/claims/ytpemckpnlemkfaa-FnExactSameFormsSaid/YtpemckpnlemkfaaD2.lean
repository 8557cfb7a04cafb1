/-
  Contracts: the first prime with different traces.
-/
import Derived.Test.YtpemckpnlemkfaaD1
namespace Go.Proofs.Ytpemckpnlemkfaa
set_option linter.unusedSimpArgs false
set_option linter.unusedVariables false
open Go.RowKit

theorem box2_0 (w : World) (cs ds : Array Value) (T U : TypeId) (j : Nat) : ((w.alloc (.cells cs T)).alloc (.cells ds U)).cell? ⟨w.heap.size, j, none⟩ = cs[j]? := by
  rw [World.cell?_alloc_past _ _ _ (by rw [World.size_alloc]; omega), World.cell?_alloc_at _ _ _ _ rfl]
theorem box2_1 (w : World) (cs ds : Array Value) (T U : TypeId) (j : Nat) : ((w.alloc (.cells cs T)).alloc (.cells ds U)).cell? ⟨w.heap.size + 1, j, none⟩ = ds[j]? := by
  rw [World.cell?_alloc_at _ _ _ _ (by rw [World.size_alloc])]

theorem find_hit {f : Int → Bool} {xs : List Int} {k : Nat} {x : Int} (h0 : (xs.take k).find? f = none) (hx : xs[k]? = some x) (hf : f x = true) : xs.find? f = some x := by
  have h := take_next hx
  have e : xs = xs.take (k + 1) ++ xs.drop (k + 1) := (List.take_append_drop _ _).symm
  rw [e, List.find?_append, h, List.find?_append, h0]
  simp [hf]
theorem find_next {f : Int → Bool} {xs : List Int} {k : Nat} {x : Int} (h0 : (xs.take k).find? f = none) (hx : xs[k]? = some x) (hf : f x = false) : (xs.take (k + 1)).find? f = none := by
  rw [take_next hx, List.find?_append, h0]
  simp [hf]

noncomputable def fdV (a b c d n : Int) : Int := (M.firstD a b c d n).getD 0
noncomputable def fdB (a b c d n : Int) : Bool := (M.firstD a b c d n).isSome

end Go.Proofs.Ytpemckpnlemkfaa
