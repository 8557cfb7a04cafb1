/-
  Contracts: tables of traces.
-/
import Derived.Test.YtpemckpnlemkfaaS5
import Derived.Test.YtpemckpnlemkfaaD3
import Derived.Test.YtpemckpnlemkfaaD7
namespace Go.Proofs.Ytpemckpnlemkfaa
set_option linter.unusedSimpArgs false
set_option linter.unusedVariables false
open Go.RowKit

noncomputable def trRow (a b p : Int) : List Int := [p, M.trace a b p]
noncomputable def trRows (a b n : Int) : List (List Int) := (M.goods a b n).map (trRow a b)
theorem trRows_take {a b n : Int} {k : Nat} {p : Int} (h : (M.goods a b n)[k]? = some p) : ((M.goods a b n).take (k + 1)).map (trRow a b) = ((M.goods a b n).take k).map (trRow a b) ++ [trRow a b p] := by
  rw [take_next h, List.map_append]
  rfl
theorem OwnI.lit2 (w : World) (base : Nat) (x y : Int) (hb : base ≤ w.heap.size) : OwnI (w.alloc (.cells #[.int .i64 x, .int .i64 y] 3)) base (.slice (some ⟨w.heap.size, 0, none⟩) 2 2) [x, y] :=
  World.ownsRow_lit w #[.int .i64 x, .int .i64 y] 2 hb (by unfold maxLen; omega) rfl

theorem row_new {w w' : World} {base : Nat} {v : Value} {vs : List Value} {rows : List (List Int)} {n m : Nat} (h : OwnV w base v vs rows) (hb : Below w.heap.size w w') (z : Value) (hz : z ∈ vs) (g : Nat) (hzg : z.ownBlock = some g) (hg : (Value.slice (some ⟨w'.heap.size, 0, none⟩) n m).ownBlock = some g) : False := by
  have := ((h.below hb).lt z hz g hzg).2
  simp only [Value.ownBlock, Option.some.injEq] at hg
  omega

end Go.Proofs.Ytpemckpnlemkfaa
