/-
  How bytes that came in are opened.
-/
import Derived.Test.YtgkjmjlkhnfbiaaGreatHKit
import Derived.Test.YtgkjmjlkhnfbiaaGreatB2
namespace Go.Proofs.YtgkjmjlkhnfbiaaGreat
set_option linter.unusedSimpArgs false
set_option linter.unusedVariables false
open Go.ChangeShapes Go.WideShapes Go.ChangeAt Go.RowKit Go.Joins Go.Deep

theorem open_bytes {H : Type} {enc : TypeId × Value → H} {P : Program} {w : World} {base b0 : Nat} {held : Bool} {r : Reach} {t te : TypeId} {v : Value} {d : DataW H} {ps : List MemPlace}
    (ht : P.underlying t = some (.slice te)) (he : P.underlying te = some (.int .u8)) (hc : P.cellsOf te = 1) (hv : Value.okWide P w r b0 t v) (h : DataW.Trod enc P w base (fun _ => true) held t v d ps) :
    ∃ n : Nat, Bytes w w.heap.size v n := by
  obtain ⟨a1, len, cap, rfl⟩ := okWide_slice ht hv
  obtain ⟨fuel, hf⟩ := h
  rcases open_ints ht he hc hf with ⟨hcs, hx⟩ | ⟨a, len', cap', zs, hcs, _, hl, hm, hz, hx, hcell, hwz⟩
  · simp [Value.cells] at hcs
    obtain ⟨rfl, rfl, rfl⟩ := hcs
    exact ⟨0, none, 0, rfl, by omega, fun j hj => absurd hj (by omega)⟩
  · simp [Value.cells] at hcs
    obtain ⟨rfl, rfl, rfl⟩ := hcs
    simp only [if_true] at hz
    refine ⟨len, some a, cap, rfl, by unfold maxLen at hm; omega, fun j hj => ?_⟩
    obtain ⟨ab, ao, spot⟩ := a
    have hspot : spot = none := by simpa [Addr.add] using World.cell?_spot (hcell 0 (by omega))
    subst hspot
    have hcj := hcell j (by omega)
    rw [Addr.add_lit] at hcj
    have hb : 0 ≤ zs.getD j 0 ∧ zs.getD j 0 ≤ 255 := by
      have := range_u8 hwz j
      simp only [List.getD_eq_getElem?_getD] at this ⊢
      omega
    exact ⟨ab, ao, zs.getD j 0, rfl, World.block_lt_of_cell? w _ hcj, hcj, hb.1, hb.2⟩
end Go.Proofs.YtgkjmjlkhnfbiaaGreat
