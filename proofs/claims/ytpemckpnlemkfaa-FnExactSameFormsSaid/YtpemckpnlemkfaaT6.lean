/-
  How curves that came in are opened.
-/
import Derived.Test.YtpemckpnlemkfaaKit
import Derived.Test.YtpemckpnlemkfaaT5
import Derived.Deep.SlicePairs
namespace Go.Proofs.Ytpemckpnlemkfaa
set_option linter.unusedSimpArgs false
set_option linter.unusedVariables false
open Go.ChangeShapes Go.WideShapes Go.ChangeAt Go.RowKit Go.Joins Go.Deep

theorem open_curves {H : Type} {enc : TypeId × Value → H} {P : Program} {w : World} {base b0 : Nat} {held : Bool} {r : Reach} {t te ti : TypeId} {f0 f1 : Field} {v : Value} {d : DataW H} {ps : List MemPlace}
    (ht : P.underlying t = some (.slice te)) (he : P.underlying te = some (.struct #[f0, f1])) (t0 : f0.type = ti) (t1 : f1.type = ti) (hi : P.underlying ti = some (.int .i64)) (ce : P.cellsOf te = 2) (o0 : f0.offset = 0) (o1 : f1.offset = 1)
    (ci : P.cellsOf ti = 1) (hv : Value.okWide P w r b0 t v) (h : DataW.Trod enc P w base (fun _ => true) held t v d ps) :
    ∃ xs : List (Int × Int), CurvesAt w v xs := by
  obtain ⟨a1, len, cap, rfl⟩ := okWide_slice ht hv
  obtain ⟨fuel, hf⟩ := h
  rcases open_slice_pairs ht he ce o0 o1 (by rw [t0]; exact ci) (by rw [t1]; exact ci) hf with ⟨hcs, hx⟩ | ⟨a, len', cap', m, n, V0, V1, D0, D1, P0, P1, hcs, hb, hl, hm, hmm, hx, hall⟩
  · simp [Value.cells] at hcs
    obtain ⟨rfl, rfl, rfl⟩ := hcs
    exact ⟨[], none, 0, rfl, by simp, fun k hk => absurd hk (by simp)⟩
  · simp [Value.cells] at hcs
    obtain ⟨rfl, rfl, rfl⟩ := hcs
    simp only [if_true] at hmm
    refine ⟨(List.range len).map fun i => (intOf (V0 i), intOf (V1 i)), some a, cap, by simp, by simp; unfold maxLen at hm; omega, fun k hk => ?_⟩
    have hk' : k < len := by simpa using hk
    obtain ⟨h1, h2, h3, h4⟩ := hall k (by omega)
    rw [t0] at h3
    rw [t1] at h4
    obtain ⟨x, ex, -, -⟩ := DataW.trod_int hi h3
    obtain ⟨y, ey, -, -⟩ := DataW.trod_int hi h4
    simp only [List.cons.injEq, and_true] at ex ey
    obtain ⟨ab, ao, spot⟩ := a
    have hspot : spot = none := by simpa [Addr.add] using World.cell?_spot (hall 0 (by omega)).1
    subst hspot
    rw [Addr.add_lit] at h1 h2
    rw [ex] at h1
    rw [ey] at h2
    exact ⟨ab, ao, (x, y), rfl, World.block_lt_of_cell? w _ h1, Lib.hid (by rw [List.getElem?_map, List.getElem?_range hk', Option.map_some, ex, ey]; rfl), h1, by rw [Nat.add_assoc]; exact h2⟩
end Go.Proofs.Ytpemckpnlemkfaa
