/-
  Slices of numbers, sorted by the library.
-/
import Derived.Test.YtpemckpnlemkfaaS3
import Derived.Shelf.SlSortCmp.Whole1
namespace Go.Proofs.Ytpemckpnlemkfaa
set_option linter.unusedSimpArgs false
set_option linter.unusedVariables false
open Go.RowKit Go.Shelf Go.Sort
variable {α : Type} [Inhabited α]

/-- the elements of d lie as numbers -/
theorem OwnI.holds {w : World} {base g n cap : Nat} {xs : List Int} (f : α → Int) (d : Array α) (hd : d.toList.map f = xs) (hn : n = xs.length) (h : OwnI w base (.slice (some ⟨g, 0, none⟩) n cap) xs) : Holds (fun x => Value.int .i64 (f x)) w g 0 d := by
  intro j hj
  subst hn hd
  have hj' : j < (d.toList.map f).length := by simpa using hj
  have h1 := World.ownsRow.cellAt (g := g) (cap := cap) (n := (d.toList.map f).length) h j (by omega)
  have h2 := World.ownsRow.frozenAt (g := g) (cap := cap) (n := (d.toList.map f).length) h j
  rw [Nat.zero_add]
  refine ⟨?_, h2⟩
  rw [h1, List.getElem?_map, List.getElem?_map, Array.getElem?_toList, Array.getElem?_eq_getElem hj, getElem!_pos d j hj]
  rfl

theorem OwnI.sorted {w : World} {base g cap n m : Nat} {xs : List Int} (f : α → Int) {d' : Array α} {os : Array Obj} (hn : n = xs.length) (h : OwnI w base (.slice (some ⟨g, 0, none⟩) n cap) xs) (hd : d'.size = xs.length) (hbs : base ≤ w.heap.size) :
    OwnI (sortWorld (fun x => Value.int .i64 (f x)) w g 0 m d' os) base (.slice (some ⟨g, 0, none⟩) n cap) (d'.toList.map f) ∧ Below base w (sortWorld (fun x => Value.int .i64 (f x)) w g 0 m d' os) := by
  subst hn
  have hlt := (OwnI.lt h g rfl)
  obtain ⟨h1, h2⟩ := h
  rcases h2 with ⟨e, -⟩ | ⟨g', cap', cur, e, hg, hh, hc, hm, hs, ht⟩
  · cases e
  · injection e with e1 e2 e3
    simp only [Option.some.injEq, Addr.mk.injEq, and_true] at e1
    subst e1 e3
    have hheap : ∀ k, k < w.heap.size → (sortWorld (fun x => Value.int .i64 (f x)) w g 0 m d' os).heap[k]? = if g = k then some (.cells (Sort.putCells (fun x => Value.int .i64 (f x)) 0 d' cur) 3 (0, 0)) else w.heap[k]? := by
      intro k hk
      unfold sortWorld Sort.grow Sort.putRow Sort.mapBlock
      rw [Array.getElem?_append_left (by simpa [Sort.ahead] using hk)]
      simp only [Array.getElem?_modify, Sort.ahead]
      by_cases hgk : g = k
      · subst hgk
        simp [hh, Sort.onCells]
      · simp [hgk]
    refine ⟨⟨by simp, Or.inr ⟨g, cap, _, by simp [hd], hg, (hheap g hlt.2).trans (if_pos rfl), by simpa [hd] using hc, hm, by simp [Sort.putCells, hs], ?_⟩⟩, ?_⟩
    · refine List.ext_getElem? fun t => ?_
      rw [List.getElem?_take]
      simp only [List.length_map, Array.length_toList, hd, Nat.mul_one]
      have hcs : xs.length ≤ cur.size := by rw [hs]; omega
      split
      · rename_i htl
        simp only [Array.getElem?_toList, Sort.putCells, Array.getElem?_mapIdx, List.getElem?_map]
        rw [Array.getElem?_eq_getElem (by omega), Array.getElem?_eq_getElem (by omega)]
        simp only [Option.map_some, Nat.sub_zero]
        rw [if_pos ⟨by omega, by omega⟩, getElem!_pos _ _ (by omega)]
      · rename_i htl
        rw [List.getElem?_eq_none (by simp; omega)]
    · refine ⟨rfl, rfl, rfl, ?_, fun k hk => ?_⟩
      · unfold sortWorld Sort.grow Sort.putRow Sort.mapBlock
        simp [Sort.ahead]
      · rw [hheap k (by omega), if_neg (by omega)]
end Go.Proofs.Ytpemckpnlemkfaa
