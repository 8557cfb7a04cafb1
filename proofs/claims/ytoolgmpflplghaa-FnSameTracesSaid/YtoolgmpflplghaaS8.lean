/-
  Slices of structs, sorted by the library.
-/
import Derived.Test.YtoolgmpflplghaaS7
import Derived.Shelf.SlSortCmp.WholeK
namespace Go.Proofs.Ytoolgmpflplghaa
set_option linter.unusedSimpArgs false
set_option linter.unusedVariables false
open Go.RowKit Go.Shelf Go.Sort
namespace Rw
variable {α : Type} [Inhabited α]

theorem flatK_list (E : Enc α) (d : Array α) : (flatK E.cells E.k d).toList = d.toList.flatMap E.cells := by
  refine List.ext_getElem? fun t => ?_
  have hp := E.pos
  by_cases ht : t < d.size * E.k
  · have hd : t / E.k < d.size := Nat.div_lt_of_lt_mul (by rw [Nat.mul_comm]; exact ht)
    have hm : t % E.k < E.k := Nat.mod_lt _ hp
    have h1 := flat_get E d.toList (t / E.k) (t % E.k) d[t / E.k] (by simp [hd]) hm
    rw [show t / E.k * E.k + t % E.k = t from by rw [Nat.mul_comm]; exact Nat.div_add_mod t E.k] at h1
    rw [h1]
    have h2 : (flatK E.cells E.k d)[t]? = some ((flatK E.cells E.k d)[t]!) := by
      rw [Array.getElem?_eq_getElem (by rw [size_flatK]; exact ht), getElem!_pos _ t (by rw [size_flatK]; exact ht)]
    rw [Array.getElem?_toList, h2, get_flatK _ _ _ _ ht]
    rw [getElem!_pos d (t / E.k) hd]
    have hl : t % E.k < (E.cells d[t / E.k]).length := by rw [E.len]; exact hm
    rw [getElem!_pos (E.cells d[t / E.k]) (t % E.k) hl, List.getElem?_eq_getElem hl]
  · rw [List.getElem?_eq_none (by simp; omega), List.getElem?_eq_none (by rw [flat_len]; simp; omega)]

theorem Own.holds {E : Enc α} {w : World} {base g n cap : Nat} {xs : List α} (hn : n = xs.length) (h : Own E w base (.slice (some ⟨g, 0, none⟩) n cap) xs) : HoldsK E.cells E.k w g 0 xs.toArray := by
  intro j hj
  have hl := flatK_list E xs.toArray
  have e : (xs.flatMap E.cells)[j]? = some ((flatK E.cells E.k xs.toArray)[j]!) := by
    have h3 : (flatK E.cells E.k xs.toArray).toList[j]? = some ((flatK E.cells E.k xs.toArray)[j]!) := by
      rw [Array.getElem?_toList, Array.getElem?_eq_getElem hj, getElem!_pos _ j hj]
    rw [hl] at h3
    exact h3
  have := h.cellAt hn j _ e
  rw [Nat.zero_add]
  exact this

theorem Own.sorted {E : Enc α} {w : World} {base g cap n m : Nat} {xs : List α} {d' : Array α} {os : Array Obj} (hn : n = xs.length) (h : Own E w base (.slice (some ⟨g, 0, none⟩) n cap) xs) (hd : d'.size = xs.length) (hbs : base ≤ w.heap.size) :
    Own E (sortWorldK E.cells E.k w g 0 m d' os) base (.slice (some ⟨g, 0, none⟩) n cap) d'.toList ∧ Below base w (sortWorldK E.cells E.k w g 0 m d' os) := by
  subst hn
  have hlt := (Own.lt h g rfl)
  obtain ⟨h1, h2⟩ := h
  rcases h2 with ⟨e, -⟩ | ⟨g', cap', cur, e, hg, hh, hc, hm, hs, ht⟩
  · cases e
  · injection e with e1 e2 e3
    simp only [Option.some.injEq, Addr.mk.injEq, and_true] at e1
    subst e1 e3
    have hheap : ∀ k, k < w.heap.size → (sortWorldK E.cells E.k w g 0 m d' os).heap[k]? = if g = k then some (.cells (Sort.putCells id 0 (flatK E.cells E.k d') cur) E.t (0, 0)) else w.heap[k]? := by
      intro k hk
      unfold sortWorldK Sort.grow putRowK Sort.putRow Sort.mapBlock
      rw [Array.getElem?_append_left (by simpa [Sort.ahead] using hk)]
      simp only [Array.getElem?_modify, Sort.ahead]
      by_cases hgk : g = k
      · subst hgk
        simp [hh, Sort.onCells]
      · simp [hgk]
    have hl := flatK_list E d'
    have hF : (flatK E.cells E.k d').size = xs.length * E.k := by rw [size_flatK, hd]
    refine ⟨⟨by rw [flat_len], Or.inr ⟨g, cap, _, by simp [hd], hg, (hheap g hlt.2).trans (if_pos rfl), by simpa [hd] using hc, hm, by simp [Sort.putCells, hs], ?_⟩⟩, ?_⟩
    · rw [← hl]
      refine List.ext_getElem? fun t => ?_
      rw [List.getElem?_take]
      simp only [Array.length_toList, hd]
      have hcs : xs.length * E.k ≤ cur.size := by rw [hs]; exact Nat.mul_le_mul_right _ hc
      split
      · rename_i htl
        simp only [Array.getElem?_toList, Sort.putCells, Array.getElem?_mapIdx]
        rw [Array.getElem?_eq_getElem (by omega), Array.getElem?_eq_getElem (by rw [hF]; exact htl)]
        simp only [Option.map_some, Nat.sub_zero, id]
        rw [if_pos ⟨by omega, by rw [hF]; omega⟩, getElem!_pos _ _ (by rw [hF]; exact htl)]
      · rename_i htl
        rw [Array.getElem?_toList, Array.getElem?_eq_none (by rw [hF]; omega)]
    · refine ⟨rfl, rfl, rfl, ?_, fun k hk => ?_⟩
      · unfold sortWorldK Sort.grow putRowK Sort.putRow Sort.mapBlock
        simp [Sort.ahead]
      · rw [hheap k (by omega), if_neg (by omega)]
end Rw
end Go.Proofs.Ytoolgmpflplghaa
