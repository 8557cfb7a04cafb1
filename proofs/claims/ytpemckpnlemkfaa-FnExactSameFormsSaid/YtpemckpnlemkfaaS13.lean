/-
  Slices of slices whose rows grow.
-/
import Derived.Test.YtpemckpnlemkfaaS5
import Derived.Test.YtpemckpnlemkfaaS10
namespace Go.Proofs.Ytpemckpnlemkfaa
set_option linter.unusedSimpArgs false
set_option linter.unusedVariables false
open Go.RowKit

/-- a row grows in its block or in a new one, and its header is put anew -/
theorem OwnV.put {w w' : World} {base g n cap : Nat} {vs : List Value} {rows : List (List Int)} {j : Nat} {u u' : Value} {r' : List Int} (hn : n = rows.length) (h : OwnV w base (.slice (some ⟨g, 0, none⟩) n cap) vs rows) (hj : vs[j]? = some u)
    (hu : OwnI w' base u' r') (hg : w.grownBy w' u.ownBlock) (hb : u'.ownBlock = u.ownBlock ∨ u'.ownBlock = some w.heap.size) :
    OwnV (w'.setCell ⟨g, j, none⟩ u') base (.slice (some ⟨g, 0, none⟩) n cap) (vs.set j u') (rows.set j r') ∧ w'.grownBy (w'.setCell ⟨g, j, none⟩ u') (some g) := by
  subst hn
  obtain ⟨h1, h2, h3, h4⟩ := h
  have hjl := (List.getElem?_eq_some_iff.1 hj).1
  have hur := h3 j u _ hj (List.getElem?_eq_getElem (by omega))
  have h1' : w'.ownsRow base 54 1 (.slice (some ⟨g, 0, none⟩) rows.length cap) rows.length vs := World.ownsRow.kept h1 hg (by
    cases hb : u.ownBlock with
    | none => exact Or.inr (by simp [Value.ownBlock])
    | some q => exact Or.inr (own_ne (t1 := 54) (t2 := 3) h1 hur ints_ne_int q hb))
  have hst := World.ownsRow.stored (g := g) (cap := cap) h1' j u'
  have hs1 : (w'.setCell ⟨g, j, none⟩ u').ownsRow base 54 1 (.slice (some ⟨g, 0, none⟩) rows.length cap) rows.length (vs.set j u') := hst.1
  have hkeep : ∀ {z : Value} {q : List Int}, OwnI w' base z q → OwnI (w'.setCell ⟨g, j, none⟩ u') base z q := by
    intro z q hz
    refine hz.kept hst.2 fun k hk => ?_
    exact own_ne (t1 := 3) (t2 := 54) hz h1' (Ne.symm ints_ne_int) k (by cases hk; rfl)
  have hnew : ∀ (i : Nat) (z : Value), i ≠ j → vs[i]? = some z → (∀ k, z.ownBlock = some k → u'.ownBlock ≠ some k) ∧ OwnI w' base z (rows[i]?.getD []) := by
    intro i z hij hz
    obtain ⟨hil, ez⟩ := List.getElem?_eq_some_iff.1 hz
    obtain ⟨_, ej⟩ := List.getElem?_eq_some_iff.1 hj
    have hzr := h3 i z _ hz (List.getElem?_eq_getElem (by omega))
    have hp := List.pairwise_iff_getElem.1 h4
    have hzu : ∀ k, u.ownBlock = some k → z.ownBlock ≠ some k := by
      intro k hk
      rcases Nat.lt_or_gt_of_ne hij with hlt | hlt
      · intro hzk
        have := hp i j hil hjl hlt k (by rw [ez]; exact hzk)
        rw [ej] at this
        exact this hk
      · have := hp j i hjl hil hlt k (by rw [ej]; exact hk)
        rwa [ez] at this
    refine ⟨fun k hk hk' => ?_, ?_⟩
    · rcases hb with hb | hb
      · rw [hb] at hk'
        exact hzu k hk' hk
      · rw [hb] at hk'
        have := (OwnI.lt hzr k hk).2
        have e := Option.some.inj hk'
        omega
    · rw [List.getElem?_eq_getElem (by omega)]
      exact hzr.kept hg hzu
  refine ⟨⟨by rw [List.length_set]; exact hs1, by rw [List.length_set, List.length_set]; exact h2, fun i z q hz hq => ?_, ?_⟩, hst.2⟩
  · by_cases hij : i = j
    · subst hij
      rw [List.getElem?_set_self hjl] at hz
      rw [List.getElem?_set_self (by omega)] at hq
      obtain rfl := Option.some.inj hz
      obtain rfl := Option.some.inj hq
      exact hkeep hu
    · rw [List.getElem?_set_ne (Ne.symm hij)] at hz hq
      have := (hnew i z hij hz).2
      rw [hq] at this
      exact hkeep this
  · rw [List.pairwise_iff_getElem]
    intro a b ha hb' hab k hk
    have ha2 : a < vs.length := by rw [List.length_set] at ha; exact ha
    have hb2 : b < vs.length := by rw [List.length_set] at hb'; exact hb'
    have hp := List.pairwise_iff_getElem.1 h4
    by_cases haj : a = j
    · subst haj
      rw [List.getElem_set_self] at hk
      rw [List.getElem_set_ne (by omega)]
      intro hbk
      exact (hnew b _ (by omega) (List.getElem?_eq_getElem (l := vs) hb2)).1 k hbk hk
    · rw [List.getElem_set_ne (Ne.symm haj)] at hk
      by_cases hbj : b = j
      · subst hbj
        rw [List.getElem_set_self]
        exact (hnew a _ haj (List.getElem?_eq_getElem (l := vs) ha2)).1 k hk
      · rw [List.getElem_set_ne (Ne.symm hbj)]
        exact hp a b ha2 hb2 hab k hk
end Go.Proofs.Ytpemckpnlemkfaa
