/-
  Slices of slices of numbers.
-/
import Derived.Test.YtodgfechhielaaaGreatDoorS3
import Derived.Deep.RegionHeld3
namespace Go.Proofs.YtodgfechhielaaaGreatDoor
set_option linter.unusedSimpArgs false
set_option linter.unusedVariables false
open Go.RowKit

theorem info_ints : (Tryz.prog.info? 30).map (fun i => (i.zero, i.size, i.bytes)) = some (some (.slice none 0 0), 1, 24) := by kernel_rfl
theorem ints_ne_int : (30 : TypeId) ≠ 3 := by decide

theorem OwnI.kept {w w' : World} {base : Nat} {v : Value} {xs : List Int} {r : Option Nat} (h : OwnI w base v xs) (hg : w.grownBy w' r) (hr : ∀ g, r = some g → v.ownBlock ≠ some g) : OwnI w' base v xs := by
  refine World.ownsRow.kept h hg ?_
  cases r with
  | none =>
    cases hv : v.ownBlock
    · exact Or.inl rfl
    · exact Or.inr (by simp)
  | some g => exact Or.inr (hr g rfl)
theorem own_ne {w : World} {b1 b2 n1 n2 s1 s2 : Nat} {t1 t2 : TypeId} {v1 v2 : Value} {x1 x2 : List Value} (h1 : w.ownsRow b1 t1 s1 v1 n1 x1) (h2 : w.ownsRow b2 t2 s2 v2 n2 x2) (ht : t1 ≠ t2) : ∀ g, v2.ownBlock = some g → v1.ownBlock ≠ some g := by
  intro g hg hg'
  rcases h1.2 with ⟨rfl, -⟩ | ⟨g1, c1, cur1, rfl, -, hh1, -⟩
  · cases hg'
  · rcases h2.2 with ⟨rfl, -⟩ | ⟨g2, c2, cur2, rfl, -, hh2, -⟩
    · cases hg
    · simp only [Value.ownBlock, Option.some.injEq] at hg hg'
      subst hg hg'
      rw [hh1] at hh2
      injection hh2 with hh2
      injection hh2 with _ ht' _
      exact ht ht'

/-- a slice of slices of numbers, its elements vs: all its blocks lie from base on, no two are one -/
def OwnV (w : World) (base : Nat) (v : Value) (vs : List Value) (rows : List (List Int)) : Prop :=
  w.ownsRow base 30 1 v rows.length vs ∧ vs.length = rows.length ∧ (∀ (i : Nat) (u : Value) (r : List Int), vs[i]? = some u → rows[i]? = some r → OwnI w base u r) ∧
    vs.Pairwise (fun u u' => ∀ g, u.ownBlock = some g → u'.ownBlock ≠ some g)
theorem OwnV.nil (w : World) (base : Nat) : OwnV w base (.slice none 0 0) [] [] := ⟨World.ownsRow_nil w base _ 1, rfl, fun i u r h => by simp at h, List.Pairwise.nil⟩
theorem OwnV.base {w : World} {base base' : Nat} {v : Value} {vs : List Value} {rows : List (List Int)} (h : OwnV w base v vs rows) (hb : base' ≤ base) : OwnV w base' v vs rows := by
  obtain ⟨h1, h2, h3, h4⟩ := h
  refine ⟨?_, h2, fun i u r hu hr => (h3 i u r hu hr).base hb, h4⟩
  obtain ⟨a1, a2⟩ := h1
  refine ⟨a1, ?_⟩
  rcases a2 with a2 | ⟨g, cap, cur, hv, hg, hh, r⟩
  · exact Or.inl a2
  · exact Or.inr ⟨g, cap, cur, hv, Nat.le_trans hb hg, hh, r⟩
theorem OwnV.below {w w' : World} {base : Nat} {v : Value} {vs : List Value} {rows : List (List Int)} (h : OwnV w base v vs rows) (hb : Below w.heap.size w w') : OwnV w' base v vs rows := by
  obtain ⟨h1, h2, h3, h4⟩ := h
  exact ⟨World.ownsRow.kept h1 (below_grown hb none) (by cases v.ownBlock <;> simp), h2, fun i u r hu hr => (h3 i u r hu hr).below hb, h4⟩
theorem OwnV.alloc {w : World} {base : Nat} {v : Value} {vs : List Value} {rows : List (List Int)} (h : OwnV w base v vs rows) (o : Obj) : OwnV (w.alloc o) base v vs rows :=
  h.below ((Below.refl _ _).alloc (Nat.le_refl _) _)
theorem OwnV.lt {w : World} {base : Nat} {v : Value} {vs : List Value} {rows : List (List Int)} (h : OwnV w base v vs rows) : ∀ z ∈ vs, ∀ g, z.ownBlock = some g → base ≤ g ∧ g < w.heap.size := by
  obtain ⟨h1, h2, h3, h4⟩ := h
  intro z hz g hg
  obtain ⟨i, hi⟩ := List.getElem?_of_mem hz
  have hil := (List.getElem?_eq_some_iff.1 hi).1
  exact World.ownsRow.lt (h3 i z _ hi (List.getElem?_eq_getElem (by omega))) g hg

theorem one_cell_slice {v : Value} {w : World} {base : Nat} {xs : List Int} (h : OwnI w base v xs) : v.oneCell' = true := by
  rcases h.2 with ⟨rfl, -⟩ | ⟨g, cap, cur, rfl, -⟩ <;> rfl

/-- 'out = append(out, row)', the row in a block of its own -/
theorem push_row {ops : Array Oper} {rest : List Oper} {o : Oper} {a : Act} {Q : Exit → Act → World → Prop} {w W : World} (base : Nat) (u : Value) (r : List Int) (vs : List Value) (rows : List (List Int)) (v : Value) (H : Nat) (hH : w.heap.size = H) (hgd : o.guard = none) (s x : Operand)
    (ho : o.op = .call { callee := .builtin .append, args := #[s, x], argTypes := #[27, 27] }) (hs : a.eval s = v) (hx : a.eval x = .slice (some ⟨H, 0, none⟩) 1 1)
    (hown : OwnV w base v vs rows) (hu : OwnI w base u r) (hnew : ∀ g, u.ownBlock = some g → ∀ z ∈ vs, z.ownBlock ≠ some g)
    (hW : Below base W w) (hB : base ≤ w.heap.size) (hl : rows.length ≤ 1000000000)
    (h : ∀ v' w', OwnV w' base v' (vs ++ [u]) (rows ++ [r]) → Below base W w' → wpList Tryz.prog ops Q rest (a.put o.dst v') w') :
    wpList Tryz.prog ops Q (o :: rest) a (w.alloc (.cells #[u] 30)) := by
  subst hH
  obtain ⟨i0, hi, hz0, hz1, hz2⟩ := info_parts info_ints
  obtain ⟨h1, h2, h3, h4⟩ := hown
  refine wpList_append_own _ hgd s x 27 ho base 30 i0 (.slice none 0 0) 1 24 Tryz.underlying27 hi hz0 hz1 hz2 rfl (by decide) v rows.length vs hs (h1.alloc _) ⟨w.heap.size, 0, none⟩ 1 1 [u] hx rfl (fun j z hz => by
    have hadd : (⟨w.heap.size, 0, none⟩ : Addr).add j = ⟨w.heap.size, j, none⟩ := by unfold Addr.add; split <;> simp_all
    rw [hadd, World.cell?_alloc_at _ _ _ _ rfl]
    simpa using hz) (fun z hz => by simp only [List.mem_singleton] at hz; subst hz; exact one_cell_slice hu) ?_ ?_ ?_ ?_
  · unfold maxLen; omega
  · omega
  · simp; omega
  · intro v' w' k1 k2 _
    refine h v' w' ⟨by rw [List.length_append]; exact k1, by rw [List.length_append, List.length_append, h2]; rfl, ?_, ?_⟩ ((hW.alloc hB _).grown k2 (by simp; omega) fun k hk => (h1.lt k hk).1)
    · have hal : ∀ {z : Value} {q : List Int}, OwnI w base z q → OwnI w' base z q := by
        intro z q hz
        have hz' : OwnI (w.alloc (.cells #[u] 30)) base z q := World.ownsRow.alloc hz _
        refine hz'.kept k2 fun g hg => ?_
        exact own_ne (t1 := 3) (t2 := 30) hz' (World.ownsRow.alloc h1 _) (Ne.symm ints_ne_int) g hg
      intro i z q hz hq
      by_cases hlt : i < vs.length
      · rw [List.getElem?_append_left hlt] at hz
        rw [List.getElem?_append_left (by omega)] at hq
        exact hal (h3 i z q hz hq)
      · rw [List.getElem?_append_right (by omega)] at hz
        rw [List.getElem?_append_right (by omega), ← h2] at hq
        have hi0 : i - vs.length = 0 := by
          rcases Nat.eq_zero_or_pos (i - vs.length) with e | e
          · exact e
          · rw [List.getElem?_eq_none (by simp; omega)] at hz; cases hz
        rw [hi0] at hz hq
        simp only [List.getElem?_cons_zero, Option.some.injEq] at hz hq
        subst hz hq
        exact hal hu
    · rw [List.pairwise_append]
      refine ⟨h4, by simp, fun z hz z' hz' g hg hg' => ?_⟩
      simp only [List.mem_singleton] at hz'
      subst hz'
      exact hnew g hg' z hz hg

/-- how such a slice is read -/
theorem OwnV.view {w : World} {base : Nat} {v : Value} {vs : List Value} {rows : List (List Int)} (h : OwnV w base v vs rows) : ∃ (a : Option Addr) (cap : Nat), v = .slice a rows.length cap ∧ (rows.length : Int) ≤ 9223372036854775807 ∧
    ∀ k, k < rows.length → ∃ g u r, a = some ⟨g, 0, none⟩ ∧ g < w.heap.size ∧ Hid (rows[k]? = some r) ∧ Hid (vs[k]? = some u) ∧ w.cell? ⟨g, k, none⟩ = some u ∧ OwnI w base u r := by
  obtain ⟨⟨h1, h2⟩, h3, h4, h5⟩ := h
  rcases h2 with ⟨rfl, hn⟩ | ⟨g, cap, cur, rfl, hg, hh, hc, hm, hs, ht⟩
  · exact ⟨none, 0, by rw [hn], by omega, fun k hk => by omega⟩
  · refine ⟨some ⟨g, 0, none⟩, cap, rfl, by unfold maxLen at hm; omega, fun k hk => ⟨g, vs[k]'(by omega), rows[k], rfl, (Array.getElem?_eq_some_iff.1 hh).1, List.getElem?_eq_getElem hk, List.getElem?_eq_getElem (by omega), ?_, h4 k _ _ (List.getElem?_eq_getElem (by omega)) (List.getElem?_eq_getElem hk)⟩⟩
    rw [cell_of_row w g k cur _ (0, 0) hh]
    have e : vs[k]? = some (vs[k]'(by omega)) := List.getElem?_eq_getElem (by omega)
    generalize vs[k]'(by omega) = q at e ⊢
    rw [← ht, List.getElem?_take] at e
    split at e
    · simpa using e
    · cases e
/-- a slice of slices that can be read -/
def SeenII (w : World) (hi : Nat) (v : Value) (rows : List (List Int)) : Prop :=
  ∃ (a : Option Addr) (cap : Nat), v = .slice a rows.length cap ∧ (rows.length : Int) ≤ 9223372036854775807 ∧
    ∀ k, k < rows.length → ∃ g u r, a = some ⟨g, 0, none⟩ ∧ g < hi ∧ Hid (rows[k]? = some r) ∧ w.cell? ⟨g, k, none⟩ = some u ∧ SeenI w hi u r
theorem SeenII.below {w w' : World} {hi : Nat} {v : Value} {rows : List (List Int)} (h : SeenII w hi v rows) (hb : Below hi w w') : SeenII w' hi v rows := by
  obtain ⟨a, cap, h1, h2, h3⟩ := h
  refine ⟨a, cap, h1, h2, fun k hk => ?_⟩
  obtain ⟨g, u, r, e1, e2, e3, e4, e5⟩ := h3 k hk
  exact ⟨g, u, r, e1, e2, e3, (hb.cell (p := ⟨g, k, none⟩) e2).trans e4, e5.below hb⟩
theorem OwnV.seen {w : World} {base : Nat} {v : Value} {vs : List Value} {rows : List (List Int)} (h : OwnV w base v vs rows) : SeenII w w.heap.size v rows := by
  obtain ⟨a, cap, h1, h2, h3⟩ := h.view
  refine ⟨a, cap, h1, h2, fun k hk => ?_⟩
  obtain ⟨g, u, r, e1, e2, e3, -, e4, e5⟩ := h3 k hk
  exact ⟨g, u, r, e1, e2, e3, e4, e5.seen⟩

end Go.Proofs.YtodgfechhielaaaGreatDoor
