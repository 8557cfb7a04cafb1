/-
  Contracts: slices of numbers.
-/
import Derived.Test.YtodgfechhielaaaGreatDoorProg
import Derived.Test.YtodgfechhielaaaGreatDoorPlain1
import Derived.Test.YtodgfechhielaaaGreatDoorC1
import Derived.Test.YtodgfechhielaaaGreatDoorC2
import Derived.WalkKit
import Derived.Lib.Hide
namespace Go.Proofs.YtodgfechhielaaaGreatDoor
set_option linter.unusedSimpArgs false
set_option linter.unusedVariables false
open Go.RowKit

theorem info_int : (Tryz.prog.info? 3).map (fun i => (i.zero, i.size, i.bytes)) = some (some (.int .i64 0), 1, 8) := by kernel_rfl

/-- a slice of numbers that lies in blocks from base on and may be appended to -/
def OwnI (w : World) (base : Nat) (v : Value) (xs : List Int) : Prop := w.ownsRow base 3 1 v xs.length (xs.map (Value.int .i64))
theorem OwnI.nil (w : World) (base : Nat) : OwnI w base (.slice none 0 0) [] := World.ownsRow_nil w base _ 1
theorem OwnI.push {w : World} {base : Nat} {v' : Value} {xs : List Int} {n : Nat} {x : Int} {ys : List Int} (hn : n = xs.length) (h : w.ownsRow base 3 1 v' (n + 1) (xs.map (Value.int .i64) ++ [.int .i64 x])) (he : ys = xs ++ [x]) : OwnI w base v' ys := by
  subst hn he
  simpa [OwnI] using h
theorem OwnI.below {w w' : World} {base : Nat} {v : Value} {xs : List Int} (h : OwnI w base v xs) (hb : Below w.heap.size w w') : OwnI w' base v xs := by
  obtain ⟨h1, h2⟩ := h
  refine ⟨h1, ?_⟩
  rcases h2 with h2 | ⟨g, cap, cur, hv, hg, hh, r⟩
  · exact Or.inl h2
  · exact Or.inr ⟨g, cap, cur, hv, hg, by rw [hb.block g (Array.getElem?_eq_some_iff.1 hh).1]; exact hh, r⟩
theorem OwnI.base {w : World} {base base' : Nat} {v : Value} {xs : List Int} (h : OwnI w base v xs) (hb : base' ≤ base) : OwnI w base' v xs := by
  obtain ⟨h1, h2⟩ := h
  refine ⟨h1, ?_⟩
  rcases h2 with h2 | ⟨g, cap, cur, hv, hg, hh, r⟩
  · exact Or.inl h2
  · exact Or.inr ⟨g, cap, cur, hv, Nat.le_trans hb hg, hh, r⟩
theorem one_cell_int (x : Int) : ∀ u ∈ [Value.int .i64 x], u.oneCell' = true := by
  intro u hu
  simp only [List.mem_singleton] at hu
  subst hu
  rfl
/-- how such a slice is read -/
theorem OwnI.view {w : World} {base : Nat} {v : Value} {xs : List Int} (h : OwnI w base v xs) : ∃ (a : Option Addr) (cap : Nat), v = .slice a xs.length cap ∧ (xs.length : Int) ≤ 9223372036854775807 ∧
    ∀ k, k < xs.length → ∃ g x, a = some ⟨g, 0, none⟩ ∧ base ≤ g ∧ Hid (xs[k]? = some x) ∧ w.cell? ⟨g, k, none⟩ = some (.int .i64 x) := by
  obtain ⟨h1, h2⟩ := h
  rcases h2 with ⟨rfl, hn⟩ | ⟨g, cap, cur, rfl, hg, hh, hc, hm, hs, ht⟩
  · refine ⟨none, 0, by rw [hn], by omega, fun k hk => by omega⟩
  · refine ⟨some ⟨g, 0, none⟩, cap, rfl, by unfold maxLen at hm; omega, fun k hk => ⟨g, xs[k], rfl, hg, List.getElem?_eq_getElem hk, ?_⟩⟩
    rw [cell_of_row w g k cur _ (0, 0) hh]
    have e : (xs.map (Value.int .i64))[k]? = some (.int .i64 xs[k]) := by
      rw [List.getElem?_map, List.getElem?_eq_getElem hk]
      rfl
    rw [← ht, List.getElem?_take] at e
    split at e
    · simpa using e
    · cases e
theorem take_next {xs : List Int} {k : Nat} {x : Int} (h : xs[k]? = some x) : xs.take (k + 1) = xs.take k ++ [x] := by
  obtain ⟨hk, e⟩ := List.getElem?_eq_some_iff.1 h
  rw [List.take_succ_eq_append_getElem hk, e]
theorem foldl_next {α : Type} (f : α → Int → α) (z : α) {xs : List Int} {k : Nat} {x : Int} (h : xs[k]? = some x) : (xs.take (k + 1)).foldl f z = f ((xs.take k).foldl f z) x := by
  rw [take_next h, List.foldl_append]
  rfl

/-- 'out = append(out, y)', one number, out the call's own -/
theorem push_int {ops : Array Oper} {rest : List Oper} {o : Oper} {a : Act} {Q : Exit → Act → World → Prop} {w W : World} (base : Nat) (y : Int) (xs : List Int) (v : Value) (hgd : o.guard = none) (s x : Operand)
    (ho : o.op = .call { callee := .builtin .append, args := #[s, x], argTypes := #[30, 30] }) (hs : a.eval s = v) (hx : a.eval x = .slice (some ⟨w.heap.size, 0, none⟩) 1 1)
    (hown : OwnI w base v xs) (hW : Below base W w) (hB : base ≤ w.heap.size) (hl : xs.length ≤ 10000000000)
    (h : ∀ v' w', OwnI w' base v' (xs ++ [y]) → Below base W w' → wpList Tryz.prog ops Q rest (a.put o.dst v') w') :
    wpList Tryz.prog ops Q (o :: rest) a (w.alloc (.cells #[.int .i64 y] 3)) := by
  obtain ⟨i0, hi, hz0, hz1, hz2⟩ := info_parts info_int
  refine wpList_append_own _ hgd s x 30 ho base 3 i0 (.int .i64 0) 1 8 Tryz.underlying30 hi hz0 hz1 hz2 rfl (by decide) v xs.length (xs.map (Value.int .i64)) hs (hown.alloc _) ⟨w.heap.size, 0, none⟩ 1 1 [.int .i64 y] hx rfl (fun j u hu => by
    have hadd : (⟨w.heap.size, 0, none⟩ : Addr).add j = ⟨w.heap.size, j, none⟩ := by unfold Addr.add; split <;> simp_all
    rw [hadd, World.cell?_alloc_at _ _ _ _ rfl]
    simpa using hu) (one_cell_int _) ?_ ?_ ?_ ?_
  · unfold maxLen; omega
  · omega
  · simp; omega
  · intro v' w' h1 h2 _
    exact h v' w' (OwnI.push rfl h1 rfl) ((hW.alloc hB _).grown h2 (by simp; omega) fun k hk => (hown.lt k hk).1)

end Go.Proofs.YtodgfechhielaaaGreatDoor
