/-
  Contracts: slices of numbers.
-/
import Derived.Test.YtpemckpnlemkfaaProg
import Derived.Test.YtpemckpnlemkfaaPlain1
import Derived.Test.YtpemckpnlemkfaaC1
import Derived.Test.YtpemckpnlemkfaaC2
import Derived.WalkKit
import Derived.Lib.Hide
namespace Go.Proofs.Ytpemckpnlemkfaa
set_option linter.unusedSimpArgs false
set_option linter.unusedVariables false
open Go.RowKit

theorem info_int : (Try.prog.info? 3).map (fun i => (i.zero, i.size, i.bytes)) = some (some (.int .i64 0), 1, 8) := by kernel_rfl

/-- a slice of numbers that lies in blocks from base on and may be appended to -/
def OwnI (w : World) (base : Nat) (v : Value) (xs : List Int) : Prop := w.ownsRow base 3 1 v xs.length (xs.map (Value.int .i64))
theorem OwnI.nil (w : World) (base : Nat) : OwnI w base (.slice none 0 0) [] := World.ownsRow_nil w base _ 1
theorem OwnI.push {w : World} {base : Nat} {v' : Value} {xs : List Int} {n : Nat} {x : Int} {ys : List Int} (hn : n = xs.length) (h : w.ownsRow base 3 1 v' (n + 1) (xs.map (Value.int .i64) ++ [.int .i64 x])) (he : ys = xs ++ [x]) : OwnI w base v' ys := by
  subst hn he
  simpa [OwnI] using h
theorem OwnI.below {w w' : World} {base : Nat} {v : Value} {xs : List Int} (h : OwnI w base v xs) (hb : Below w.heap.size w w') : OwnI w' base v xs := by
  obtain ⟨h1, h2⟩ := h
  refine ⟨h1, ?_⟩
  rcases h2 with h2 | ⟨g, cap, cur, hv, hg, hh, r⟩
  · exact Or.inl h2
  · exact Or.inr ⟨g, cap, cur, hv, hg, by rw [hb.block g (Array.getElem?_eq_some_iff.1 hh).1]; exact hh, r⟩
theorem OwnI.base {w : World} {base base' : Nat} {v : Value} {xs : List Int} (h : OwnI w base v xs) (hb : base' ≤ base) : OwnI w base' v xs := by
  obtain ⟨h1, h2⟩ := h
  refine ⟨h1, ?_⟩
  rcases h2 with h2 | ⟨g, cap, cur, hv, hg, hh, r⟩
  · exact Or.inl h2
  · exact Or.inr ⟨g, cap, cur, hv, Nat.le_trans hb hg, hh, r⟩
theorem one_cell_int (x : Int) : ∀ u ∈ [Value.int .i64 x], u.oneCell' = true := by
  intro u hu
  simp only [List.mem_singleton] at hu
  subst hu
  rfl
/-- how such a slice is read -/
theorem OwnI.view {w : World} {base : Nat} {v : Value} {xs : List Int} (h : OwnI w base v xs) : ∃ (a : Option Addr) (cap : Nat), v = .slice a xs.length cap ∧ (xs.length : Int) ≤ 9223372036854775807 ∧
    ∀ k, k < xs.length → ∃ g x, a = some ⟨g, 0, none⟩ ∧ base ≤ g ∧ Hid (xs[k]? = some x) ∧ w.cell? ⟨g, k, none⟩ = some (.int .i64 x) := by
  obtain ⟨h1, h2⟩ := h
  rcases h2 with ⟨rfl, hn⟩ | ⟨g, cap, cur, rfl, hg, hh, hc, hm, hs, ht⟩
  · refine ⟨none, 0, by rw [hn], by omega, fun k hk => by omega⟩
  · refine ⟨some ⟨g, 0, none⟩, cap, rfl, by unfold maxLen at hm; omega, fun k hk => ⟨g, xs[k], rfl, hg, List.getElem?_eq_getElem hk, ?_⟩⟩
    rw [cell_of_row w g k cur _ (0, 0) hh]
    have e : (xs.map (Value.int .i64))[k]? = some (.int .i64 xs[k]) := by
      rw [List.getElem?_map, List.getElem?_eq_getElem hk]
      rfl
    rw [← ht, List.getElem?_take] at e
    split at e
    · simpa using e
    · cases e
theorem take_next {xs : List Int} {k : Nat} {x : Int} (h : xs[k]? = some x) : xs.take (k + 1) = xs.take k ++ [x] := by
  obtain ⟨hk, e⟩ := List.getElem?_eq_some_iff.1 h
  rw [List.take_succ_eq_append_getElem hk, e]
theorem foldl_next {α : Type} (f : α → Int → α) (z : α) {xs : List Int} {k : Nat} {x : Int} (h : xs[k]? = some x) : (xs.take (k + 1)).foldl f z = f ((xs.take k).foldl f z) x := by
  rw [take_next h, List.foldl_append]
  rfl

/-- 'out = append(out, y)', one number, out the call's own -/
theorem push_int {ops : Array Oper} {rest : List Oper} {o : Oper} {a : Act} {Q : Exit → Act → World → Prop} {w W : World} (base : Nat) (y : Int) (xs : List Int) (v : Value) (hgd : o.guard = none) (s x : Operand)
    (ho : o.op = .call { callee := .builtin .append, args := #[s, x], argTypes := #[54, 54] }) (hs : a.eval s = v) (hx : a.eval x = .slice (some ⟨w.heap.size, 0, none⟩) 1 1)
    (hown : OwnI w base v xs) (hW : Below base W w) (hB : base ≤ w.heap.size) (hl : xs.length ≤ 10000000000)
    (h : ∀ v' w', OwnI w' base v' (xs ++ [y]) → Below base W w' → wpList Try.prog ops Q rest (a.put o.dst v') w') :
    wpList Try.prog ops Q (o :: rest) a (w.alloc (.cells #[.int .i64 y] 3)) := by
  obtain ⟨i0, hi, hz0, hz1, hz2⟩ := info_parts info_int
  refine wpList_append_own _ hgd s x 54 ho base 3 i0 (.int .i64 0) 1 8 Try.underlying54 hi hz0 hz1 hz2 rfl (by decide) v xs.length (xs.map (Value.int .i64)) hs (hown.alloc _) ⟨w.heap.size, 0, none⟩ 1 1 [.int .i64 y] hx rfl (fun j u hu => by
    have hadd : (⟨w.heap.size, 0, none⟩ : Addr).add j = ⟨w.heap.size, j, none⟩ := by unfold Addr.add; split <;> simp_all
    rw [hadd, World.cell?_alloc_at _ _ _ _ rfl]
    simpa using hu) (one_cell_int _) ?_ ?_ ?_ ?_
  · unfold maxLen; omega
  · omega
  · simp; omega
  · intro v' w' h1 h2 _
    exact h v' w' (OwnI.push rfl h1 rfl) ((hW.alloc hB _).grown h2 (by simp; omega) fun k hk => (hown.lt k hk).1)

theorem ecValue_c (a b x : Int) (w : World) (h : M.inCurve a b = true) (h1 : -1000000 ≤ x) (h2 : x ≤ 1000000) :
    Calls Try.prog 83 #[.agg #[.int .i64 a, .int .i64 b], .int .i64 x] w fun e w' => e = .returned (.int .i64 (M.val a b x)) ∧ Below w.heap.size w w' := by
  obtain ⟨g1, g2, g3, g4⟩ := M.inCurve_bd h
  have b1 := M.mul_bd (x := x) (y := x) (m := 1000000) (n := 1000000) (by omega) (by omega) (by omega) (by omega)
  have b2 := M.mul_bd (x := x * x) (y := x) (m := 1000000000000) (n := 1000000) (by omega) (by omega) (by omega) (by omega)
  have b3 := M.mul_bd (x := a) (y := x) (m := 1000) (n := 1000000) (by omega) (by omega) (by omega) (by omega)
  go_enter Try.func83, Try.ntmps83
  go_wp2
  go_ret
  exact ⟨rfl, (Below.refl _ _).alloc (by omega) _⟩

theorem ecRoots_c (a b : Int) (w : World) (h : M.inCurve a b = true) :
    Calls Try.prog 64 #[.agg #[.int .i64 a, .int .i64 b]] w fun e w' => ∃ v, e = .returned v ∧ OwnI w' w.heap.size v (M.roots a b) ∧ Below w.heap.size w w' := by
  go_enter Try.func64, Try.ntmps64
  go_wp2
  go_loopw [3, 4] (fun v x wr => ∃ k : Nat, k ≤ 201 ∧ x = .int .i64 ((-100 : Int) + k) ∧ OwnI wr (w.heap.size + 1) v (M.sel (M.root3 a b) (-100) k) ∧ Below (w.heap.size + 1) (w.alloc (.cells #[.int .i64 a, .int .i64 b] 41)) wr) (fun _ x _ => (101 - intOf x).toNat)
  case atStart => exact ⟨0, by omega, rfl, OwnI.nil _ _, Below.refl _ _⟩
  case round =>
    obtain ⟨k, hk, rfl, hown, hb⟩ := hrel
    have c0 : wr.cell? ⟨w.heap.size, 0, none⟩ = some (.int .i64 a) := (hb.cell (Nat.lt_succ_self _)).trans (box_cell _ _ _ _)
    have c1 : wr.cell? ⟨w.heap.size, 1, none⟩ = some (.int .i64 b) := (hb.cell (Nat.lt_succ_self _)).trans (box_cell _ _ _ _)
    have hz0 : w.heap.size + 1 ≤ wr.heap.size := by have := hb.size; simpa using this
    have hlen := M.sel_le (M.root3 a b) (-100) k
    by_cases hlt : k < 201
    · by_cases hr : M.val a b (-100 + k) = 0
      · go_wp2_with (first | (go_at_call 83; refine (ecValue_c a b (-100 + k) _ h (by omega) (by omega)).mono ?_; rintro e w' ⟨rfl, hb1⟩; have hz := hb1.size) | (at_builtin; refine push_int (w.heap.size + 1) (-100 + k) _ _ rfl _ _ rfl rfl rfl (hown.below hb1) (hb.trans (hb1.mono hz0)) (by omega) (by omega) ?_; rintro v2 w2 hown2 hb2))
        go_roundw
        case rel => exact ⟨k + 1, by omega, by go_num, by rw [M.sel_yes (by simp [M.root3, hr])]; exact hown2, hb2⟩
        case measure => simp [intOf]; omega
      · go_wp2_with (first | (go_at_call 83; refine (ecValue_c a b (-100 + k) _ h (by omega) (by omega)).mono ?_; rintro e w' ⟨rfl, hb1⟩; have hz := hb1.size))
        go_roundw
        case rel => exact ⟨k + 1, by omega, by go_num, by rw [M.sel_no (by simp [M.root3, hr])]; exact hown.below hb1, hb.trans (hb1.mono hz0)⟩
        case measure => simp [intOf]; omega
    · obtain rfl : k = 201 := by omega
      go_wp2
      go_ret
      exact ⟨_, rfl, hown.base (by omega), ((Below.refl _ _).alloc (Nat.le_refl _) _).trans (hb.mono (by omega))⟩
end Go.Proofs.Ytpemckpnlemkfaa
