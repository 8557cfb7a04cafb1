/-
  Contracts: a point carried to a neighbour, by the program.
-/
import Derived.Test.YtpemckpnlemkfaaG3
import Derived.Deep.DeepCutAuto
namespace Go.Proofs.Ytpemckpnlemkfaa
set_option linter.unusedSimpArgs false
set_option linter.unusedVariables false
open Go.RowKit

theorem okAt_alloc {w : World} {g : Nat} (h : g < w.heap.size) (o : Obj) : okAt (w.alloc o) g = okAt w g := by
  unfold okAt
  rw [((Below.refl w.heap.size w).alloc (Nat.le_refl _) o).cell (p := ⟨g, 0, none⟩) h]
theorem okAt_set {w : World} {g : Nat} {q : Addr} (v : Value) (h : g = q.block → False) : okAt (w.setCell q v) g = okAt w g := by
  unfold okAt
  rw [World.cell?_of_block (w := w) (Below.heap_setCell _ _ _ _ h)]
theorem IsCalc.alloc {w : World} {g : Nat} (h : IsCalc w g) (o : Obj) : IsCalc (w.alloc o) g := (h.keep ((Below.refl w.heap.size w).alloc (Nat.le_refl _) o) h.size).1
theorem IsCalc.set {w : World} {g : Nat} {q : Addr} (hc : IsCalc w g) (v : Value) (h : g = q.block → False) : IsCalc (w.setCell q v) g := by
  have e := okAt_set (w := w) v h
  have e1 : (w.setCell q v).cell? ⟨g, 0, none⟩ = w.cell? ⟨g, 0, none⟩ := World.cell?_of_block (w := w) (Below.heap_setCell _ _ _ _ h)
  have e2 : (w.setCell q v).frozen? ⟨g, 0, none⟩ = w.frozen? ⟨g, 0, none⟩ := World.frozen?_of_block (w := w) (Below.heap_setCell _ _ _ _ h)
  exact ⟨by rw [e, e1]; exact hc.cell, by rw [e2]; exact hc.free, by rw [size_setCell]; exact hc.size⟩
theorem Two.keepG {W w' : World} {b g : Nat} {m n : Int} (h : Two W b m n) (hg : W.grownBy w' (some g)) (hn : b ≠ g) : Two w' b m n := ⟨Gr.cellK hg h.c0 hn, Gr.cellK hg h.c1 hn, Gr.sizeK hg h.size⟩

/-- the marks and values of a chain of steps -/
def RightR (t t' : Bool) (a b : Int) (x : Int × Int) (r : Int × Int) : Prop :=
  ∃ (s A m q B : Int × Int) (t1 t2 t3 t4 t5 : Bool), Kp t t1 s.1 s.2 (M.fmul x x) ∧ Kp t1 t2 A.1 A.2 (some (a, 1)) ∧ Kp t2 t3 m.1 m.2 (M.fadd s A) ∧ Kp t3 t4 q.1 q.2 (M.fmul m x) ∧ Kp t4 t5 B.1 B.2 (some (b, 1)) ∧ Kp t5 t' r.1 r.2 (M.fadd q B)
theorem Kp.cases {t t' : Bool} {n d : Int} {r : Option (Int × Int)} (h : Kp t t' n d r) : (t = true ∧ t' = true ∧ r = some (n, d)) ∨ (t' = false ∧ (t = false ∨ r = none)) := by
  obtain ⟨h1, h2, h3⟩ := h
  cases t <;> cases r <;> simp_all
theorem pair_c (g : Nat) (a b c d : Int) (w : World) (hk : IsCalc w g) :
    Calls Try.prog 51 #[.pointer (some ⟨g, 0, none⟩), .agg #[.int .i64 a, .int .i64 b], .agg #[.int .i64 c, .int .i64 d]] w fun e w' => e = .returned (.tuple #[.agg #[.int .i64 (M.pick (okAt w g) a), .int .i64 (M.pick (okAt w g) b)], .agg #[.int .i64 (M.pick (okAt w g) c), .int .i64 (M.pick (okAt w g) d)], .bool (okAt w g)]) ∧ Below w.heap.size w w' := by
  obtain ⟨k1, k2, k3⟩ := hk
  have hbX : Below w.heap.size w ((((w.alloc (.cells #[.int .i64 a, .int .i64 b] 38)).alloc (.cells #[.int .i64 c, .int .i64 d] 38)).alloc (.cells #[.int .i64 0, .int .i64 0] 38)).alloc (.cells #[.int .i64 0, .int .i64 0] 38)) := (by repeat (first | exact Below.refl _ _ | refine below_alloc ?_ _ | refine below_step ?_ (by assumption) | refine Below.drew ?_ | refine Below.setCell ?_ (by first | exact Nat.le_refl _ | exact Nat.le_add_right _ _ | (simp <;> omega)) _ | refine below_drewN ?_ _))
  cases ht : okAt w g <;> rw [ht] at k1 <;> clear ht
  all_goals
    have q1 := keepCell hbX k1
    have q2 := keepFrz hbX k3 k2
    go_enter Try.func51, Try.ntmps51
    go_wp2
  · exact bodyPost_ret (v := .tuple #[.agg #[.int .i64 0, .int .i64 0], .agg #[.int .i64 0, .int .i64 0], .bool false]) (by simp [results, Try.results51, go_sem, *]) rfl (⟨by simp [M.pick_f], (by repeat (first | exact Below.refl _ _ | refine below_alloc ?_ _ | refine below_step ?_ (by assumption) | refine Below.drew ?_ | refine Below.setCell ?_ (by first | exact Nat.le_refl _ | exact Nat.le_add_right _ _ | (simp <;> omega)) _ | refine below_drewN ?_ _))⟩)
  · go_region
    all_goals
      go_wp2
      exact bodyPost_ret (v := .tuple #[.agg #[.int .i64 a, .int .i64 b], .agg #[.int .i64 c, .int .i64 d], .bool true]) (by simp [results, Try.results51, go_sem, *]) rfl (⟨by simp [M.pick_t], (by repeat (first | exact Below.refl _ _ | refine below_alloc ?_ _ | refine below_step ?_ (by assumption) | refine Below.drew ?_ | refine Below.setCell ?_ (by first | exact Nat.le_refl _ | exact Nat.le_add_right _ _ | (simp <;> omega)) _ | refine below_drewN ?_ _))⟩)

end Go.Proofs.Ytpemckpnlemkfaa
