/-
  Worlds that grow, with one block that may be written.
-/
import Derived.Test.YtodgfechhielaaaGreatDoorS2
namespace Go.Proofs.YtodgfechhielaaaGreatDoor
set_option linter.unusedSimpArgs false
set_option linter.unusedVariables false
open Go.RowKit
namespace Gr
variable {w0 w w' : World} {r : Option Nat}
theorem set {g : Nat} (h : w0.grownBy w (some g)) (o : Nat) (v : Value) : w0.grownBy (w.setCell ⟨g, o, none⟩ v) (some g) := by
  refine ⟨h.os, h.tape, h.output, by simpa [World.setCell] using h.size, fun i hi hne => ?_⟩
  exact (Below.heap_setCell _ _ _ _ (by rintro rfl; exact hne rfl)).trans (h.block i hi hne)
theorem setNew (h : w0.grownBy w r) {p : Addr} (hp : w0.heap.size ≤ p.block) (v : Value) : w0.grownBy (w.setCell p v) r := by
  refine ⟨h.os, h.tape, h.output, by simpa [World.setCell] using h.size, fun i hi hne => ?_⟩
  exact (Below.heap_setCell _ _ _ _ (by omega)).trans (h.block i hi hne)
theorem frozen (hg : w.grownBy w' r) {a : Addr} (hl : a.block < w.heap.size) (hne : some a.block ≠ r) : w'.frozen? a = w.frozen? a :=
  World.frozen?_of_block (hg.block _ hl hne)
theorem drew (h : w0.grownBy w r) : w0.grownBy w.drew r := grown_dr h 1
theorem below {B : Nat} (h : w0.grownBy w r) (k : Below B w w') (hB : w.heap.size ≤ B) : w0.grownBy w' r := grown_tr h (below_grown (k.mono hB) r)
theorem alloc (h : w0.grownBy w r) (o : Obj) : w0.grownBy (w.alloc o) r := grown_tr h (World.grownBy_alloc w o r)
theorem cellK {g b o : Nat} {v : Value} (hg : w.grownBy w' (some g)) (h : w.cell? ⟨b, o, none⟩ = some v) (hn : b ≠ g) : w'.cell? ⟨b, o, none⟩ = some v :=
  hg.cell h (by simpa using hn)
theorem frzK {g b o : Nat} (hg : w.grownBy w' (some g)) (hs : b < w.heap.size) (h : w.frozen? ⟨b, o, none⟩ = false) (hn : b ≠ g) : w'.frozen? ⟨b, o, none⟩ = false :=
  (frozen hg hs (by simpa using hn)).trans h
theorem sizeK {n : Nat} (hg : w.grownBy w' r) (h : n < w.heap.size) : n < w'.heap.size := Nat.lt_of_lt_of_le h hg.size
theorem toBelow {B g : Nat} {a : World} (h : Below B a w) (hg : w.grownBy w' (some g)) (hB : B ≤ w.heap.size) (hr : B ≤ g) : Below B a w' :=
  h.grown hg hB fun k hk => by cases hk; exact hr
theorem recell {W : World} {o o' : Obj} {p : Addr} {v : Value} (h : (W.alloc o).cell? p = some v) (hp : p.block = W.heap.size → False) : (W.alloc o').cell? p = some v := by
  have hb : p.block < W.heap.size := by
    have h1 := World.block_lt_of_cell? (W.alloc o) _ h
    rw [World.size_alloc] at h1
    rcases Nat.lt_or_ge p.block W.heap.size with h2 | h2
    · exact h2
    · exact (hp (by omega)).elim
  have e1 := (Below.alloc (Below.refl W.heap.size W) (Nat.le_refl _) o).cell (p := p) hb
  have e2 := (Below.alloc (Below.refl W.heap.size W) (Nat.le_refl _) o').cell (p := p) hb
  rw [e2, ← e1, h]
theorem far1 {W : World} {p q : Addr} {u v : Value} (h : W.cell? p = some v) (hp : p.block = q.block → False) : (W.setCell q u).cell? p = some v :=
  (World.cell?_of_block (w := W) (Below.heap_setCell _ _ _ _ hp)).trans h
theorem far2 {W : World} {p q q' : Addr} {u u' v : Value} (h : W.cell? p = some v) (hp : p.block = q.block → False) (hp' : p.block = q'.block → False) : ((W.setCell q u).setCell q' u').cell? p = some v := far1 (far1 h hp) hp'
theorem recell0 {W : World} {o : Obj} {p : Addr} {v : Value} (h : W.cell? p = some v) : (W.alloc o).cell? p = some v :=
  ((Below.alloc (Below.refl W.heap.size W) (Nat.le_refl _) o).cell (World.block_lt_of_cell? W _ h)).trans h
end Gr
/-- a box of two numbers that the walk made since W -/
def BoxAt (W wx : World) (s : Value) (n d : Int) : Prop :=
  ∃ g, s = .pointer (some ⟨g, 0, none⟩) ∧ wx.cell? ⟨g, 0, none⟩ = some (.int .i64 n) ∧ wx.cell? ⟨g, 1, none⟩ = some (.int .i64 d) ∧ W.heap.size ≤ g ∧ g < wx.heap.size
structure Zb (w : World) (b : Nat) : Prop where
  c0 : w.cell? ⟨b, 0, none⟩ = some (.int .i64 0)
  c1 : w.cell? ⟨b, 1, none⟩ = some (.int .i64 0)
  f0 : w.frozen? ⟨b, 0, none⟩ = false
  f1 : w.frozen? ⟨b, 1, none⟩ = false
  size : b < w.heap.size
theorem Zb.new (Y : World) (T : TypeId) : Zb (Y.alloc (.cells #[.int .i64 0, .int .i64 0] T)) Y.heap.size :=
  ⟨by rw [World.cell?_alloc_at _ _ _ _ rfl]; rfl, by rw [World.cell?_alloc_at _ _ _ _ rfl]; rfl, by simp [go_sem], by simp [go_sem], by rw [World.size_alloc]; omega⟩
theorem Zb.newD (Y : World) (T : TypeId) : Zb ((Y.alloc (.cells #[.int .i64 0, .int .i64 0] T)).drew) Y.heap.size :=
  have h := Zb.new Y T
  ⟨h.c0, h.c1, h.f0, h.f1, h.size⟩
theorem Zb.keep {w w' : World} {b : Nat} (h : Zb w b) (hb : Below w.heap.size w w') : Zb w' b :=
  ⟨(hb.cell (p := ⟨b, 0, none⟩) h.size).trans h.c0, (hb.cell (p := ⟨b, 1, none⟩) h.size).trans h.c1, (hb.frozen (p := ⟨b, 0, none⟩) h.size).trans h.f0, (hb.frozen (p := ⟨b, 1, none⟩) h.size).trans h.f1, Nat.lt_of_lt_of_le h.size hb.size⟩
theorem Zb.keepG {w w' : World} {b g : Nat} (h : Zb w b) (hg : w.grownBy w' (some g)) (hn : b ≠ g) : Zb w' b :=
  ⟨Gr.cellK hg h.c0 hn, Gr.cellK hg h.c1 hn, Gr.frzK hg h.size h.f0 hn, Gr.frzK hg h.size h.f1 hn, Gr.sizeK hg h.size⟩
end Go.Proofs.YtodgfechhielaaaGreatDoor
