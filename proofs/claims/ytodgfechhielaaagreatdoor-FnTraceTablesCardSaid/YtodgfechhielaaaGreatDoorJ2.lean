/-
  Contracts: choices among numbers; boxes that stay; primes and twist numbers that are drawn.
-/
import Derived.Test.YtodgfechhielaaaGreatDoorJ1
namespace Go.Proofs.YtodgfechhielaaaGreatDoor
set_option linter.unusedSimpArgs false
set_option linter.unusedVariables false
open Go.RowKit

/-- a struct of two numbers in a block of the call's own -/
structure Box (w : World) (b : Nat) (m n : Int) : Prop where
  c0 : w.cell? ⟨b, 0, none⟩ = some (.int .i64 m)
  c1 : w.cell? ⟨b, 1, none⟩ = some (.int .i64 n)
  f0 : w.frozen? ⟨b, 0, none⟩ = false
  f1 : w.frozen? ⟨b, 1, none⟩ = false
  size : b < w.heap.size
theorem Box.keepR {w w' : World} {b : Nat} {m n : Int} {r : Option Nat} (h : Box w b m n) (hg : w.grownBy w' r) (hn : some b ≠ r) : Box w' b m n :=
  ⟨hg.cell h.c0 hn, hg.cell h.c1 hn, (Gr.frozen hg h.size hn).trans h.f0, (Gr.frozen hg h.size hn).trans h.f1, Gr.sizeK hg h.size⟩
theorem Box.keepG {w w' : World} {b g : Nat} {m n : Int} (h : Box w b m n) (hg : w.grownBy w' (some g)) (hn : b ≠ g) : Box w' b m n := h.keepR hg (by simpa using hn)
theorem Box.keep {w w' : World} {b : Nat} {m n : Int} (h : Box w b m n) (hb : Below w.heap.size w w') : Box w' b m n := h.keepR (below_grown hb none) (by simp)
theorem Box.alloc {w : World} {b : Nat} {m n : Int} (h : Box w b m n) (o : Obj) : Box (w.alloc o) b m n := h.keep ((Below.refl _ _).alloc (Nat.le_refl _) o)
theorem Box.drew {w : World} {b : Nat} {m n : Int} (h : Box w b m n) : Box w.drew b m n := ⟨h.c0, h.c1, h.f0, h.f1, h.size⟩
theorem Box.new (w : World) (m n : Int) (T : TypeId) : Box (w.alloc (.cells #[.int .i64 m, .int .i64 n] T)) w.heap.size m n :=
  ⟨by rw [World.cell?_alloc_at _ _ _ _ rfl]; rfl, by rw [World.cell?_alloc_at _ _ _ _ rfl]; rfl, by simp [go_sem], by simp [go_sem], by rw [World.size_alloc]; omega⟩
theorem Box.store {w : World} {b : Nat} {m n : Int} (h : Box w b m n) (x y : Int) : Box ((w.setCell ⟨b, 0, none⟩ (.int .i64 x)).setCell ⟨b, 1, none⟩ (.int .i64 y)) b x y := by
  obtain ⟨h1, h2, h3, h4, h5⟩ := h
  exact ⟨by simp [go_sem, *], by simp [go_sem, *], by simp [go_sem, *], by simp [go_sem, *], by simp [go_sem, *]⟩
theorem set2_grown (w : World) (c : Nat) (x y : Value) : w.grownBy ((w.setCell ⟨c, 0, none⟩ x).setCell ⟨c, 1, none⟩ y) (some c) := Gr.set (Gr.set (grown_rf w (some c)) 0 x) 1 y
theorem Box.other {w : World} {b c : Nat} {m n : Int} (h : Box w b m n) (hn : b ≠ c) (x y : Value) : Box ((w.setCell ⟨c, 0, none⟩ x).setCell ⟨c, 1, none⟩ y) b m n := h.keepG (set2_grown w c x y) hn
theorem CurK.keepR {w w' : World} {g B n K c : Nat} {v : Value} (h : CurK w g B v n K) (hg : w.grownBy w' (some c)) (hc : g ≠ c) (hB : B ≤ c) : CurK w' g B v n K := by
  obtain ⟨k, hk, h⟩ := h
  obtain ⟨s, hs⟩ := h.c2
  exact ⟨k, hk, h.bytes.keep hg hB, h.lt, Gr.cellK hg h.c0 hc, Gr.cellK hg h.c1 hc, ⟨s, Gr.cellK hg hs hc⟩, Gr.frzK hg h.size h.f1 hc, Gr.frzK hg h.size h.f2 hc, Gr.sizeK hg h.size⟩
/-- where a draw stands: w when it began, W now -/
structure St (w W : World) (g B : Nat) (v : Value) (n K : Nat) : Prop where
  cur : CurK W g B v n K
  gr : w.grownBy W (some g)
  lt : B ≤ g
theorem St.start {w : World} {g B n K : Nat} {v : Value} (h : CurK w g B v n K) : St w w g B v n K := ⟨h, grown_rf _ _, h.elim fun _ h => h.2.lt⟩
theorem St.call {w W W' : World} {g B n K K' : Nat} {v : Value} (h : St w W g B v n K) (hc : CurK W' g B v n K') (hg : W.grownBy W' (some g)) : St w W' g B v n K' := ⟨hc, grown_tr h.gr hg, h.lt⟩
theorem St.keep {w W W' : World} {g B n K : Nat} {v : Value} (h : St w W g B v n K) (hb : Below W.heap.size W W') : St w W' g B v n K := ⟨h.cur.keep hb, grown_tr h.gr (below_grown hb _), h.lt⟩
theorem St.alloc {w W : World} {g B n K : Nat} {v : Value} (h : St w W g B v n K) (o : Obj) : St w (W.alloc o) g B v n K := h.keep ((Below.refl _ _).alloc (Nat.le_refl _) o)
theorem St.store {w W : World} {g B n K c : Nat} {v : Value} (h : St w W g B v n K) (hc : w.heap.size ≤ c) (hg : g ≠ c) (hB : B ≤ c) (x y : Value) : St w ((W.setCell ⟨c, 0, none⟩ x).setCell ⟨c, 1, none⟩ y) g B v n K :=
  ⟨h.cur.keepR (set2_grown W c x y) hg hB, Gr.setNew (Gr.setNew h.gr hc _) hc _, h.lt⟩
theorem St.size {w W : World} {g B n K : Nat} {v : Value} (h : St w W g B v n K) : g < W.heap.size := h.cur.size
theorem St.le {w W : World} {g B n K : Nat} {v : Value} (h : St w W g B v n K) : w.heap.size ≤ W.heap.size := h.gr.size

theorem lit_cells (W : World) (T : TypeId) (l : List Int) : ∀ (j : Nat) (x : Int), l[j]? = some x → (W.alloc (.cells (l.map (Value.int .i64)).toArray T)).cell? ⟨W.heap.size, j, none⟩ = some (.int .i64 x) := fun j x h => by
  rw [World.cell?_alloc_at _ _ _ _ rfl]
  simp [h]
def AmongPost (w : World) (g B : Nat) (v : Value) (n K : Nat) (l : List Int) (e : Ending) (w' : World) : Prop :=
  ∃ x : Int, e = .returned (.int .i64 x) ∧ x ∈ l ∧ CurK w' g B v n K ∧ w.grownBy w' (some g)
theorem among_c (g B : Nat) (v : Value) (n K : Nat) (l : List Int) (b m : Nat) (w : World) (h : CurK w g B v n K) (hk : K ≤ 900000000) (hm : l.length = m) (h1 : 1 ≤ m) (h2 : m ≤ 60000) (hne : b ≠ g)
    (hc : ∀ (j : Nat) (x : Int), l[j]? = some x → w.cell? ⟨b, j, none⟩ = some (.int .i64 x)) :
    Calls Tryz.prog 47 #[.pointer (some ⟨g, 0, none⟩), .slice (some ⟨b, 0, none⟩) m m] w (AmongPost w g B v n (K + 2) l) := by
  have Hc := Lib.hid hc
  have Hm := Lib.hid hm
  clear hc hm
  go_enter Tryz.func47, Tryz.ntmps47
  go_wp2_with fail
  refine (pick_c g B v n K m _ h hk (by omega) (by omega)).mono ?_; rintro e w1 ⟨y, rfl, ⟨y1, y2⟩, hc1, hg1⟩
  obtain ⟨j, rfl⟩ : ∃ j : Nat, y = j := ⟨y.toNat, by omega⟩
  have hj : j < m := by omega
  obtain ⟨x, hx⟩ : ∃ x, Hid (l[j]? = some x) := ⟨_, Lib.hid (List.getElem?_eq_getElem (by have := Hm.out; omega))⟩
  have q0 := Gr.cellK hg1 (Hc.out j x hx.out) hne
  go_wp2
  go_ret
  exact ⟨x, rfl, List.mem_of_getElem? hx.out, hc1, hg1⟩
end Go.Proofs.YtodgfechhielaaaGreatDoor
