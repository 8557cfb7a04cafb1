/-
  Contracts: choices from bytes.
-/
import Derived.Test.YtodgfechhielaaaGreatDoorC4
import Derived.Test.YtodgfechhielaaaGreatDoorS12
import Derived.RegionTactic
import Derived.Deep.QuietTactic
import Derived.BigQuiet
import Derived.OwnWalk
import Derived.Laws.Bits64b
namespace Go.Proofs.YtodgfechhielaaaGreatDoor
set_option linter.unusedSimpArgs false
set_option linter.unusedVariables false
open Go.RowKit

/-- bytes that came in, in blocks below B -/
def Bytes (w : World) (B : Nat) (v : Value) (n : Nat) : Prop :=
  ∃ (A : Option Addr) (cap : Nat), v = .slice A n cap ∧ (n : Int) ≤ 9223372036854775807 ∧ ∀ j, j < n → ∃ (g o : Nat) (b : Int), A = some ⟨g, o, none⟩ ∧ g < B ∧ w.cell? ⟨g, o + j, none⟩ = some (.int .u8 b) ∧ 0 ≤ b ∧ b ≤ 255
structure Cur (w : World) (g B : Nat) (v : Value) (n k : Nat) : Prop where
  bytes : Bytes w B v n
  lt : B ≤ g
  c0 : w.cell? ⟨g, 0, none⟩ = some v
  c1 : w.cell? ⟨g, 1, none⟩ = some (.int .i64 k)
  c2 : ∃ s : Int, w.cell? ⟨g, 2, none⟩ = some (.int .u64 s)
  f1 : w.frozen? ⟨g, 1, none⟩ = false
  f2 : w.frozen? ⟨g, 2, none⟩ = false
  size : g < w.heap.size

theorem Bytes.keep {w w' : World} {B g n : Nat} {v : Value} (h : Bytes w B v n) (hg : w.grownBy w' (some g)) (hB : B ≤ g) : Bytes w' B v n := by
  obtain ⟨A, cap, e, hn, hb⟩ := h
  refine ⟨A, cap, e, hn, fun j hj => ?_⟩
  obtain ⟨gb, ob, b, e, hgb, hc, h1, h2⟩ := hb j hj
  exact ⟨gb, ob, b, e, hgb, Gr.cellK hg hc (by omega), h1, h2⟩
def NextPost (w : World) (g B : Nat) (v : Value) (n k m : Nat) (e : Ending) (w' : World) : Prop :=
  ∃ x : Int, e = .returned (.int .i64 x) ∧ (0 ≤ x ∧ x ≤ m) ∧ Cur w' g B v n (k + 1) ∧ w.grownBy w' (some g)
theorem NextPost.mk' {w w' : World} {g B n k m : Nat} {v : Value} {x : Int} (h : Cur w g B v n k) (hx : 0 ≤ x ∧ x ≤ m) (hg : w.grownBy w' (some g)) (c0 : w'.cell? ⟨g, 0, none⟩ = some v) (c1 : w'.cell? ⟨g, 1, none⟩ = some (.int .i64 (k + 1)))
    (c2 : ∃ s : Int, w'.cell? ⟨g, 2, none⟩ = some (.int .u64 s)) (f1 : w'.frozen? ⟨g, 1, none⟩ = false) (f2 : w'.frozen? ⟨g, 2, none⟩ = false) : NextPost w g B v n k m (.returned (.int .i64 x)) w' :=
  ⟨x, rfl, hx, ⟨h.bytes.keep hg h.lt, h.lt, c0, by rw [c1]; rfl, c2, f1, f2, Gr.sizeK hg h.size⟩, hg⟩
theorem low8 (X : Int) : 0 ≤ wrap64 (bits BinOp.and IntKind.u64 X 255) ∧ wrap64 (bits BinOp.and IntKind.u64 X 255) ≤ ((255 : Nat) : Int) := by
  have e : bits BinOp.and IntKind.u64 X 255 = (((BitVec.ofInt 64 X).toNat &&& 255 : Nat) : Int) := by
    show IntKind.u64.wrap ((BitVec.ofInt 64 X &&& BitVec.ofInt 64 (255 : Int)).toNat : Int) = _
    have h2 : (BitVec.ofInt 64 (255 : Int)).toNat = 255 := by decide
    rw [BitVec.toNat_and, h2, IntKind.wrap_u64]
    have : (BitVec.ofInt 64 X).toNat &&& 255 ≤ 255 := Nat.and_le_right
    omega
  have h : (BitVec.ofInt 64 X).toNat &&& 255 ≤ 255 := Nat.and_le_right
  rw [e, IntWalk.wrap64_in _ (by omega)]
  omega
theorem next_c (g B : Nat) (v : Value) (n k : Nat) (w : World) (h : Cur w g B v n k) (hk : k ≤ 1000000000) :
    Calls Tryz.prog 75 #[.pointer (some ⟨g, 0, none⟩)] w (NextPost w g B v n k 255) := by
  have hH := Lib.hid h
  obtain ⟨⟨A, cap, rfl, hn, hb⟩, h1, h2, h3, ⟨s, h4⟩, h5, h6, h7⟩ := h
  by_cases hlt : k < n
  · obtain ⟨gb, ob, b, rfl, hgb, hcb, b1, b2⟩ := hb k hlt
    clear hb
    have ne : gb ≠ g := by omega
    have ne' : g ≠ gb := by omega
    go_enter Tryz.func75, Tryz.ntmps75
    go_wp2
    go_quiet (fail)
    go_wp2
    go_quiet (fail)
    go_wp2
    go_quiet (fail)
    go_wp2
    go_ret
    exact NextPost.mk' hH.out ⟨b1, b2⟩ (by repeat (first | exact World.grownBy.refl _ _ | refine Gr.alloc ?_ _ | refine Gr.drew ?_ | refine grown_dr ?_ _ | refine Gr.below ?_ (by assumption) (Nat.le_refl _) | refine grown_tr ?_ (by assumption) | refine Gr.set ?_ _ _ | refine Gr.setNew ?_ (by first | exact Nat.le_refl _ | exact Nat.le_add_right _ _ | (simp <;> omega)) _)) (by simp [go_sem, *]) (by simp [go_sem, *]) ⟨_, by simp [go_sem, *]; rfl⟩ (by simp [go_sem, *]) (by simp [go_sem, *])
  · clear hb
    have hle : ¬ k + 1 ≤ n := by omega
    go_enter Tryz.func75, Tryz.ntmps75
    go_wp2
    go_quiet (fail)
    go_wp2
    go_quiet (fail)
    go_wp2
    go_ret
    exact NextPost.mk' hH.out (low8 _) (by repeat (first | exact World.grownBy.refl _ _ | refine Gr.alloc ?_ _ | refine Gr.drew ?_ | refine grown_dr ?_ _ | refine Gr.below ?_ (by assumption) (Nat.le_refl _) | refine grown_tr ?_ (by assumption) | refine Gr.set ?_ _ _ | refine Gr.setNew ?_ (by first | exact Nat.le_refl _ | exact Nat.le_add_right _ _ | (simp <;> omega)) _)) (by simp [go_sem, *]) (by simp [go_sem, *]) ⟨_, by simp [go_sem, *]; rfl⟩ (by simp [go_sem, *]) (by simp [go_sem, *])

/-- with a bound on the calls so far -/
def CurK (w : World) (g B : Nat) (v : Value) (n K : Nat) : Prop := ∃ k, k ≤ K ∧ Cur w g B v n k
def DrawPost (w : World) (g B : Nat) (v : Value) (n K : Nat) (lo hi : Int) (e : Ending) (w' : World) : Prop :=
  ∃ x : Int, e = .returned (.int .i64 x) ∧ (lo ≤ x ∧ x ≤ hi) ∧ CurK w' g B v n K ∧ w.grownBy w' (some g)
theorem CurK.size {w : World} {g B n K : Nat} {v : Value} (h : CurK w g B v n K) : g < w.heap.size := h.elim fun _ h => h.2.size
theorem CurK.keep {w w' : World} {g B n K : Nat} {v : Value} (h : CurK w g B v n K) (hb : Below w.heap.size w w') : CurK w' g B v n K := by
  obtain ⟨k, hk, h⟩ := h
  have hg := below_grown hb (some (w.heap.size + g + 1))
  obtain ⟨s, hs⟩ := h.c2
  have hl := h.size
  have hlt := h.lt
  refine ⟨k, hk, h.bytes.keep hg (by omega), h.lt, Gr.cellK hg h.c0 (by omega), Gr.cellK hg h.c1 (by omega), ⟨s, Gr.cellK hg hs (by omega)⟩, Gr.frzK hg h.size h.f1 (by omega), Gr.frzK hg h.size h.f2 (by omega), Gr.sizeK hg h.size⟩
theorem CurK.alloc {w : World} {g B n K : Nat} {v : Value} (h : CurK w g B v n K) (o : Obj) : CurK (w.alloc o) g B v n K := h.keep ((Below.refl _ _).alloc (Nat.le_refl _) o)
theorem CurK.mono {w : World} {g B n K K' : Nat} {v : Value} (h : CurK w g B v n K) (hK : K ≤ K') : CurK w g B v n K' := by
  obtain ⟨k, hk, h⟩ := h
  exact ⟨k, by omega, h⟩
theorem nextK_c (g B : Nat) (v : Value) (n K : Nat) (w : World) (h : CurK w g B v n K) (hk : K ≤ 1000000000) :
    Calls Tryz.prog 75 #[.pointer (some ⟨g, 0, none⟩)] w (DrawPost w g B v n (K + 1) 0 255) := by
  obtain ⟨k, hk', h⟩ := h
  refine (next_c g B v n k w h (by omega)).mono ?_
  rintro e w' ⟨x, rfl, hx, hc, hg⟩
  exact ⟨x, rfl, hx, ⟨k + 1, by omega, hc⟩, hg⟩
theorem pick_c (g B : Nat) (v : Value) (n K : Nat) (m : Int) (w : World) (h : CurK w g B v n K) (hk : K ≤ 900000000) (h1 : 1 ≤ m) (h2 : m ≤ 60000) :
    Calls Tryz.prog 50 #[.pointer (some ⟨g, 0, none⟩), .int .i64 m] w (DrawPost w g B v n (K + 2) 0 (m - 1)) := by
  by_cases c1 : m ≤ 1
  · go_enter Tryz.func50, Tryz.ntmps50
    go_wp2
    go_ret
    exact ⟨0, rfl, ⟨by omega, by omega⟩, h.mono (by omega), grown_rf _ _⟩
  · by_cases c2 : 200 < m
    · go_enter Tryz.func50, Tryz.ntmps50
      go_wp2_with fail
      refine (nextK_c g B v n K _ h (by omega)).mono ?_; rintro e w1 ⟨x, rfl, ⟨x1, x2⟩, hc1, hg1⟩
      go_wp2_with fail
      refine (nextK_c g B v n (K + 1) _ hc1 (by omega)).mono ?_; rintro e w2 ⟨y, rfl, ⟨y1, y2⟩, hc2, hg2⟩
      go_wp2
      go_ret
      have hm := M.mod_bd (a := x * 256 + y) (p := m) (by omega)
      exact ⟨_, rfl, ⟨by omega, by omega⟩, hc2, grown_tr hg1 hg2⟩
    · go_enter Tryz.func50, Tryz.ntmps50
      go_wp2_with fail
      refine (nextK_c g B v n K _ h (by omega)).mono ?_; rintro e w1 ⟨x, rfl, ⟨x1, x2⟩, hc1, hg1⟩
      go_wp2
      go_ret
      have hm := M.mod_bd (a := x) (p := m) (by omega)
      exact ⟨_, rfl, ⟨by omega, by omega⟩, hc1.mono (by omega), hg1⟩
def OnePost (w : World) (g B : Nat) (v : Value) (n K : Nat) (e : Ending) (w' : World) : Prop :=
  ∃ b : Bool, e = .returned (.bool b) ∧ CurK w' g B v n K ∧ w.grownBy w' (some g)
theorem one_c (g B : Nat) (v : Value) (n K : Nat) (m : Int) (w : World) (h : CurK w g B v n K) (hk : K ≤ 900000000) (h1 : 1 ≤ m) (h2 : m ≤ 60000) :
    Calls Tryz.prog 76 #[.pointer (some ⟨g, 0, none⟩), .int .i64 m] w (OnePost w g B v n (K + 2)) := by
  go_enter Tryz.func76, Tryz.ntmps76
  go_wp2_with fail
  refine (pick_c g B v n K m _ h hk h1 h2).mono ?_; rintro e w1 ⟨x, rfl, ⟨x1, x2⟩, hc1, hg1⟩
  go_wp2
  go_ret
  exact ⟨_, rfl, hc1, hg1⟩
/-- numbers that can be read -/
def Nums (w : World) (g : Nat) (v : Value) (l : List Int) : Prop := SeenI w w.heap.size v l ∧ ∀ A cap, v = .slice (some A) l.length cap → A.block ≠ g
end Go.Proofs.YtodgfechhielaaaGreatDoor
