/-
  Joined texts: contracts and plain laws.
-/
import Derived.Test.YtgkjmjlkhnfbiaaGreatB1
import Derived.RegionTactic
import Derived.Deep.QuietTactic
import Derived.BigQuiet
import Derived.OwnWalk
import Derived.Laws.Bits64b
import Derived.Laws.FloatArith
import Derived.Laws.Externs
namespace Go.Proofs.YtgkjmjlkhnfbiaaGreat
set_option linter.unusedSimpArgs false
set_option linter.unusedVariables false
open Go.RowKit

/-- bytes that came in, in blocks below B -/
def Bytes (w : World) (B : Nat) (v : Value) (n : Nat) : Prop :=
  ∃ (A : Option Addr) (cap : Nat), v = .slice A n cap ∧ (n : Int) ≤ 9223372036854775807 ∧ ∀ j, j < n → ∃ (g o : Nat) (b : Int), A = some ⟨g, o, none⟩ ∧ g < B ∧ w.cell? ⟨g, o + j, none⟩ = some (.int .u8 b) ∧ 0 ≤ b ∧ b ≤ 255
structure Cur (w : World) (g B : Nat) (v : Value) (n k : Nat) : Prop where
  bytes : Bytes w B v n
  lt : B ≤ g
  c0 : w.cell? ⟨g, 0, none⟩ = some v
  c1 : w.cell? ⟨g, 1, none⟩ = some (.int .i64 k)
  c2 : ∃ s : Int, w.cell? ⟨g, 2, none⟩ = some (.int .u64 s)
  f1 : w.frozen? ⟨g, 1, none⟩ = false
  f2 : w.frozen? ⟨g, 2, none⟩ = false
  size : g < w.heap.size

theorem Bytes.keep {w w' : World} {B g n : Nat} {v : Value} (h : Bytes w B v n) (hg : w.grownBy w' (some g)) (hB : B ≤ g) : Bytes w' B v n := by
  obtain ⟨A, cap, e, hn, hb⟩ := h
  refine ⟨A, cap, e, hn, fun j hj => ?_⟩
  obtain ⟨gb, ob, b, e, hgb, hc, h1, h2⟩ := hb j hj
  exact ⟨gb, ob, b, e, hgb, Gr.cellK hg hc (by omega), h1, h2⟩
def NextPost (w : World) (g B : Nat) (v : Value) (n k m : Nat) (e : Ending) (w' : World) : Prop :=
  ∃ x : Int, e = .returned (.int .i64 x) ∧ (0 ≤ x ∧ x ≤ m) ∧ Cur w' g B v n (k + 1) ∧ w.grownBy w' (some g)
theorem NextPost.mk' {w w' : World} {g B n k m : Nat} {v : Value} {x : Int} (h : Cur w g B v n k) (hx : 0 ≤ x ∧ x ≤ m) (hg : w.grownBy w' (some g)) (c0 : w'.cell? ⟨g, 0, none⟩ = some v) (c1 : w'.cell? ⟨g, 1, none⟩ = some (.int .i64 (k + 1)))
    (c2 : ∃ s : Int, w'.cell? ⟨g, 2, none⟩ = some (.int .u64 s)) (f1 : w'.frozen? ⟨g, 1, none⟩ = false) (f2 : w'.frozen? ⟨g, 2, none⟩ = false) : NextPost w g B v n k m (.returned (.int .i64 x)) w' :=
  ⟨x, rfl, hx, ⟨h.bytes.keep hg h.lt, h.lt, c0, by rw [c1]; rfl, c2, f1, f2, Gr.sizeK hg h.size⟩, hg⟩
theorem low8 (X : Int) : 0 ≤ wrap64 (bits BinOp.and IntKind.u64 X 255) ∧ wrap64 (bits BinOp.and IntKind.u64 X 255) ≤ ((255 : Nat) : Int) := by
  have e : bits BinOp.and IntKind.u64 X 255 = (((BitVec.ofInt 64 X).toNat &&& 255 : Nat) : Int) := by
    show IntKind.u64.wrap ((BitVec.ofInt 64 X &&& BitVec.ofInt 64 (255 : Int)).toNat : Int) = _
    have h2 : (BitVec.ofInt 64 (255 : Int)).toNat = 255 := by decide
    rw [BitVec.toNat_and, h2, IntKind.wrap_u64]
    have : (BitVec.ofInt 64 X).toNat &&& 255 ≤ 255 := Nat.and_le_right
    omega
  have h : (BitVec.ofInt 64 X).toNat &&& 255 ≤ 255 := Nat.and_le_right
  rw [e, IntWalk.wrap64_in _ (by omega)]
  omega
theorem next_c (g B : Nat) (v : Value) (n k : Nat) (w : World) (h : Cur w g B v n k) (hk : k ≤ 1000000000) :
    Calls Tryz.prog 143 #[.pointer (some ⟨g, 0, none⟩)] w (NextPost w g B v n k 255) := by
  have hH := Lib.hid h
  obtain ⟨⟨A, cap, rfl, hn, hb⟩, h1, h2, h3, ⟨s, h4⟩, h5, h6, h7⟩ := h
  by_cases hlt : k < n
  · obtain ⟨gb, ob, b, rfl, hgb, hcb, b1, b2⟩ := hb k hlt
    clear hb
    have ne : gb ≠ g := by omega
    have ne' : g ≠ gb := by omega
    go_enter Tryz.func143, Tryz.ntmps143
    go_wp2
    go_quiet (fail)
    go_wp2
    go_quiet (fail)
    go_wp2
    go_quiet (fail)
    go_wp2
    go_ret
    exact NextPost.mk' hH.out ⟨b1, b2⟩ (by repeat (first | exact World.grownBy.refl _ _ | refine Gr.alloc ?_ _ | refine Gr.drew ?_ | refine grown_dr ?_ _ | refine Gr.below ?_ (by assumption) (Nat.le_refl _) | refine grown_tr ?_ (by assumption) | refine Gr.set ?_ _ _ | refine Gr.setNew ?_ (by first | exact Nat.le_refl _ | exact Nat.le_add_right _ _ | (simp <;> omega)) _)) (by simp [go_sem, *]) (by simp [go_sem, *]) ⟨_, by simp [go_sem, *]; rfl⟩ (by simp [go_sem, *]) (by simp [go_sem, *])
  · clear hb
    have hle : ¬ k + 1 ≤ n := by omega
    go_enter Tryz.func143, Tryz.ntmps143
    go_wp2
    go_quiet (fail)
    go_wp2
    go_quiet (fail)
    go_wp2
    go_ret
    exact NextPost.mk' hH.out (low8 _) (by repeat (first | exact World.grownBy.refl _ _ | refine Gr.alloc ?_ _ | refine Gr.drew ?_ | refine grown_dr ?_ _ | refine Gr.below ?_ (by assumption) (Nat.le_refl _) | refine grown_tr ?_ (by assumption) | refine Gr.set ?_ _ _ | refine Gr.setNew ?_ (by first | exact Nat.le_refl _ | exact Nat.le_add_right _ _ | (simp <;> omega)) _)) (by simp [go_sem, *]) (by simp [go_sem, *]) ⟨_, by simp [go_sem, *]; rfl⟩ (by simp [go_sem, *]) (by simp [go_sem, *])

/-- with a bound on the calls so far -/
def CurK (w : World) (g B : Nat) (v : Value) (n K : Nat) : Prop := ∃ k, k ≤ K ∧ Cur w g B v n k
def DrawPost (w : World) (g B : Nat) (v : Value) (n K : Nat) (lo hi : Int) (e : Ending) (w' : World) : Prop :=
  ∃ x : Int, e = .returned (.int .i64 x) ∧ (lo ≤ x ∧ x ≤ hi) ∧ CurK w' g B v n K ∧ w.grownBy w' (some g)
theorem CurK.size {w : World} {g B n K : Nat} {v : Value} (h : CurK w g B v n K) : g < w.heap.size := h.elim fun _ h => h.2.size
theorem CurK.keep {w w' : World} {g B n K : Nat} {v : Value} (h : CurK w g B v n K) (hb : Below w.heap.size w w') : CurK w' g B v n K := by
  obtain ⟨k, hk, h⟩ := h
  have hg := below_grown hb (some (w.heap.size + g + 1))
  obtain ⟨s, hs⟩ := h.c2
  have hl := h.size
  have hlt := h.lt
  refine ⟨k, hk, h.bytes.keep hg (by omega), h.lt, Gr.cellK hg h.c0 (by omega), Gr.cellK hg h.c1 (by omega), ⟨s, Gr.cellK hg hs (by omega)⟩, Gr.frzK hg h.size h.f1 (by omega), Gr.frzK hg h.size h.f2 (by omega), Gr.sizeK hg h.size⟩
theorem CurK.alloc {w : World} {g B n K : Nat} {v : Value} (h : CurK w g B v n K) (o : Obj) : CurK (w.alloc o) g B v n K := h.keep ((Below.refl _ _).alloc (Nat.le_refl _) o)
theorem CurK.mono {w : World} {g B n K K' : Nat} {v : Value} (h : CurK w g B v n K) (hK : K ≤ K') : CurK w g B v n K' := by
  obtain ⟨k, hk, h⟩ := h
  exact ⟨k, by omega, h⟩
theorem nextK_c (g B : Nat) (v : Value) (n K : Nat) (w : World) (h : CurK w g B v n K) (hk : K ≤ 1000000000) :
    Calls Tryz.prog 143 #[.pointer (some ⟨g, 0, none⟩)] w (DrawPost w g B v n (K + 1) 0 255) := by
  obtain ⟨k, hk', h⟩ := h
  refine (next_c g B v n k w h (by omega)).mono ?_
  rintro e w' ⟨x, rfl, hx, hc, hg⟩
  exact ⟨x, rfl, hx, ⟨k + 1, by omega, hc⟩, hg⟩
theorem pick_c (g B : Nat) (v : Value) (n K : Nat) (m : Int) (w : World) (h : CurK w g B v n K) (hk : K ≤ 900000000) (h1 : 1 ≤ m) (h2 : m ≤ 60000) :
    Calls Tryz.prog 119 #[.pointer (some ⟨g, 0, none⟩), .int .i64 m] w (DrawPost w g B v n (K + 2) 0 (m - 1)) := by
  by_cases c1 : m ≤ 1
  · go_enter Tryz.func119, Tryz.ntmps119
    go_wp2
    go_ret
    exact ⟨0, rfl, ⟨by omega, by omega⟩, h.mono (by omega), grown_rf _ _⟩
  · by_cases c2 : 200 < m
    · go_enter Tryz.func119, Tryz.ntmps119
      go_wp2_with fail
      refine (nextK_c g B v n K _ h (by omega)).mono ?_; rintro e w1 ⟨x, rfl, ⟨x1, x2⟩, hc1, hg1⟩
      go_wp2_with fail
      refine (nextK_c g B v n (K + 1) _ hc1 (by omega)).mono ?_; rintro e w2 ⟨y, rfl, ⟨y1, y2⟩, hc2, hg2⟩
      go_wp2
      go_ret
      have hm := M.mod_bd (a := x * 256 + y) (p := m) (by omega)
      exact ⟨_, rfl, ⟨by omega, by omega⟩, hc2, grown_tr hg1 hg2⟩
    · go_enter Tryz.func119, Tryz.ntmps119
      go_wp2_with fail
      refine (nextK_c g B v n K _ h (by omega)).mono ?_; rintro e w1 ⟨x, rfl, ⟨x1, x2⟩, hc1, hg1⟩
      go_wp2
      go_ret
      have hm := M.mod_bd (a := x) (p := m) (by omega)
      exact ⟨_, rfl, ⟨by omega, by omega⟩, hc1.mono (by omega), hg1⟩
def OnePost (w : World) (g B : Nat) (v : Value) (n K : Nat) (e : Ending) (w' : World) : Prop :=
  ∃ b : Bool, e = .returned (.bool b) ∧ CurK w' g B v n K ∧ w.grownBy w' (some g)
theorem one_c (g B : Nat) (v : Value) (n K : Nat) (m : Int) (w : World) (h : CurK w g B v n K) (hk : K ≤ 900000000) (h1 : 1 ≤ m) (h2 : m ≤ 60000) :
    Calls Tryz.prog 89 #[.pointer (some ⟨g, 0, none⟩), .int .i64 m] w (OnePost w g B v n (K + 2)) := by
  go_enter Tryz.func89, Tryz.ntmps89
  go_wp2_with fail
  refine (pick_c g B v n K m _ h hk h1 h2).mono ?_; rintro e w1 ⟨x, rfl, ⟨x1, x2⟩, hc1, hg1⟩
  go_wp2
  go_ret
  exact ⟨_, rfl, hc1, hg1⟩
/-- numbers that can be read -/
def Nums (w : World) (g : Nat) (v : Value) (l : List Int) : Prop := SeenI w w.heap.size v l ∧ ∀ A cap, v = .slice (some A) l.length cap → A.block ≠ g
end Go.Proofs.YtgkjmjlkhnfbiaaGreat

namespace Go.Proofs.YtgkjmjlkhnfbiaaGreat
set_option linter.unusedSimpArgs false
set_option linter.unusedVariables false
open Go.RowKit

/-- a struct of two numbers in a block of the call's own -/
structure Box (w : World) (b : Nat) (m n : Int) : Prop where
  c0 : w.cell? ⟨b, 0, none⟩ = some (.int .i64 m)
  c1 : w.cell? ⟨b, 1, none⟩ = some (.int .i64 n)
  f0 : w.frozen? ⟨b, 0, none⟩ = false
  f1 : w.frozen? ⟨b, 1, none⟩ = false
  size : b < w.heap.size
theorem Box.keepR {w w' : World} {b : Nat} {m n : Int} {r : Option Nat} (h : Box w b m n) (hg : w.grownBy w' r) (hn : some b ≠ r) : Box w' b m n :=
  ⟨hg.cell h.c0 hn, hg.cell h.c1 hn, (Gr.frozen hg h.size hn).trans h.f0, (Gr.frozen hg h.size hn).trans h.f1, Gr.sizeK hg h.size⟩
theorem Box.keepG {w w' : World} {b g : Nat} {m n : Int} (h : Box w b m n) (hg : w.grownBy w' (some g)) (hn : b ≠ g) : Box w' b m n := h.keepR hg (by simpa using hn)
theorem Box.keep {w w' : World} {b : Nat} {m n : Int} (h : Box w b m n) (hb : Below w.heap.size w w') : Box w' b m n := h.keepR (below_grown hb none) (by simp)
theorem Box.alloc {w : World} {b : Nat} {m n : Int} (h : Box w b m n) (o : Obj) : Box (w.alloc o) b m n := h.keep ((Below.refl _ _).alloc (Nat.le_refl _) o)
theorem Box.drew {w : World} {b : Nat} {m n : Int} (h : Box w b m n) : Box w.drew b m n := ⟨h.c0, h.c1, h.f0, h.f1, h.size⟩
theorem Box.new (w : World) (m n : Int) (T : TypeId) : Box (w.alloc (.cells #[.int .i64 m, .int .i64 n] T)) w.heap.size m n :=
  ⟨by rw [World.cell?_alloc_at _ _ _ _ rfl]; rfl, by rw [World.cell?_alloc_at _ _ _ _ rfl]; rfl, by simp [go_sem], by simp [go_sem], by rw [World.size_alloc]; omega⟩
theorem Box.store {w : World} {b : Nat} {m n : Int} (h : Box w b m n) (x y : Int) : Box ((w.setCell ⟨b, 0, none⟩ (.int .i64 x)).setCell ⟨b, 1, none⟩ (.int .i64 y)) b x y := by
  obtain ⟨h1, h2, h3, h4, h5⟩ := h
  exact ⟨by simp [go_sem, *], by simp [go_sem, *], by simp [go_sem, *], by simp [go_sem, *], by simp [go_sem, *]⟩
theorem set2_grown (w : World) (c : Nat) (x y : Value) : w.grownBy ((w.setCell ⟨c, 0, none⟩ x).setCell ⟨c, 1, none⟩ y) (some c) := Gr.set (Gr.set (grown_rf w (some c)) 0 x) 1 y
theorem Box.other {w : World} {b c : Nat} {m n : Int} (h : Box w b m n) (hn : b ≠ c) (x y : Value) : Box ((w.setCell ⟨c, 0, none⟩ x).setCell ⟨c, 1, none⟩ y) b m n := h.keepG (set2_grown w c x y) hn
theorem CurK.keepR {w w' : World} {g B n K c : Nat} {v : Value} (h : CurK w g B v n K) (hg : w.grownBy w' (some c)) (hc : g ≠ c) (hB : B ≤ c) : CurK w' g B v n K := by
  obtain ⟨k, hk, h⟩ := h
  obtain ⟨s, hs⟩ := h.c2
  exact ⟨k, hk, h.bytes.keep hg hB, h.lt, Gr.cellK hg h.c0 hc, Gr.cellK hg h.c1 hc, ⟨s, Gr.cellK hg hs hc⟩, Gr.frzK hg h.size h.f1 hc, Gr.frzK hg h.size h.f2 hc, Gr.sizeK hg h.size⟩
/-- where a draw stands: w when it began, W now -/
structure St (w W : World) (g B : Nat) (v : Value) (n K : Nat) : Prop where
  cur : CurK W g B v n K
  gr : w.grownBy W (some g)
  lt : B ≤ g
theorem St.start {w : World} {g B n K : Nat} {v : Value} (h : CurK w g B v n K) : St w w g B v n K := ⟨h, grown_rf _ _, h.elim fun _ h => h.2.lt⟩
theorem St.call {w W W' : World} {g B n K K' : Nat} {v : Value} (h : St w W g B v n K) (hc : CurK W' g B v n K') (hg : W.grownBy W' (some g)) : St w W' g B v n K' := ⟨hc, grown_tr h.gr hg, h.lt⟩
theorem St.keep {w W W' : World} {g B n K : Nat} {v : Value} (h : St w W g B v n K) (hb : Below W.heap.size W W') : St w W' g B v n K := ⟨h.cur.keep hb, grown_tr h.gr (below_grown hb _), h.lt⟩
theorem St.alloc {w W : World} {g B n K : Nat} {v : Value} (h : St w W g B v n K) (o : Obj) : St w (W.alloc o) g B v n K := h.keep ((Below.refl _ _).alloc (Nat.le_refl _) o)
theorem St.store {w W : World} {g B n K c : Nat} {v : Value} (h : St w W g B v n K) (hc : w.heap.size ≤ c) (hg : g ≠ c) (hB : B ≤ c) (x y : Value) : St w ((W.setCell ⟨c, 0, none⟩ x).setCell ⟨c, 1, none⟩ y) g B v n K :=
  ⟨h.cur.keepR (set2_grown W c x y) hg hB, Gr.setNew (Gr.setNew h.gr hc _) hc _, h.lt⟩
theorem St.size {w W : World} {g B n K : Nat} {v : Value} (h : St w W g B v n K) : g < W.heap.size := h.cur.size
theorem St.le {w W : World} {g B n K : Nat} {v : Value} (h : St w W g B v n K) : w.heap.size ≤ W.heap.size := h.gr.size

theorem lit_cells (W : World) (T : TypeId) (l : List Int) : ∀ (j : Nat) (x : Int), l[j]? = some x → (W.alloc (.cells (l.map (Value.int .i64)).toArray T)).cell? ⟨W.heap.size, j, none⟩ = some (.int .i64 x) := fun j x h => by
  rw [World.cell?_alloc_at _ _ _ _ rfl]
  simp [h]
def AmongPost (w : World) (g B : Nat) (v : Value) (n K : Nat) (l : List Int) (e : Ending) (w' : World) : Prop :=
  ∃ x : Int, e = .returned (.int .i64 x) ∧ x ∈ l ∧ CurK w' g B v n K ∧ w.grownBy w' (some g)
theorem among_c (g B : Nat) (v : Value) (n K : Nat) (l : List Int) (b m : Nat) (w : World) (h : CurK w g B v n K) (hk : K ≤ 900000000) (hm : l.length = m) (h1 : 1 ≤ m) (h2 : m ≤ 60000) (hne : b ≠ g)
    (hc : ∀ (j : Nat) (x : Int), l[j]? = some x → w.cell? ⟨b, j, none⟩ = some (.int .i64 x)) :
    Calls Tryz.prog 108 #[.pointer (some ⟨g, 0, none⟩), .slice (some ⟨b, 0, none⟩) m m] w (AmongPost w g B v n (K + 2) l) := by
  have Hc := Lib.hid hc
  have Hm := Lib.hid hm
  clear hc hm
  go_enter Tryz.func108, Tryz.ntmps108
  go_wp2_with fail
  refine (pick_c g B v n K m _ h hk (by omega) (by omega)).mono ?_; rintro e w1 ⟨y, rfl, ⟨y1, y2⟩, hc1, hg1⟩
  obtain ⟨j, rfl⟩ : ∃ j : Nat, y = j := ⟨y.toNat, by omega⟩
  have hj : j < m := by omega
  obtain ⟨x, hx⟩ : ∃ x, Hid (l[j]? = some x) := ⟨_, Lib.hid (List.getElem?_eq_getElem (by have := Hm.out; omega))⟩
  have q0 := Gr.cellK hg1 (Hc.out j x hx.out) hne
  go_wp2
  go_ret
  exact ⟨x, rfl, List.mem_of_getElem? hx.out, hc1, hg1⟩
end Go.Proofs.YtgkjmjlkhnfbiaaGreat

namespace Go.Proofs.YtgkjmjlkhnfbiaaGreat
set_option linter.unusedSimpArgs false
set_option linter.unusedVariables false
namespace M
open Ieee
theorem cut0 (neg : Bool) (n : Nat) : Toward.even.cut neg n 0 = n := by
  unfold Toward.cut
  simp [Nat.mod_one]
theorem cut_le {neg : Bool} {n drop k : Nat} (h : n < 2 ^ (drop + k)) : Toward.even.cut neg n drop ≤ 2 ^ k := by
  unfold Toward.cut
  dsimp only
  rw [Nat.one_shiftLeft]
  have hb : ∀ b : Bool, b.toNat ≤ 1 := fun b => by cases b <;> decide
  have hp : 0 < 2 ^ k := Nat.two_pow_pos k
  refine Nat.le_trans (Nat.add_le_add_left (hb _) _) ?_
  by_cases hd : drop ≤ n.log2 + 2
  · rw [Nat.min_eq_left hd]
    have : n / 2 ^ drop < 2 ^ k := by
      rw [Nat.div_lt_iff_lt_mul (Nat.two_pow_pos _), ← Nat.pow_add, Nat.add_comm k]; exact h
    omega
  · rw [Nat.min_eq_right (by omega)]
    have h1 : n < 2 ^ (n.log2 + 2) := Nat.lt_of_lt_of_le Nat.lt_log2_self (Nat.pow_le_pow_right (by decide) (by omega))
    rw [Nat.div_eq_of_lt h1]
    omega
theorem cutz_le {neg : Bool} {n drop k : Nat} (h : n < 2 ^ (drop + k)) : Toward.zero.cut neg n drop ≤ 2 ^ k := by
  unfold Toward.cut
  dsimp only
  rw [Nat.one_shiftLeft]
  by_cases hd : drop ≤ n.log2 + 2
  · rw [Nat.min_eq_left hd]
    have : n / 2 ^ drop < 2 ^ k := by
      rw [Nat.div_lt_iff_lt_mul (Nat.two_pow_pos _), ← Nat.pow_add, Nat.add_comm k]; exact h
    simp
    omega
  · rw [Nat.min_eq_right (by omega)]
    have h1 : n < 2 ^ (n.log2 + 2) := Nat.lt_of_lt_of_le Nat.lt_log2_self (Nat.pow_le_pow_right (by decide) (by omega))
    rw [Nat.div_eq_of_lt h1]
    simp
theorem rootFrom_lt (n : Nat) : ∀ todo root : Nat, Datum.rootFrom n todo root < root + 2 ^ todo
  | 0, root => by simp [Datum.rootFrom]
  | todo + 1, root => by
    unfold Datum.rootFrom
    dsimp only
    have h1 := rootFrom_lt n todo (root + 1 <<< todo)
    have h2 := rootFrom_lt n todo root
    have h3 : (1 <<< todo : Nat) = 2 ^ todo := Nat.one_shiftLeft todo
    have h4 : 2 ^ (todo + 1) = 2 * 2 ^ todo := by rw [Nat.pow_succ]; omega
    rw [h3] at h1 ⊢
    split <;> omega
/-- what a small number's word is read as -/
theorem read_small {ρ : Nat} (h : ρ < 9218868437227405312) : double.read ρ = if ρ < 4503599627370496 then .number false ρ (-1074) else .number false (4503599627370496 + ρ % 4503599627370496) (-1074 + (ρ / 4503599627370496 - 1 : Nat)) := by
  unfold Format.read
  have e1 : double.signWeight = 9223372036854775808 := rfl
  have e2 : double.binade = 4503599627370496 := rfl
  have e3 : double.infRung = 9218868437227405312 := rfl
  have e4 : double.leastPlace = -1074 := by decide
  rw [e1, e2, e3, e4]
  have h1 : ρ % 9223372036854775808 = ρ := Nat.mod_eq_of_lt (by omega)
  have h2 : ρ / 9223372036854775808 = 0 := Nat.div_eq_of_lt (by omega)
  dsimp only
  rw [h1, h2]
  simp only [h, if_true]
  rfl
theorem log_shift {n k : Nat} (h : n ≠ 0) : (n <<< k).log2 = n.log2 + k := by
  rw [Nat.shiftLeft_eq]
  have h0 : n * 2 ^ k ≠ 0 := Nat.mul_ne_zero h (Nat.pos_iff_ne_zero.1 (Nat.two_pow_pos k))
  refine Nat.le_antisymm ?_ ?_
  · refine Nat.lt_succ_iff.1 ((Nat.log2_lt h0).2 ?_)
    rw [show (n.log2 + k).succ = (n.log2 + 1) + k from by omega, Nat.pow_add]
    exact Nat.mul_lt_mul_of_pos_right Nat.lt_log2_self (Nat.two_pow_pos k)
  · refine (Nat.le_log2 h0).2 ?_
    rw [Nat.pow_add]
    exact Nat.mul_le_mul_right _ (Nat.log2_self_le h)
theorem nearest_small {n : Nat} (h0 : n ≠ 0) (h : n < 9007199254740992) : double.read (double.nearest false n 0) = .number false (n <<< (52 - n.log2)) ((n.log2 : Int) - 52) := by
  have hL : n.log2 ≤ 52 := Nat.lt_succ_iff.1 ((Nat.log2_lt h0).2 h)
  have hK := log_shift (k := 52 - n.log2) h0
  rw [show n.log2 + (52 - n.log2) = 52 from by omega] at hK
  have hK0 : n <<< (52 - n.log2) ≠ 0 := by rw [Nat.shiftLeft_eq]; exact Nat.mul_ne_zero h0 (Nat.pos_iff_ne_zero.1 (Nat.two_pow_pos _))
  have k1 := Nat.log2_self_le hK0
  have k2 := Nat.lt_log2_self (n := n <<< (52 - n.log2))
  rw [hK] at k1 k2
  generalize hk : n <<< (52 - n.log2) = K at *
  have e : double.nearest false n 0 = (n.log2 + 1022) * 4503599627370496 + K := by
    unfold Format.nearest
    have e2 : double.binade = 4503599627370496 := rfl
    have e3 : double.infRung = 9218868437227405312 := rfl
    have e4 : double.leastPlace = -1074 := by decide
    have e5 : double.fractionBits = 52 := rfl
    rw [if_neg h0, e2, e3, e4, e5]
    dsimp only
    have m1 : max ((0 : Int) + (n.log2 : Int) - ((52 : Nat) : Int)) (-1074) = (n.log2 : Int) - 52 := by omega
    rw [m1]
    have m2 : ((0 : Int) - ((n.log2 : Int) - 52)).toNat = 52 - n.log2 := by omega
    have m3 : ((n.log2 : Int) - 52 - 0).toNat = 0 := by omega
    have m4 : ((n.log2 : Int) - 52 - -1074).toNat = n.log2 + 1022 := by omega
    rw [m2, m3, hk, cut0, m4, Nat.min_eq_left (by omega)]
    rfl
  rw [e, read_small (by omega), if_neg (by omega)]
  have d1 : ((n.log2 + 1022) * 4503599627370496 + K) % 4503599627370496 = K - 4503599627370496 := by omega
  have d2 : ((n.log2 + 1022) * 4503599627370496 + K) / 4503599627370496 = n.log2 + 1023 := by omega
  rw [d1, d2, show 4503599627370496 + (K - 4503599627370496) = K from by omega, show -1074 + ((n.log2 + 1023 - 1 : Nat) : Int) = (n.log2 : Int) - 52 from by omega]
theorem int_fin {m : Nat} {i : Int} (hm : m < 2 ^ 53) (hi : i ≤ -30) : ∃ R : Int, (Datum.number false m i).toInt .zero = some R ∧ 0 ≤ R ∧ R ≤ 8388608 := by
  have hz : i.toNat = 0 := by omega
  have h1 := cutz_le (neg := false) (n := m) (drop := (-i).toNat) (k := 23) (Nat.lt_of_lt_of_le hm (Nat.pow_le_pow_right (by decide) (by omega)))
  rw [show (2 : Nat) ^ 23 = 8388608 from rfl] at h1
  refine ⟨(Toward.zero.cut false m (-i).toNat : Nat), ?_, by omega, by omega⟩
  unfold Datum.toInt Datum.integral
  dsimp only
  rw [hz, Nat.shiftLeft_zero]
  simp [signed]
theorem int_word {ρ : Nat} (hρ : ρ ≤ 4706261610602168320) : ∃ R : Int, (double.read ρ).toInt .zero = some R ∧ 0 ≤ R ∧ R ≤ 8388608 := by
  have hmd := Nat.mod_lt ρ (show 0 < 4503599627370496 from by decide)
  rw [read_small (by omega)]
  have e53 : (9007199254740992 : Nat) = 2 ^ 53 := rfl
  by_cases hs : ρ < 4503599627370496
  · rw [if_pos hs]
    exact int_fin (by rw [← e53]; omega) (by omega)
  · rw [if_neg hs]
    exact int_fin (by rw [← e53]; omega) (by omega)
theorem kept_le {mag : Nat} {place : Int} : Toward.even.cut false (mag <<< (place - (place + mag.log2 - 52)).toNat) (place + mag.log2 - 52 - place).toNat ≤ 2 ^ 53 := by
  refine cut_le ?_
  have h3 := Nat.lt_log2_self (n := mag)
  rw [Nat.shiftLeft_eq]
  rcases Nat.lt_or_ge mag.log2 53 with q | q
  · have z1 : (place - (place + mag.log2 - 52)).toNat = 52 - mag.log2 := by omega
    have z2 : (place + mag.log2 - 52 - place).toNat = 0 := by omega
    have h4 := Nat.mul_lt_mul_of_pos_right h3 (Nat.two_pow_pos (52 - mag.log2))
    rw [← Nat.pow_add, show mag.log2 + 1 + (52 - mag.log2) = 53 from by omega] at h4
    rw [z1, z2, Nat.zero_add]
    exact h4
  · have z1 : (place - (place + mag.log2 - 52)).toNat = 0 := by omega
    have z2 : (place + mag.log2 - 52 - place).toNat = mag.log2 - 52 := by omega
    rw [z1, z2, Nat.pow_zero, Nat.mul_one, show mag.log2 - 52 + 53 = mag.log2 + 1 from by omega]
    exact h3
theorem near_word {mag : Nat} {place : Int} (h : mag < 2 ^ 56) (h1 : -200 ≤ place) (h2 : place ≤ -34) : double.nearest false mag place ≤ 4706261610602168320 := by
  unfold Format.nearest
  have e2 : double.binade = 4503599627370496 := rfl
  have e4 : double.leastPlace = -1074 := by decide
  have e5 : double.fractionBits = 52 := rfl
  have w0 : ∀ x, double.word false x = x := fun x => rfl
  by_cases h0 : mag = 0
  · rw [if_pos h0, w0]; omega
  rw [if_neg h0, e2, e4, e5, w0]
  have hl : mag.log2 ≤ 55 := Nat.lt_succ_iff.1 ((Nat.log2_lt h0).2 h)
  have m1 : max (place + (mag.log2 : Int) - ((52 : Nat) : Int)) (-1074) = place + mag.log2 - 52 := by omega
  rw [m1]
  refine Nat.le_trans (Nat.min_le_left _ _) ?_
  have hc := kept_le (mag := mag) (place := place)
  rw [show (2 : Nat) ^ 53 = 9007199254740992 from rfl] at hc
  have hb : (place + mag.log2 - 52 - -1074).toNat ≤ 1043 := by omega
  have hb2 := Nat.mul_le_mul_right 4503599627370496 hb
  exact Nat.le_trans (Nat.add_le_add hb2 hc) (by decide)
/-- what a number that is no more than a bound is rounded to, cut -/
theorem int_small {mag : Nat} {place : Int} (h : mag < 2 ^ 56) (h1 : -200 ≤ place) (h2 : place ≤ -34) :
    ∃ R : Int, (double.read (double.nearest false mag place)).toInt .zero = some R ∧ 0 ≤ R ∧ R ≤ 8388608 := int_word (near_word h h1 h2)
theorem sqrt_small {n : Nat} (h : n < 8796093022208) : ∃ r : Nat, double.sqrt (double.nearest false n 0) = some r ∧ ∃ R : Int, (double.read r).toInt .zero = some R ∧ 0 ≤ R ∧ R ≤ 8388608 := by
  by_cases h0 : n = 0
  · subst h0
    exact ⟨_, rfl, _, rfl, by decide, by decide⟩
  have hL : n.log2 ≤ 42 := Nat.lt_succ_iff.1 ((Nat.log2_lt h0).2 h)
  have hK := log_shift (k := 52 - n.log2) h0
  rw [show n.log2 + (52 - n.log2) = 52 from by omega] at hK
  have hK0 : n <<< (52 - n.log2) ≠ 0 := by rw [Nat.shiftLeft_eq]; exact Nat.mul_ne_zero h0 (Nat.pos_iff_ne_zero.1 (Nat.two_pow_pos _))
  unfold Format.sqrt
  rw [nearest_small h0 (by omega)]
  generalize n <<< (52 - n.log2) = K at *
  generalize hn : n.log2 = l at *
  unfold Datum.root
  dsimp only
  have e5 : double.fractionBits = 52 := rfl
  rw [if_neg hK0, e5, hK]
  simp only [Bool.false_eq_true, if_false, Option.map_some]
  refine ⟨_, rfl, ?_⟩
  have hr : (((l : Int) - 52 - ((2 * (52 + 2) - 52 : Nat) : Int)) % 2).toNat ≤ 1 := by omega
  generalize hmm : (((l : Int) - 52 - ((2 * (52 + 2) - 52 : Nat) : Int)) % 2).toNat = b at *
  unfold Format.write
  dsimp only
  refine int_small ?_ ?_ ?_
  · have hx := rootFrom_lt (K <<< (2 * (52 + 2) - 52 + b)) ((K <<< (2 * (52 + 2) - 52 + b)).log2 / 2 + 1) 0
    have hy : (K <<< (2 * (52 + 2) - 52 + b)).log2 / 2 + 1 ≤ 55 := by rw [log_shift hK0]; omega
    have hz := Nat.pow_le_pow_right (n := 2) (by decide) hy
    have hb : ∀ c : Bool, c.toNat ≤ 1 := fun c => by cases c <;> decide
    rw [show (2 : Nat) ^ 55 = 36028797018963968 from rfl] at hz
    rw [show (2 : Nat) ^ 56 = 72057594037927936 from rfl]
    have := hb (Datum.rootFrom (K <<< (2 * (52 + 2) - 52 + b)) ((K <<< (2 * (52 + 2) - 52 + b)).log2 / 2 + 1) 0 * Datum.rootFrom (K <<< (2 * (52 + 2) - 52 + b)) ((K <<< (2 * (52 + 2) - 52 + b)).log2 / 2 + 1) 0 != K <<< (2 * (52 + 2) - 52 + b))
    omega
  · omega
  · omega
end M
/-- the same for the program's words -/
theorem sqrt_words {n : Int} (h0 : 0 ≤ n) (h : n ≤ 8000000000000) : ∃ r : Nat, FloatKind.f64.format.sqrt (FloatKind.f64.nearest n) = some r ∧ ∃ R : Int, floatToIntVal .f64 r .i64 = some R ∧ 0 ≤ R ∧ R ≤ 8388608 := by
  obtain ⟨r, h1, R, h2, h3, h4⟩ := M.sqrt_small (n := n.natAbs) (by omega)
  refine ⟨r, ?_, R, ?_, h3, h4⟩
  · have e : FloatKind.f64.nearest n = Ieee.double.nearest false n.natAbs 0 := by
      unfold FloatKind.nearest FloatKind.encode Ieee.Format.write
      dsimp only
      rw [show decide (n < 0) = false from by simp; omega]
      rfl
    rw [e]
    exact h1
  · unfold floatToIntVal
    rw [show (FloatKind.f64.decode r).toInt .zero = some R from h2]
    dsimp only
    rw [if_pos]
    have a1 : IntKind.i64.min = -9223372036854775808 := by decide
    have a2 : IntKind.i64.max = 9223372036854775807 := by decide
    omega
end Go.Proofs.YtgkjmjlkhnfbiaaGreat

namespace Go.Proofs.YtgkjmjlkhnfbiaaGreat
set_option linter.unusedSimpArgs false
set_option linter.unusedVariables false
open Go.RowKit
/-- whether a number is a square -/
noncomputable def M.isSq (n : Int) : Bool := decide (0 ≤ n) && (M.root n * M.root n == n)
theorem M.isSq_yes {n r : Int} (h : r * r = n) : M.isSq n = true := by
  have h0 : 0 ≤ n := by
    rw [← h]
    rcases Int.le_total 0 r with q | q
    · exact Int.mul_nonneg q q
    · exact Int.mul_nonneg_of_nonpos_of_nonpos q q
  have hr := M.root_eq (n := n) (r := (r.natAbs : Int)) ⟨by omega, by rw [← h]; exact Int.le_of_eq (Int.natAbs_mul_self' r), by
    have : (r.natAbs : Int) * (r.natAbs : Int) = r * r := Int.natAbs_mul_self' r
    rw [← h, ← this, Int.mul_add, Int.add_mul]
    omega⟩
  unfold M.isSq
  rw [← hr, Int.natAbs_mul_self', h]
  simp [h0]
theorem M.isSq_no {n r : Int} (h0 : 0 ≤ r) (h1 : r * r < n) (h2 : n < (r + 1) * (r + 1)) : M.isSq n = false := by
  have h3 : 0 ≤ r * r := Int.mul_nonneg h0 h0
  have hr := M.root_eq (n := n) (r := r) ⟨h0, by omega, h2⟩
  unfold M.isSq
  rw [← hr, show (r * r == n) = false from by simp; omega]
  simp
theorem M.isSq_neg {n : Int} (h : n < 0) : M.isSq n = false := by
  unfold M.isSq
  rw [show decide (0 ≤ n) = false from by simp; omega]
  rfl

theorem sqrt_call (x r : Nat) (h : FloatKind.f64.format.sqrt x = some r) (W : World) : (callFunc 171 #[.float .f64 x]).run Tryz.prog W = .ok (.value (.float .f64 r)) W := by
  rw [run_callFunc_extern Tryz.func171 (by kernel_rfl) (by kernel_rfl) (by kernel_rfl) (e := Extern.MathSqrt.sqrt) (by kernel_rfl)]
  have e : (Extern.MathSqrt.sqrt #[.float .f64 x]).run Tryz.prog W = .ok (.float .f64 r) W := by
    change Sem.run Tryz.prog (match FloatKind.f64.format.sqrt x with
      | some r => pure (Value.float .f64 r)
      | none => do pure (Value.float .f64 (← choose (.nanBits .f64 x x)))) W = _
    rw [h]
    rfl
  rw [e]
  rfl
theorem Sqrt_c (x r : Nat) (h : FloatKind.f64.format.sqrt x = some r) (w : World) :
    Calls Tryz.prog 154 #[.float .f64 x] w fun e w' => e = .returned (.float .f64 r) ∧ w = w' := by
  have hd := sqrt_call x r h
  go_enter Tryz.func154, Tryz.ntmps154
  go_wp2
  go_ret
  exact ⟨rfl, rfl⟩
set_option maxHeartbeats 1000000 in
theorem exactRoot_c (n : Int) (w : World) (h1 : n ≤ 8000000000000) :
    Calls Tryz.prog 136 #[.int .i64 n] w fun e w' => ∃ r : Int, e = .returned (.tuple #[.int .i64 r, .bool (M.isSq n)]) ∧ w = w' := by
  by_cases h0 : n < 0
  · have hz := M.isSq_neg h0
    go_enter Tryz.func136, Tryz.ntmps136
    go_wp2
    go_ret2
    exact ⟨0, by simp [hz], rfl⟩
  obtain ⟨r, hs, R, hR, R0, R1⟩ := sqrt_words (n := n) (by omega) h1
  have hc := fun W => run_convert_float_int (P := Tryz.prog) W 118 3 .f64 .i64 r R (by kernel_rfl) (by kernel_rfl) hR
  have hs' : FloatKind.f64.format.sqrt (floatOfInt .f64 n) = some r := hs
  have hcall := fun W => Sqrt_c (floatOfInt .f64 n) r hs' W
  clear hs hs' hR
  have HH := Lib.hid hcall
  clear hcall
  go_enter Tryz.func136, Tryz.ntmps136
  go_wp2_with (go_at_call 154; refine (HH.out _).mono ?_; rintro e w' ⟨rfl, rfl⟩)
  go_loop [4] (fun vr => ∃ a : Int, vr = .int .i64 a ∧ 0 ≤ a ∧ a ≤ 8388608) (fun vr => (intOf vr).toNat)
  case atStart => exact ⟨R, rfl, R0, R1⟩
  case round =>
    obtain ⟨a, rfl, a0, a1⟩ := hrel
    have hb := M.mul_nn (x := a) (y := a) (m := 8388608) (n := 8388608) a0 a1 a0 a1
    by_cases c : n < a * a
    · have ha : 1 ≤ a := by
        rcases Int.lt_or_le a 1 with q | q
        · obtain rfl : a = 0 := by omega
          simp at c
          omega
        · exact q
      go_wp2
      go_round
      case rel => exact ⟨a - 1, rfl, by omega, by omega⟩
      case measure => simp [intOf]; omega
    · clear HH hc
      go_wp2
      go_loop [4] (fun vr => ∃ a : Int, vr = .int .i64 a ∧ 0 ≤ a ∧ a ≤ 8388608 ∧ a * a ≤ n) (fun vr => (8388608 - intOf vr).toNat)
      case atStart => exact ⟨a, rfl, a0, a1, by omega⟩
      case round =>
        obtain ⟨b, rfl, b0, b1, b2⟩ := hrel
        have hbb := M.mul_nn (x := b + 1) (y := b + 1) (m := 8388609) (n := 8388609) (by omega) (by omega) (by omega) (by omega)
        have hb3 := M.mul_nn (x := b) (y := b) (m := 8388608) (n := 8388608) b0 b1 b0 b1
        by_cases d : (b + 1) * (b + 1) ≤ n
        · have hlt : b + 1 < 8388608 := by
            rcases Int.lt_or_le (b + 1) 8388608 with q | q
            · exact q
            · have := Int.mul_le_mul q q (by omega) (by omega)
              omega
          go_wp2
          go_round
          case rel => exact ⟨b + 1, rfl, by omega, by omega, d⟩
          case measure => simp [intOf]; omega
        · by_cases f : b * b = n
          · have hz := M.isSq_yes f
            go_wp2
            go_ret2
            first | exact ⟨b, by simp [hz], rfl⟩ | exact hz | exact ⟨b, rfl, hz⟩ | simp [hz]
          · have hz := M.isSq_no (n := n) b0 (by omega) (by omega)
            go_wp2
            go_ret2
            first | exact ⟨0, by simp [hz], rfl⟩ | exact hz | simp [hz]
theorem seRoot_c (n : Int) (w : World) (h1 : n ≤ 8000000000000) :
    Calls Tryz.prog 139 #[.int .i64 n] w fun e w' => ∃ r : Int, e = .returned (.int .i64 r) ∧ decide (0 ≤ r) = M.isSq n ∧ w = w' := by
  by_cases h0 : n < 0
  · have hz := M.isSq_neg h0
    go_enter Tryz.func139, Tryz.ntmps139
    go_wp2
    go_ret
    exact ⟨-1, rfl, by rw [hz]; rfl, rfl⟩
  go_enter Tryz.func139, Tryz.ntmps139
  go_wp2
  go_loop [3, 4] (fun l h => ∃ a b : Int, 0 ≤ a ∧ a ≤ b ∧ b ≤ 4000000 ∧ l = .int .i64 a ∧ h = .int .i64 b ∧ a * a ≤ n ∧ n < (b + 1) * (b + 1)) (fun l h => (intOf h - intOf l).toNat)
  case atStart => exact ⟨0, 4000000, by omega, by omega, by omega, rfl, rfl, by simp; omega, by simp; omega⟩
  case round =>
    obtain ⟨a, b, ha, hab, hb, rfl, rfl, ha2, hb2⟩ := hrel
    have hb3 := M.mul_nn (x := a) (y := a) (m := 4000000) (n := 4000000) ha (by omega) ha (by omega)
    by_cases c1 : a < b
    · have hm1 : a < (a + b + 1) / 2 := by omega
      have hm2 : (a + b + 1) / 2 ≤ b := by omega
      have hbm := M.mul_nn (x := (a + b + 1) / 2) (y := (a + b + 1) / 2) (m := 4000000) (n := 4000000) (by omega) (by omega) (by omega) (by omega)
      by_cases c2 : (a + b + 1) / 2 * ((a + b + 1) / 2) ≤ n
      · go_wp2
        go_round
        case rel => exact ⟨(a + b + 1) / 2, b, by omega, by omega, by omega, rfl, rfl, c2, hb2⟩
        case measure => simp [intOf]; omega
      · go_wp2
        go_round
        case rel => exact ⟨a, (a + b + 1) / 2 - 1, by omega, by omega, by omega, rfl, rfl, ha2, by rw [Int.sub_add_cancel]; omega⟩
        case measure => simp [intOf]; omega
    · obtain rfl : a = b := by omega
      by_cases f : a * a = n
      · have hz := M.isSq_yes f
        go_wp2
        go_ret
        first | exact ⟨a, rfl, by rw [hz]; simpa using ha, rfl⟩ | exact ⟨a, rfl, ha, rfl⟩ | exact ha
      · have hz := M.isSq_no (n := n) ha (by omega) hb2
        go_wp2
        go_ret
        first | exact ⟨-1, rfl, by rw [hz]; rfl, rfl⟩ | exact ⟨-1, rfl, by omega, rfl⟩ | omega
end Go.Proofs.YtgkjmjlkhnfbiaaGreat

namespace Go.Proofs.YtgkjmjlkhnfbiaaGreat
set_option linter.unusedSimpArgs false
set_option linter.unusedVariables false
namespace M
/-- no divisor between 1 and a prime -/
theorem prime_div {q d : Int} (hq : Prime q) (h2 : 2 ≤ d) (hd : q % d = 0) : d = q := by
  have hdvd : d ∣ q := Int.dvd_of_emod_eq_zero hd
  obtain ⟨c, hc⟩ := hdvd
  have hq2 := hq.1
  have hc1 : 1 ≤ c := by
    rcases Int.lt_or_le c 1 with h | h
    · have : d * c ≤ 0 := Int.mul_nonpos_of_nonneg_of_nonpos (by omega) (by omega)
      omega
    · exact h
  rcases Int.lt_or_le c 2 with h | h
  · have : c = 1 := by omega
    rw [this] at hc
    omega
  · exfalso
    rcases Int.lt_or_le c d with h' | h'
    · refine hq.2 c h ?_ ?_
      · rw [hc]; exact Int.mul_le_mul_of_nonneg_right (by omega) (by omega)
      · rw [hc]; exact Int.mul_emod_left d c
    · refine hq.2 d h2 ?_ hd
      rw [hc]; exact Int.mul_le_mul_of_nonneg_left h' (by omega)

theorem prime_gcd {q x : Int} (hq : Prime q) (h : ¬ x % q = 0) : Int.gcd q x = 1 := by
  have hg : (Int.gcd q x : Int) ∣ q := Int.gcd_dvd_left ..
  have hg2 : (Int.gcd q x : Int) ∣ x := Int.gcd_dvd_right ..
  have hq2 := hq.1
  have hpos : 0 < Int.gcd q x := Int.gcd_pos_of_ne_zero_left _ (by omega)
  rcases Nat.lt_or_ge (Int.gcd q x) 2 with k | k
  · omega
  · exfalso
    have := prime_div hq (d := (Int.gcd q x : Int)) (by omega) (Int.emod_eq_zero_of_dvd hg)
    rw [this] at hg2
    exact h (Int.emod_eq_zero_of_dvd hg2)

/-- Euclid -/
theorem prime_mul {q x y : Int} (hq : Prime q) (h : x * y % q = 0) (hx : ¬ x % q = 0) : y % q = 0 := by
  have h1 := Int.dvd_gcd_mul_iff_dvd_mul.2 (Int.dvd_of_emod_eq_zero h)
  rw [prime_gcd hq hx] at h1
  exact Int.emod_eq_zero_of_dvd (by simpa using h1)

/-- the primes that divide a number, increasing -/
noncomputable def pdiv (n p : Int) : Bool := prime p && (n % p == 0)
noncomputable def primesOf (n : Int) : List Int := sel (pdiv n) 0 (n.natAbs + 1)
theorem sel_skip {f : Int → Bool} {k m : Nat} (h : ∀ x : Int, (k : Int) ≤ x → x < m → f x = false) (hkm : k ≤ m) : sel f 0 m = sel f 0 k := by
  induction m with
  | zero => obtain rfl : k = 0 := by omega
            rfl
  | succ m ih =>
    rcases Nat.lt_or_ge k (m + 1) with q | q
    · rw [sel_no (by rw [Int.zero_add]; exact h m (by omega) (by omega)), ih (fun x h1 h2 => h x h1 (by omega)) (by omega)]
    · obtain rfl : k = m + 1 := by omega
      rfl

theorem primesOf_abs (n : Int) : primesOf n = primesOf n.natAbs := by
  unfold primesOf
  congr 1
  funext p
  unfold pdiv
  congr 1
  rw [Bool.eq_iff_iff, beq_iff_eq, beq_iff_eq]
  constructor
  · intro h
    exact Int.emod_eq_zero_of_dvd (Int.dvd_natAbs.2 (Int.dvd_of_emod_eq_zero h))
  · intro h
    exact Int.emod_eq_zero_of_dvd (Int.dvd_natAbs.1 (Int.dvd_of_emod_eq_zero h))
/-- the loop's relation: N the number, n what is left, p the next trial, l the list -/
structure PRel (N n p : Int) (l : List Int) : Prop where
  n1 : 1 ≤ n
  p2 : 2 ≤ p
  nN : n ≤ N
  pn : n = 1 ∨ p ≤ n
  pN : p ≤ N + 1
  dvd : N % n = 0
  low : ∀ d : Int, 2 ≤ d → d < p → ¬ n % d = 0
  big : ∀ q : Int, Prime q → p ≤ q → N % q = 0 → n % q = 0
  out : l = sel (pdiv N) 0 p.toNat

theorem PRel.start {N : Int} (h : 1 ≤ N) : PRel N N 2 [] where
  n1 := h
  p2 := by omega
  nN := by omega
  pn := by omega
  pN := by omega
  dvd := Int.emod_self
  low := fun d h1 h2 => by omega
  big := fun q _ _ h => h
  out := by
    have : sel (pdiv N) 0 2 = sel (pdiv N) 0 0 := sel_skip (fun x h1 h2 => by
      unfold pdiv
      rw [prime_not.2 (fun h => by have := h.1; omega)]
      rfl) (by omega)
    exact this.symm

/-- what is left is a prime when the trial's square is greater -/
theorem PRel.prime {N n p : Int} {l : List Int} (h : PRel N n p l) (hn : 1 < n) (hp : n < p * p) : Prime n := by
  refine ⟨by omega, fun d h2 hd => h.low d h2 ?_⟩
  exact sq_lt (by have := h.p2; omega) (by omega)
theorem dvd_tr {a b c : Int} (h : c % b = 0) (k : b % a = 0) : c % a = 0 :=
  Int.emod_eq_zero_of_dvd (Int.dvd_trans (Int.dvd_of_emod_eq_zero k) (Int.dvd_of_emod_eq_zero h))
/-- the trial jumps to what is left -/
theorem PRel.jump {N n p : Int} {l : List Int} (h : PRel N n p l) (hn : 1 < n) (hp : n < p * p) : PRel N n n l where
  n1 := h.n1
  p2 := by omega
  nN := h.nN
  pn := by omega
  pN := by have := h.nN; omega
  dvd := h.dvd
  low := fun d h2 hd hz => by
    have := prime_div (h.prime hn hp) h2 hz
    omega
  big := fun q hq hpq hN => h.big q hq (by rcases h.pn with k | k <;> omega) hN
  out := by
    rw [h.out]
    have hpn : p ≤ n := by rcases h.pn with k | k <;> omega
    refine (sel_skip (fun x h1 h2 => ?_) (by omega)).symm
    unfold pdiv
    have hp2 := h.p2
    cases hx : M.prime x
    · rfl
    · have hxp := prime_iff.1 hx
      cases hd : (N % x == 0)
      · rfl
      · have := h.big x hxp (by omega) (by simpa using hd)
        have := prime_div (h.prime hn hp) hxp.1 this
        omega
/-- the inner loop: what is left behind some divisions by p -/
structure PIn (n p n' : Int) : Prop where
  n1 : 1 ≤ n'
  nn : n' ≤ n
  dvd : n % n' = 0
  big : ∀ q : Int, Prime q → p < q → n % q = 0 → n' % q = 0
theorem PIn.start {n p : Int} (h : 1 ≤ n) : PIn n p n := ⟨h, by omega, Int.emod_self, fun _ _ _ h => h⟩
theorem exact_div {n p : Int} (hp : 1 ≤ p) (h : n % p = 0) : n / p * p = n := Int.ediv_mul_cancel (Int.dvd_of_emod_eq_zero h)
theorem div_lt {n p : Int} (hp : 2 ≤ p) (hn : 1 ≤ n) : n / p < n := by
  have := Int.ediv_lt_of_lt_mul (a := n) (b := n) (c := p) (by omega) (by
    have := Int.mul_le_mul_of_nonneg_left hp (show 0 ≤ n by omega)
    omega)
  exact this
theorem PIn.step {n p n' : Int} (h : PIn n p n') (hp : Prime p) (hd : n' % p = 0) : PIn n p (n' / p) := by
  have hp2 := hp.1
  have he := exact_div (by omega) hd
  have h1 := h.n1
  have hpos : 1 ≤ n' / p := by
    rcases Int.lt_or_le (n' / p) 1 with k | k
    · have : n' / p * p ≤ 0 := Int.mul_nonpos_of_nonpos_of_nonneg (by omega) (by omega)
      omega
    · exact k
  have hlt := div_lt hp2 h1
  refine ⟨hpos, by have := h.nn; omega, dvd_tr h.dvd ?_, fun q hq hpq hnq => ?_⟩
  · exact Int.emod_eq_zero_of_dvd ⟨p, he.symm⟩
  · have := h.big q hq hpq hnq
    refine prime_mul hq (x := p) ?_ ?_
    · rw [Int.mul_comm, he]; exact this
    · intro hz
      have := prime_div hp hq.1 hz
      omega
/-- a trial that divides what is left is a prime -/
theorem PRel.tprime {N n p : Int} {l : List Int} (h : PRel N n p l) (hd : n % p = 0) : Prime p :=
  ⟨h.p2, fun d h2 hdp hz => h.low d h2 (by
    rcases Int.lt_or_le d p with k | k
    · exact k
    · have : p * p ≤ d * d := Int.mul_le_mul k k (by have := h.p2; omega) (by omega)
      have : 2 * p ≤ p * p := Int.mul_le_mul_of_nonneg_right h.p2 (by have := h.p2; omega)
      have := h.p2
      omega) (dvd_tr hd hz)⟩
theorem pdiv_yes {N n p : Int} {l : List Int} (h : PRel N n p l) (hd : n % p = 0) : pdiv N p = true := by
  simp [pdiv, prime_iff.2 (h.tprime hd), dvd_tr h.dvd hd]
theorem pdiv_no {N n p : Int} {l : List Int} (h : PRel N n p l) (hd : ¬ n % p = 0) : pdiv N p = false := by
  unfold pdiv
  cases hp : prime p
  · rfl
  · cases hN : (N % p == 0)
    · rfl
    · exact absurd (h.big p (prime_iff.1 hp) (by omega) (by simpa using hN)) hd
theorem PRel.next {N n p n' : Int} {l l' : List Int} (h : PRel N n p l) (hn : 1 < n) (hi : PIn n p n') (hd : ¬ n' % p = 0) (hl : l' = if n % p = 0 then l ++ [p] else l) : PRel N n' (p + 1) l' where
  n1 := hi.n1
  p2 := by have := h.p2; omega
  nN := by have := hi.nn; have := h.nN; omega
  pn := by
    rcases Int.lt_or_le 1 n' with k | k
    · right
      rcases Int.lt_or_le p n' with g | g
      · omega
      · exfalso
        rcases Int.lt_or_le n' p with f | f
        · exact h.low n' (by omega) f hi.dvd
        · have : n' = p := by omega
          rw [this] at hd
          exact hd Int.emod_self
    · left
      have := hi.n1
      omega
  pN := by
    have h1 := h.nN
    rcases h.pn with k | k <;> omega
  dvd := dvd_tr h.dvd hi.dvd
  low := fun d h2 hdp hz => by
    rcases Int.lt_or_le d p with k | k
    · exact h.low d h2 k (dvd_tr hi.dvd hz)
    · have : d = p := by omega
      rw [this] at hz
      exact hd hz
  big := fun q hq hpq hN => hi.big q hq (by omega) (h.big q hq (by omega) hN)
  out := by
    have hp2 := h.p2
    have e : (p + 1).toNat = p.toNat + 1 := by omega
    rw [e, hl]
    by_cases hz : n % p = 0
    · rw [if_pos hz, sel_yes (by rw [Int.zero_add, Int.toNat_of_nonneg (by omega)]; exact pdiv_yes h hz), ← h.out, Int.zero_add, Int.toNat_of_nonneg (by omega)]
    · rw [if_neg hz, sel_no (by rw [Int.zero_add, Int.toNat_of_nonneg (by omega)]; exact pdiv_no h hz), ← h.out]
theorem PRel.done {N n p : Int} {l : List Int} (h : PRel N n p l) (hn : n ≤ 1) : l = primesOf N := by
  have h1 := h.n1
  have hn : n = 1 := by omega
  have hN := h.nN
  rw [h.out]
  unfold primesOf
  have e : ((N.natAbs : Nat) : Int) = N := by omega
  refine (sel_skip (fun x h2 h3 => ?_) (by have := h.pN; omega)).symm
  unfold pdiv
  cases hp : M.prime x
  · rfl
  · cases hd : (N % x == 0)
    · rfl
    · have hx := prime_iff.1 hp
      have := h.big x hx (by have := h.p2; omega) (by simpa using hd)
      rw [hn] at this
      have := hx.1
      have : (1 : Int) % x = 1 := Int.emod_eq_of_lt (by omega) (by omega)
      omega
/-- how often p divides -/
def valF (p : Int) : Nat → Int → Int
  | 0, _ => 0
  | f + 1, a => if a % p = 0 then 1 + valF p f (a / p) else 0
def valn (a p : Int) : Int := valF p a.natAbs a
theorem abs_div {a p : Int} (hp : 2 ≤ p) (ha : a ≠ 0) (h : a % p = 0) : (a / p).natAbs < a.natAbs ∧ a / p ≠ 0 := by
  have he := exact_div (n := a) (by omega) h
  have e2 : a.natAbs = (a / p).natAbs * p.natAbs := by rw [← Int.natAbs_mul, he]
  have hp' : 2 ≤ p.natAbs := by omega
  have hne : a / p ≠ 0 := by
    intro hz
    rw [hz] at he
    omega
  have : (a / p).natAbs * 2 ≤ (a / p).natAbs * p.natAbs := Nat.mul_le_mul_left _ hp'
  exact ⟨by omega, hne⟩
theorem valF_step {p : Int} {f : Nat} {a : Int} (hp : 2 ≤ p) (ha : a ≠ 0) (hf : a.natAbs ≤ f) (h : a % p = 0) : valF p f a = 1 + valF p (f - 1) (a / p) := by
  cases f with
  | zero => omega
  | succ f => simp [valF, h]
theorem valF_stop {p : Int} {f : Nat} {a : Int} (h : ¬ a % p = 0) : valF p f a = 0 := by
  cases f with
  | zero => rfl
  | succ f => simp [valF, h]
theorem valF_nn (p : Int) : ∀ (f : Nat) (a : Int), 0 ≤ valF p f a ∧ valF p f a ≤ f
  | 0, _ => by simp [valF]
  | f + 1, a => by
    have := valF_nn p f (a / p)
    simp only [valF]
    split <;> omega
theorem tdiv_exact {a p : Int} (hp : 1 ≤ p) (h : a % p = 0) : a.tdiv p = a / p := by
  rw [Int.tdiv_eq_ediv_of_dvd (Int.dvd_of_emod_eq_zero h)]
theorem tmod_zero {a p : Int} : a.tmod p = 0 ↔ a % p = 0 := by
  constructor
  · intro h
    exact Int.emod_eq_zero_of_dvd (Int.dvd_of_tmod_eq_zero h)
  · intro h
    exact Int.tmod_eq_zero_of_dvd (Int.dvd_of_emod_eq_zero h)
/-- squarefree parts, as the program reckons them -/
def sfStep (n : Int) (out p : Int) : Int := if valn n p % 2 = 1 then Go.RowKit.wrap64 (out * p) else out
def sgn1 (n : Int) : Int := if n < 0 then -1 else 1
theorem sfStep_odd {n out p : Int} (h : valn n p % 2 = 1) : sfStep n out p = Go.RowKit.wrap64 (out * p) := if_pos h
theorem sfStep_even {n out p : Int} (h : ¬ valn n p % 2 = 1) : sfStep n out p = out := if_neg h
noncomputable def sqfree (n : Int) : Int := (primesOf n).foldl (sfStep n) (sgn1 n)
/-- the same, computable, for small numbers -/
def primeS (p : Nat) : Bool := Nat.ble 2 p && !(hasDiv p)
theorem allB_no {f : Nat → Bool} : ∀ {n : Nat}, allB f n = false → ∃ k, k < n ∧ f k = false
  | n + 1, h => by
    simp only [allB, Bool.and_eq_false_iff] at h
    rcases h with h | h
    · exact ⟨n, by omega, h⟩
    · obtain ⟨k, hk, hf⟩ := allB_no h
      exact ⟨k, by omega, hf⟩
theorem prime_small {n : Nat} (h : n ≤ 1000) : prime (n : Int) = primeS n := by
  unfold primeS
  cases hp : prime (n : Int)
  · symm
    cases h2 : Nat.ble 2 n
    · rfl
    · cases hd : hasDiv n
      · exfalso
        refine prime_not.1 hp ⟨?_, fun d h2d hdd hz => ?_⟩
        · have := Nat.le_of_ble_eq_true h2; omega
        · unfold hasDiv at hd
          rw [Bool.not_eq_false'] at hd
          have hd32 : d < 32 := sq_lt (by omega) (by omega)
          have := allB_at hd (k := d.toNat) (by omega)
          have e : ((d.toNat : Nat) : Int) = d := Int.toNat_of_nonneg (by omega)
          simp only [Bool.or_eq_true, Bool.not_eq_true'] at this
          rcases this with (k | k) | k
          · rw [Nat.blt_eq] at k; omega
          · rw [Nat.blt_eq] at k
            have : (n : Int) < ((d.toNat * d.toNat : Nat) : Int) := Int.ofNat_lt.2 k
            push_cast at this
            rw [e] at this
            omega
          · have hz' : n % d.toNat = 0 := by
              have : ((n % d.toNat : Nat) : Int) = 0 := by push_cast; rw [e]; exact hz
              omega
            rw [hz'] at k
            cases k
      · rfl
  · have := hasDiv_not (prime_iff.1 hp)
    have h2 := (prime_iff.1 hp).1
    simp only [Int.toNat_natCast] at this
    rw [this]
    have : Nat.ble 2 n = true := by rw [Nat.ble_eq]; omega
    rw [this]
    rfl
def primesS (n : Nat) : List Int := ((List.range (n + 1)).filter fun p => primeS p && Nat.beq (n % p) 0).map Int.ofNat
theorem primesOf_small {d : Int} (h : d.natAbs ≤ 999) : primesOf d = primesS d.natAbs := by
  rw [primesOf_abs]
  unfold primesOf primesS sel upto
  rw [List.filter_map]
  have hf : ∀ i ∈ List.range (d.natAbs + 1), ((pdiv (d.natAbs : Int)) ∘ fun i : Nat => (0 : Int) + (i : Int)) i = (primeS i && Nat.beq (d.natAbs % i) 0) := by
    intro i hi
    have hi := List.mem_range.1 hi
    simp only [Function.comp, Int.zero_add, pdiv]
    rw [prime_small (by omega)]
    congr 1
    rw [Bool.eq_iff_iff, beq_iff_eq, Nat.beq_eq]
    omega
  rw [show ((d.natAbs : Int).natAbs) = d.natAbs from by omega, List.filter_congr hf]
  congr 1
  funext i
  simp
def sqfS (d : Int) : Int := (primesS d.natAbs).foldl (sfStep d) (sgn1 d)
theorem sqfree_small {d : Int} (h : d.natAbs ≤ 999) : sqfree d = sqfS d := by
  unfold sqfree sqfS
  rw [primesOf_small h]
/-- twist numbers -/
def tw (d : Int) : Bool := d != 0 && ins d (-30) 30 && d % 4 != 0 && d % 9 != 0 && d % 25 != 0
def twChk (i : Nat) : Bool := let d : Int := (i : Int) - 30; (d == 0) || ((sqfS d == d) == tw d)
theorem tw_all : allB twChk 61 = true := by kernel_rfl
theorem tw_sqf {d : Int} (h0 : d ≠ 0) (h1 : -30 ≤ d) (h2 : d ≤ 30) : (sqfree d == d) = tw d := by
  rw [sqfree_small (by omega)]
  have := allB_at tw_all (k := (d + 30).toNat) (by omega)
  unfold twChk at this
  rw [Int.toNat_of_nonneg (by omega), show d + 30 - 30 = d from by omega] at this
  simpa [h0] using this
theorem tw_iff {d : Int} : tw d = true ↔ d ≠ 0 ∧ -30 ≤ d ∧ d ≤ 30 ∧ d % 4 ≠ 0 ∧ d % 9 ≠ 0 ∧ d % 25 ≠ 0 := by
  simp only [tw, Bool.and_eq_true, ins_iff, bne_iff_ne]
  constructor
  · rintro ⟨⟨⟨⟨a, b, c⟩, d⟩, e⟩, f⟩; exact ⟨a, b, c, d, e, f⟩
  · rintro ⟨a, b, c, d, e, f⟩; exact ⟨⟨⟨⟨a, b, c⟩, d⟩, e⟩, f⟩
end M
end Go.Proofs.YtgkjmjlkhnfbiaaGreat
