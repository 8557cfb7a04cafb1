/-
  Contracts: is a point on a curve, by the reference.
-/
import Derived.Test.YtpemckpnlemkfaaG2
import Derived.Test.YtpemckpnlemkfaaC14
import Derived.Deep.DeepCutAuto
namespace Go.Proofs.Ytpemckpnlemkfaa
set_option linter.unusedSimpArgs false
set_option linter.unusedVariables false
open Go.RowKit

namespace M
noncomputable def onR (a b : Int) (x y : Int × Int) : Option Bool :=
  (fmul y y).bind fun l => (fmul x x).bind fun s => (fadd s (a, 1)).bind fun s2 => (fmul s2 x).bind fun p => (fadd p (b, 1)).bind fun r => some (l.1 == r.1 && l.2 == r.2)
end M
theorem keep0 {W w' : World} {b : Nat} {m n : Int} (hb : Below W.heap.size W w') (h : W.cell? ⟨b, 0, none⟩ = some (.int .i64 m) ∧ W.cell? ⟨b, 1, none⟩ = some (.int .i64 n) ∧ b < W.heap.size) :
    w'.cell? ⟨b, 0, none⟩ = some (.int .i64 m) ∧ w'.cell? ⟨b, 1, none⟩ = some (.int .i64 n) ∧ b < w'.heap.size := ⟨keepCell hb h.1, keepCell hb h.2.1, keepSz hb h.2.2⟩
/-- a struct of two numbers lies in block b -/
structure Two (W : World) (b : Nat) (m n : Int) : Prop where
  c0 : W.cell? ⟨b, 0, none⟩ = some (.int .i64 m)
  c1 : W.cell? ⟨b, 1, none⟩ = some (.int .i64 n)
  size : b < W.heap.size
theorem Two.keep {W w' : World} {b : Nat} {m n : Int} (h : Two W b m n) (hb : Below W.heap.size W w') : Two w' b m n := ⟨keepCell hb h.c0, keepCell hb h.c1, keepSz hb h.size⟩
theorem Two.alloc {W : World} {b : Nat} {m n : Int} (h : Two W b m n) (o : Obj) : Two (W.alloc o) b m n := ⟨Gr.recell0 h.c0, Gr.recell0 h.c1, by rw [World.size_alloc]; exact Nat.lt_succ_of_lt h.size⟩
theorem Two.new (W : World) (m n : Int) (T : TypeId) : Two (W.alloc (.cells #[.int .i64 m, .int .i64 n] T)) W.heap.size m n := ⟨box_cell _ _ _ _, box_cell _ _ _ _, by rw [World.size_alloc]; exact Nat.lt_succ_self _⟩

theorem frMul_t {a b c d n k : Int} (h1 : frOk a b = true) (h2 : frOk c d = true) (h : M.fmul (a, b) (c, d) = some (n, k)) (w : World) :
    Calls Try.prog 43 #[.agg #[.int .i64 a, .int .i64 b], .agg #[.int .i64 c, .int .i64 d]] w fun e w' => e = .returned (.tuple #[.agg #[.int .i64 n, .int .i64 k], .bool true]) ∧ Below w.heap.size w w' := by
  have H := frMul_c a b c d w h1 h2
  rw [h] at H
  exact H
theorem frMul_f {a b c d : Int} (h1 : frOk a b = true) (h2 : frOk c d = true) (h : M.fmul (a, b) (c, d) = none) (w : World) :
    Calls Try.prog 43 #[.agg #[.int .i64 a, .int .i64 b], .agg #[.int .i64 c, .int .i64 d]] w fun e w' => e = .returned (.tuple #[.agg #[.int .i64 0, .int .i64 0], .bool false]) ∧ Below w.heap.size w w' := by
  have H := frMul_c a b c d w h1 h2
  rw [h] at H
  exact H
theorem frAdd_t {a b c d n k : Int} (h1 : frOk a b = true) (h2 : frOk c d = true) (h : M.fadd (a, b) (c, d) = some (n, k)) (w : World) :
    Calls Try.prog 42 #[.agg #[.int .i64 a, .int .i64 b], .agg #[.int .i64 c, .int .i64 d]] w fun e w' => e = .returned (.tuple #[.agg #[.int .i64 n, .int .i64 k], .bool true]) ∧ Below w.heap.size w w' := by
  have H := frAdd_c a b c d w h1 h2
  rw [h] at H
  exact H
theorem frAdd_f {a b c d : Int} (h1 : frOk a b = true) (h2 : frOk c d = true) (h : M.fadd (a, b) (c, d) = none) (w : World) :
    Calls Try.prog 42 #[.agg #[.int .i64 a, .int .i64 b], .agg #[.int .i64 c, .int .i64 d]] w fun e w' => e = .returned (.tuple #[.agg #[.int .i64 0, .int .i64 0], .bool false]) ∧ Below w.heap.size w w' := by
  have H := frAdd_c a b c d w h1 h2
  rw [h] at H
  exact H
theorem frSub_t {a b c d n k : Int} (h1 : frOk a b = true) (h2 : frOk c d = true) (h : M.fsub (a, b) (c, d) = some (n, k)) (w : World) :
    Calls Try.prog 40 #[.agg #[.int .i64 a, .int .i64 b], .agg #[.int .i64 c, .int .i64 d]] w fun e w' => e = .returned (.tuple #[.agg #[.int .i64 n, .int .i64 k], .bool true]) ∧ Below w.heap.size w w' := by
  have H := frSub_c a b c d w h1 h2
  rw [h] at H
  exact H
theorem frSub_f {a b c d : Int} (h1 : frOk a b = true) (h2 : frOk c d = true) (h : M.fsub (a, b) (c, d) = none) (w : World) :
    Calls Try.prog 40 #[.agg #[.int .i64 a, .int .i64 b], .agg #[.int .i64 c, .int .i64 d]] w fun e w' => e = .returned (.tuple #[.agg #[.int .i64 0, .int .i64 0], .bool false]) ∧ Below w.heap.size w w' := by
  have H := frSub_c a b c d w h1 h2
  rw [h] at H
  exact H
theorem frDiv_t {a b c d n k : Int} (h1 : frOk a b = true) (h2 : frOk c d = true) (h : M.fdiv (a, b) (c, d) = some (n, k)) (w : World) :
    Calls Try.prog 41 #[.agg #[.int .i64 a, .int .i64 b], .agg #[.int .i64 c, .int .i64 d]] w fun e w' => e = .returned (.tuple #[.agg #[.int .i64 n, .int .i64 k], .bool true]) ∧ Below w.heap.size w w' := by
  have H := frDiv_c a b c d w h1 h2
  rw [h] at H
  exact H
theorem frDiv_f {a b c d : Int} (h1 : frOk a b = true) (h2 : frOk c d = true) (h : M.fdiv (a, b) (c, d) = none) (w : World) :
    Calls Try.prog 41 #[.agg #[.int .i64 a, .int .i64 b], .agg #[.int .i64 c, .int .i64 d]] w fun e w' => e = .returned (.tuple #[.agg #[.int .i64 0, .int .i64 0], .bool false]) ∧ Below w.heap.size w w' := by
  have H := frDiv_c a b c d w h1 h2
  rw [h] at H
  exact H
set_option maxHeartbeats 1000000 in
theorem icOn_c (a b c d u v : Int) (w : World) (ha : M.inCurve a b = true) (hx : frOk c d = true) (hy : frOk u v = true) :
    Calls Try.prog 39 #[.agg #[.int .i64 a, .int .i64 b], .agg #[.int .i64 c, .int .i64 d], .agg #[.int .i64 u, .int .i64 v]] w fun e w' => e = .returned (.tuple #[.bool ((M.onR a b (c, d) (u, v)).getD false), .bool (M.onR a b (c, d) (u, v)).isSome]) ∧ Below w.heap.size w w' := by
  obtain ⟨g1, g2, g3, g4⟩ := M.inCurve_bd ha
  have oka := M.frOk_whole (n := a) (by omega) (by omega)
  have okb := M.frOk_whole (n := b) (by omega) (by omega)
  have Hx := Lib.hid hx
  have Hy := Lib.hid hy
  have Oa := Lib.hid oka
  have Ob := Lib.hid okb
  clear hx hy oka okb ha
  go_enter Try.func39, Try.ntmps39
  go_wp2_with fail
  cases h1 : M.fmul (u, v) (u, v) with
  | none =>
    have HF := Lib.hid (frMul_f Hy.out Hy.out h1)
    have k1 := Lib.hid h1
    clear h1
    have HG := fun w => frMul_c c d c d w Hx.out Hx.out
    generalize M.fmul (c, d) (c, d) = r2 at HG
    have HG := Lib.hid HG
    have Hm := Lib.hid (show M.onR a b (c, d) (u, v) = none by simp [M.onR, k1.out])
    refine (HF.out _).mono ?_; rintro e w1 ⟨rfl, hb1⟩
    have hz_ := hb1.size; (try simp only [World.size_alloc, heap_drew, World.heap_drewN, size_setCell] at hz_); have hs0_ : w.heap.size < w1.heap.size := (by omega); have hk0_ := fun o => (bcell hb1).1 (w.heap.size) o (by (try simp only [World.size_alloc, heap_drew, World.heap_drewN, size_setCell]); omega); have hl0_ := fun o => (bcell hb1).2.1 (w.heap.size) o (by (try simp only [World.size_alloc, heap_drew, World.heap_drewN, size_setCell]); omega); have hs1_ : w.heap.size + 1 < w1.heap.size := (by omega); have hk1_ := fun o => (bcell hb1).1 (w.heap.size + 1) o (by (try simp only [World.size_alloc, heap_drew, World.heap_drewN, size_setCell]); omega); have hl1_ := fun o => (bcell hb1).2.1 (w.heap.size + 1) o (by (try simp only [World.size_alloc, heap_drew, World.heap_drewN, size_setCell]); omega); have hs2_ : w.heap.size + 2 < w1.heap.size := (by omega); have hk2_ := fun o => (bcell hb1).1 (w.heap.size + 2) o (by (try simp only [World.size_alloc, heap_drew, World.heap_drewN, size_setCell]); omega); have hl2_ := fun o => (bcell hb1).2.1 (w.heap.size + 2) o (by (try simp only [World.size_alloc, heap_drew, World.heap_drewN, size_setCell]); omega)
    go_wp2_with fail
    refine (HG.out _).mono ?_; rintro e w2 ⟨rfl, hb2⟩
    have hz_ := hb2.size; (try simp only [World.size_alloc, heap_drew, World.heap_drewN, size_setCell] at hz_); have hs0_ : w.heap.size < w2.heap.size := (by omega); have hk0_ := fun o => (bcell hb2).1 (w.heap.size) o (by (try simp only [World.size_alloc, heap_drew, World.heap_drewN, size_setCell]); omega); have hl0_ := fun o => (bcell hb2).2.1 (w.heap.size) o (by (try simp only [World.size_alloc, heap_drew, World.heap_drewN, size_setCell]); omega); have hs1_ : w.heap.size + 1 < w2.heap.size := (by omega); have hk1_ := fun o => (bcell hb2).1 (w.heap.size + 1) o (by (try simp only [World.size_alloc, heap_drew, World.heap_drewN, size_setCell]); omega); have hl1_ := fun o => (bcell hb2).2.1 (w.heap.size + 1) o (by (try simp only [World.size_alloc, heap_drew, World.heap_drewN, size_setCell]); omega); have hs2_ : w.heap.size + 2 < w2.heap.size := (by omega); have hk2_ := fun o => (bcell hb2).1 (w.heap.size + 2) o (by (try simp only [World.size_alloc, heap_drew, World.heap_drewN, size_setCell]); omega); have hl2_ := fun o => (bcell hb2).2.1 (w.heap.size + 2) o (by (try simp only [World.size_alloc, heap_drew, World.heap_drewN, size_setCell]); omega); have hs3_ : w1.heap.size < w2.heap.size := (by omega); have hk3_ := fun o => (bcell hb2).1 (w1.heap.size) o (by (try simp only [World.size_alloc, heap_drew, World.heap_drewN, size_setCell]); omega); have hl3_ := fun o => (bcell hb2).2.1 (w1.heap.size) o (by (try simp only [World.size_alloc, heap_drew, World.heap_drewN, size_setCell]); omega)
    go_wp2
    go_ret2
    exact ⟨by rw [Hm.out]; rfl, (by repeat (first | exact Below.refl _ _ | refine below_alloc ?_ _ | refine below_step ?_ (by assumption) | refine Below.drew ?_ | refine Below.setCell ?_ (by first | exact Nat.le_refl _ | exact Nat.le_add_right _ _ | (simp <;> omega)) _ | refine below_drewN ?_ _))⟩
  | some l =>
    obtain ⟨l1, l2⟩ := l
    have HT := Lib.hid (frMul_t Hy.out Hy.out h1)
    have k1 := Lib.hid h1
    clear h1
    refine (HT.out _).mono ?_; rintro e w1 ⟨rfl, hb1⟩
    have hz_ := hb1.size; (try simp only [World.size_alloc, heap_drew, World.heap_drewN, size_setCell] at hz_); have hs0_ : w.heap.size < w1.heap.size := (by omega); have hk0_ := fun o => (bcell hb1).1 (w.heap.size) o (by (try simp only [World.size_alloc, heap_drew, World.heap_drewN, size_setCell]); omega); have hl0_ := fun o => (bcell hb1).2.1 (w.heap.size) o (by (try simp only [World.size_alloc, heap_drew, World.heap_drewN, size_setCell]); omega); have hs1_ : w.heap.size + 1 < w1.heap.size := (by omega); have hk1_ := fun o => (bcell hb1).1 (w.heap.size + 1) o (by (try simp only [World.size_alloc, heap_drew, World.heap_drewN, size_setCell]); omega); have hl1_ := fun o => (bcell hb1).2.1 (w.heap.size + 1) o (by (try simp only [World.size_alloc, heap_drew, World.heap_drewN, size_setCell]); omega); have hs2_ : w.heap.size + 2 < w1.heap.size := (by omega); have hk2_ := fun o => (bcell hb1).1 (w.heap.size + 2) o (by (try simp only [World.size_alloc, heap_drew, World.heap_drewN, size_setCell]); omega); have hl2_ := fun o => (bcell hb1).2.1 (w.heap.size + 2) o (by (try simp only [World.size_alloc, heap_drew, World.heap_drewN, size_setCell]); omega)
    go_wp2_with fail
    cases h2 : M.fmul (c, d) (c, d) with
    | none =>
      have HF := Lib.hid (frMul_f Hx.out Hx.out h2)
      have k2 := Lib.hid h2
      clear h2
      have Hm := Lib.hid (show M.onR a b (c, d) (u, v) = none by simp [M.onR, k1.out, k2.out])
      refine (HF.out _).mono ?_; rintro e w2 ⟨rfl, hb2⟩
      have hz_ := hb2.size; (try simp only [World.size_alloc, heap_drew, World.heap_drewN, size_setCell] at hz_); have hs0_ : w.heap.size < w2.heap.size := (by omega); have hk0_ := fun o => (bcell hb2).1 (w.heap.size) o (by (try simp only [World.size_alloc, heap_drew, World.heap_drewN, size_setCell]); omega); have hl0_ := fun o => (bcell hb2).2.1 (w.heap.size) o (by (try simp only [World.size_alloc, heap_drew, World.heap_drewN, size_setCell]); omega); have hs1_ : w.heap.size + 1 < w2.heap.size := (by omega); have hk1_ := fun o => (bcell hb2).1 (w.heap.size + 1) o (by (try simp only [World.size_alloc, heap_drew, World.heap_drewN, size_setCell]); omega); have hl1_ := fun o => (bcell hb2).2.1 (w.heap.size + 1) o (by (try simp only [World.size_alloc, heap_drew, World.heap_drewN, size_setCell]); omega); have hs2_ : w.heap.size + 2 < w2.heap.size := (by omega); have hk2_ := fun o => (bcell hb2).1 (w.heap.size + 2) o (by (try simp only [World.size_alloc, heap_drew, World.heap_drewN, size_setCell]); omega); have hl2_ := fun o => (bcell hb2).2.1 (w.heap.size + 2) o (by (try simp only [World.size_alloc, heap_drew, World.heap_drewN, size_setCell]); omega); have hs3_ : w1.heap.size < w2.heap.size := (by omega); have hk3_ := fun o => (bcell hb2).1 (w1.heap.size) o (by (try simp only [World.size_alloc, heap_drew, World.heap_drewN, size_setCell]); omega); have hl3_ := fun o => (bcell hb2).2.1 (w1.heap.size) o (by (try simp only [World.size_alloc, heap_drew, World.heap_drewN, size_setCell]); omega)
      go_wp2
      go_ret2
      exact ⟨by rw [Hm.out]; rfl, (by repeat (first | exact Below.refl _ _ | refine below_alloc ?_ _ | refine below_step ?_ (by assumption) | refine Below.drew ?_ | refine Below.setCell ?_ (by first | exact Nat.le_refl _ | exact Nat.le_add_right _ _ | (simp <;> omega)) _ | refine below_drewN ?_ _))⟩
    | some s =>
      obtain ⟨s1, s2⟩ := s
      have HT := Lib.hid (frMul_t Hx.out Hx.out h2)
      have ok2 := Lib.hid (M.fmul_ok h2)
      have k2 := Lib.hid h2
      clear h2
      refine (HT.out _).mono ?_; rintro e w2 ⟨rfl, hb2⟩
      have B2 : Below w.heap.size w w2 := (by repeat (first | exact Below.refl _ _ | refine below_alloc ?_ _ | refine below_step ?_ (by assumption) | refine Below.drew ?_ | refine Below.setCell ?_ (by first | exact Nat.le_refl _ | exact Nat.le_add_right _ _ | (simp <;> omega)) _ | refine below_drewN ?_ _))
      have tc : Two (((w.alloc (.cells #[.int .i64 a, .int .i64 b] 41)).alloc (.cells #[.int .i64 c, .int .i64 d] 38)).alloc (.cells #[.int .i64 u, .int .i64 v] 38)) w.heap.size a b := ((Two.new _ _ _ _).alloc _).alloc _
      have tx : Two (((w.alloc (.cells #[.int .i64 a, .int .i64 b] 41)).alloc (.cells #[.int .i64 c, .int .i64 d] 38)).alloc (.cells #[.int .i64 u, .int .i64 v] 38)) (w.heap.size + 1) c d := by have h := Two.new (w.alloc (.cells #[.int .i64 a, .int .i64 b] 41)) c d 38; rw [World.size_alloc] at h; exact h.alloc _
      have tc := ((tc.keep hb1).alloc (.cells #[.int .i64 l1, .int .i64 l2] 38)).keep hb2
      have tx := ((tx.keep hb1).alloc (.cells #[.int .i64 l1, .int .i64 l2] 38)).keep hb2
      have tl := (Two.new w1 l1 l2 38).keep hb2
      have tc := tc.alloc (.cells #[.int .i64 s1, .int .i64 s2] 38)
      have tx := tx.alloc (.cells #[.int .i64 s1, .int .i64 s2] 38)
      have tl := tl.alloc (.cells #[.int .i64 s1, .int .i64 s2] 38)
      have ts := Two.new w2 s1 s2 38
      have BW := below_alloc B2 (.cells #[.int .i64 s1, .int .i64 s2] 38)
      go_upto_region 5 with fail
      generalize w2.alloc (.cells #[.int .i64 s1, .int .i64 s2] 38) = W at *
      clear hz_ hs0_ hk0_ hl0_ hs1_ hk1_ hl1_ hs2_ hk2_ hl2_ hb1 hb2 B2
      have q0 := tc.c0
      have q1 := tc.size
      have q2 := ts.c0
      have q3 := ts.c1
      have q4 := ts.size
      cases h3 : M.fadd (s1, s2) (a, 1) with
      | none =>
        have HF := Lib.hid (frAdd_f ok2.out Oa.out h3)
        have k3 := Lib.hid h3
        clear h3
        have Hm := Lib.hid (show M.onR a b (c, d) (u, v) = none by simp [M.onR, k1.out, k2.out, k3.out])
        go_upto_region 5 with fail
        go_cut [12, 13] (fun sx sy wx => sy = .bool false ∧ BoxAt W wx sx (0) (0) ∧ Below W.heap.size W wx)
        case first =>
          go_region_held3 (fun W => W.cell? ⟨w.heap.size, 0, none⟩ = some (.int .i64 a) ∧ W.cell? ⟨w2.heap.size, 0, none⟩ = some (.int .i64 s1) ∧ W.cell? ⟨w2.heap.size, 1, none⟩ = some (.int .i64 s2)) (first | (refine ⟨?_, ?_, ?_⟩ <;> (first | (with_reducible exact keepCell (by assumption) (by assumption)) | (with_reducible exact Gr.recell0 (by assumption)) | (with_reducible refine Gr.recell (by assumption) ?_; (intro hh_; (try simp only [World.size_alloc, heap_drew, World.heap_drewN, size_setCell] at hh_); omega)) | (with_reducible refine Gr.far2 (by assumption) ?_ ?_ <;> (intro hh_; (try simp only [World.size_alloc, heap_drew, World.heap_drewN, size_setCell] at hh_); omega)) | exact keepCell (by assumption) (by assumption) | (with_reducible exact keepFrz (by assumption) (by assumption) (by assumption)))) | (go_split_ands; (refine ⟨?_, ?_, ?_⟩ <;> (first | (with_reducible exact keepCell (by assumption) (by assumption)) | (with_reducible exact Gr.recell0 (by assumption)) | (with_reducible refine Gr.recell (by assumption) ?_; (intro hh_; (try simp only [World.size_alloc, heap_drew, World.heap_drewN, size_setCell] at hh_); omega)) | (with_reducible refine Gr.far2 (by assumption) ?_ ?_ <;> (intro hh_; (try simp only [World.size_alloc, heap_drew, World.heap_drewN, size_setCell] at hh_); omega)) | exact keepCell (by assumption) (by assumption) | (with_reducible exact keepFrz (by assumption) (by assumption) (by assumption))))) | go_keep) ((first | (go_at_call 38; refine (frInt_c _ _).mono ?_; rintro e w' ⟨rfl, hb⟩; have hz_ := hb.size; (try simp only [World.size_alloc, heap_drew, World.heap_drewN, size_setCell] at hz_); (first | have zz_ := Zb.keep (Zb.new _ _) hb | have zz_ := Zb.keep (Zb.newD _ _) hb | have zz_ := Zb.keep zz_ hb | skip); (first | (have z0_ := zz_.c0; have z1_ := zz_.c1; have z2_ := zz_.f0; have z3_ := zz_.f1; have z4_ := zz_.size) | skip)) | (go_at_call 42; refine (HF.out _).mono ?_; rintro e w' ⟨rfl, hb⟩; have hz_ := hb.size; (try simp only [World.size_alloc, heap_drew, World.heap_drewN, size_setCell] at hz_); (first | have zz_ := Zb.keep (Zb.new _ _) hb | have zz_ := Zb.keep (Zb.newD _ _) hb | have zz_ := Zb.keep zz_ hb | skip); (first | (have z0_ := zz_.c0; have z1_ := zz_.c1; have z2_ := zz_.f0; have z3_ := zz_.f1; have z4_ := zz_.size) | skip))))
          all_goals
            go_wp2_with fail
            go_meet
            exact ⟨rfl, ⟨_, rfl, by simp [go_sem, *], by simp [go_sem, *], by (try simp only [World.size_alloc, heap_drew, World.heap_drewN, size_setCell]); omega, by (try simp only [World.size_alloc, heap_drew, World.heap_drewN, size_setCell]); omega⟩, (by repeat (first | exact Below.refl _ _ | refine below_alloc ?_ _ | refine below_step ?_ (by assumption) | refine Below.drew ?_ | refine Below.setCell ?_ (by first | exact Nat.le_refl _ | exact Nat.le_add_right _ _ | (simp <;> omega)) _ | refine below_drewN ?_ _))⟩
        case rest =>
          obtain ⟨rfl, ⟨g12, rfl, e0, e1, e2, e3⟩, hbx⟩ := hcut
          go_wp2
          go_ret2
          exact ⟨by rw [Hm.out]; rfl, BW.trans (hbx.mono BW.size)⟩
      | some t =>
        obtain ⟨t1, t2⟩ := t
        have HT := Lib.hid (frAdd_t ok2.out Oa.out h3)
        have ok3 := Lib.hid (M.fadd_ok h3)
        have k3 := Lib.hid h3
        clear h3
        go_upto_region 5 with fail
        go_cut [12, 13] (fun sx sy wx => sy = .bool true ∧ BoxAt W wx sx (t1) (t2) ∧ Below W.heap.size W wx)
        case first =>
          go_region_held3 (fun W => W.cell? ⟨w.heap.size, 0, none⟩ = some (.int .i64 a) ∧ W.cell? ⟨w2.heap.size, 0, none⟩ = some (.int .i64 s1) ∧ W.cell? ⟨w2.heap.size, 1, none⟩ = some (.int .i64 s2)) (first | (refine ⟨?_, ?_, ?_⟩ <;> (first | (with_reducible exact keepCell (by assumption) (by assumption)) | (with_reducible exact Gr.recell0 (by assumption)) | (with_reducible refine Gr.recell (by assumption) ?_; (intro hh_; (try simp only [World.size_alloc, heap_drew, World.heap_drewN, size_setCell] at hh_); omega)) | (with_reducible refine Gr.far2 (by assumption) ?_ ?_ <;> (intro hh_; (try simp only [World.size_alloc, heap_drew, World.heap_drewN, size_setCell] at hh_); omega)) | exact keepCell (by assumption) (by assumption) | (with_reducible exact keepFrz (by assumption) (by assumption) (by assumption)))) | (go_split_ands; (refine ⟨?_, ?_, ?_⟩ <;> (first | (with_reducible exact keepCell (by assumption) (by assumption)) | (with_reducible exact Gr.recell0 (by assumption)) | (with_reducible refine Gr.recell (by assumption) ?_; (intro hh_; (try simp only [World.size_alloc, heap_drew, World.heap_drewN, size_setCell] at hh_); omega)) | (with_reducible refine Gr.far2 (by assumption) ?_ ?_ <;> (intro hh_; (try simp only [World.size_alloc, heap_drew, World.heap_drewN, size_setCell] at hh_); omega)) | exact keepCell (by assumption) (by assumption) | (with_reducible exact keepFrz (by assumption) (by assumption) (by assumption))))) | go_keep) ((first | (go_at_call 38; refine (frInt_c _ _).mono ?_; rintro e w' ⟨rfl, hb⟩; have hz_ := hb.size; (try simp only [World.size_alloc, heap_drew, World.heap_drewN, size_setCell] at hz_); (first | have zz_ := Zb.keep (Zb.new _ _) hb | have zz_ := Zb.keep (Zb.newD _ _) hb | have zz_ := Zb.keep zz_ hb | skip); (first | (have z0_ := zz_.c0; have z1_ := zz_.c1; have z2_ := zz_.f0; have z3_ := zz_.f1; have z4_ := zz_.size) | skip)) | (go_at_call 42; refine (HT.out _).mono ?_; rintro e w' ⟨rfl, hb⟩; have hz_ := hb.size; (try simp only [World.size_alloc, heap_drew, World.heap_drewN, size_setCell] at hz_); (first | have zz_ := Zb.keep (Zb.new _ _) hb | have zz_ := Zb.keep (Zb.newD _ _) hb | have zz_ := Zb.keep zz_ hb | skip); (first | (have z0_ := zz_.c0; have z1_ := zz_.c1; have z2_ := zz_.f0; have z3_ := zz_.f1; have z4_ := zz_.size) | skip))))
          all_goals
            go_wp2_with fail
            go_meet
            exact ⟨rfl, ⟨_, rfl, by simp [go_sem, *], by simp [go_sem, *], by (try simp only [World.size_alloc, heap_drew, World.heap_drewN, size_setCell]); omega, by (try simp only [World.size_alloc, heap_drew, World.heap_drewN, size_setCell]); omega⟩, (by repeat (first | exact Below.refl _ _ | refine below_alloc ?_ _ | refine below_step ?_ (by assumption) | refine Below.drew ?_ | refine Below.setCell ?_ (by first | exact Nat.le_refl _ | exact Nat.le_add_right _ _ | (simp <;> omega)) _ | refine below_drewN ?_ _))⟩
        case rest =>
          obtain ⟨rfl, ⟨g12, rfl, e0, e1, e2, e3⟩, hbx⟩ := hcut
          have tc := tc.keep hbx
          have tx := tx.keep hbx
          have tl := tl.keep hbx
          have BX := BW.trans (hbx.mono BW.size)
          clear ts q0 q1 q2 q3 q4 hbx BW
          have q0 := tx.c0
          have q1 := tx.c1
          have q2 := tx.size
          go_wp2_with fail
          cases h4 : M.fmul (t1, t2) (c, d) with
          | none =>
            have HF := Lib.hid (frMul_f ok3.out Hx.out h4)
            have k4 := Lib.hid h4
            clear h4
            have Hm := Lib.hid (show M.onR a b (c, d) (u, v) = none by simp [M.onR, k1.out, k2.out, k3.out, k4.out])
            refine (HF.out _).mono ?_; rintro e w4 ⟨rfl, hb4⟩
            go_wp2
            go_ret2
            exact ⟨by rw [Hm.out]; rfl, below_alloc (BX.trans (hb4.mono BX.size)) _⟩
          | some p =>
            obtain ⟨p1, p2⟩ := p
            have HT := Lib.hid (frMul_t ok3.out Hx.out h4)
            have ok4 := Lib.hid (M.fmul_ok h4)
            have k4 := Lib.hid h4
            clear h4
            refine (HT.out _).mono ?_; rintro e w4 ⟨rfl, hb4⟩
            have tc := (tc.keep hb4).alloc (.cells #[.int .i64 p1, .int .i64 p2] 38)
            have tl := (tl.keep hb4).alloc (.cells #[.int .i64 p1, .int .i64 p2] 38)
            have tp := Two.new w4 p1 p2 38
            have BW := below_alloc (BX.trans (hb4.mono BX.size)) (.cells #[.int .i64 p1, .int .i64 p2] 38)
            go_upto_region 11 with fail
            generalize w4.alloc (.cells #[.int .i64 p1, .int .i64 p2] 38) = W4 at *
            clear hb4 BX e0 e1 e2 e3 q0 q1 q2
            have q0 := tc.c1
            have q1 := tc.size
            have q2 := tp.c0
            have q3 := tp.c1
            have q4 := tp.size
            cases h5 : M.fadd (p1, p2) (b, 1) with
            | none =>
              have HF := Lib.hid (frAdd_f ok4.out Ob.out h5)
              have k5 := Lib.hid h5
              clear h5
              have Hm := Lib.hid (show M.onR a b (c, d) (u, v) = none by simp [M.onR, k1.out, k2.out, k3.out, k4.out, k5.out])
              go_upto_region 11 with fail
              go_cut [16, 17] (fun sx sy wx => sy = .bool false ∧ BoxAt W4 wx sx (0) (0) ∧ Below W4.heap.size W4 wx)
              case first =>
                go_region_held3 (fun W => W.cell? ⟨w.heap.size, 1, none⟩ = some (.int .i64 b) ∧ W.cell? ⟨w4.heap.size, 0, none⟩ = some (.int .i64 p1) ∧ W.cell? ⟨w4.heap.size, 1, none⟩ = some (.int .i64 p2)) (first | (refine ⟨?_, ?_, ?_⟩ <;> (first | (with_reducible exact keepCell (by assumption) (by assumption)) | (with_reducible exact Gr.recell0 (by assumption)) | (with_reducible refine Gr.recell (by assumption) ?_; (intro hh_; (try simp only [World.size_alloc, heap_drew, World.heap_drewN, size_setCell] at hh_); omega)) | (with_reducible refine Gr.far2 (by assumption) ?_ ?_ <;> (intro hh_; (try simp only [World.size_alloc, heap_drew, World.heap_drewN, size_setCell] at hh_); omega)) | exact keepCell (by assumption) (by assumption) | (with_reducible exact keepFrz (by assumption) (by assumption) (by assumption)))) | (go_split_ands; (refine ⟨?_, ?_, ?_⟩ <;> (first | (with_reducible exact keepCell (by assumption) (by assumption)) | (with_reducible exact Gr.recell0 (by assumption)) | (with_reducible refine Gr.recell (by assumption) ?_; (intro hh_; (try simp only [World.size_alloc, heap_drew, World.heap_drewN, size_setCell] at hh_); omega)) | (with_reducible refine Gr.far2 (by assumption) ?_ ?_ <;> (intro hh_; (try simp only [World.size_alloc, heap_drew, World.heap_drewN, size_setCell] at hh_); omega)) | exact keepCell (by assumption) (by assumption) | (with_reducible exact keepFrz (by assumption) (by assumption) (by assumption))))) | go_keep) ((first | (go_at_call 38; refine (frInt_c _ _).mono ?_; rintro e w' ⟨rfl, hb⟩; have hz_ := hb.size; (try simp only [World.size_alloc, heap_drew, World.heap_drewN, size_setCell] at hz_); (first | have zz_ := Zb.keep (Zb.new _ _) hb | have zz_ := Zb.keep (Zb.newD _ _) hb | have zz_ := Zb.keep zz_ hb | skip); (first | (have z0_ := zz_.c0; have z1_ := zz_.c1; have z2_ := zz_.f0; have z3_ := zz_.f1; have z4_ := zz_.size) | skip)) | (go_at_call 42; refine (HF.out _).mono ?_; rintro e w' ⟨rfl, hb⟩; have hz_ := hb.size; (try simp only [World.size_alloc, heap_drew, World.heap_drewN, size_setCell] at hz_); (first | have zz_ := Zb.keep (Zb.new _ _) hb | have zz_ := Zb.keep (Zb.newD _ _) hb | have zz_ := Zb.keep zz_ hb | skip); (first | (have z0_ := zz_.c0; have z1_ := zz_.c1; have z2_ := zz_.f0; have z3_ := zz_.f1; have z4_ := zz_.size) | skip))))
                all_goals
                  go_wp2_with fail
                  go_meet
                  exact ⟨rfl, ⟨_, rfl, by simp [go_sem, *], by simp [go_sem, *], by (try simp only [World.size_alloc, heap_drew, World.heap_drewN, size_setCell]); omega, by (try simp only [World.size_alloc, heap_drew, World.heap_drewN, size_setCell]); omega⟩, (by repeat (first | exact Below.refl _ _ | refine below_alloc ?_ _ | refine below_step ?_ (by assumption) | refine Below.drew ?_ | refine Below.setCell ?_ (by first | exact Nat.le_refl _ | exact Nat.le_add_right _ _ | (simp <;> omega)) _ | refine below_drewN ?_ _))⟩
              case rest =>
                obtain ⟨rfl, ⟨g16, rfl, e0, e1, e2, e3⟩, hbx⟩ := hcut
                go_wp2
                go_ret2
                exact ⟨by rw [Hm.out]; rfl, BW.trans (hbx.mono BW.size)⟩
            | some r =>
              obtain ⟨r1, r2⟩ := r
              have HT := Lib.hid (frAdd_t ok4.out Ob.out h5)
              have k5 := Lib.hid h5
              clear h5
              go_upto_region 11 with fail
              go_cut [16, 17] (fun sx sy wx => sy = .bool true ∧ BoxAt W4 wx sx (r1) (r2) ∧ Below W4.heap.size W4 wx)
              case first =>
                go_region_held3 (fun W => W.cell? ⟨w.heap.size, 1, none⟩ = some (.int .i64 b) ∧ W.cell? ⟨w4.heap.size, 0, none⟩ = some (.int .i64 p1) ∧ W.cell? ⟨w4.heap.size, 1, none⟩ = some (.int .i64 p2)) (first | (refine ⟨?_, ?_, ?_⟩ <;> (first | (with_reducible exact keepCell (by assumption) (by assumption)) | (with_reducible exact Gr.recell0 (by assumption)) | (with_reducible refine Gr.recell (by assumption) ?_; (intro hh_; (try simp only [World.size_alloc, heap_drew, World.heap_drewN, size_setCell] at hh_); omega)) | (with_reducible refine Gr.far2 (by assumption) ?_ ?_ <;> (intro hh_; (try simp only [World.size_alloc, heap_drew, World.heap_drewN, size_setCell] at hh_); omega)) | exact keepCell (by assumption) (by assumption) | (with_reducible exact keepFrz (by assumption) (by assumption) (by assumption)))) | (go_split_ands; (refine ⟨?_, ?_, ?_⟩ <;> (first | (with_reducible exact keepCell (by assumption) (by assumption)) | (with_reducible exact Gr.recell0 (by assumption)) | (with_reducible refine Gr.recell (by assumption) ?_; (intro hh_; (try simp only [World.size_alloc, heap_drew, World.heap_drewN, size_setCell] at hh_); omega)) | (with_reducible refine Gr.far2 (by assumption) ?_ ?_ <;> (intro hh_; (try simp only [World.size_alloc, heap_drew, World.heap_drewN, size_setCell] at hh_); omega)) | exact keepCell (by assumption) (by assumption) | (with_reducible exact keepFrz (by assumption) (by assumption) (by assumption))))) | go_keep) ((first | (go_at_call 38; refine (frInt_c _ _).mono ?_; rintro e w' ⟨rfl, hb⟩; have hz_ := hb.size; (try simp only [World.size_alloc, heap_drew, World.heap_drewN, size_setCell] at hz_); (first | have zz_ := Zb.keep (Zb.new _ _) hb | have zz_ := Zb.keep (Zb.newD _ _) hb | have zz_ := Zb.keep zz_ hb | skip); (first | (have z0_ := zz_.c0; have z1_ := zz_.c1; have z2_ := zz_.f0; have z3_ := zz_.f1; have z4_ := zz_.size) | skip)) | (go_at_call 42; refine (HT.out _).mono ?_; rintro e w' ⟨rfl, hb⟩; have hz_ := hb.size; (try simp only [World.size_alloc, heap_drew, World.heap_drewN, size_setCell] at hz_); (first | have zz_ := Zb.keep (Zb.new _ _) hb | have zz_ := Zb.keep (Zb.newD _ _) hb | have zz_ := Zb.keep zz_ hb | skip); (first | (have z0_ := zz_.c0; have z1_ := zz_.c1; have z2_ := zz_.f0; have z3_ := zz_.f1; have z4_ := zz_.size) | skip))))
                all_goals
                  go_wp2_with fail
                  go_meet
                  exact ⟨rfl, ⟨_, rfl, by simp [go_sem, *], by simp [go_sem, *], by (try simp only [World.size_alloc, heap_drew, World.heap_drewN, size_setCell]); omega, by (try simp only [World.size_alloc, heap_drew, World.heap_drewN, size_setCell]); omega⟩, (by repeat (first | exact Below.refl _ _ | refine below_alloc ?_ _ | refine below_step ?_ (by assumption) | refine Below.drew ?_ | refine Below.setCell ?_ (by first | exact Nat.le_refl _ | exact Nat.le_add_right _ _ | (simp <;> omega)) _ | refine below_drewN ?_ _))⟩
              case rest =>
                obtain ⟨rfl, ⟨g16, rfl, e0, e1, e2, e3⟩, hbx⟩ := hcut
                have tl := tl.keep hbx
                have BX := BW.trans (hbx.mono BW.size)
                have q5 := tl.c0
                have q6 := tl.c1
                have q7 := tl.size
                have Hm := Lib.hid (show M.onR a b (c, d) (u, v) = some (l1 == r1 && l2 == r2) by simp [M.onR, k1.out, k2.out, k3.out, k4.out, k5.out])
                cases b1 : (l1 == r1) <;> cases b2 : (l2 == r2)
                all_goals
                  go_wp2
                  go_ret2
                  exact ⟨by rw [Hm.out, b1, b2]; rfl, BX⟩
end Go.Proofs.Ytpemckpnlemkfaa
