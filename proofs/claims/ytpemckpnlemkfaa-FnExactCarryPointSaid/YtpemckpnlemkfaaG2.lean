/-
  Contracts: reckoning with fractions step by step.
-/
import Derived.Test.YtpemckpnlemkfaaG1
import Derived.Test.YtpemckpnlemkfaaS12
import Derived.OwnWalk
namespace Go.Proofs.Ytpemckpnlemkfaa
set_option linter.unusedSimpArgs false
set_option linter.unusedVariables false
open Go.RowKit

/-- a reckoner's mark: does everything hold so far -/
def okAt (w : World) (g : Nat) : Bool := match w.cell? ⟨g, 0, none⟩ with | some (.bool b) => b | _ => false
structure IsCalc (w : World) (g : Nat) : Prop where
  cell : w.cell? ⟨g, 0, none⟩ = some (.bool (okAt w g))
  free : w.frozen? ⟨g, 0, none⟩ = false
  size : g < w.heap.size
theorem IsCalc.keep {w w' : World} {g B : Nat} (h : IsCalc w g) (hb : Below B w w') (hg : g < B) : IsCalc w' g ∧ okAt w' g = okAt w g := by
  have e := hb.cell (p := ⟨g, 0, none⟩) hg
  have e2 := hb.frozen (p := ⟨g, 0, none⟩) hg
  have e3 : okAt w' g = okAt w g := by unfold okAt; rw [e]
  exact ⟨⟨by rw [e, e3]; exact h.cell, by rw [e2]; exact h.free, Nat.lt_of_lt_of_le h.size hb.size⟩, e3⟩
theorem okAt_of {w : World} {g : Nat} {b : Bool} (h : w.cell? ⟨g, 0, none⟩ = some (.bool b)) : okAt w g = b := by unfold okAt; rw [h]

/-- a step: from mark t to mark t', the value n over d; r is what the operation gives -/
structure Kp (t t' : Bool) (n d : Int) (r : Option (Int × Int)) : Prop where
  mark : t' = (t && r.isSome)
  good : frOk n d = true
  val : t' = true → r = some (n, d)

def M.kN (b : Bool) (n : Int) : Int := if b then n else 0
def M.kD (b : Bool) (n : Int) : Int := if b then n else 1
theorem keep_c (g : Nat) (n d : Int) (ok t : Bool) (w : World) (hc : w.cell? ⟨g, 0, none⟩ = some (.bool t)) (hf : w.frozen? ⟨g, 0, none⟩ = false) (hs : g < w.heap.size) :
    Calls Try.prog 68 #[.pointer (some ⟨g, 0, none⟩), .agg #[.int .i64 n, .int .i64 d], .bool ok] w fun e w' => e = .returned (.agg #[.int .i64 (M.kN (t && ok) n), .int .i64 (M.kD (t && ok) d)]) ∧ w'.cell? ⟨g, 0, none⟩ = some (.bool (t && ok)) ∧ w'.frozen? ⟨g, 0, none⟩ = false ∧ w.grownBy w' (some g) := by
  have ng1 : g ≠ w.heap.size := by omega
  have ng2 : g ≠ w.heap.size + 1 := by omega
  cases t <;> cases ok
  all_goals
    go_enter Try.func68, Try.ntmps68
    go_wp2
    first
      | (refine bodyPost_ret (v := .agg #[.int .i64 0, .int .i64 1]) ?_ rfl ?_; (· (simp [results, Try.results68, go_sem, *]; done)); (· (exact ⟨rfl, by simp [go_sem, *], by simp [go_sem, *], (by repeat (first | exact World.grownBy.refl _ _ | refine Gr.alloc ?_ _ | refine Gr.drew ?_ | refine grown_dr ?_ _ | refine Gr.below ?_ (by assumption) (Nat.le_refl _) | refine grown_tr ?_ (by assumption) | refine Gr.set ?_ _ _ | refine Gr.setNew ?_ (by first | exact Nat.le_refl _ | exact Nat.le_add_right _ _ | (simp <;> omega)) _))⟩)))
      | (refine bodyPost_ret (v := .agg #[.int .i64 n, .int .i64 d]) ?_ rfl ?_; (· (simp [results, Try.results68, go_sem, *]; done)); (· (exact ⟨rfl, by simp [go_sem, *], by simp [go_sem, *], (by repeat (first | exact World.grownBy.refl _ _ | refine Gr.alloc ?_ _ | refine Gr.drew ?_ | refine grown_dr ?_ _ | refine Gr.below ?_ (by assumption) (Nat.le_refl _) | refine grown_tr ?_ (by assumption) | refine Gr.set ?_ _ _ | refine Gr.setNew ?_ (by first | exact Nat.le_refl _ | exact Nat.le_add_right _ _ | (simp <;> omega)) _))⟩)))

theorem Kp.mk' (t : Bool) {r : Option (Int × Int)} (h : ∀ p, r = some p → frOk p.1 p.2 = true) : Kp t (t && r.isSome) (M.kN (t && r.isSome) (M.fN r)) (M.kD (t && r.isSome) (M.fD r)) r := by
  cases t
  · exact ⟨rfl, M.frOk_01, fun h => by cases h⟩
  · cases r with
    | none => exact ⟨rfl, M.frOk_01, fun h => by cases h⟩
    | some p => exact ⟨rfl, h p rfl, fun _ => rfl⟩
theorem M.fmul_ok {p q s : Int × Int} (h : M.fmul p q = some s) : frOk s.1 s.2 = true := M.fmk_ok h
theorem M.fadd_ok {p q s : Int × Int} (h : M.fadd p q = some s) : frOk s.1 s.2 = true := M.fmk_ok h
theorem M.fsub_ok {p q s : Int × Int} (h : M.fsub p q = some s) : frOk s.1 s.2 = true := M.fmk_ok h
theorem M.fdiv_ok {p q s : Int × Int} (h : M.fdiv p q = some s) : frOk s.1 s.2 = true := by
  unfold M.fdiv at h
  split at h
  · cases h
  · exact M.fmk_ok h

/-- what a step gives -/
def CalcPost (w : World) (g : Nat) (r : Option (Int × Int)) (e : Ending) (w' : World) : Prop :=
  ∃ p : Int × Int, e = .returned (.agg #[.int .i64 p.1, .int .i64 p.2]) ∧ Kp (okAt w g) (okAt w' g) p.1 p.2 r ∧ IsCalc w' g ∧ w.grownBy w' (some g)
theorem CalcPost.mk' {w w' : World} {g : Nat} {t : Bool} {r : Option (Int × Int)} (h : ∀ p, r = some p → frOk p.1 p.2 = true) (ht : okAt w g = t) (hs : g < w.heap.size)
    (hc : w'.cell? ⟨g, 0, none⟩ = some (.bool (t && r.isSome))) (hf : w'.frozen? ⟨g, 0, none⟩ = false) (hg : w.grownBy w' (some g)) :
    CalcPost w g r (.returned (.agg #[.int .i64 (M.kN (t && r.isSome) (M.fN r)), .int .i64 (M.kD (t && r.isSome) (M.fD r))])) w' := by
  refine ⟨(_, _), rfl, ?_, ⟨?_, hf, Nat.lt_of_lt_of_le hs hg.size⟩, hg⟩
  · rw [ht, okAt_of hc]; exact Kp.mk' t h
  · rw [okAt_of hc]; exact hc

theorem times_c (g : Nat) (a b c d : Int) (w : World) (h1 : frOk a b = true) (h2 : frOk c d = true) (hk : IsCalc w g) :
    Calls Try.prog 46 #[.pointer (some ⟨g, 0, none⟩), .agg #[.int .i64 a, .int .i64 b], .agg #[.int .i64 c, .int .i64 d]] w (CalcPost w g (M.fmul (a, b) (c, d))) := by
  have H := fun w => ProductOf_c a b c d w h1 h2
  have hr : ∀ p, M.fmul (a, b) (c, d) = some p → frOk p.1 p.2 = true := fun p h => M.fmul_ok h
  generalize M.fmul (a, b) (c, d) = r at *
  have Hr := Lib.hid hr
  have H := Lib.hid H
  obtain ⟨k1, k2, k3⟩ := hk
  have n1 : g ≠ w.heap.size := by omega
  have n2 : g ≠ w.heap.size + 1 := by omega
  have n3 : g ≠ w.heap.size + 2 := by omega
  have n4 : g ≠ w.heap.size + 1 + 1 := by omega
  generalize ht : okAt w g = t at *
  have Ht := Lib.hid ht
  clear ht hr h1 h2
  go_enter Try.func46, Try.ntmps46
  go_wp2_with fail
  refine (H.out _).mono ?_; rintro e w1 ⟨rfl, hb1⟩
  have hz_ := hb1.size; (try simp only [World.size_alloc, heap_drew, World.heap_drewN, size_setCell] at hz_); have hs0_ : w.heap.size < w1.heap.size := (by omega); have hk0_ := fun o => (bcell hb1).1 (w.heap.size) o (by (try simp only [World.size_alloc, heap_drew, World.heap_drewN, size_setCell]); omega); have hl0_ := fun o => (bcell hb1).2.1 (w.heap.size) o (by (try simp only [World.size_alloc, heap_drew, World.heap_drewN, size_setCell]); omega); have hs1_ : w.heap.size + 1 < w1.heap.size := (by omega); have hk1_ := fun o => (bcell hb1).1 (w.heap.size + 1) o (by (try simp only [World.size_alloc, heap_drew, World.heap_drewN, size_setCell]); omega); have hl1_ := fun o => (bcell hb1).2.1 (w.heap.size + 1) o (by (try simp only [World.size_alloc, heap_drew, World.heap_drewN, size_setCell]); omega); have hs2_ : w.heap.size + 2 < w1.heap.size := (by omega); have hk2_ := fun o => (bcell hb1).1 (w.heap.size + 2) o (by (try simp only [World.size_alloc, heap_drew, World.heap_drewN, size_setCell]); omega); have hl2_ := fun o => (bcell hb1).2.1 (w.heap.size + 2) o (by (try simp only [World.size_alloc, heap_drew, World.heap_drewN, size_setCell]); omega); have hs3_ : g < w1.heap.size := (by omega); have hk3_ := fun o => (bcell hb1).1 (g) o (by (try simp only [World.size_alloc, heap_drew, World.heap_drewN, size_setCell]); omega); have hl3_ := fun o => (bcell hb1).2.1 (g) o (by (try simp only [World.size_alloc, heap_drew, World.heap_drewN, size_setCell]); omega)
  have s1 : g < w1.heap.size := by omega
  have hbw : Below w.heap.size w w1 := (by repeat (first | exact Below.refl _ _ | refine below_alloc ?_ _ | refine below_step ?_ (by assumption) | refine Below.drew ?_ | refine Below.setCell ?_ (by first | exact Nat.le_refl _ | exact Nat.le_add_right _ _ | (simp <;> omega)) _ | refine below_drewN ?_ _))
  have q1 : w1.cell? ⟨g, 0, none⟩ = some (.bool t) := keepCell hbw k1
  have q2 : w1.frozen? ⟨g, 0, none⟩ = false := keepFrz hbw k3 k2
  have q3 : w1.frozen? ⟨w.heap.size + 2, 0, none⟩ = false := by simp [go_sem, *]
  have q4 : w1.frozen? ⟨w.heap.size + 2, 1, none⟩ = false := by simp [go_sem, *]
  have q5 : w1.cell? ⟨w.heap.size + 2, 0, none⟩ = some (.int .i64 0) := by simp [go_sem, *]
  have q6 : w1.cell? ⟨w.heap.size + 2, 1, none⟩ = some (.int .i64 0) := by simp [go_sem, *]
  have s2 : w.heap.size + 2 < w1.heap.size := by omega
  have hw : w.grownBy w1 (some g) := (by repeat (first | exact World.grownBy.refl _ _ | refine Gr.alloc ?_ _ | refine Gr.drew ?_ | refine grown_dr ?_ _ | refine Gr.below ?_ (by assumption) (Nat.le_refl _) | refine grown_tr ?_ (by assumption) | refine Gr.set ?_ _ _ | refine Gr.setNew ?_ (by first | exact Nat.le_refl _ | exact Nat.le_add_right _ _ | (simp <;> omega)) _))
  go_wp2_with fail
  refine (keep_c g _ _ _ t _ q1 q2 s1).mono ?_; rintro e w2 ⟨rfl, c2, f2, hg2⟩
  have ng : w.heap.size + 2 ≠ g := by omega
  have p3 := Gr.frzK hg2 s2 q3 ng
  have p4 := Gr.frzK hg2 s2 q4 ng
  have p5 := Gr.cellK hg2 q5 ng
  have p6 := Gr.cellK hg2 q6 ng
  have s3 := Gr.sizeK hg2 s2
  have hw2 := grown_tr hw hg2
  clear q1 q2 q3 q4 q5 q6 hb1 hz_ hs0_ hk0_ hl0_ hs1_ hk1_ hl1_ hs2_ hk2_ hl2_ hs3_ hk3_ hl3_
  go_wp2
  exact bodyPost_ret (v := .agg #[.int .i64 (M.kN (t && r.isSome) (M.fN r)), .int .i64 (M.kD (t && r.isSome) (M.fD r))]) (by simp [results, Try.results46, go_sem, *]) rfl (CalcPost.mk' Hr.out Ht.out k3 (by simp [go_sem, *]) (by simp [go_sem, *]) (Gr.setNew (Gr.setNew hw2 (by first | exact Nat.le_refl _ | (show w.heap.size ≤ w.heap.size + 2; omega)) _) (by first | exact Nat.le_refl _ | (show w.heap.size ≤ w.heap.size + 2; omega)) _))
theorem plus_c (g : Nat) (a b c d : Int) (w : World) (h1 : frOk a b = true) (h2 : frOk c d = true) (hk : IsCalc w g) :
    Calls Try.prog 47 #[.pointer (some ⟨g, 0, none⟩), .agg #[.int .i64 a, .int .i64 b], .agg #[.int .i64 c, .int .i64 d]] w (CalcPost w g (M.fadd (a, b) (c, d))) := by
  have H := fun w => SumOf_c a b c d w h1 h2
  have hr : ∀ p, M.fadd (a, b) (c, d) = some p → frOk p.1 p.2 = true := fun p h => M.fadd_ok h
  generalize M.fadd (a, b) (c, d) = r at *
  have Hr := Lib.hid hr
  have H := Lib.hid H
  obtain ⟨k1, k2, k3⟩ := hk
  have n1 : g ≠ w.heap.size := by omega
  have n2 : g ≠ w.heap.size + 1 := by omega
  have n3 : g ≠ w.heap.size + 2 := by omega
  have n4 : g ≠ w.heap.size + 1 + 1 := by omega
  generalize ht : okAt w g = t at *
  have Ht := Lib.hid ht
  clear ht hr h1 h2
  go_enter Try.func47, Try.ntmps47
  go_wp2_with fail
  refine (H.out _).mono ?_; rintro e w1 ⟨rfl, hb1⟩
  have hz_ := hb1.size; (try simp only [World.size_alloc, heap_drew, World.heap_drewN, size_setCell] at hz_); have hs0_ : w.heap.size < w1.heap.size := (by omega); have hk0_ := fun o => (bcell hb1).1 (w.heap.size) o (by (try simp only [World.size_alloc, heap_drew, World.heap_drewN, size_setCell]); omega); have hl0_ := fun o => (bcell hb1).2.1 (w.heap.size) o (by (try simp only [World.size_alloc, heap_drew, World.heap_drewN, size_setCell]); omega); have hs1_ : w.heap.size + 1 < w1.heap.size := (by omega); have hk1_ := fun o => (bcell hb1).1 (w.heap.size + 1) o (by (try simp only [World.size_alloc, heap_drew, World.heap_drewN, size_setCell]); omega); have hl1_ := fun o => (bcell hb1).2.1 (w.heap.size + 1) o (by (try simp only [World.size_alloc, heap_drew, World.heap_drewN, size_setCell]); omega); have hs2_ : w.heap.size + 2 < w1.heap.size := (by omega); have hk2_ := fun o => (bcell hb1).1 (w.heap.size + 2) o (by (try simp only [World.size_alloc, heap_drew, World.heap_drewN, size_setCell]); omega); have hl2_ := fun o => (bcell hb1).2.1 (w.heap.size + 2) o (by (try simp only [World.size_alloc, heap_drew, World.heap_drewN, size_setCell]); omega); have hs3_ : g < w1.heap.size := (by omega); have hk3_ := fun o => (bcell hb1).1 (g) o (by (try simp only [World.size_alloc, heap_drew, World.heap_drewN, size_setCell]); omega); have hl3_ := fun o => (bcell hb1).2.1 (g) o (by (try simp only [World.size_alloc, heap_drew, World.heap_drewN, size_setCell]); omega)
  have s1 : g < w1.heap.size := by omega
  have hbw : Below w.heap.size w w1 := (by repeat (first | exact Below.refl _ _ | refine below_alloc ?_ _ | refine below_step ?_ (by assumption) | refine Below.drew ?_ | refine Below.setCell ?_ (by first | exact Nat.le_refl _ | exact Nat.le_add_right _ _ | (simp <;> omega)) _ | refine below_drewN ?_ _))
  have q1 : w1.cell? ⟨g, 0, none⟩ = some (.bool t) := keepCell hbw k1
  have q2 : w1.frozen? ⟨g, 0, none⟩ = false := keepFrz hbw k3 k2
  have q3 : w1.frozen? ⟨w.heap.size + 2, 0, none⟩ = false := by simp [go_sem, *]
  have q4 : w1.frozen? ⟨w.heap.size + 2, 1, none⟩ = false := by simp [go_sem, *]
  have q5 : w1.cell? ⟨w.heap.size + 2, 0, none⟩ = some (.int .i64 0) := by simp [go_sem, *]
  have q6 : w1.cell? ⟨w.heap.size + 2, 1, none⟩ = some (.int .i64 0) := by simp [go_sem, *]
  have s2 : w.heap.size + 2 < w1.heap.size := by omega
  have hw : w.grownBy w1 (some g) := (by repeat (first | exact World.grownBy.refl _ _ | refine Gr.alloc ?_ _ | refine Gr.drew ?_ | refine grown_dr ?_ _ | refine Gr.below ?_ (by assumption) (Nat.le_refl _) | refine grown_tr ?_ (by assumption) | refine Gr.set ?_ _ _ | refine Gr.setNew ?_ (by first | exact Nat.le_refl _ | exact Nat.le_add_right _ _ | (simp <;> omega)) _))
  go_wp2_with fail
  refine (keep_c g _ _ _ t _ q1 q2 s1).mono ?_; rintro e w2 ⟨rfl, c2, f2, hg2⟩
  have ng : w.heap.size + 2 ≠ g := by omega
  have p3 := Gr.frzK hg2 s2 q3 ng
  have p4 := Gr.frzK hg2 s2 q4 ng
  have p5 := Gr.cellK hg2 q5 ng
  have p6 := Gr.cellK hg2 q6 ng
  have s3 := Gr.sizeK hg2 s2
  have hw2 := grown_tr hw hg2
  clear q1 q2 q3 q4 q5 q6 hb1 hz_ hs0_ hk0_ hl0_ hs1_ hk1_ hl1_ hs2_ hk2_ hl2_ hs3_ hk3_ hl3_
  go_wp2
  exact bodyPost_ret (v := .agg #[.int .i64 (M.kN (t && r.isSome) (M.fN r)), .int .i64 (M.kD (t && r.isSome) (M.fD r))]) (by simp [results, Try.results47, go_sem, *]) rfl (CalcPost.mk' Hr.out Ht.out k3 (by simp [go_sem, *]) (by simp [go_sem, *]) (Gr.setNew (Gr.setNew hw2 (by first | exact Nat.le_refl _ | (show w.heap.size ≤ w.heap.size + 2; omega)) _) (by first | exact Nat.le_refl _ | (show w.heap.size ≤ w.heap.size + 2; omega)) _))
theorem minus_c (g : Nat) (a b c d : Int) (w : World) (h1 : frOk a b = true) (h2 : frOk c d = true) (hk : IsCalc w g) :
    Calls Try.prog 49 #[.pointer (some ⟨g, 0, none⟩), .agg #[.int .i64 a, .int .i64 b], .agg #[.int .i64 c, .int .i64 d]] w (CalcPost w g (M.fsub (a, b) (c, d))) := by
  have H := fun w => DifferenceOf_c a b c d w h1 h2
  have hr : ∀ p, M.fsub (a, b) (c, d) = some p → frOk p.1 p.2 = true := fun p h => M.fsub_ok h
  generalize M.fsub (a, b) (c, d) = r at *
  have Hr := Lib.hid hr
  have H := Lib.hid H
  obtain ⟨k1, k2, k3⟩ := hk
  have n1 : g ≠ w.heap.size := by omega
  have n2 : g ≠ w.heap.size + 1 := by omega
  have n3 : g ≠ w.heap.size + 2 := by omega
  have n4 : g ≠ w.heap.size + 1 + 1 := by omega
  generalize ht : okAt w g = t at *
  have Ht := Lib.hid ht
  clear ht hr h1 h2
  go_enter Try.func49, Try.ntmps49
  go_wp2_with fail
  refine (H.out _).mono ?_; rintro e w1 ⟨rfl, hb1⟩
  have hz_ := hb1.size; (try simp only [World.size_alloc, heap_drew, World.heap_drewN, size_setCell] at hz_); have hs0_ : w.heap.size < w1.heap.size := (by omega); have hk0_ := fun o => (bcell hb1).1 (w.heap.size) o (by (try simp only [World.size_alloc, heap_drew, World.heap_drewN, size_setCell]); omega); have hl0_ := fun o => (bcell hb1).2.1 (w.heap.size) o (by (try simp only [World.size_alloc, heap_drew, World.heap_drewN, size_setCell]); omega); have hs1_ : w.heap.size + 1 < w1.heap.size := (by omega); have hk1_ := fun o => (bcell hb1).1 (w.heap.size + 1) o (by (try simp only [World.size_alloc, heap_drew, World.heap_drewN, size_setCell]); omega); have hl1_ := fun o => (bcell hb1).2.1 (w.heap.size + 1) o (by (try simp only [World.size_alloc, heap_drew, World.heap_drewN, size_setCell]); omega); have hs2_ : w.heap.size + 2 < w1.heap.size := (by omega); have hk2_ := fun o => (bcell hb1).1 (w.heap.size + 2) o (by (try simp only [World.size_alloc, heap_drew, World.heap_drewN, size_setCell]); omega); have hl2_ := fun o => (bcell hb1).2.1 (w.heap.size + 2) o (by (try simp only [World.size_alloc, heap_drew, World.heap_drewN, size_setCell]); omega); have hs3_ : g < w1.heap.size := (by omega); have hk3_ := fun o => (bcell hb1).1 (g) o (by (try simp only [World.size_alloc, heap_drew, World.heap_drewN, size_setCell]); omega); have hl3_ := fun o => (bcell hb1).2.1 (g) o (by (try simp only [World.size_alloc, heap_drew, World.heap_drewN, size_setCell]); omega)
  have s1 : g < w1.heap.size := by omega
  have hbw : Below w.heap.size w w1 := (by repeat (first | exact Below.refl _ _ | refine below_alloc ?_ _ | refine below_step ?_ (by assumption) | refine Below.drew ?_ | refine Below.setCell ?_ (by first | exact Nat.le_refl _ | exact Nat.le_add_right _ _ | (simp <;> omega)) _ | refine below_drewN ?_ _))
  have q1 : w1.cell? ⟨g, 0, none⟩ = some (.bool t) := keepCell hbw k1
  have q2 : w1.frozen? ⟨g, 0, none⟩ = false := keepFrz hbw k3 k2
  have q3 : w1.frozen? ⟨w.heap.size + 2, 0, none⟩ = false := by simp [go_sem, *]
  have q4 : w1.frozen? ⟨w.heap.size + 2, 1, none⟩ = false := by simp [go_sem, *]
  have q5 : w1.cell? ⟨w.heap.size + 2, 0, none⟩ = some (.int .i64 0) := by simp [go_sem, *]
  have q6 : w1.cell? ⟨w.heap.size + 2, 1, none⟩ = some (.int .i64 0) := by simp [go_sem, *]
  have s2 : w.heap.size + 2 < w1.heap.size := by omega
  have hw : w.grownBy w1 (some g) := (by repeat (first | exact World.grownBy.refl _ _ | refine Gr.alloc ?_ _ | refine Gr.drew ?_ | refine grown_dr ?_ _ | refine Gr.below ?_ (by assumption) (Nat.le_refl _) | refine grown_tr ?_ (by assumption) | refine Gr.set ?_ _ _ | refine Gr.setNew ?_ (by first | exact Nat.le_refl _ | exact Nat.le_add_right _ _ | (simp <;> omega)) _))
  go_wp2_with fail
  refine (keep_c g _ _ _ t _ q1 q2 s1).mono ?_; rintro e w2 ⟨rfl, c2, f2, hg2⟩
  have ng : w.heap.size + 2 ≠ g := by omega
  have p3 := Gr.frzK hg2 s2 q3 ng
  have p4 := Gr.frzK hg2 s2 q4 ng
  have p5 := Gr.cellK hg2 q5 ng
  have p6 := Gr.cellK hg2 q6 ng
  have s3 := Gr.sizeK hg2 s2
  have hw2 := grown_tr hw hg2
  clear q1 q2 q3 q4 q5 q6 hb1 hz_ hs0_ hk0_ hl0_ hs1_ hk1_ hl1_ hs2_ hk2_ hl2_ hs3_ hk3_ hl3_
  go_wp2
  exact bodyPost_ret (v := .agg #[.int .i64 (M.kN (t && r.isSome) (M.fN r)), .int .i64 (M.kD (t && r.isSome) (M.fD r))]) (by simp [results, Try.results49, go_sem, *]) rfl (CalcPost.mk' Hr.out Ht.out k3 (by simp [go_sem, *]) (by simp [go_sem, *]) (Gr.setNew (Gr.setNew hw2 (by first | exact Nat.le_refl _ | (show w.heap.size ≤ w.heap.size + 2; omega)) _) (by first | exact Nat.le_refl _ | (show w.heap.size ≤ w.heap.size + 2; omega)) _))
theorem over_c (g : Nat) (a b c d : Int) (w : World) (h1 : frOk a b = true) (h2 : frOk c d = true) (hk : IsCalc w g) :
    Calls Try.prog 50 #[.pointer (some ⟨g, 0, none⟩), .agg #[.int .i64 a, .int .i64 b], .agg #[.int .i64 c, .int .i64 d]] w (CalcPost w g (M.fdiv (a, b) (c, d))) := by
  have H := fun w => QuotientOf_c a b c d w h1 h2
  have hr : ∀ p, M.fdiv (a, b) (c, d) = some p → frOk p.1 p.2 = true := fun p h => M.fdiv_ok h
  generalize M.fdiv (a, b) (c, d) = r at *
  have Hr := Lib.hid hr
  have H := Lib.hid H
  obtain ⟨k1, k2, k3⟩ := hk
  have n1 : g ≠ w.heap.size := by omega
  have n2 : g ≠ w.heap.size + 1 := by omega
  have n3 : g ≠ w.heap.size + 2 := by omega
  have n4 : g ≠ w.heap.size + 1 + 1 := by omega
  generalize ht : okAt w g = t at *
  have Ht := Lib.hid ht
  clear ht hr h1 h2
  go_enter Try.func50, Try.ntmps50
  go_wp2_with fail
  refine (H.out _).mono ?_; rintro e w1 ⟨rfl, hb1⟩
  have hz_ := hb1.size; (try simp only [World.size_alloc, heap_drew, World.heap_drewN, size_setCell] at hz_); have hs0_ : w.heap.size < w1.heap.size := (by omega); have hk0_ := fun o => (bcell hb1).1 (w.heap.size) o (by (try simp only [World.size_alloc, heap_drew, World.heap_drewN, size_setCell]); omega); have hl0_ := fun o => (bcell hb1).2.1 (w.heap.size) o (by (try simp only [World.size_alloc, heap_drew, World.heap_drewN, size_setCell]); omega); have hs1_ : w.heap.size + 1 < w1.heap.size := (by omega); have hk1_ := fun o => (bcell hb1).1 (w.heap.size + 1) o (by (try simp only [World.size_alloc, heap_drew, World.heap_drewN, size_setCell]); omega); have hl1_ := fun o => (bcell hb1).2.1 (w.heap.size + 1) o (by (try simp only [World.size_alloc, heap_drew, World.heap_drewN, size_setCell]); omega); have hs2_ : w.heap.size + 2 < w1.heap.size := (by omega); have hk2_ := fun o => (bcell hb1).1 (w.heap.size + 2) o (by (try simp only [World.size_alloc, heap_drew, World.heap_drewN, size_setCell]); omega); have hl2_ := fun o => (bcell hb1).2.1 (w.heap.size + 2) o (by (try simp only [World.size_alloc, heap_drew, World.heap_drewN, size_setCell]); omega); have hs3_ : g < w1.heap.size := (by omega); have hk3_ := fun o => (bcell hb1).1 (g) o (by (try simp only [World.size_alloc, heap_drew, World.heap_drewN, size_setCell]); omega); have hl3_ := fun o => (bcell hb1).2.1 (g) o (by (try simp only [World.size_alloc, heap_drew, World.heap_drewN, size_setCell]); omega)
  have s1 : g < w1.heap.size := by omega
  have hbw : Below w.heap.size w w1 := (by repeat (first | exact Below.refl _ _ | refine below_alloc ?_ _ | refine below_step ?_ (by assumption) | refine Below.drew ?_ | refine Below.setCell ?_ (by first | exact Nat.le_refl _ | exact Nat.le_add_right _ _ | (simp <;> omega)) _ | refine below_drewN ?_ _))
  have q1 : w1.cell? ⟨g, 0, none⟩ = some (.bool t) := keepCell hbw k1
  have q2 : w1.frozen? ⟨g, 0, none⟩ = false := keepFrz hbw k3 k2
  have q3 : w1.frozen? ⟨w.heap.size + 2, 0, none⟩ = false := by simp [go_sem, *]
  have q4 : w1.frozen? ⟨w.heap.size + 2, 1, none⟩ = false := by simp [go_sem, *]
  have q5 : w1.cell? ⟨w.heap.size + 2, 0, none⟩ = some (.int .i64 0) := by simp [go_sem, *]
  have q6 : w1.cell? ⟨w.heap.size + 2, 1, none⟩ = some (.int .i64 0) := by simp [go_sem, *]
  have s2 : w.heap.size + 2 < w1.heap.size := by omega
  have hw : w.grownBy w1 (some g) := (by repeat (first | exact World.grownBy.refl _ _ | refine Gr.alloc ?_ _ | refine Gr.drew ?_ | refine grown_dr ?_ _ | refine Gr.below ?_ (by assumption) (Nat.le_refl _) | refine grown_tr ?_ (by assumption) | refine Gr.set ?_ _ _ | refine Gr.setNew ?_ (by first | exact Nat.le_refl _ | exact Nat.le_add_right _ _ | (simp <;> omega)) _))
  go_wp2_with fail
  refine (keep_c g _ _ _ t _ q1 q2 s1).mono ?_; rintro e w2 ⟨rfl, c2, f2, hg2⟩
  have ng : w.heap.size + 2 ≠ g := by omega
  have p3 := Gr.frzK hg2 s2 q3 ng
  have p4 := Gr.frzK hg2 s2 q4 ng
  have p5 := Gr.cellK hg2 q5 ng
  have p6 := Gr.cellK hg2 q6 ng
  have s3 := Gr.sizeK hg2 s2
  have hw2 := grown_tr hw hg2
  clear q1 q2 q3 q4 q5 q6 hb1 hz_ hs0_ hk0_ hl0_ hs1_ hk1_ hl1_ hs2_ hk2_ hl2_ hs3_ hk3_ hl3_
  go_wp2
  exact bodyPost_ret (v := .agg #[.int .i64 (M.kN (t && r.isSome) (M.fN r)), .int .i64 (M.kD (t && r.isSome) (M.fD r))]) (by simp [results, Try.results50, go_sem, *]) rfl (CalcPost.mk' Hr.out Ht.out k3 (by simp [go_sem, *]) (by simp [go_sem, *]) (Gr.setNew (Gr.setNew hw2 (by first | exact Nat.le_refl _ | (show w.heap.size ≤ w.heap.size + 2; omega)) _) (by first | exact Nat.le_refl _ | (show w.heap.size ≤ w.heap.size + 2; omega)) _))

theorem whole_c (g : Nat) (n : Int) (w : World) (h1 : -1000000000 ≤ n) (h2 : n ≤ 1000000000) (hk : IsCalc w g) :
    Calls Try.prog 48 #[.pointer (some ⟨g, 0, none⟩), .int .i64 n] w (CalcPost w g (some (n, 1))) := by
  have H := fun w => makeFraction_o n 1 w (by omega) (by omega) (by omega) (by omega) (by omega)
  rw [M.fmk_whole h1 h2] at H
  have hr : ∀ p, some (n, (1 : Int)) = some p → frOk p.1 p.2 = true := fun p h => by cases h; exact M.frOk_whole h1 h2
  generalize some (n, (1 : Int)) = r at *
  have Hr := Lib.hid hr
  have H := Lib.hid H
  obtain ⟨k1, k2, k3⟩ := hk
  have n1 : g ≠ w.heap.size := by omega
  have n2 : g ≠ w.heap.size + 1 := by omega
  have n3 : g ≠ w.heap.size + 2 := by omega
  have n4 : g ≠ w.heap.size + 1 + 1 := by omega
  generalize ht : okAt w g = t at *
  have Ht := Lib.hid ht
  clear ht hr
  go_enter Try.func48, Try.ntmps48
  go_wp2_with fail
  refine (H.out _).mono ?_; rintro e w1 ⟨rfl, hb1⟩
  have hz_ := hb1.size; (try simp only [World.size_alloc, heap_drew, World.heap_drewN, size_setCell] at hz_); have hs0_ : w.heap.size < w1.heap.size := (by omega); have hk0_ := fun o => (bcell hb1).1 (w.heap.size) o (by (try simp only [World.size_alloc, heap_drew, World.heap_drewN, size_setCell]); omega); have hl0_ := fun o => (bcell hb1).2.1 (w.heap.size) o (by (try simp only [World.size_alloc, heap_drew, World.heap_drewN, size_setCell]); omega); have hs1_ : g < w1.heap.size := (by omega); have hk1_ := fun o => (bcell hb1).1 (g) o (by (try simp only [World.size_alloc, heap_drew, World.heap_drewN, size_setCell]); omega); have hl1_ := fun o => (bcell hb1).2.1 (g) o (by (try simp only [World.size_alloc, heap_drew, World.heap_drewN, size_setCell]); omega)
  have s1 : g < w1.heap.size := by omega
  have hbw : Below w.heap.size w w1 := (by repeat (first | exact Below.refl _ _ | refine below_alloc ?_ _ | refine below_step ?_ (by assumption) | refine Below.drew ?_ | refine Below.setCell ?_ (by first | exact Nat.le_refl _ | exact Nat.le_add_right _ _ | (simp <;> omega)) _ | refine below_drewN ?_ _))
  have q1 : w1.cell? ⟨g, 0, none⟩ = some (.bool t) := keepCell hbw k1
  have q2 : w1.frozen? ⟨g, 0, none⟩ = false := keepFrz hbw k3 k2
  have q3 : w1.frozen? ⟨w.heap.size, 0, none⟩ = false := by simp [go_sem, *]
  have q4 : w1.frozen? ⟨w.heap.size, 1, none⟩ = false := by simp [go_sem, *]
  have q5 : w1.cell? ⟨w.heap.size, 0, none⟩ = some (.int .i64 0) := by simp [go_sem, *]
  have q6 : w1.cell? ⟨w.heap.size, 1, none⟩ = some (.int .i64 0) := by simp [go_sem, *]
  have s2 : w.heap.size < w1.heap.size := by omega
  have hw : w.grownBy w1 (some g) := (by repeat (first | exact World.grownBy.refl _ _ | refine Gr.alloc ?_ _ | refine Gr.drew ?_ | refine grown_dr ?_ _ | refine Gr.below ?_ (by assumption) (Nat.le_refl _) | refine grown_tr ?_ (by assumption) | refine Gr.set ?_ _ _ | refine Gr.setNew ?_ (by first | exact Nat.le_refl _ | exact Nat.le_add_right _ _ | (simp <;> omega)) _))
  go_wp2_with fail
  refine (keep_c g _ _ _ t _ q1 q2 s1).mono ?_; rintro e w2 ⟨rfl, c2, f2, hg2⟩
  have ng : w.heap.size ≠ g := by omega
  have p3 := Gr.frzK hg2 s2 q3 ng
  have p4 := Gr.frzK hg2 s2 q4 ng
  have p5 := Gr.cellK hg2 q5 ng
  have p6 := Gr.cellK hg2 q6 ng
  have s3 := Gr.sizeK hg2 s2
  have hw2 := grown_tr hw hg2
  clear q1 q2 q3 q4 q5 q6 hb1 hz_ hs0_ hk0_ hl0_ hs1_ hk1_ hl1_
  go_wp2
  exact bodyPost_ret (v := .agg #[.int .i64 (M.kN (t && r.isSome) (M.fN r)), .int .i64 (M.kD (t && r.isSome) (M.fD r))]) (by simp [results, Try.results48, go_sem, *]) rfl (CalcPost.mk' Hr.out Ht.out k3 (by simp [go_sem, *]) (by simp [go_sem, *]) (Gr.setNew (Gr.setNew hw2 (by first | exact Nat.le_refl _ | (show w.heap.size ≤ w.heap.size + 2; omega)) _) (by first | exact Nat.le_refl _ | (show w.heap.size ≤ w.heap.size + 2; omega)) _))
end Go.Proofs.Ytpemckpnlemkfaa
