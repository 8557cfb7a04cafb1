/-
  Contracts: twisted curves, symbols.
-/
import Derived.Test.YtpemckpnlemkfaaC6
namespace Go.Proofs.Ytpemckpnlemkfaa
set_option linter.unusedSimpArgs false
set_option linter.unusedVariables false
open Go.RowKit

/-- the value of a function that answers with a curve or with nothing -/
def cvOk (ok : Bool) (a b : Int) : Value := .tuple #[.agg #[.int .i64 (if ok then a else 0), .int .i64 (if ok then b else 0)], .bool ok]
theorem cvOk_t (a b : Int) : cvOk true a b = .tuple #[.agg #[.int .i64 a, .int .i64 b], .bool true] := rfl
theorem cvOk_f (a b : Int) : cvOk false a b = .tuple #[.agg #[.int .i64 0, .int .i64 0], .bool false] := rfl

theorem tw_mul_bd {a b d : Int} (hg : M.inCurve a b = true) (h1 : -30 ≤ d) (h2 : d ≤ 30) :
    (-30000 ≤ a * d ∧ a * d ≤ 30000) ∧ (-900000 ≤ a * d * d ∧ a * d * d ≤ 900000) ∧ (-300000 ≤ b * d ∧ b * d ≤ 300000) ∧ (-9000000 ≤ b * d * d ∧ b * d * d ≤ 9000000) ∧ (-270000000 ≤ b * d * d * d ∧ b * d * d * d ≤ 270000000) := by
  obtain ⟨g1, g2, g3, g4⟩ := M.inCurve_bd hg
  have b1 := M.mul_bd (x := a) (y := d) (m := 1000) (n := 30) (by omega) (by omega) (by omega) (by omega)
  have b2 := M.mul_bd (x := a * d) (y := d) (m := 30000) (n := 30) (by omega) (by omega) (by omega) (by omega)
  have b3 := M.mul_bd (x := b) (y := d) (m := 10000) (n := 30) (by omega) (by omega) (by omega) (by omega)
  have b4 := M.mul_bd (x := b * d) (y := d) (m := 300000) (n := 30) (by omega) (by omega) (by omega) (by omega)
  have b5 := M.mul_bd (x := b * d * d) (y := d) (m := 9000000) (n := 30) (by omega) (by omega) (by omega) (by omega)
  refine ⟨⟨?_, ?_⟩, ⟨?_, ?_⟩, ⟨?_, ?_⟩, ⟨?_, ?_⟩, ⟨?_, ?_⟩⟩ <;> omega

theorem curveResult_t (a b : Int) (w : World) (h : M.good a b = true) :
    Calls Try.prog 81 #[.agg #[.int .i64 a, .int .i64 b]] w fun e w' => e = .returned (.tuple #[.agg #[.int .i64 a, .int .i64 b], .bool true]) ∧ Below w.heap.size w w' :=
  (curveResult_c a b w).mono fun _ _ ⟨h1, h2⟩ => ⟨by rw [h1]; simp [h], h2⟩
theorem curveResult_f (a b : Int) (w : World) (h : M.good a b = false) :
    Calls Try.prog 81 #[.agg #[.int .i64 a, .int .i64 b]] w fun e w' => e = .returned (.tuple #[.agg #[.int .i64 0, .int .i64 0], .bool false]) ∧ Below w.heap.size w w' :=
  (curveResult_c a b w).mono fun _ _ ⟨h1, h2⟩ => ⟨by rw [h1]; simp [h], h2⟩

theorem twist_t (a b d : Int) (w : World) (hg : M.inCurve a b = true) (h1 : -30 ≤ d) (h2 : d ≤ 30) (hG : M.good (a * d * d) (b * d * d * d) = true) :
    Calls Try.prog 56 #[.agg #[.int .i64 a, .int .i64 b], .int .i64 d] w fun e w' => e = .returned (.tuple #[.agg #[.int .i64 (a * d * d), .int .i64 (b * d * d * d)], .bool true]) ∧ Below w.heap.size w w' := by
  obtain ⟨b1, b2, b3, b4, b5⟩ := tw_mul_bd hg h1 h2
  go_enter Try.func56, Try.ntmps56
  go_wp2_with (go_at_call 81; refine (curveResult_t _ _ _ hG).mono ?_; rintro e w' ⟨rfl, hb⟩; have hz_ := hb.size; (try simp only [World.size_alloc, heap_drew, World.heap_drewN, size_setCell] at hz_); have hs0_ : w.heap.size < w'.heap.size := (by omega); have hk0_ := fun o => (bcell hb).1 (w.heap.size) o (by (try simp only [World.size_alloc, heap_drew, World.heap_drewN, size_setCell]); omega); have hl0_ := fun o => (bcell hb).2.1 (w.heap.size) o (by (try simp only [World.size_alloc, heap_drew, World.heap_drewN, size_setCell]); omega); have hs1_ : w.heap.size + 1 < w'.heap.size := (by omega); have hk1_ := fun o => (bcell hb).1 (w.heap.size + 1) o (by (try simp only [World.size_alloc, heap_drew, World.heap_drewN, size_setCell]); omega); have hl1_ := fun o => (bcell hb).2.1 (w.heap.size + 1) o (by (try simp only [World.size_alloc, heap_drew, World.heap_drewN, size_setCell]); omega))
  exact bodyPost_ret (v := .tuple #[.agg #[.int .i64 (a * d * d), .int .i64 (b * d * d * d)], .bool true]) (by simp [results, Try.results56, go_sem, *]) rfl (⟨rfl, (by repeat (first | exact Below.refl _ _ | refine below_alloc ?_ _ | refine below_step ?_ (by assumption) | refine Below.drew ?_ | refine Below.setCell ?_ (by first | exact Nat.le_refl _ | exact Nat.le_add_right _ _ | (simp <;> omega)) _ | refine below_drewN ?_ _))⟩)
theorem twist_f (a b d : Int) (w : World) (hg : M.inCurve a b = true) (h1 : -30 ≤ d) (h2 : d ≤ 30) (hG : M.good (a * d * d) (b * d * d * d) = false) :
    Calls Try.prog 56 #[.agg #[.int .i64 a, .int .i64 b], .int .i64 d] w fun e w' => e = .returned (.tuple #[.agg #[.int .i64 0, .int .i64 0], .bool false]) ∧ Below w.heap.size w w' := by
  obtain ⟨b1, b2, b3, b4, b5⟩ := tw_mul_bd hg h1 h2
  go_enter Try.func56, Try.ntmps56
  go_wp2_with (go_at_call 81; refine (curveResult_f _ _ _ hG).mono ?_; rintro e w' ⟨rfl, hb⟩; have hz_ := hb.size; (try simp only [World.size_alloc, heap_drew, World.heap_drewN, size_setCell] at hz_); have hs0_ : w.heap.size < w'.heap.size := (by omega); have hk0_ := fun o => (bcell hb).1 (w.heap.size) o (by (try simp only [World.size_alloc, heap_drew, World.heap_drewN, size_setCell]); omega); have hl0_ := fun o => (bcell hb).2.1 (w.heap.size) o (by (try simp only [World.size_alloc, heap_drew, World.heap_drewN, size_setCell]); omega); have hs1_ : w.heap.size + 1 < w'.heap.size := (by omega); have hk1_ := fun o => (bcell hb).1 (w.heap.size + 1) o (by (try simp only [World.size_alloc, heap_drew, World.heap_drewN, size_setCell]); omega); have hl1_ := fun o => (bcell hb).2.1 (w.heap.size + 1) o (by (try simp only [World.size_alloc, heap_drew, World.heap_drewN, size_setCell]); omega))
  exact bodyPost_ret (v := .tuple #[.agg #[.int .i64 0, .int .i64 0], .bool false]) (by simp [results, Try.results56, go_sem, *]) rfl (⟨rfl, (by repeat (first | exact Below.refl _ _ | refine below_alloc ?_ _ | refine below_step ?_ (by assumption) | refine Below.drew ?_ | refine Below.setCell ?_ (by first | exact Nat.le_refl _ | exact Nat.le_add_right _ _ | (simp <;> omega)) _ | refine below_drewN ?_ _))⟩)

theorem twMake_c (a b d : Int) (w : World) (hg : M.inCurve a b = true) (h1 : -30 ≤ d) (h2 : d ≤ 30) :
    Calls Try.prog 75 #[.agg #[.int .i64 a, .int .i64 b], .int .i64 d] w fun e w' => e = .returned (.agg #[.int .i64 (a * d * d), .int .i64 (b * d * d * d)]) ∧ Below w.heap.size w w' := by
  obtain ⟨b1, b2, b3, b4, b5⟩ := tw_mul_bd hg h1 h2
  go_enter Try.func75, Try.ntmps75
  go_wp2
  exact bodyPost_ret (v := .agg #[.int .i64 (a * d * d), .int .i64 (b * d * d * d)]) (by simp [results, Try.results75, go_sem, *]) rfl (⟨rfl, (by repeat (first | exact Below.refl _ _ | refine below_alloc ?_ _ | refine below_step ?_ (by assumption) | refine Below.drew ?_ | refine Below.setCell ?_ (by first | exact Nat.le_refl _ | exact Nat.le_add_right _ _ | (simp <;> omega)) _ | refine below_drewN ?_ _))⟩)

theorem twOf_t (a b d : Int) (w : World) (hg : M.inCurve a b = true) (h1 : -30 ≤ d) (h2 : d ≤ 30) (hG : M.good (a * d * d) (b * d * d * d) = true) :
    Calls Try.prog 53 #[.agg #[.int .i64 a, .int .i64 b], .int .i64 d] w fun e w' => e = .returned (.tuple #[.agg #[.int .i64 (a * d * d), .int .i64 (b * d * d * d)], .bool true]) ∧ Below w.heap.size w w' := by
  go_enter Try.func53, Try.ntmps53
  go_wp2_with (first | (go_at_call 75; refine (twMake_c _ _ _ _ hg h1 h2).mono ?_; rintro e w1 ⟨rfl, hb1⟩; have hz_ := hb1.size; (try simp only [World.size_alloc, heap_drew, World.heap_drewN, size_setCell] at hz_); have hs0_ : w.heap.size < w1.heap.size := (by omega); have hk0_ := fun o => (bcell hb1).1 (w.heap.size) o (by (try simp only [World.size_alloc, heap_drew, World.heap_drewN, size_setCell]); omega); have hl0_ := fun o => (bcell hb1).2.1 (w.heap.size) o (by (try simp only [World.size_alloc, heap_drew, World.heap_drewN, size_setCell]); omega); have hs1_ : w.heap.size + 1 < w1.heap.size := (by omega); have hk1_ := fun o => (bcell hb1).1 (w.heap.size + 1) o (by (try simp only [World.size_alloc, heap_drew, World.heap_drewN, size_setCell]); omega); have hl1_ := fun o => (bcell hb1).2.1 (w.heap.size + 1) o (by (try simp only [World.size_alloc, heap_drew, World.heap_drewN, size_setCell]); omega)) | (go_at_call 26; refine (ecGood_c _ _ _).mono ?_; rintro e w2 ⟨rfl, hb2⟩; have hz_ := hb2.size; (try simp only [World.size_alloc, heap_drew, World.heap_drewN, size_setCell] at hz_); have hs0_ : w.heap.size < w2.heap.size := (by omega); have hk0_ := fun o => (bcell hb2).1 (w.heap.size) o (by (try simp only [World.size_alloc, heap_drew, World.heap_drewN, size_setCell]); omega); have hl0_ := fun o => (bcell hb2).2.1 (w.heap.size) o (by (try simp only [World.size_alloc, heap_drew, World.heap_drewN, size_setCell]); omega); have hs1_ : w.heap.size + 1 < w2.heap.size := (by omega); have hk1_ := fun o => (bcell hb2).1 (w.heap.size + 1) o (by (try simp only [World.size_alloc, heap_drew, World.heap_drewN, size_setCell]); omega); have hl1_ := fun o => (bcell hb2).2.1 (w.heap.size + 1) o (by (try simp only [World.size_alloc, heap_drew, World.heap_drewN, size_setCell]); omega); have hs2_ : w1.heap.size < w2.heap.size := (by omega); have hk2_ := fun o => (bcell hb2).1 (w1.heap.size) o (by (try simp only [World.size_alloc, heap_drew, World.heap_drewN, size_setCell]); omega); have hl2_ := fun o => (bcell hb2).2.1 (w1.heap.size) o (by (try simp only [World.size_alloc, heap_drew, World.heap_drewN, size_setCell]); omega)))
  exact bodyPost_ret (v := .tuple #[.agg #[.int .i64 (a * d * d), .int .i64 (b * d * d * d)], .bool true]) (by simp [results, Try.results53, go_sem, *]) rfl (⟨rfl, (by repeat (first | exact Below.refl _ _ | refine below_alloc ?_ _ | refine below_step ?_ (by assumption) | refine Below.drew ?_ | refine Below.setCell ?_ (by first | exact Nat.le_refl _ | exact Nat.le_add_right _ _ | (simp <;> omega)) _ | refine below_drewN ?_ _))⟩)
theorem twOf_f (a b d : Int) (w : World) (hg : M.inCurve a b = true) (h1 : -30 ≤ d) (h2 : d ≤ 30) (hG : M.good (a * d * d) (b * d * d * d) = false) :
    Calls Try.prog 53 #[.agg #[.int .i64 a, .int .i64 b], .int .i64 d] w fun e w' => e = .returned (.tuple #[.agg #[.int .i64 0, .int .i64 0], .bool false]) ∧ Below w.heap.size w w' := by
  go_enter Try.func53, Try.ntmps53
  go_wp2_with (first | (go_at_call 75; refine (twMake_c _ _ _ _ hg h1 h2).mono ?_; rintro e w1 ⟨rfl, hb1⟩; have hz_ := hb1.size; (try simp only [World.size_alloc, heap_drew, World.heap_drewN, size_setCell] at hz_); have hs0_ : w.heap.size < w1.heap.size := (by omega); have hk0_ := fun o => (bcell hb1).1 (w.heap.size) o (by (try simp only [World.size_alloc, heap_drew, World.heap_drewN, size_setCell]); omega); have hl0_ := fun o => (bcell hb1).2.1 (w.heap.size) o (by (try simp only [World.size_alloc, heap_drew, World.heap_drewN, size_setCell]); omega); have hs1_ : w.heap.size + 1 < w1.heap.size := (by omega); have hk1_ := fun o => (bcell hb1).1 (w.heap.size + 1) o (by (try simp only [World.size_alloc, heap_drew, World.heap_drewN, size_setCell]); omega); have hl1_ := fun o => (bcell hb1).2.1 (w.heap.size + 1) o (by (try simp only [World.size_alloc, heap_drew, World.heap_drewN, size_setCell]); omega)) | (go_at_call 26; refine (ecGood_c _ _ _).mono ?_; rintro e w2 ⟨rfl, hb2⟩; have hz_ := hb2.size; (try simp only [World.size_alloc, heap_drew, World.heap_drewN, size_setCell] at hz_); have hs0_ : w.heap.size < w2.heap.size := (by omega); have hk0_ := fun o => (bcell hb2).1 (w.heap.size) o (by (try simp only [World.size_alloc, heap_drew, World.heap_drewN, size_setCell]); omega); have hl0_ := fun o => (bcell hb2).2.1 (w.heap.size) o (by (try simp only [World.size_alloc, heap_drew, World.heap_drewN, size_setCell]); omega); have hs1_ : w.heap.size + 1 < w2.heap.size := (by omega); have hk1_ := fun o => (bcell hb2).1 (w.heap.size + 1) o (by (try simp only [World.size_alloc, heap_drew, World.heap_drewN, size_setCell]); omega); have hl1_ := fun o => (bcell hb2).2.1 (w.heap.size + 1) o (by (try simp only [World.size_alloc, heap_drew, World.heap_drewN, size_setCell]); omega); have hs2_ : w1.heap.size < w2.heap.size := (by omega); have hk2_ := fun o => (bcell hb2).1 (w1.heap.size) o (by (try simp only [World.size_alloc, heap_drew, World.heap_drewN, size_setCell]); omega); have hl2_ := fun o => (bcell hb2).2.1 (w1.heap.size) o (by (try simp only [World.size_alloc, heap_drew, World.heap_drewN, size_setCell]); omega)))
  exact bodyPost_ret (v := .tuple #[.agg #[.int .i64 0, .int .i64 0], .bool false]) (by simp [results, Try.results53, go_sem, *]) rfl (⟨rfl, (by repeat (first | exact Below.refl _ _ | refine below_alloc ?_ _ | refine below_step ?_ (by assumption) | refine Below.drew ?_ | refine Below.setCell ?_ (by first | exact Nat.le_refl _ | exact Nat.le_add_right _ _ | (simp <;> omega)) _ | refine below_drewN ?_ _))⟩)

/-- TwistCurve: is there one; its parts -/
def twcOk (a b d : Int) : Bool := M.good a b && M.tw d && M.good (a * d * d) (b * d * d * d)

end Go.Proofs.Ytpemckpnlemkfaa
