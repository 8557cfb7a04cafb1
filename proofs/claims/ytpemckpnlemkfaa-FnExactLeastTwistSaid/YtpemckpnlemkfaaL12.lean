/-
  The walk of the law on the least twist.
-/
import Derived.Test.YtpemckpnlemkfaaF4
import Derived.Test.YtpemckpnlemkfaaL1
namespace Go.Proofs.Ytpemckpnlemkfaa
set_option linter.unusedSimpArgs false
set_option linter.unusedVariables false
open Go.RowKit Go.Shelf

theorem law_LeastTwist (a b : Int) (_ : M.I64 a) (_ : M.I64 b) (w : World) :
    Calls Try.prog 6 #[.agg #[.int .i64 a, .int .i64 b]] w fun e w' => e = .returned (.bool true) ∧ Below w.heap.size w w' := by
  have e1 := fun w => specLeastTwist_c a b w
  have e2 := fun w => implLeastTwist_c a b w
  generalize (M.ltW a b).1 = u at e1 e2
  generalize (M.ltW a b).2.1 = x at e1 e2
  generalize (M.ltW a b).2.2 = y at e1 e2
  generalize M.good a b = z at e1 e2
  have E1 := Lib.hid e1
  have E2 := Lib.hid e2
  clear e1 e2
  go_enter Try.func6, Try.ntmps6
  go_wp2_with (go_at_call 17; refine (toCurve_c _ _ _).mono ?_; rintro e w1 ⟨rfl, hb1⟩; have hz_ := hb1.size; (try simp only [World.size_alloc, heap_drew, World.heap_drewN, size_setCell] at hz_); have hs0_ : w.heap.size < w1.heap.size := (by omega); have hk0_ := fun o => (bcell hb1).1 (w.heap.size) o (by (try simp only [World.size_alloc, heap_drew, World.heap_drewN, size_setCell]); omega); have hl0_ := fun o => (bcell hb1).2.1 (w.heap.size) o (by (try simp only [World.size_alloc, heap_drew, World.heap_drewN, size_setCell]); omega))
  go_wp2_with (go_at_call 23; refine (E1.out _).mono ?_; rintro e w2 ⟨rfl, hb2⟩; have hz_ := hb2.size; (try simp only [World.size_alloc, heap_drew, World.heap_drewN, size_setCell] at hz_); have hs0_ : w.heap.size < w2.heap.size := (by omega); have hk0_ := fun o => (bcell hb2).1 (w.heap.size) o (by (try simp only [World.size_alloc, heap_drew, World.heap_drewN, size_setCell]); omega); have hl0_ := fun o => (bcell hb2).2.1 (w.heap.size) o (by (try simp only [World.size_alloc, heap_drew, World.heap_drewN, size_setCell]); omega))
  go_wp2_with (go_at_call 17; refine (toCurve_c _ _ _).mono ?_; rintro e w3 ⟨rfl, hb3⟩; have hz_ := hb3.size; (try simp only [World.size_alloc, heap_drew, World.heap_drewN, size_setCell] at hz_); have hs0_ : w.heap.size < w3.heap.size := (by omega); have hk0_ := fun o => (bcell hb3).1 (w.heap.size) o (by (try simp only [World.size_alloc, heap_drew, World.heap_drewN, size_setCell]); omega); have hl0_ := fun o => (bcell hb3).2.1 (w.heap.size) o (by (try simp only [World.size_alloc, heap_drew, World.heap_drewN, size_setCell]); omega); have hs1_ : w2.heap.size < w3.heap.size := (by omega); have hk1_ := fun o => (bcell hb3).1 (w2.heap.size) o (by (try simp only [World.size_alloc, heap_drew, World.heap_drewN, size_setCell]); omega); have hl1_ := fun o => (bcell hb3).2.1 (w2.heap.size) o (by (try simp only [World.size_alloc, heap_drew, World.heap_drewN, size_setCell]); omega))
  go_wp2_with (go_at_call 24; refine (E2.out _).mono ?_; rintro e w4 ⟨rfl, hb4⟩; have hz_ := hb4.size; (try simp only [World.size_alloc, heap_drew, World.heap_drewN, size_setCell] at hz_); have hs0_ : w.heap.size < w4.heap.size := (by omega); have hk0_ := fun o => (bcell hb4).1 (w.heap.size) o (by (try simp only [World.size_alloc, heap_drew, World.heap_drewN, size_setCell]); omega); have hl0_ := fun o => (bcell hb4).2.1 (w.heap.size) o (by (try simp only [World.size_alloc, heap_drew, World.heap_drewN, size_setCell]); omega); have hs1_ : w2.heap.size < w4.heap.size := (by omega); have hk1_ := fun o => (bcell hb4).1 (w2.heap.size) o (by (try simp only [World.size_alloc, heap_drew, World.heap_drewN, size_setCell]); omega); have hl1_ := fun o => (bcell hb4).2.1 (w2.heap.size) o (by (try simp only [World.size_alloc, heap_drew, World.heap_drewN, size_setCell]); omega))
  go_wp2_with (go_at_call 25; refine (eqCurve_c _ _ _ _ _).mono ?_; rintro e w5 ⟨rfl, hb5⟩; have hz_ := hb5.size; (try simp only [World.size_alloc, heap_drew, World.heap_drewN, size_setCell] at hz_); have hs0_ : w.heap.size < w5.heap.size := (by omega); have hk0_ := fun o => (bcell hb5).1 (w.heap.size) o (by (try simp only [World.size_alloc, heap_drew, World.heap_drewN, size_setCell]); omega); have hl0_ := fun o => (bcell hb5).2.1 (w.heap.size) o (by (try simp only [World.size_alloc, heap_drew, World.heap_drewN, size_setCell]); omega); have hs1_ : w2.heap.size < w5.heap.size := (by omega); have hk1_ := fun o => (bcell hb5).1 (w2.heap.size) o (by (try simp only [World.size_alloc, heap_drew, World.heap_drewN, size_setCell]); omega); have hl1_ := fun o => (bcell hb5).2.1 (w2.heap.size) o (by (try simp only [World.size_alloc, heap_drew, World.heap_drewN, size_setCell]); omega); have hs2_ : w4.heap.size < w5.heap.size := (by omega); have hk2_ := fun o => (bcell hb5).1 (w4.heap.size) o (by (try simp only [World.size_alloc, heap_drew, World.heap_drewN, size_setCell]); omega); have hl2_ := fun o => (bcell hb5).2.1 (w4.heap.size) o (by (try simp only [World.size_alloc, heap_drew, World.heap_drewN, size_setCell]); omega))
  all_goals (go_ret; exact ⟨by simp, (by repeat (first | exact Below.refl _ _ | refine below_alloc ?_ _ | refine below_step ?_ (by assumption) | refine Below.drew ?_ | refine Below.setCell ?_ (by first | exact Nat.le_refl _ | exact Nat.le_add_right _ _ | (simp <;> omega)) _ | refine below_drewN ?_ _))⟩)
end Go.Proofs.Ytpemckpnlemkfaa
