/-
  Contracts: curves of one smallest model.
-/
import Derived.Test.YtpemckpnlemkfaaF1
import Derived.Test.YtpemckpnlemkfaaE1
import Derived.Test.YtpemckpnlemkfaaS10
namespace Go.Proofs.Ytpemckpnlemkfaa
set_option linter.unusedSimpArgs false
set_option linter.unusedVariables false
open Go.RowKit Go.Shelf

def M.same (a b c d : Int) : Bool := M.smA a b == M.smA c d && M.smB a b == M.smB c d
theorem ecSame_c (a b c d : Int) (w : World) (h1 : M.good a b = true) (h2 : M.good c d = true) :
    Calls Try.prog 27 #[.agg #[.int .i64 a, .int .i64 b], .agg #[.int .i64 c, .int .i64 d]] w fun e w' => e = .returned (.bool (M.same a b c d)) ∧ Below w.heap.size w w' := by
  have H1 := Lib.hid fun w => ecSmallest_c a b w h1
  have H2 := Lib.hid fun w => ecSmallest_c c d w h2
  unfold M.same
  generalize M.smA a b = x1 at *
  generalize M.smB a b = x2 at *
  generalize M.sm a b = x3 at *
  generalize M.smA c d = y1 at *
  generalize M.smB c d = y2 at *
  generalize M.sm c d = y3 at *
  cases b1 : (x1 == y1) <;> cases b2 : (x2 == y2)
  all_goals
    go_enter Try.func27, Try.ntmps27
    go_wp2_with fail
    refine (H1.out _).mono ?_; rintro e w1 ⟨rfl, hb1⟩
    have hz_ := hb1.size; (try simp only [World.size_alloc, heap_drew, World.heap_drewN, size_setCell] at hz_); have hs0_ : w.heap.size < w1.heap.size := (by omega); have hk0_ := fun o => (bcell hb1).1 (w.heap.size) o (by (try simp only [World.size_alloc, heap_drew, World.heap_drewN, size_setCell]); omega); have hl0_ := fun o => (bcell hb1).2.1 (w.heap.size) o (by (try simp only [World.size_alloc, heap_drew, World.heap_drewN, size_setCell]); omega); have hs1_ : w.heap.size + 1 < w1.heap.size := (by omega); have hk1_ := fun o => (bcell hb1).1 (w.heap.size + 1) o (by (try simp only [World.size_alloc, heap_drew, World.heap_drewN, size_setCell]); omega); have hl1_ := fun o => (bcell hb1).2.1 (w.heap.size + 1) o (by (try simp only [World.size_alloc, heap_drew, World.heap_drewN, size_setCell]); omega)
    go_wp2_with fail
    refine (H2.out _).mono ?_; rintro e w2 ⟨rfl, hb2⟩
    have hz_ := hb2.size; (try simp only [World.size_alloc, heap_drew, World.heap_drewN, size_setCell] at hz_); have hs0_ : w.heap.size < w2.heap.size := (by omega); have hk0_ := fun o => (bcell hb2).1 (w.heap.size) o (by (try simp only [World.size_alloc, heap_drew, World.heap_drewN, size_setCell]); omega); have hl0_ := fun o => (bcell hb2).2.1 (w.heap.size) o (by (try simp only [World.size_alloc, heap_drew, World.heap_drewN, size_setCell]); omega); have hs1_ : w.heap.size + 1 < w2.heap.size := (by omega); have hk1_ := fun o => (bcell hb2).1 (w.heap.size + 1) o (by (try simp only [World.size_alloc, heap_drew, World.heap_drewN, size_setCell]); omega); have hl1_ := fun o => (bcell hb2).2.1 (w.heap.size + 1) o (by (try simp only [World.size_alloc, heap_drew, World.heap_drewN, size_setCell]); omega); have hs2_ : w1.heap.size < w2.heap.size := (by omega); have hk2_ := fun o => (bcell hb2).1 (w1.heap.size) o (by (try simp only [World.size_alloc, heap_drew, World.heap_drewN, size_setCell]); omega); have hl2_ := fun o => (bcell hb2).2.1 (w1.heap.size) o (by (try simp only [World.size_alloc, heap_drew, World.heap_drewN, size_setCell]); omega)
    go_wp2
    go_ret
    exact ⟨by simp, (by repeat (first | exact Below.refl _ _ | refine below_alloc ?_ _ | refine below_step ?_ (by assumption) | refine Below.drew ?_ | refine Below.setCell ?_ (by first | exact Nat.le_refl _ | exact Nat.le_add_right _ _ | (simp <;> omega)) _ | refine below_drewN ?_ _))⟩
end Go.Proofs.Ytpemckpnlemkfaa
