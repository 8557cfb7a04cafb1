/-
  Contracts: the first prime with different traces, in the reference; what is exported of it.
-/
import Derived.Test.YtblegpmidkocaaaDoorD2
namespace Go.Proofs.YtblegpmidkocaaaDoor
set_option linter.unusedSimpArgs false
set_option linter.unusedVariables false
open Go.RowKit

/-- a table is asked for -/
def trAsk (a b n : Int) : Bool := M.good a b && M.ins n 5 200
theorem trAsked_c (a b n : Int) (w : World) :
    Calls Tryd.prog 7 #[.agg #[.int .i64 a, .int .i64 b], .int .i64 n] w fun e w' => e = .returned (.bool (trAsk a b n)) ∧ Below w.heap.size w w' := by
  unfold trAsk
  cases h1 : M.good a b
  · go_enter Tryd.func7, Tryd.ntmps7
    go_wp2_with (go_at_call 18; refine (ecGood_c _ _ _).mono ?_; rintro e w' ⟨rfl, hb⟩; have hz_ := hb.size; (try simp only [World.size_alloc, heap_drew, World.heap_drewN, size_setCell] at hz_); have hs0_ : w.heap.size < w'.heap.size := (by omega); have hk0_ := fun o => (bcell hb).1 (w.heap.size) o (by (try simp only [World.size_alloc, heap_drew, World.heap_drewN, size_setCell]); omega); have hl0_ := fun o => (bcell hb).2.1 (w.heap.size) o (by (try simp only [World.size_alloc, heap_drew, World.heap_drewN, size_setCell]); omega))
    go_ret; exact ⟨ret_b (by simp), (by repeat (first | exact Below.refl _ _ | refine below_alloc ?_ _ | refine below_step ?_ (by assumption) | refine Below.drew ?_ | refine Below.setCell ?_ (by first | exact Nat.le_refl _ | exact Nat.le_add_right _ _ | (simp <;> omega)) _ | refine below_drewN ?_ _))⟩
  · go_enter Tryd.func7, Tryd.ntmps7
    go_wp2_with (first | (go_at_call 18; refine (ecGood_c _ _ _).mono ?_; rintro e w' ⟨rfl, hb⟩; have hz_ := hb.size; (try simp only [World.size_alloc, heap_drew, World.heap_drewN, size_setCell] at hz_); have hs0_ : w.heap.size < w'.heap.size := (by omega); have hk0_ := fun o => (bcell hb).1 (w.heap.size) o (by (try simp only [World.size_alloc, heap_drew, World.heap_drewN, size_setCell]); omega); have hl0_ := fun o => (bcell hb).2.1 (w.heap.size) o (by (try simp only [World.size_alloc, heap_drew, World.heap_drewN, size_setCell]); omega)) | (go_at_call 19; refine (l1In_c _ _ _ _).mono ?_; rintro e w' ⟨rfl, rfl⟩))
    go_ret; exact ⟨ret_b (by simp), (by repeat (first | exact Below.refl _ _ | refine below_alloc ?_ _ | refine below_step ?_ (by assumption) | refine Below.drew ?_ | refine Below.setCell ?_ (by first | exact Nat.le_refl _ | exact Nat.le_add_right _ _ | (simp <;> omega)) _ | refine below_drewN ?_ _))⟩
theorem trAsk_t {a b n : Int} (h : trAsk a b n = true) : M.good a b = true ∧ 5 ≤ n ∧ n ≤ 200 := by
  simp only [trAsk, Bool.and_eq_true, M.ins_iff] at h
  exact ⟨h.1, h.2.1, h.2.2⟩

noncomputable def hsOk (a b c d n : Int) : Bool := trAsk a b n && M.good c d
theorem fdV_zero {a b c d n : Int} : (fdV a b c d n == 0) = !fdB a b c d n := by
  unfold fdV fdB M.firstD
  cases h : (M.goods a b n).find? (M.differ a b c d) with
  | none => rfl
  | some x =>
    have := (M.mem_goods (List.mem_of_find?_eq_some h)).2.1
    simp
    omega

noncomputable def fdOk (a b c d n : Int) : Bool := hsOk a b c d n && fdB a b c d n

end Go.Proofs.YtblegpmidkocaaaDoor
