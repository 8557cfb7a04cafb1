/-
  The walk of the law on traces as a text.
-/
import Derived.Test.YtblegpmidkocaaaDoorN3
import Derived.Test.YtblegpmidkocaaaDoorL1
namespace Go.Proofs.YtblegpmidkocaaaDoor
set_option linter.unusedSimpArgs false
set_option linter.unusedVariables false
open Go.RowKit

theorem Tab.on {w w' : World} (h : Tab w.heap.size w) (hb : Below w.heap.size w w') : Tab w'.heap.size w' := fun W hW => h W (hb.trans (hW.mono hb.size))
set_option maxHeartbeats 1000000 in
theorem law_TracesText (a b : Int) (_ : M.I64 a) (_ : M.I64 b) (n : Int) (_ : M.I64 n) (w : World) (hT : Tab w.heap.size w) :
    Calls Tryd.prog 3 #[.agg #[.int .i64 a, .int .i64 b], .int .i64 n] w fun e w' => e = .returned (.bool true) ∧ Below w.heap.size w w' := by
  have e1 := fun w => specTracesText_c a b n w
  have e2 := fun w (ht : Tab w.heap.size w) => implTracesText_c a b n w ht
  generalize bs (trText a b n) = s at e1 e2
  generalize trAsk a b n = ok at e1 e2
  have E1 := Lib.hid e1
  have E2 := Lib.hid e2
  have HT := Lib.hid hT
  clear e1 e2 hT
  go_enter Tryd.func3, Tryd.ntmps3
  go_wp2_with (go_at_call 5; refine (toCurve_c _ _ _).mono ?_; rintro e w1 ⟨rfl, hb1⟩; have hz_ := hb1.size; (try simp only [World.size_alloc, heap_drew, World.heap_drewN, size_setCell] at hz_); have hs0_ : w.heap.size < w1.heap.size := (by omega); have hk0_ := fun o => (bcell hb1).1 (w.heap.size) o (by (try simp only [World.size_alloc, heap_drew, World.heap_drewN, size_setCell]); omega); have hl0_ := fun o => (bcell hb1).2.1 (w.heap.size) o (by (try simp only [World.size_alloc, heap_drew, World.heap_drewN, size_setCell]); omega))
  go_wp2_with (go_at_call 4; refine (E1.out _).mono ?_; rintro e w2 ⟨rfl, hb2⟩; have hz_ := hb2.size; (try simp only [World.size_alloc, heap_drew, World.heap_drewN, size_setCell] at hz_); have hs0_ : w.heap.size < w2.heap.size := (by omega); have hk0_ := fun o => (bcell hb2).1 (w.heap.size) o (by (try simp only [World.size_alloc, heap_drew, World.heap_drewN, size_setCell]); omega); have hl0_ := fun o => (bcell hb2).2.1 (w.heap.size) o (by (try simp only [World.size_alloc, heap_drew, World.heap_drewN, size_setCell]); omega))
  go_wp2_with (go_at_call 5; refine (toCurve_c _ _ _).mono ?_; rintro e w3 ⟨rfl, hb3⟩; have hz_ := hb3.size; (try simp only [World.size_alloc, heap_drew, World.heap_drewN, size_setCell] at hz_); have hs0_ : w.heap.size < w3.heap.size := (by omega); have hk0_ := fun o => (bcell hb3).1 (w.heap.size) o (by (try simp only [World.size_alloc, heap_drew, World.heap_drewN, size_setCell]); omega); have hl0_ := fun o => (bcell hb3).2.1 (w.heap.size) o (by (try simp only [World.size_alloc, heap_drew, World.heap_drewN, size_setCell]); omega))
  have B3 : Below w.heap.size w w3 := (by repeat (first | exact Below.refl _ _ | refine below_alloc ?_ _ | refine below_step ?_ (by assumption) | refine Below.drew ?_ | refine Below.setCell ?_ (by first | exact Nat.le_refl _ | exact Nat.le_add_right _ _ | (simp <;> omega)) _ | refine below_drewN ?_ _))
  go_wp2_with (go_at_call 6; refine (E2.out _ (HT.out.on B3)).mono ?_; rintro e w4 ⟨rfl, hb4⟩; have hz_ := hb4.size; (try simp only [World.size_alloc, heap_drew, World.heap_drewN, size_setCell] at hz_); have hs0_ : w.heap.size < w4.heap.size := (by omega); have hk0_ := fun o => (bcell hb4).1 (w.heap.size) o (by (try simp only [World.size_alloc, heap_drew, World.heap_drewN, size_setCell]); omega); have hl0_ := fun o => (bcell hb4).2.1 (w.heap.size) o (by (try simp only [World.size_alloc, heap_drew, World.heap_drewN, size_setCell]); omega))
  all_goals (go_ret; exact ⟨by simp, (by repeat (first | exact Below.refl _ _ | refine below_alloc ?_ _ | refine below_step ?_ (by assumption) | refine Below.drew ?_ | refine Below.setCell ?_ (by first | exact Nat.le_refl _ | exact Nat.le_add_right _ _ | (simp <;> omega)) _ | refine below_drewN ?_ _))⟩)
end Go.Proofs.YtblegpmidkocaaaDoor
