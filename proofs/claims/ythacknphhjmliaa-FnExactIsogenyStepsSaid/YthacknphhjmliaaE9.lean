/-
  Contracts: the neighbours, as asked for.
-/
import Derived.Test.YthacknphhjmliaaE8
import Derived.Test.YthacknphhjmliaaS9
namespace Go.Proofs.Ythacknphhjmliaa
set_option linter.unusedSimpArgs false
set_option linter.unusedVariables false
open Go.RowKit Go.Shelf

def M.nbAsked (a b : Int) : List (Int × Int) := if M.good a b then M.nbs a b else []
theorem M.nbAsked_le (a b : Int) : (M.nbAsked a b).length ≤ 201 := by
  unfold M.nbAsked M.nbs
  split
  · split
    · have h1 := cputs_le ((M.roots a b).map (M.nbl a b)) []
      have h2 := M.roots_le a b
      rw [List.length_map, List.length_nil] at h1
      unfold M.cputs
      omega
    · simp
  · simp

theorem implTwoNeighbours_c (a b : Int) (w : World) :
    Calls Try.prog 9 #[.agg #[.int .i64 a, .int .i64 b]] w fun e w' => ∃ v, e = .returned (.tuple #[v, .bool (M.good a b && M.nbOk a b)]) ∧ Rw.Own EC w' w.heap.size v (M.nbAsked a b) ∧ Below w.heap.size w w' := by
  unfold M.nbAsked
  cases hg : M.good a b
  · have HG := fun w => isCurve_c a b w
    simp only [hg] at HG
    have HG := Lib.hid HG
    go_enter Try.func9, Try.ntmps9
    go_wp2_with (go_at_call 21; refine (HG.out _).mono ?_; rintro e w' ⟨rfl, hb0⟩; have hz_ := hb0.size; (try simp only [World.size_alloc, heap_drew, World.heap_drewN, size_setCell] at hz_); have hs0_ : w.heap.size < w'.heap.size := (by omega); have hk0_ := fun o => (bcell hb0).1 (w.heap.size) o (by (try simp only [World.size_alloc, heap_drew, World.heap_drewN, size_setCell]); omega); have hl0_ := fun o => (bcell hb0).2.1 (w.heap.size) o (by (try simp only [World.size_alloc, heap_drew, World.heap_drewN, size_setCell]); omega))
    go_ret2
    exact ⟨.slice none 0 0, rfl, Rw.Own.nil _ _ _, (by repeat (first | exact Below.refl _ _ | refine below_alloc ?_ _ | refine below_step ?_ (by assumption) | refine Below.drew ?_ | refine Below.setCell ?_ (by first | exact Nat.le_refl _ | exact Nat.le_add_right _ _ | (simp <;> omega)) _ | refine below_drewN ?_ _))⟩
  · have HG := fun w => isCurve_c a b w
    simp only [hg] at HG
    have HG := Lib.hid HG
    have HT := Lib.hid fun w => twoNeighbours_c a b w hg
    go_enter Try.func9, Try.ntmps9
    go_wp2_with (go_at_call 21; refine (HG.out _).mono ?_; rintro e w' ⟨rfl, hb0⟩; have hz_ := hb0.size; (try simp only [World.size_alloc, heap_drew, World.heap_drewN, size_setCell] at hz_); have hs0_ : w.heap.size < w'.heap.size := (by omega); have hk0_ := fun o => (bcell hb0).1 (w.heap.size) o (by (try simp only [World.size_alloc, heap_drew, World.heap_drewN, size_setCell]); omega); have hl0_ := fun o => (bcell hb0).2.1 (w.heap.size) o (by (try simp only [World.size_alloc, heap_drew, World.heap_drewN, size_setCell]); omega))
    refine (HT.out _).mono ?_; rintro e w2 ⟨v2, rfl, hown2, hb2⟩
    go_wp2
    go_ret2
    have hz0 := hb0.size
    simp at hz0
    exact ⟨v2, rfl, by simpa using hown2.down (by omega), (by repeat (first | exact Below.refl _ _ | refine below_alloc ?_ _ | refine below_step ?_ (by assumption) | refine Below.drew ?_ | refine Below.setCell ?_ (by first | exact Nat.le_refl _ | exact Nat.le_add_right _ _ | (simp <;> omega)) _ | refine below_drewN ?_ _))⟩

theorem specTwoNeighbours_c (a b : Int) (w : World) :
    Calls Try.prog 7 #[.agg #[.int .i64 a, .int .i64 b]] w fun e w' => ∃ v, e = .returned (.tuple #[v, .bool (M.good a b && M.nbOk a b)]) ∧ Rw.Own EC w' w.heap.size v (M.nbAsked a b) ∧ Below w.heap.size w w' := by
  unfold M.nbAsked
  cases hg : M.good a b
  · have HG := fun w => ecGood_c a b w
    simp only [hg] at HG
    have HG := Lib.hid HG
    go_enter Try.func7, Try.ntmps7
    go_wp2_with (go_at_call 19; refine (HG.out _).mono ?_; rintro e w' ⟨rfl, hb0⟩; have hz_ := hb0.size; (try simp only [World.size_alloc, heap_drew, World.heap_drewN, size_setCell] at hz_); have hs0_ : w.heap.size < w'.heap.size := (by omega); have hk0_ := fun o => (bcell hb0).1 (w.heap.size) o (by (try simp only [World.size_alloc, heap_drew, World.heap_drewN, size_setCell]); omega); have hl0_ := fun o => (bcell hb0).2.1 (w.heap.size) o (by (try simp only [World.size_alloc, heap_drew, World.heap_drewN, size_setCell]); omega))
    go_ret2
    exact ⟨.slice none 0 0, rfl, Rw.Own.nil _ _ _, (by repeat (first | exact Below.refl _ _ | refine below_alloc ?_ _ | refine below_step ?_ (by assumption) | refine Below.drew ?_ | refine Below.setCell ?_ (by first | exact Nat.le_refl _ | exact Nat.le_add_right _ _ | (simp <;> omega)) _ | refine below_drewN ?_ _))⟩
  · have HG := fun w => ecGood_c a b w
    simp only [hg] at HG
    have HG := Lib.hid HG
    have HT := Lib.hid fun w => icAll_c a b w hg
    go_enter Try.func7, Try.ntmps7
    go_wp2_with (go_at_call 19; refine (HG.out _).mono ?_; rintro e w' ⟨rfl, hb0⟩; have hz_ := hb0.size; (try simp only [World.size_alloc, heap_drew, World.heap_drewN, size_setCell] at hz_); have hs0_ : w.heap.size < w'.heap.size := (by omega); have hk0_ := fun o => (bcell hb0).1 (w.heap.size) o (by (try simp only [World.size_alloc, heap_drew, World.heap_drewN, size_setCell]); omega); have hl0_ := fun o => (bcell hb0).2.1 (w.heap.size) o (by (try simp only [World.size_alloc, heap_drew, World.heap_drewN, size_setCell]); omega))
    refine (HT.out _).mono ?_; rintro e w2 ⟨v2, rfl, hown2, hb2⟩
    go_wp2
    go_ret2
    have hz0 := hb0.size
    simp at hz0
    exact ⟨v2, rfl, by simpa using hown2.down (by omega), (by repeat (first | exact Below.refl _ _ | refine below_alloc ?_ _ | refine below_step ?_ (by assumption) | refine Below.drew ?_ | refine Below.setCell ?_ (by first | exact Nat.le_refl _ | exact Nat.le_add_right _ _ | (simp <;> omega)) _ | refine below_drewN ?_ _))⟩
end Go.Proofs.Ythacknphhjmliaa
