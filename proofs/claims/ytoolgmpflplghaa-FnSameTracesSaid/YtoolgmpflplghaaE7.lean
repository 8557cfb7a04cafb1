/-
  Contracts: points of order two; all neighbours of a curve.
-/
import Derived.Test.YtoolgmpflplghaaE6
import Derived.Test.YtoolgmpflplghaaC3
import Derived.Test.YtoolgmpflplghaaC13
namespace Go.Proofs.Ytoolgmpflplghaa
set_option linter.unusedSimpArgs false
set_option linter.unusedVariables false
open Go.RowKit Go.Shelf

namespace M
theorem sel_root (a b : Int) (h : inCurve a b = true) : sel (root3 a b) (-200) 401 = roots a b := by
  have hw : ∀ k : Nat, k ≤ 401 → sel (root3 a b) (-200) k = if k ≤ 100 then [] else if k ≤ 301 then sel (root3 a b) (-100) (k - 100) else sel (root3 a b) (-100) 201 := by
    intro k
    induction k with
    | zero => intro _; rfl
    | succ k ih =>
      intro hk
      have ih := ih (by omega)
      cases hr : root3 a b (-200 + k)
      · rw [sel_no hr, ih]
        by_cases h1 : k + 1 ≤ 100
        · rw [if_pos (by omega), if_pos h1]
        · by_cases h2 : k + 1 ≤ 301
          · rw [if_neg (by omega : ¬ k + 1 ≤ 100), if_pos h2]
            have e : sel (root3 a b) (-100) (k + 1 - 100) = sel (root3 a b) (-100) (k - 100) := by
              rw [show k + 1 - 100 = (k - 100) + 1 by omega]
              exact sel_no (by rw [show (-100 : Int) + ((k - 100 : Nat) : Int) = -200 + k by omega]; exact hr)
            rw [e]
            by_cases h3 : k ≤ 100
            · obtain rfl : k = 100 := by omega
              rfl
            · rw [if_neg h3, if_pos (by omega)]
          · rw [if_neg (by omega : ¬ k + 1 ≤ 100), if_neg h2, if_neg (by omega : ¬ k ≤ 100)]
            by_cases h3 : k ≤ 301
            · obtain rfl : k = 301 := by omega
              rfl
            · rw [if_neg h3]
      · have hb := root_small h (by simpa [root3] using hr)
        rw [sel_yes hr, ih, if_neg (by omega : ¬ k + 1 ≤ 100), if_pos (by omega : k + 1 ≤ 301)]
        have e : sel (root3 a b) (-100) (k + 1 - 100) = sel (root3 a b) (-100) (k - 100) ++ [-200 + (k : Int)] := by
          rw [show k + 1 - 100 = (k - 100) + 1 by omega]
          have := sel_yes (p := root3 a b) (lo := -100) (k := k - 100) (by rw [show (-100 : Int) + ((k - 100 : Nat) : Int) = -200 + k by omega]; exact hr)
          rw [this, show (-100 : Int) + ((k - 100 : Nat) : Int) = -200 + k by omega]
        rw [e]
        congr 1
        by_cases h3 : k ≤ 100
        · obtain rfl : k = 100 := by omega
          rfl
        · rw [if_neg h3, if_pos (by omega)]
  have := hw 401 (Nat.le_refl _)
  rw [this, if_neg (by omega), if_neg (by omega)]
  rfl
/-- the neighbour at a root -/
def nbl (a b e : Int) : Int × Int := nb3 (rawA a e, rawB a b e)
def nbg (a b e : Int) : Bool := good (nbl a b e).1 (nbl a b e).2
def nbOk (a b : Int) : Bool := (roots a b).all (nbg a b)
def nbs (a b : Int) : List (Int × Int) := if nbOk a b then cputs ((roots a b).map (nbl a b)) else []
theorem roots_le (a b : Int) : (roots a b).length ≤ 201 := sel_le _ _ _
end M

theorem orderTwoAt_c (a b : Int) (w : World) (hg : M.good a b = true) :
    Calls Try.prog 89 #[.agg #[.int .i64 a, .int .i64 b]] w fun e w' => ∃ v, e = .returned (.tuple #[v, .bool true]) ∧ OwnI w' w.heap.size v (M.roots a b) ∧ Below w.heap.size w w' := by
  have h := M.good_in hg
  obtain ⟨g1, g2, g3, g4⟩ := M.inCurve_bd h
  have hsr := Lib.hid (M.sel_root a b h)
  have HG := fun w => isCurve_c a b w
  simp only [hg] at HG
  have HG := Lib.hid HG
  go_enter Try.func89, Try.ntmps89
  go_wp2_with (go_at_call 46; refine (HG.out _).mono ?_; rintro e w' ⟨rfl, hb0⟩; have hz_ := hb0.size; (try simp only [World.size_alloc, heap_drew, World.heap_drewN, size_setCell] at hz_); have hs0_ : w.heap.size < w'.heap.size := (by omega); have hk0_ := fun o => (bcell hb0).1 (w.heap.size) o (by (try simp only [World.size_alloc, heap_drew, World.heap_drewN, size_setCell]); omega); have hl0_ := fun o => (bcell hb0).2.1 (w.heap.size) o (by (try simp only [World.size_alloc, heap_drew, World.heap_drewN, size_setCell]); omega))
  have hz := hb0.size
  go_loopw [4, 5] (fun v x wr => ∃ k : Nat, k ≤ 401 ∧ x = .int .i64 ((-200 : Int) + k) ∧ OwnI wr (w.heap.size + 1) v (M.sel (M.root3 a b) (-200) k) ∧ Below (w.heap.size + 1) (w.alloc (.cells #[.int .i64 a, .int .i64 b] 23)) wr) (fun _ x _ => (201 - intOf x).toNat)
  case atStart => exact ⟨0, by omega, rfl, OwnI.nil _ _, by first | assumption | exact hb0 | exact hb0.mono (by simp)⟩
  case round =>
    obtain ⟨k, hk, rfl, hown, hb⟩ := hrel
    have c0 : wr.cell? ⟨w.heap.size, 0, none⟩ = some (.int .i64 a) := (hb.cell (Nat.lt_succ_self _)).trans (box_cell _ _ _ _)
    have c1 : wr.cell? ⟨w.heap.size, 1, none⟩ = some (.int .i64 b) := (hb.cell (Nat.lt_succ_self _)).trans (box_cell _ _ _ _)
    have hz0 : w.heap.size + 1 ≤ wr.heap.size := by have := hb.size; simpa using this
    have hlen := M.sel_le (M.root3 a b) (-200) k
    by_cases hlt : k < 401
    · have b1 := M.mul_bd (x := -200 + (k : Int)) (y := -200 + (k : Int)) (m := 200) (n := 200) (by omega) (by omega) (by omega) (by omega)
      have b2 := M.mul_bd (x := (-200 + (k : Int)) * (-200 + (k : Int))) (y := -200 + (k : Int)) (m := 40000) (n := 200) (by omega) (by omega) (by omega) (by omega)
      have b3 := M.mul_bd (x := a) (y := -200 + (k : Int)) (m := 1000) (n := 200) (by omega) (by omega) (by omega) (by omega)
      by_cases hr : (-200 + (k : Int)) * (-200 + (k : Int)) * (-200 + (k : Int)) + a * (-200 + (k : Int)) + b = 0
      · have hr2 : Hid (M.root3 a b (-200 + k) = true) := Lib.hid (by simp [M.root3, M.val, hr])
        go_wp2_with (first | (at_builtin; refine push_int (w.heap.size + 1) (-200 + k) _ _ rfl _ _ rfl rfl rfl hown hb hz0 (by omega) ?_; rintro v2 w2 hown2 hb2))
        go_roundw
        case rel => exact ⟨k + 1, by omega, by go_num, by rw [M.sel_yes hr2.out]; exact hown2, hb2⟩
        case measure => simp [intOf]; omega
      · have hr2 : Hid (M.root3 a b (-200 + k) = false) := Lib.hid (by simp [M.root3, M.val, hr])
        go_wp2
        go_roundw
        case rel => exact ⟨k + 1, by omega, by go_num, by rw [M.sel_no hr2.out]; exact hown, hb⟩
        case measure => simp [intOf]; omega
    · obtain rfl : k = 401 := by omega
      go_wp2
      go_ret2
      exact ⟨_, rfl, by rw [← hsr.out]; exact hown.base (by omega), ((Below.refl _ _).alloc (Nat.le_refl _) _).trans (hb.mono (by omega))⟩
end Go.Proofs.Ytoolgmpflplghaa
