/-
  Slices of numbers, read and marked by a law.
-/
import Derived.Test.YtpemckpnlemkfaaC3
import Derived.Test.YtpemckpnlemkfaaC4
import Derived.Test.YtpemckpnlemkfaaC2
namespace Go.Proofs.Ytpemckpnlemkfaa
set_option linter.unusedSimpArgs false
set_option linter.unusedVariables false
open Go.RowKit

/-- a slice of numbers that can be read; its cells lie below block hi -/
def SeenI (w : World) (hi : Nat) (v : Value) (xs : List Int) : Prop :=
  ∃ (a : Option Addr) (cap : Nat), v = .slice a xs.length cap ∧ (xs.length : Int) ≤ 9223372036854775807 ∧
    ∀ k, k < xs.length → ∃ g x, a = some ⟨g, 0, none⟩ ∧ g < hi ∧ Hid (xs[k]? = some x) ∧ w.cell? ⟨g, k, none⟩ = some (.int .i64 x)
theorem SeenI.below {w w' : World} {hi : Nat} {v : Value} {xs : List Int} (h : SeenI w hi v xs) (hb : Below hi w w') : SeenI w' hi v xs := by
  obtain ⟨a, cap, h1, h2, h3⟩ := h
  refine ⟨a, cap, h1, h2, fun k hk => ?_⟩
  obtain ⟨g, x, e1, e2, e3, e4⟩ := h3 k hk
  exact ⟨g, x, e1, e2, e3, (hb.cell (p := ⟨g, k, none⟩) e2).trans e4⟩
theorem SeenI.mono {w : World} {hi hi' : Nat} {v : Value} {xs : List Int} (h : SeenI w hi v xs) (hh : hi ≤ hi') : SeenI w hi' v xs := by
  obtain ⟨a, cap, h1, h2, h3⟩ := h
  refine ⟨a, cap, h1, h2, fun k hk => ?_⟩
  obtain ⟨g, x, e1, e2, e3, e4⟩ := h3 k hk
  exact ⟨g, x, e1, by omega, e3, e4⟩
theorem OwnI.seen {w : World} {base : Nat} {v : Value} {xs : List Int} (h : OwnI w base v xs) : SeenI w w.heap.size v xs := by
  obtain ⟨a, cap, h1, h2, h3⟩ := h.view
  refine ⟨a, cap, h1, h2, fun k hk => ?_⟩
  obtain ⟨g, x, e1, e2, e3, e4⟩ := h3 k hk
  exact ⟨g, x, e1, World.block_lt_of_cell? w _ e4, e3, e4⟩
theorem SeenI.len {w : World} {hi : Nat} {v : Value} {xs : List Int} (h : SeenI w hi v xs) : (xs.length : Int) ≤ 9223372036854775807 := by
  obtain ⟨a, cap, h1, h2, h3⟩ := h
  exact h2

theorem eqIntS_c (v u : Value) (xs ys : List Int) (w : World) (h1 h2 : Nat) (hx : SeenI w h1 v xs) (hy : SeenI w h2 u ys) :
    Calls Try.prog 33 #[v, u] w fun e w' => e = .returned (.bool (decide (xs = ys))) ∧ Below w.heap.size w w' := by
  obtain ⟨a, cap, rfl, hm, hv⟩ := hx
  obtain ⟨a', cap', rfl, hm', hv'⟩ := hy
  by_cases hl : xs.length = ys.length
  · have hl' := Lib.hid hl
    go_enter Try.func33, Try.ntmps33
    go_wp2
    go_loopw [5] (fun vi wr => ∃ k : Nat, k ≤ ys.length ∧ vi = .int .i64 k ∧ (∀ j : Nat, j < k → xs[j]? = ys[j]?) ∧ ∃ m, wr = w.drewN m) (fun vi _ => ys.length - (intOf vi).toNat)
    case atStart => exact ⟨0, by omega, rfl, fun j h => by omega, 0, rfl⟩
    case round =>
      obtain ⟨k, hk, rfl, hall, m, rfl⟩ := hrel
      have Hall := Lib.hid hall
      clear hall
      by_cases hlt : k < ys.length
      · obtain ⟨g, x, rfl, hg, hx, hcell⟩ := hv k (by omega)
        obtain ⟨g', y, rfl, hg', hy, hcell'⟩ := hv' k hlt
        clear hv hv'
        by_cases hxy : x = y
        · subst hxy
          go_wp2
          go_quiet (fail)
          go_wp2
          go_roundw
          case rel => exact ⟨k + 1, by omega, by go_num, fun j hj => if q : j = k then by rw [q, hx.out, hy.out] else Hall.out j (by omega), _, rfl⟩
          case measure => simp [intOf]; omega
        · have hne : (x != y) = true := by simpa using hxy
          go_wp2
          go_quiet (fail)
          go_wp2
          go_ret
          refine ⟨ret_b ?_, (by repeat (first | exact Below.refl _ _ | refine below_alloc ?_ _ | refine below_step ?_ (by assumption) | refine Below.drew ?_ | refine Below.setCell ?_ (by first | exact Nat.le_refl _ | exact Nat.le_add_right _ _ | (simp <;> omega)) _ | refine below_drewN ?_ _))⟩
          symm
          rw [decide_eq_false_iff_not]
          intro he
          have h1 := hx.out
          rw [he, hy.out] at h1
          exact hxy (Option.some.inj h1).symm
      · obtain rfl : k = ys.length := by omega
        clear hv hv'
        go_wp2
        go_ret
        refine ⟨ret_b ?_, (by repeat (first | exact Below.refl _ _ | refine below_alloc ?_ _ | refine below_step ?_ (by assumption) | refine Below.drew ?_ | refine Below.setCell ?_ (by first | exact Nat.le_refl _ | exact Nat.le_add_right _ _ | (simp <;> omega)) _ | refine below_drewN ?_ _))⟩
        symm
        rw [decide_eq_true_iff]
        refine List.ext_getElem? fun j => ?_
        rcases Nat.lt_or_ge j ys.length with q | q
        · exact Hall.out j q
        · rw [List.getElem?_eq_none (by rw [hl'.out]; exact q), List.getElem?_eq_none q]
  · clear hv hv'
    have hne : ((xs.length : Int) != (ys.length : Int)) = true := by simp; omega
    have hne2 : (xs.length != ys.length) = true := by simpa using hl
    have hd : xs ≠ ys := fun h => hl (by rw [h])
    go_enter Try.func33, Try.ntmps33
    go_wp2
    go_ret
    exact ⟨ret_b (by simp [hd]), (by repeat (first | exact Below.refl _ _ | refine below_alloc ?_ _ | refine below_step ?_ (by assumption) | refine Below.drew ?_ | refine Below.setCell ?_ (by first | exact Nat.le_refl _ | exact Nat.le_add_right _ _ | (simp <;> omega)) _ | refine below_drewN ?_ _))⟩
end Go.Proofs.Ytpemckpnlemkfaa
