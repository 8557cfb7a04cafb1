/-
  Contracts: points of order two, raw neighbours.
-/
import Derived.Test.YtpemckpnlemkfaaPlain4
import Derived.Test.YtpemckpnlemkfaaC8
namespace Go.Proofs.Ytpemckpnlemkfaa
set_option linter.unusedSimpArgs false
set_option linter.unusedVariables false
open Go.RowKit

theorem l1Has_c (xs : List Int) (v : Value) (n : Int) (w : World) (base : Nat) (hown : OwnI w base v xs) :
    Calls Try.prog 63 #[v, .int .i64 n] w fun e w' => e = .returned (.bool (decide (n ∈ xs))) ∧ w = w' := by
  obtain ⟨a, cap, rfl, hm, hv⟩ := hown.view
  go_enter Try.func63, Try.ntmps63
  go_wp2
  go_loop [9] (fun vi => ∃ k : Nat, k ≤ xs.length ∧ vi = .int .i64 k ∧ ∀ j : Nat, j < k → ¬ xs[j]? = some n) (fun vi => xs.length - (intOf vi).toNat)
  case atStart => exact ⟨0, by omega, rfl, fun j h => by omega⟩
  case round =>
    obtain ⟨k, hk, rfl, hall⟩ := hrel
    have Hall := Lib.hid hall
    clear hall
    by_cases hlt : k < xs.length
    · obtain ⟨g, x, rfl, hg, hx, hcell⟩ := hv k hlt
      have Hv := Lib.hid hv
      clear hv
      by_cases hxn : x = n
      · subst hxn
        go_wp2
        go_ret
        exact ⟨ret_b (by simp [List.mem_of_getElem? hx.out]), rfl⟩
      · go_wp2
        go_round
        case rel => exact ⟨k + 1, by omega, by go_num, fun j hj hc => if q : j = k then by rw [q, hx.out] at hc; exact hxn (Option.some.inj hc) else Hall.out j (by omega) hc⟩
        case measure => simp [intOf]; omega
    · obtain rfl : k = xs.length := by omega
      have Hv := Lib.hid hv
      clear hv
      go_wp2
      go_ret
      refine ⟨ret_b ?_, rfl⟩
      symm
      rw [decide_eq_false_iff_not]
      intro hmem
      obtain ⟨j, hj, he⟩ := List.getElem_of_mem hmem
      exact Hall.out j hj (by rw [List.getElem?_eq_getElem hj, he])

theorem isOrderTwo_c (a b e : Int) (w : World) (h : M.inCurve a b = true) :
    Calls Try.prog 44 #[.agg #[.int .i64 a, .int .i64 b], .int .i64 e] w fun r w' => r = .returned (.bool (M.order2 a b e)) ∧ Below w.heap.size w w' := by
  obtain ⟨g1, g2, g3, g4⟩ := M.inCurve_bd h
  unfold M.order2
  cases h1 : M.ins e (-200) 200
  · go_enter Try.func44, Try.ntmps44
    go_wp2_with (go_at_call 62; refine (inside_c _ _ _ _).mono ?_; rintro e w' ⟨rfl, rfl⟩)
    go_ret; exact ⟨ret_b (by simp), (by repeat (first | exact Below.refl _ _ | refine below_alloc ?_ _ | refine below_step ?_ (by assumption) | refine Below.drew ?_ | refine Below.setCell ?_ (by first | exact Nat.le_refl _ | exact Nat.le_add_right _ _ | (simp <;> omega)) _ | refine below_drewN ?_ _))⟩
  · obtain ⟨e1, e2⟩ := M.ins_t h1
    have b1 := M.sq_bd (x := e) (m := 200) (by omega) e2
    have b2 := M.mul_bd (x := e * e) (y := e) (m := 40000) (n := 200) (by omega) (by omega) (by omega) (by omega)
    have b3 := M.mul_bd (x := a) (y := e) (m := 1000) (n := 200) (by omega) (by omega) (by omega) (by omega)
    go_enter Try.func44, Try.ntmps44
    go_wp2_with (go_at_call 62; refine (inside_c _ _ _ _).mono ?_; rintro e w' ⟨rfl, rfl⟩)
    go_ret; exact ⟨ret_b (by simp [M.root3, M.val]), (by repeat (first | exact Below.refl _ _ | refine below_alloc ?_ _ | refine below_step ?_ (by assumption) | refine Below.drew ?_ | refine Below.setCell ?_ (by first | exact Nat.le_refl _ | exact Nat.le_add_right _ _ | (simp <;> omega)) _ | refine below_drewN ?_ _))⟩

theorem icAsked_c (a b e : Int) (w : World) :
    Calls Try.prog 36 #[.agg #[.int .i64 a, .int .i64 b], .int .i64 e] w fun r w' => r = .returned (.bool (M.good a b && M.order2 a b e)) ∧ Below w.heap.size w w' := by
  cases h1 : M.good a b
  · go_enter Try.func36, Try.ntmps36
    go_wp2_with (go_at_call 26; refine (ecGood_c _ _ _).mono ?_; rintro e w' ⟨rfl, hb⟩; have hz_ := hb.size; (try simp only [World.size_alloc, heap_drew, World.heap_drewN, size_setCell] at hz_); have hs0_ : w.heap.size < w'.heap.size := (by omega); have hk0_ := fun o => (bcell hb).1 (w.heap.size) o (by (try simp only [World.size_alloc, heap_drew, World.heap_drewN, size_setCell]); omega); have hl0_ := fun o => (bcell hb).2.1 (w.heap.size) o (by (try simp only [World.size_alloc, heap_drew, World.heap_drewN, size_setCell]); omega))
    go_ret; exact ⟨ret_b (by simp), (by repeat (first | exact Below.refl _ _ | refine below_alloc ?_ _ | refine below_step ?_ (by assumption) | refine Below.drew ?_ | refine Below.setCell ?_ (by first | exact Nat.le_refl _ | exact Nat.le_add_right _ _ | (simp <;> omega)) _ | refine below_drewN ?_ _))⟩
  · have hm := Lib.hid (M.order2_mem (e := e) (M.good_in h1))
    go_enter Try.func36, Try.ntmps36
    go_wp2_with (first | (go_at_call 26; refine (ecGood_c _ _ _).mono ?_; rintro e w' ⟨rfl, hb⟩; have hz_ := hb.size; (try simp only [World.size_alloc, heap_drew, World.heap_drewN, size_setCell] at hz_); have hs0_ : w.heap.size < w'.heap.size := (by omega); have hk0_ := fun o => (bcell hb).1 (w.heap.size) o (by (try simp only [World.size_alloc, heap_drew, World.heap_drewN, size_setCell]); omega); have hl0_ := fun o => (bcell hb).2.1 (w.heap.size) o (by (try simp only [World.size_alloc, heap_drew, World.heap_drewN, size_setCell]); omega)) | (go_at_call 64; refine (ecRoots_c _ _ _ (M.good_in h1)).mono ?_; rintro e w' ⟨v, rfl, hown, hb⟩) | (go_at_call 63; refine (l1Has_c _ _ _ _ _ hown).mono ?_; rintro e w' ⟨rfl, rfl⟩))
    go_ret; exact ⟨ret_b (by simp [hm.out]), (by repeat (first | exact Below.refl _ _ | refine below_alloc ?_ _ | refine below_step ?_ (by assumption) | refine Below.drew ?_ | refine Below.setCell ?_ (by first | exact Nat.le_refl _ | exact Nat.le_add_right _ _ | (simp <;> omega)) _ | refine below_drewN ?_ _))⟩

end Go.Proofs.Ytpemckpnlemkfaa
