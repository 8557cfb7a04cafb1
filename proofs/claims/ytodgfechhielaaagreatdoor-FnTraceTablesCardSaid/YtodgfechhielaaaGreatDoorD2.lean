/-
  Contracts: the first prime with different traces.
-/
import Derived.Test.YtodgfechhielaaaGreatDoorD1
namespace Go.Proofs.YtodgfechhielaaaGreatDoor
set_option linter.unusedSimpArgs false
set_option linter.unusedVariables false
open Go.RowKit

theorem box2_0 (w : World) (cs ds : Array Value) (T U : TypeId) (j : Nat) : ((w.alloc (.cells cs T)).alloc (.cells ds U)).cell? ⟨w.heap.size, j, none⟩ = cs[j]? := by
  rw [World.cell?_alloc_past _ _ _ (by rw [World.size_alloc]; omega), World.cell?_alloc_at _ _ _ _ rfl]
theorem box2_1 (w : World) (cs ds : Array Value) (T U : TypeId) (j : Nat) : ((w.alloc (.cells cs T)).alloc (.cells ds U)).cell? ⟨w.heap.size + 1, j, none⟩ = ds[j]? := by
  rw [World.cell?_alloc_at _ _ _ _ (by rw [World.size_alloc])]

theorem find_hit {f : Int → Bool} {xs : List Int} {k : Nat} {x : Int} (h0 : (xs.take k).find? f = none) (hx : xs[k]? = some x) (hf : f x = true) : xs.find? f = some x := by
  have h := take_next hx
  have e : xs = xs.take (k + 1) ++ xs.drop (k + 1) := (List.take_append_drop _ _).symm
  rw [e, List.find?_append, h, List.find?_append, h0]
  simp [hf]
theorem find_next {f : Int → Bool} {xs : List Int} {k : Nat} {x : Int} (h0 : (xs.take k).find? f = none) (hx : xs[k]? = some x) (hf : f x = false) : (xs.take (k + 1)).find? f = none := by
  rw [take_next hx, List.find?_append, h0]
  simp [hf]

noncomputable def fdV (a b c d n : Int) : Int := (M.firstD a b c d n).getD 0
noncomputable def fdB (a b c d n : Int) : Bool := (M.firstD a b c d n).isSome

set_option maxHeartbeats 1000000 in
theorem firstDifference_c (a b c d n : Int) (w : World) (h : M.inCurve a b = true) (h' : M.inCurve c d = true) (n1 : 5 ≤ n) (n2 : n ≤ 1000) :
    Calls Tryz.prog 56 #[.agg #[.int .i64 a, .int .i64 b], .agg #[.int .i64 c, .int .i64 d], .int .i64 n] w fun e w' => e = .returned (.tuple #[.int .i64 (fdV a b c d n), .bool (fdB a b c d n)]) ∧ Below w.heap.size w w' := by
  go_enter Tryz.func56, Tryz.ntmps56
  go_wp2_with (go_at_call 31; refine (goodUpTo_c _ _ _ _ h n1 n2).mono ?_; rintro e w1 ⟨v, rfl, hown, hb⟩; obtain ⟨av, cap, rfl, hm, hv⟩ := hown.seen; have hz_ := hb.size; (try simp only [World.size_alloc, heap_drew, World.heap_drewN, size_setCell] at hz_); have hs0_ : w.heap.size < w1.heap.size := (by omega); have hk0_ := fun o => (bcell hb).1 (w.heap.size) o (by (try simp only [World.size_alloc, heap_drew, World.heap_drewN, size_setCell]); omega); have hl0_ := fun o => (bcell hb).2.1 (w.heap.size) o (by (try simp only [World.size_alloc, heap_drew, World.heap_drewN, size_setCell]); omega); have hs1_ : w.heap.size + 1 < w1.heap.size := (by omega); have hk1_ := fun o => (bcell hb).1 (w.heap.size + 1) o (by (try simp only [World.size_alloc, heap_drew, World.heap_drewN, size_setCell]); omega); have hl1_ := fun o => (bcell hb).2.1 (w.heap.size + 1) o (by (try simp only [World.size_alloc, heap_drew, World.heap_drewN, size_setCell]); omega))
  have c0 : w1.cell? ⟨w.heap.size, 0, none⟩ = some (.int .i64 a) := (hk0_ 0).trans (box2_0 _ _ _ _ _ _)
  have c1 : w1.cell? ⟨w.heap.size, 1, none⟩ = some (.int .i64 b) := (hk0_ 1).trans (box2_0 _ _ _ _ _ _)
  have d0 : w1.cell? ⟨w.heap.size + 1, 0, none⟩ = some (.int .i64 c) := (hk1_ 0).trans (box2_1 _ _ _ _ _ _)
  have d1 : w1.cell? ⟨w.heap.size + 1, 1, none⟩ = some (.int .i64 d) := (hk1_ 1).trans (box2_1 _ _ _ _ _ _)
  have hbw : Below w.heap.size w w1 := (by repeat (first | exact Below.refl _ _ | refine below_alloc ?_ _ | refine below_step ?_ (by assumption) | refine Below.drew ?_ | refine Below.setCell ?_ (by first | exact Nat.le_refl _ | exact Nat.le_add_right _ _ | (simp <;> omega)) _ | refine below_drewN ?_ _))
  clear hb hk0_ hk1_ hl0_ hl1_
  go_loopw [9, 14] (fun _ vi wr => ∃ k : Nat, k ≤ (M.goods a b n).length ∧ vi = .int .i64 k ∧ ((M.goods a b n).take k).find? (M.differ a b c d) = none ∧ Below w1.heap.size w1 wr) (fun _ vi _ => (M.goods a b n).length - (intOf vi).toNat)
  case atStart => exact ⟨0, by omega, rfl, by simp, Below.refl _ _⟩
  case round =>
    obtain ⟨k, hk, rfl, hfn, hbr⟩ := hrel
    have Hfn := Lib.hid hfn
    clear hfn
    by_cases hlt : k < (M.goods a b n).length
    · obtain ⟨g, p, rfl, hg, hx, hcell⟩ := hv k hlt
      have hmem := M.mem_goods (List.mem_of_getElem? hx.out)
      have gp := hmem.1
      have e0 := keepCell hbr c0
      have e1 := keepCell hbr c1
      have e2 := keepCell hbr d0
      have e3 := keepCell hbr d1
      have e4 := keepCell hbr hcell
      have hwr : Below w.heap.size w wr := below_step hbw hbr
      clear hv c0 c1 d0 d1 hcell hmem
      cases hg2 : M.goodp c d p
      · have IG : ∀ w, Calls Tryz.prog 58 #[.agg #[.int .i64 c, .int .i64 d], .int .i64 p] w fun e w' => e = .returned (.bool false) ∧ Below w.heap.size w w' := fun w => by have := isGood_c c d p w h'; rw [hg2] at this; exact this
        have hfz : M.differ a b c d p = false := by simp [M.differ, hg2]
        have hnx := Lib.hid (find_next Hfn.out hx.out hfz)
        clear hfz
        go_wp2
        first | go_region_with (go_at_call 58; (with_reducible refine (IG _).mono ?_); rintro e w' ⟨rfl, hb8⟩) | fail
        all_goals
          go_wp2
          go_roundw
          case rel => exact ⟨k + 1, by omega, by go_num, hnx.out, by repeat (first | exact hbr | exact Below.refl _ _ | refine below_alloc ?_ _ | refine below_step ?_ (by assumption) | refine Below.drew ?_ | refine below_drewN ?_ _)⟩
          case measure => simp [intOf]; omega
      · have IG : ∀ w, Calls Tryz.prog 58 #[.agg #[.int .i64 c, .int .i64 d], .int .i64 p] w fun e w' => e = .returned (.bool true) ∧ Below w.heap.size w w' := fun w => by have := isGood_c c d p w h'; rw [hg2] at this; exact this
        by_cases htt : M.trace a b p = M.trace c d p
        · have hfz : M.differ a b c d p = false := by simp [M.differ, hg2, htt]
          have hbb : (M.trace a b p != M.trace c d p) = false := by simpa using htt
          have hnx := Lib.hid (find_next Hfn.out hx.out hfz)
          clear hfz
          go_wp2
          first | go_region_held3 (fun W => W.cell? ⟨w.heap.size, 0, none⟩ = some (.int .i64 a) ∧ W.cell? ⟨w.heap.size, 1, none⟩ = some (.int .i64 b) ∧ W.cell? ⟨w.heap.size + 1, 0, none⟩ = some (.int .i64 c) ∧ W.cell? ⟨w.heap.size + 1, 1, none⟩ = some (.int .i64 d)) (first | exact ⟨keepCell (by assumption) (by assumption), keepCell (by assumption) (by assumption), keepCell (by assumption) (by assumption), keepCell (by assumption) (by assumption)⟩ | (go_split_ands; exact ⟨keepCell (by assumption) (by assumption), keepCell (by assumption) (by assumption), keepCell (by assumption) (by assumption), keepCell (by assumption) (by assumption)⟩) | go_keep) ((first | (go_at_call 58; (with_reducible refine (IG _).mono ?_); rintro e w' ⟨rfl, hb8⟩) | (go_at_call 32; (with_reducible refine (traceAt_c a b p _ h gp).mono ?_); rintro e w' ⟨rfl, hb9⟩) | (go_at_call 32; (with_reducible refine (traceAt_c c d p _ h' hg2).mono ?_); rintro e w' ⟨rfl, hb9⟩))) | fail
          go_wp2
          go_roundw
          case rel => exact ⟨k + 1, by omega, by go_num, hnx.out, by repeat (first | exact hbr | exact Below.refl _ _ | refine below_alloc ?_ _ | refine below_step ?_ (by assumption) | refine Below.drew ?_ | refine below_drewN ?_ _)⟩
          case measure => simp [intOf]; omega
        · have hbb : (M.trace a b p != M.trace c d p) = true := by simpa using htt
          have hfz : M.differ a b c d p = true := by simp [M.differ, hg2, htt]
          have hnx := Lib.hid (find_hit Hfn.out hx.out hfz)
          clear hfz
          go_wp2
          first | go_region_held3 (fun W => W.cell? ⟨w.heap.size, 0, none⟩ = some (.int .i64 a) ∧ W.cell? ⟨w.heap.size, 1, none⟩ = some (.int .i64 b) ∧ W.cell? ⟨w.heap.size + 1, 0, none⟩ = some (.int .i64 c) ∧ W.cell? ⟨w.heap.size + 1, 1, none⟩ = some (.int .i64 d)) (first | exact ⟨keepCell (by assumption) (by assumption), keepCell (by assumption) (by assumption), keepCell (by assumption) (by assumption), keepCell (by assumption) (by assumption)⟩ | (go_split_ands; exact ⟨keepCell (by assumption) (by assumption), keepCell (by assumption) (by assumption), keepCell (by assumption) (by assumption), keepCell (by assumption) (by assumption)⟩) | go_keep) ((first | (go_at_call 58; (with_reducible refine (IG _).mono ?_); rintro e w' ⟨rfl, hb8⟩) | (go_at_call 32; (with_reducible refine (traceAt_c a b p _ h gp).mono ?_); rintro e w' ⟨rfl, hb9⟩) | (go_at_call 32; (with_reducible refine (traceAt_c c d p _ h' hg2).mono ?_); rintro e w' ⟨rfl, hb9⟩))) | fail
          go_wp2
          go_ret2; exact ⟨by simp only [fdV, fdB, M.firstD, hnx.out]; rfl, by have := hwr; exact (by repeat (first | exact Below.refl _ _ | refine below_alloc ?_ _ | refine below_step ?_ (by assumption) | refine Below.drew ?_ | refine Below.setCell ?_ (by first | exact Nat.le_refl _ | exact Nat.le_add_right _ _ | (simp <;> omega)) _ | refine below_drewN ?_ _))⟩
    · obtain rfl : k = (M.goods a b n).length := by omega
      have hnx : M.firstD a b c d n = none := by have := Hfn.out; rw [List.take_length] at this; exact this
      have hnx := Lib.hid hnx
      go_wp2
      go_ret2; exact ⟨by simp only [fdV, fdB, hnx.out]; rfl, below_step hbw hbr⟩
end Go.Proofs.YtodgfechhielaaaGreatDoor
