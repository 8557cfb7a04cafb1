/-
  Contracts: tables of traces.
-/
import Derived.Test.YtodgfechhielaaaGreatDoorS5
import Derived.Test.YtodgfechhielaaaGreatDoorD3
import Derived.Test.YtodgfechhielaaaGreatDoorD7
namespace Go.Proofs.YtodgfechhielaaaGreatDoor
set_option linter.unusedSimpArgs false
set_option linter.unusedVariables false
open Go.RowKit

noncomputable def trRow (a b p : Int) : List Int := [p, M.trace a b p]
noncomputable def trRows (a b n : Int) : List (List Int) := (M.goods a b n).map (trRow a b)
theorem trRows_take {a b n : Int} {k : Nat} {p : Int} (h : (M.goods a b n)[k]? = some p) : ((M.goods a b n).take (k + 1)).map (trRow a b) = ((M.goods a b n).take k).map (trRow a b) ++ [trRow a b p] := by
  rw [take_next h, List.map_append]
  rfl
theorem OwnI.lit2 (w : World) (base : Nat) (x y : Int) (hb : base ≤ w.heap.size) : OwnI (w.alloc (.cells #[.int .i64 x, .int .i64 y] 3)) base (.slice (some ⟨w.heap.size, 0, none⟩) 2 2) [x, y] :=
  World.ownsRow_lit w #[.int .i64 x, .int .i64 y] 2 hb (by unfold maxLen; omega) rfl

theorem row_new {w w' : World} {base : Nat} {v : Value} {vs : List Value} {rows : List (List Int)} {n m : Nat} (h : OwnV w base v vs rows) (hb : Below w.heap.size w w') (z : Value) (hz : z ∈ vs) (g : Nat) (hzg : z.ownBlock = some g) (hg : (Value.slice (some ⟨w'.heap.size, 0, none⟩) n m).ownBlock = some g) : False := by
  have := ((h.below hb).lt z hz g hzg).2
  simp only [Value.ownBlock, Option.some.injEq] at hg
  omega

set_option maxHeartbeats 400000 in
theorem implTracesUpTo_c (a b n : Int) (w : World) :
    Calls Tryz.prog 5 #[.agg #[.int .i64 a, .int .i64 b], .int .i64 n] w fun e w' => ∃ v, e = .returned (.tuple #[v, .bool (trAsk a b n)]) ∧ OwnII w' w.heap.size v (if trAsk a b n then trRows a b n else []) ∧ Below w.heap.size w w' := by
  unfold trAsk
  cases h1 : M.good a b
  · go_enter Tryz.func5, Tryz.ntmps5
    go_wp2_with (go_at_call 29; refine (isCurve_c _ _ _).mono ?_; rintro e w' ⟨rfl, hb⟩; have hz_ := hb.size; (try simp only [World.size_alloc, heap_drew, World.heap_drewN, size_setCell] at hz_); have hs0_ : w.heap.size < w'.heap.size := (by omega); have hk0_ := fun o => (bcell hb).1 (w.heap.size) o (by (try simp only [World.size_alloc, heap_drew, World.heap_drewN, size_setCell]); omega); have hl0_ := fun o => (bcell hb).2.1 (w.heap.size) o (by (try simp only [World.size_alloc, heap_drew, World.heap_drewN, size_setCell]); omega))
    go_ret2; exact ⟨_, by simp, OwnII.nil _ _, (by repeat (first | exact Below.refl _ _ | refine below_alloc ?_ _ | refine below_step ?_ (by assumption) | refine Below.drew ?_ | refine Below.setCell ?_ (by first | exact Nat.le_refl _ | exact Nat.le_add_right _ _ | (simp <;> omega)) _ | refine below_drewN ?_ _))⟩
  · cases h2 : M.ins n 5 200
    · go_enter Tryz.func5, Tryz.ntmps5
      go_wp2_with (first | (go_at_call 29; refine (isCurve_c _ _ _).mono ?_; rintro e w' ⟨rfl, hb⟩; have hz_ := hb.size; (try simp only [World.size_alloc, heap_drew, World.heap_drewN, size_setCell] at hz_); have hs0_ : w.heap.size < w'.heap.size := (by omega); have hk0_ := fun o => (bcell hb).1 (w.heap.size) o (by (try simp only [World.size_alloc, heap_drew, World.heap_drewN, size_setCell]); omega); have hl0_ := fun o => (bcell hb).2.1 (w.heap.size) o (by (try simp only [World.size_alloc, heap_drew, World.heap_drewN, size_setCell]); omega)) | (go_at_call 30; refine (inside_c _ _ _ _).mono ?_; rintro e w' ⟨rfl, rfl⟩))
      go_ret2; exact ⟨_, by simp, OwnII.nil _ _, (by repeat (first | exact Below.refl _ _ | refine below_alloc ?_ _ | refine below_step ?_ (by assumption) | refine Below.drew ?_ | refine Below.setCell ?_ (by first | exact Nat.le_refl _ | exact Nat.le_add_right _ _ | (simp <;> omega)) _ | refine below_drewN ?_ _))⟩
    · obtain ⟨n1, n2⟩ := M.ins_t h2
      have h := M.good_in h1
      have hgl := goods_le a b n (by omega)
      go_enter Tryz.func5, Tryz.ntmps5
      go_wp2_with (first | (go_at_call 29; refine (isCurve_c _ _ _).mono ?_; rintro e w' ⟨rfl, hb⟩; have hz_ := hb.size; (try simp only [World.size_alloc, heap_drew, World.heap_drewN, size_setCell] at hz_); have hs0_ : w.heap.size < w'.heap.size := (by omega); have hk0_ := fun o => (bcell hb).1 (w.heap.size) o (by (try simp only [World.size_alloc, heap_drew, World.heap_drewN, size_setCell]); omega); have hl0_ := fun o => (bcell hb).2.1 (w.heap.size) o (by (try simp only [World.size_alloc, heap_drew, World.heap_drewN, size_setCell]); omega)) | (go_at_call 30; refine (inside_c _ _ _ _).mono ?_; rintro e w' ⟨rfl, rfl⟩) | (go_at_call 31; refine (goodUpTo_c _ _ _ _ h n1 (by omega)).mono ?_; rintro e w1 ⟨v, rfl, hown, hb⟩; obtain ⟨av, cap, rfl, hm, hv⟩ := hown.seen; have hz_ := hb.size; (try simp only [World.size_alloc, heap_drew, World.heap_drewN, size_setCell] at hz_); have hs0_ : w.heap.size < w1.heap.size := (by omega); have hk0_ := fun o => (bcell hb).1 (w.heap.size) o (by (try simp only [World.size_alloc, heap_drew, World.heap_drewN, size_setCell]); omega); have hl0_ := fun o => (bcell hb).2.1 (w.heap.size) o (by (try simp only [World.size_alloc, heap_drew, World.heap_drewN, size_setCell]); omega)))
      have c0 : w1.cell? ⟨w.heap.size, 0, none⟩ = some (.int .i64 a) := (hk0_ 0).trans (by simp [go_sem, *])
      have c1 : w1.cell? ⟨w.heap.size, 1, none⟩ = some (.int .i64 b) := (hk0_ 1).trans (by simp [go_sem, *])
      have hbw : Below w.heap.size w w1 := (by repeat (first | exact Below.refl _ _ | refine below_alloc ?_ _ | refine below_step ?_ (by assumption) | refine Below.drew ?_ | refine Below.setCell ?_ (by first | exact Nat.le_refl _ | exact Nat.le_add_right _ _ | (simp <;> omega)) _ | refine below_drewN ?_ _))
      have z1 := hbw.size
      clear hb hk0_ hl0_
      go_loopw [6, 8, 21] (fun vo _ vi wr => ∃ (k : Nat) (vs : List Value), k ≤ (M.goods a b n).length ∧ vi = .int .i64 k ∧ OwnV wr w1.heap.size vo vs (((M.goods a b n).take k).map (trRow a b)) ∧ Below w1.heap.size w1 wr) (fun _ _ vi _ => (M.goods a b n).length - (intOf vi).toNat)
      case atStart => exact ⟨0, [], by omega, rfl, OwnV.nil _ _, Below.refl _ _⟩
      case round =>
        obtain ⟨k, vs, hk, rfl, hov, hbr⟩ := hrel
        have z2 := hbr.size
        by_cases hlt : k < (M.goods a b n).length
        · obtain ⟨g, p, rfl, hg, hx, hcell⟩ := hv k hlt
          have gp := (M.mem_goods (List.mem_of_getElem? hx.out)).1
          have e0 := keepCell hbr c0
          have e1 := keepCell hbr c1
          have e4 := keepCell hbr hcell
          have hf := Lib.hid (trRows_take hx.out)
          clear hv c0 c1 hcell
          go_wp2_with (first | (go_at_call 32; (with_reducible refine (traceAt_c a b p _ h gp).mono ?_); rintro e w2 ⟨rfl, hb2⟩; have z3 := hb2.size) | (at_builtin; refine push_row (W := w1) w1.heap.size (.slice (some ⟨w2.heap.size, 0, none⟩) 2 2) [p, M.trace a b p] vs _ _ (w2.heap.size + 1) (by simp) rfl _ _ rfl rfl rfl ((hov.below hb2).alloc _) (OwnI.lit2 _ _ _ _ (by omega)) (fun g hg z hz hzg => row_new hov hb2 z hz g hzg hg) ((hbr.trans (hb2.mono z2)).alloc (by omega) _) (by simp; omega) (by simp; omega) ?_; rintro v3 w3 hov3 hb3))
          go_roundw
          case rel => exact ⟨k + 1, _, by omega, by go_num, by rw [hf.out]; exact hov3, hb3⟩
          case measure => simp [intOf]; omega
        · obtain rfl : k = (M.goods a b n).length := by omega
          have hfin : Hid (((M.goods a b n).take (M.goods a b n).length).map (trRow a b) = trRows a b n) := Lib.hid (by rw [List.take_length]; rfl)
          clear hv
          go_wp2
          go_ret2
          exact ⟨_, rfl, by simp only [if_true, Bool.and_self]; rw [← hfin.out]; exact ⟨vs, hov.base z1⟩, below_step hbw hbr⟩

set_option maxHeartbeats 400000 in
theorem specTracesUpTo_c (a b n : Int) (w : World) :
    Calls Tryz.prog 6 #[.agg #[.int .i64 a, .int .i64 b], .int .i64 n] w fun e w' => ∃ v, e = .returned (.tuple #[v, .bool (trAsk a b n)]) ∧ OwnII w' w.heap.size v (if trAsk a b n then trRows a b n else []) ∧ Below w.heap.size w w' := by
  have T := fun w => trAsked_c a b n w
  cases h2 : trAsk a b n <;> simp only [h2] at T <;> have T := Lib.hid T
  · go_enter Tryz.func6, Tryz.ntmps6
    go_wp2_with (go_at_call 33; refine (T.out _).mono ?_; rintro e w' ⟨rfl, hb⟩; have hz_ := hb.size; (try simp only [World.size_alloc, heap_drew, World.heap_drewN, size_setCell] at hz_); have hs0_ : w.heap.size < w'.heap.size := (by omega); have hk0_ := fun o => (bcell hb).1 (w.heap.size) o (by (try simp only [World.size_alloc, heap_drew, World.heap_drewN, size_setCell]); omega); have hl0_ := fun o => (bcell hb).2.1 (w.heap.size) o (by (try simp only [World.size_alloc, heap_drew, World.heap_drewN, size_setCell]); omega))
    go_ret2; exact ⟨_, by simp, OwnII.nil _ _, (by repeat (first | exact Below.refl _ _ | refine below_alloc ?_ _ | refine below_step ?_ (by assumption) | refine Below.drew ?_ | refine Below.setCell ?_ (by first | exact Nat.le_refl _ | exact Nat.le_add_right _ _ | (simp <;> omega)) _ | refine below_drewN ?_ _))⟩
  · obtain ⟨h1, n1, n2⟩ := trAsk_t h2
    have h := M.good_in h1
    have hgl := goods_le a b n (by omega)
    go_enter Tryz.func6, Tryz.ntmps6
    go_wp2_with (first | (go_at_call 33; refine (T.out _).mono ?_; rintro e w' ⟨rfl, hb⟩; have hz_ := hb.size; (try simp only [World.size_alloc, heap_drew, World.heap_drewN, size_setCell] at hz_); have hs0_ : w.heap.size < w'.heap.size := (by omega); have hk0_ := fun o => (bcell hb).1 (w.heap.size) o (by (try simp only [World.size_alloc, heap_drew, World.heap_drewN, size_setCell]); omega); have hl0_ := fun o => (bcell hb).2.1 (w.heap.size) o (by (try simp only [World.size_alloc, heap_drew, World.heap_drewN, size_setCell]); omega)) | (go_at_call 34; refine (trPrimes_c _ _ _ _ h1 n1 (by omega)).mono ?_; rintro e w1 ⟨v, rfl, hown, hb⟩; obtain ⟨av, cap, rfl, hm, hv⟩ := hown.seen; have hz_ := hb.size; (try simp only [World.size_alloc, heap_drew, World.heap_drewN, size_setCell] at hz_); have hs0_ : w.heap.size < w1.heap.size := (by omega); have hk0_ := fun o => (bcell hb).1 (w.heap.size) o (by (try simp only [World.size_alloc, heap_drew, World.heap_drewN, size_setCell]); omega); have hl0_ := fun o => (bcell hb).2.1 (w.heap.size) o (by (try simp only [World.size_alloc, heap_drew, World.heap_drewN, size_setCell]); omega)))
    have c0 : w1.cell? ⟨w.heap.size, 0, none⟩ = some (.int .i64 a) := (hk0_ 0).trans (by simp [go_sem, *])
    have c1 : w1.cell? ⟨w.heap.size, 1, none⟩ = some (.int .i64 b) := (hk0_ 1).trans (by simp [go_sem, *])
    have hbw : Below w.heap.size w w1 := (by repeat (first | exact Below.refl _ _ | refine below_alloc ?_ _ | refine below_step ?_ (by assumption) | refine Below.drew ?_ | refine Below.setCell ?_ (by first | exact Nat.le_refl _ | exact Nat.le_add_right _ _ | (simp <;> omega)) _ | refine below_drewN ?_ _))
    have z1 := hbw.size
    clear hb hk0_ hl0_
    go_loopw [6, 8, 17] (fun vo _ vi wr => ∃ (k : Nat) (vs : List Value), k ≤ (M.goods a b n).length ∧ vi = .int .i64 k ∧ OwnV wr w1.heap.size vo vs (((M.goods a b n).take k).map (trRow a b)) ∧ Below w1.heap.size w1 wr) (fun _ _ vi _ => (M.goods a b n).length - (intOf vi).toNat)
    case atStart => exact ⟨0, [], by omega, rfl, OwnV.nil _ _, Below.refl _ _⟩
    case round =>
      obtain ⟨k, vs, hk, rfl, hov, hbr⟩ := hrel
      have z2 := hbr.size
      by_cases hlt : k < (M.goods a b n).length
      · obtain ⟨g, p, rfl, hg, hx, hcell⟩ := hv k hlt
        have gp := (M.mem_goods (List.mem_of_getElem? hx.out)).1
        have e0 := keepCell hbr c0
        have e1 := keepCell hbr c1
        have e4 := keepCell hbr hcell
        have hf := Lib.hid (trRows_take hx.out)
        clear hv c0 c1 hcell
        go_wp2_with (first | (go_at_call 35; (with_reducible refine (trAt_c a b p _ h gp).mono ?_); rintro e w2 ⟨rfl, hb2⟩; have z3 := hb2.size) | (at_builtin; refine push_row (W := w1) w1.heap.size (.slice (some ⟨w2.heap.size, 0, none⟩) 2 2) [p, M.trace a b p] vs _ _ (w2.heap.size + 1) (by simp) rfl _ _ rfl rfl rfl ((hov.below hb2).alloc _) (OwnI.lit2 _ _ _ _ (by omega)) (fun g hg z hz hzg => row_new hov hb2 z hz g hzg hg) ((hbr.trans (hb2.mono z2)).alloc (by omega) _) (by simp; omega) (by simp; omega) ?_; rintro v3 w3 hov3 hb3))
        go_roundw
        case rel => exact ⟨k + 1, _, by omega, by go_num, by rw [hf.out]; exact hov3, hb3⟩
        case measure => simp [intOf]; omega
      · obtain rfl : k = (M.goods a b n).length := by omega
        have hfin : Hid (((M.goods a b n).take (M.goods a b n).length).map (trRow a b) = trRows a b n) := Lib.hid (by rw [List.take_length]; rfl)
        clear hv
        go_wp2
        go_ret2
        exact ⟨_, rfl, by simp only [if_true]; rw [← hfin.out]; exact ⟨vs, hov.base z1⟩, below_step hbw hbr⟩
end Go.Proofs.YtodgfechhielaaaGreatDoor
