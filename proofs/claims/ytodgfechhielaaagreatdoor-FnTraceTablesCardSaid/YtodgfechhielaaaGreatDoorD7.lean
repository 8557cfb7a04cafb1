/-
  Contracts: mean traces; fractions compared by a law.
-/
import Derived.Test.YtodgfechhielaaaGreatDoorD6
import Derived.Test.YtodgfechhielaaaGreatDoorD3
import Derived.Test.YtodgfechhielaaaGreatDoorL1
import Derived.Outline
namespace Go.Proofs.YtodgfechhielaaaGreatDoor
set_option linter.unusedSimpArgs false
set_option linter.unusedVariables false
open Go.RowKit

/-- the sum of the traces at some primes -/
noncomputable def mtStep (a b : Int) (s p : Int) : Int := s + M.trace a b p
noncomputable def mtSum (a b n : Int) : Int := (M.goods a b n).foldl (mtStep a b) 0
theorem mt_bd (a b n : Int) : ∀ k : Nat, -(1000 * (k : Int)) ≤ ((M.goods a b n).take k).foldl (mtStep a b) 0 ∧ ((M.goods a b n).take k).foldl (mtStep a b) 0 ≤ 1000 * (k : Int)
  | 0 => by simp
  | k + 1 => by
    have ih := mt_bd a b n k
    cases hx : (M.goods a b n)[k]? with
    | none =>
      have hl := List.getElem?_eq_none_iff.1 hx
      rw [List.take_of_length_le (by omega)]
      rw [List.take_of_length_le hl] at ih
      omega
    | some p =>
      rw [foldl_next _ _ hx]
      have hp := (M.mem_goods (List.mem_of_getElem? hx)).1
      have := goodp_trace hp
      unfold mtStep at ih ⊢
      omega
theorem goods_le (a b n : Int) (n2 : n ≤ 1000) : (M.goods a b n).length ≤ 1000 := by
  have := M.sel_le (M.goodp a b) 5 (n - 4).toNat
  unfold M.goods
  omega
noncomputable def mtOk (a b n : Int) : Bool := trAsk a b n && !(M.goods a b n).isEmpty
noncomputable def mtq (a b n : Int) : Bool := mtOk a b n && frq (mtSum a b n) (M.goods a b n).length
noncomputable def mtX (a b n : Int) : Int := M.pick (mtq a b n) (partN (mtSum a b n) (M.goods a b n).length)
noncomputable def mtY (a b n : Int) : Int := M.pick (mtq a b n) (partD (mtSum a b n) (M.goods a b n).length)

set_option maxHeartbeats 1000000 in
theorem implMeanTrace_c (a b n : Int) (w : World) :
    Calls Tryz.prog 9 #[.agg #[.int .i64 a, .int .i64 b], .int .i64 n] w fun e w' => e = .returned (.tuple #[.agg #[.int .i64 (mtX a b n), .int .i64 (mtY a b n)], .bool (mtq a b n)]) ∧ Below w.heap.size w w' := by
  unfold mtX mtY mtq mtOk trAsk
  cases h1 : M.good a b
  · go_enter Tryz.func9, Tryz.ntmps9
    go_wp2_with (go_at_call 29; refine (isCurve_c _ _ _).mono ?_; rintro e w' ⟨rfl, hb⟩; have hz_ := hb.size; (try simp only [World.size_alloc, heap_drew, World.heap_drewN, size_setCell] at hz_); have hs0_ : w.heap.size < w'.heap.size := (by omega); have hk0_ := fun o => (bcell hb).1 (w.heap.size) o (by (try simp only [World.size_alloc, heap_drew, World.heap_drewN, size_setCell]); omega); have hl0_ := fun o => (bcell hb).2.1 (w.heap.size) o (by (try simp only [World.size_alloc, heap_drew, World.heap_drewN, size_setCell]); omega); have hs1_ : w.heap.size + 1 < w'.heap.size := (by omega); have hk1_ := fun o => (bcell hb).1 (w.heap.size + 1) o (by (try simp only [World.size_alloc, heap_drew, World.heap_drewN, size_setCell]); omega); have hl1_ := fun o => (bcell hb).2.1 (w.heap.size + 1) o (by (try simp only [World.size_alloc, heap_drew, World.heap_drewN, size_setCell]); omega))
    exact bodyPost_ret (v := .tuple #[.agg #[.int .i64 0, .int .i64 0], .bool false]) (by simp [results, Tryz.results9, go_sem, *]) rfl (⟨by simp [M.pick_f], (by repeat (first | exact Below.refl _ _ | refine below_alloc ?_ _ | refine below_step ?_ (by assumption) | refine Below.drew ?_ | refine Below.setCell ?_ (by first | exact Nat.le_refl _ | exact Nat.le_add_right _ _ | (simp <;> omega)) _ | refine below_drewN ?_ _))⟩)
  · cases h2 : M.ins n 5 200
    · go_enter Tryz.func9, Tryz.ntmps9
      go_wp2_with (first | (go_at_call 29; refine (isCurve_c _ _ _).mono ?_; rintro e w' ⟨rfl, hb⟩; have hz_ := hb.size; (try simp only [World.size_alloc, heap_drew, World.heap_drewN, size_setCell] at hz_); have hs0_ : w.heap.size < w'.heap.size := (by omega); have hk0_ := fun o => (bcell hb).1 (w.heap.size) o (by (try simp only [World.size_alloc, heap_drew, World.heap_drewN, size_setCell]); omega); have hl0_ := fun o => (bcell hb).2.1 (w.heap.size) o (by (try simp only [World.size_alloc, heap_drew, World.heap_drewN, size_setCell]); omega); have hs1_ : w.heap.size + 1 < w'.heap.size := (by omega); have hk1_ := fun o => (bcell hb).1 (w.heap.size + 1) o (by (try simp only [World.size_alloc, heap_drew, World.heap_drewN, size_setCell]); omega); have hl1_ := fun o => (bcell hb).2.1 (w.heap.size + 1) o (by (try simp only [World.size_alloc, heap_drew, World.heap_drewN, size_setCell]); omega)) | (go_at_call 30; refine (inside_c _ _ _ _).mono ?_; rintro e w' ⟨rfl, rfl⟩))
      exact bodyPost_ret (v := .tuple #[.agg #[.int .i64 0, .int .i64 0], .bool false]) (by simp [results, Tryz.results9, go_sem, *]) rfl (⟨by simp [M.pick_f], (by repeat (first | exact Below.refl _ _ | refine below_alloc ?_ _ | refine below_step ?_ (by assumption) | refine Below.drew ?_ | refine Below.setCell ?_ (by first | exact Nat.le_refl _ | exact Nat.le_add_right _ _ | (simp <;> omega)) _ | refine below_drewN ?_ _))⟩)
    · obtain ⟨n1, n2⟩ := M.ins_t h2
      have h := M.good_in h1
      have hgl := goods_le a b n (by omega)
      by_cases he : M.goods a b n = []
      · have hl : (M.goods a b n).length = 0 := by rw [he]; rfl
        have hl := Lib.hid hl
        have he := Lib.hid he
        go_enter Tryz.func9, Tryz.ntmps9
        go_wp2_with (first | (go_at_call 29; refine (isCurve_c _ _ _).mono ?_; rintro e w' ⟨rfl, hb⟩; have hz_ := hb.size; (try simp only [World.size_alloc, heap_drew, World.heap_drewN, size_setCell] at hz_); have hs0_ : w.heap.size < w'.heap.size := (by omega); have hk0_ := fun o => (bcell hb).1 (w.heap.size) o (by (try simp only [World.size_alloc, heap_drew, World.heap_drewN, size_setCell]); omega); have hl0_ := fun o => (bcell hb).2.1 (w.heap.size) o (by (try simp only [World.size_alloc, heap_drew, World.heap_drewN, size_setCell]); omega); have hs1_ : w.heap.size + 1 < w'.heap.size := (by omega); have hk1_ := fun o => (bcell hb).1 (w.heap.size + 1) o (by (try simp only [World.size_alloc, heap_drew, World.heap_drewN, size_setCell]); omega); have hl1_ := fun o => (bcell hb).2.1 (w.heap.size + 1) o (by (try simp only [World.size_alloc, heap_drew, World.heap_drewN, size_setCell]); omega)) | (go_at_call 30; refine (inside_c _ _ _ _).mono ?_; rintro e w' ⟨rfl, rfl⟩) | (go_at_call 31; refine (goodUpTo_c _ _ _ _ h n1 (by omega)).mono ?_; rintro e w1 ⟨v, rfl, hown, hb⟩; obtain ⟨av, cap, rfl, hm, hv⟩ := hown.seen; rw [hl.out] at hm hv ⊢; have hz_ := hb.size; (try simp only [World.size_alloc, heap_drew, World.heap_drewN, size_setCell] at hz_); have hs0_ : w.heap.size < w1.heap.size := (by omega); have hk0_ := fun o => (bcell hb).1 (w.heap.size) o (by (try simp only [World.size_alloc, heap_drew, World.heap_drewN, size_setCell]); omega); have hl0_ := fun o => (bcell hb).2.1 (w.heap.size) o (by (try simp only [World.size_alloc, heap_drew, World.heap_drewN, size_setCell]); omega); have hs1_ : w.heap.size + 1 < w1.heap.size := (by omega); have hk1_ := fun o => (bcell hb).1 (w.heap.size + 1) o (by (try simp only [World.size_alloc, heap_drew, World.heap_drewN, size_setCell]); omega); have hl1_ := fun o => (bcell hb).2.1 (w.heap.size + 1) o (by (try simp only [World.size_alloc, heap_drew, World.heap_drewN, size_setCell]); omega)))
        exact bodyPost_ret (v := .tuple #[.agg #[.int .i64 0, .int .i64 0], .bool false]) (by simp [results, Tryz.results9, go_sem, *]) rfl (⟨by simp [M.pick_f, he.out], (by repeat (first | exact Below.refl _ _ | refine below_alloc ?_ _ | refine below_step ?_ (by assumption) | refine Below.drew ?_ | refine Below.setCell ?_ (by first | exact Nat.le_refl _ | exact Nat.le_add_right _ _ | (simp <;> omega)) _ | refine below_drewN ?_ _))⟩)
      · have hl : 0 < (M.goods a b n).length := List.length_pos_iff.2 he
        have hlb : (((M.goods a b n).length : Int) == 0) = false := by simp; omega
        have hie : (M.goods a b n).isEmpty = false := by simpa using he
        have hie := Lib.hid hie
        clear he
        go_enter Tryz.func9, Tryz.ntmps9
        go_wp2_with (first | (go_at_call 29; refine (isCurve_c _ _ _).mono ?_; rintro e w' ⟨rfl, hb⟩; have hz_ := hb.size; (try simp only [World.size_alloc, heap_drew, World.heap_drewN, size_setCell] at hz_); have hs0_ : w.heap.size < w'.heap.size := (by omega); have hk0_ := fun o => (bcell hb).1 (w.heap.size) o (by (try simp only [World.size_alloc, heap_drew, World.heap_drewN, size_setCell]); omega); have hl0_ := fun o => (bcell hb).2.1 (w.heap.size) o (by (try simp only [World.size_alloc, heap_drew, World.heap_drewN, size_setCell]); omega); have hs1_ : w.heap.size + 1 < w'.heap.size := (by omega); have hk1_ := fun o => (bcell hb).1 (w.heap.size + 1) o (by (try simp only [World.size_alloc, heap_drew, World.heap_drewN, size_setCell]); omega); have hl1_ := fun o => (bcell hb).2.1 (w.heap.size + 1) o (by (try simp only [World.size_alloc, heap_drew, World.heap_drewN, size_setCell]); omega)) | (go_at_call 30; refine (inside_c _ _ _ _).mono ?_; rintro e w' ⟨rfl, rfl⟩) | (go_at_call 31; refine (goodUpTo_c _ _ _ _ h n1 (by omega)).mono ?_; rintro e w1 ⟨v, rfl, hown, hb⟩; obtain ⟨av, cap, rfl, hm, hv⟩ := hown.seen; have hz_ := hb.size; (try simp only [World.size_alloc, heap_drew, World.heap_drewN, size_setCell] at hz_); have hs0_ : w.heap.size < w1.heap.size := (by omega); have hk0_ := fun o => (bcell hb).1 (w.heap.size) o (by (try simp only [World.size_alloc, heap_drew, World.heap_drewN, size_setCell]); omega); have hl0_ := fun o => (bcell hb).2.1 (w.heap.size) o (by (try simp only [World.size_alloc, heap_drew, World.heap_drewN, size_setCell]); omega); have hs1_ : w.heap.size + 1 < w1.heap.size := (by omega); have hk1_ := fun o => (bcell hb).1 (w.heap.size + 1) o (by (try simp only [World.size_alloc, heap_drew, World.heap_drewN, size_setCell]); omega); have hl1_ := fun o => (bcell hb).2.1 (w.heap.size + 1) o (by (try simp only [World.size_alloc, heap_drew, World.heap_drewN, size_setCell]); omega)))
        have c0 : w1.cell? ⟨w.heap.size, 0, none⟩ = some (.int .i64 a) := (hk0_ 0).trans (by simp [go_sem, *])
        have c1 : w1.cell? ⟨w.heap.size, 1, none⟩ = some (.int .i64 b) := (hk0_ 1).trans (by simp [go_sem, *])
        have d0 : w1.cell? ⟨w.heap.size + 1, 0, none⟩ = some (.int .i64 0) := (hk1_ 0).trans (by simp [go_sem, *])
        have d1 : w1.cell? ⟨w.heap.size + 1, 1, none⟩ = some (.int .i64 0) := (hk1_ 1).trans (by simp [go_sem, *])
        have f0 : w1.frozen? ⟨w.heap.size + 1, 0, none⟩ = false := (hl1_ 0).trans (by simp [go_sem, *])
        have f1 : w1.frozen? ⟨w.heap.size + 1, 1, none⟩ = false := (hl1_ 1).trans (by simp [go_sem, *])
        have hbw : Below w.heap.size w w1 := (by repeat (first | exact Below.refl _ _ | refine below_alloc ?_ _ | refine below_step ?_ (by assumption) | refine Below.drew ?_ | refine Below.setCell ?_ (by first | exact Nat.le_refl _ | exact Nat.le_add_right _ _ | (simp <;> omega)) _ | refine below_drewN ?_ _))
        have hs1 : w.heap.size + 1 < w1.heap.size := hs1_
        clear hb hk0_ hk1_ hl0_ hl1_
        go_loopw [6, 9, 28] (fun vs _ vi wr => ∃ k : Nat, k ≤ (M.goods a b n).length ∧ vi = .int .i64 k ∧ vs = .int .i64 (((M.goods a b n).take k).foldl (mtStep a b) 0) ∧ Below w1.heap.size w1 wr) (fun _ _ vi _ => (M.goods a b n).length - (intOf vi).toNat)
        case atStart => exact ⟨0, by omega, rfl, rfl, Below.refl _ _⟩
        case round =>
          obtain ⟨k, hk, rfl, rfl, hbr⟩ := hrel
          have hmb := mt_bd a b n k
          by_cases hlt : k < (M.goods a b n).length
          · obtain ⟨g, p, rfl, hg, hx, hcell⟩ := hv k hlt
            have hmem := M.mem_goods (List.mem_of_getElem? hx.out)
            have gp := hmem.1
            have tb := goodp_trace gp
            have e0 := keepCell hbr c0
            have e1 := keepCell hbr c1
            have e4 := keepCell hbr hcell
            have hf := Lib.hid (foldl_next (mtStep a b) 0 hx.out)
            clear hv c0 c1 hcell hmem d0 d1 f0 f1
            go_wp2_with (go_at_call 32; (with_reducible refine (traceAt_c a b p _ h gp).mono ?_); rintro e w' ⟨rfl, hb9⟩)
            go_roundw
            case rel => exact ⟨k + 1, by omega, by go_num, by rw [hf.out]; rfl, below_step hbr hb9⟩
            case measure => simp [intOf]; omega
          · obtain rfl : k = (M.goods a b n).length := by omega
            have e0 := keepCell hbr d0
            have e1 := keepCell hbr d1
            have g0 := keepFrz hbr (by exact hs1) f0
            have g1 := keepFrz hbr (by exact hs1) f1
            have hsr := keepSz hbr hs1
            have hmt : ((M.goods a b n).take (M.goods a b n).length).foldl (mtStep a b) 0 = mtSum a b n := by rw [List.take_length]; rfl
            rw [hmt] at hmb ⊢
            clear hv c0 c1 hmt
            have hsr0 : w.heap.size < wr.heap.size := by omega
            go_wp2_with (go_at_call 41; refine (makeFraction_c _ _ _ (by omega) (by omega) (by omega) (by omega) (by omega)).mono ?_; rintro e w' ⟨rfl, hb9⟩; have hz_ := hb9.size; (try simp only [World.size_alloc, heap_drew, World.heap_drewN, size_setCell] at hz_); have hs0_ : w.heap.size < w'.heap.size := (by omega); have hk0_ := fun o => (bcell hb9).1 (w.heap.size) o (by (try simp only [World.size_alloc, heap_drew, World.heap_drewN, size_setCell]); omega); have hl0_ := fun o => (bcell hb9).2.1 (w.heap.size) o (by (try simp only [World.size_alloc, heap_drew, World.heap_drewN, size_setCell]); omega); have hs1_ : w.heap.size + 1 < w'.heap.size := (by omega); have hk1_ := fun o => (bcell hb9).1 (w.heap.size + 1) o (by (try simp only [World.size_alloc, heap_drew, World.heap_drewN, size_setCell]); omega); have hl1_ := fun o => (bcell hb9).2.1 (w.heap.size + 1) o (by (try simp only [World.size_alloc, heap_drew, World.heap_drewN, size_setCell]); omega))
            (refine bodyPost_ret (v := .tuple #[.agg #[.int .i64 (M.pick (frq (mtSum a b n) (M.goods a b n).length) (partN (mtSum a b n) (M.goods a b n).length)), .int .i64 (M.pick (frq (mtSum a b n) (M.goods a b n).length) (partD (mtSum a b n) (M.goods a b n).length))], .bool (frq (mtSum a b n) (M.goods a b n).length)]) ?_ rfl ?_; (· (simp [results, Tryz.results9, go_sem, *]; done)); (· (refine ⟨?_, ?_⟩; (· (simp [hie.out]; done)); (· exact (by repeat (first | exact Below.refl _ _ | refine below_alloc ?_ _ | refine below_step ?_ (by assumption) | refine Below.drew ?_ | refine Below.setCell ?_ (by first | exact Nat.le_refl _ | exact Nat.le_add_right _ _ | (simp <;> omega)) _ | refine below_drewN ?_ _))))))

set_option maxHeartbeats 1000000 in
theorem specMeanTrace_c (a b n : Int) (w : World) :
    Calls Tryz.prog 10 #[.agg #[.int .i64 a, .int .i64 b], .int .i64 n] w fun e w' => e = .returned (.tuple #[.agg #[.int .i64 (mtX a b n), .int .i64 (mtY a b n)], .bool (mtq a b n)]) ∧ Below w.heap.size w w' := by
  unfold mtX mtY mtq mtOk
  have T := fun w => trAsked_c a b n w
  cases h2 : trAsk a b n <;> simp only [h2] at T <;> have T := Lib.hid T
  · go_enter Tryz.func10, Tryz.ntmps10
    go_wp2_with (go_at_call 33; refine (T.out _).mono ?_; rintro e w' ⟨rfl, hb⟩; have hz_ := hb.size; (try simp only [World.size_alloc, heap_drew, World.heap_drewN, size_setCell] at hz_); have hs0_ : w.heap.size < w'.heap.size := (by omega); have hk0_ := fun o => (bcell hb).1 (w.heap.size) o (by (try simp only [World.size_alloc, heap_drew, World.heap_drewN, size_setCell]); omega); have hl0_ := fun o => (bcell hb).2.1 (w.heap.size) o (by (try simp only [World.size_alloc, heap_drew, World.heap_drewN, size_setCell]); omega); have hs1_ : w.heap.size + 1 < w'.heap.size := (by omega); have hk1_ := fun o => (bcell hb).1 (w.heap.size + 1) o (by (try simp only [World.size_alloc, heap_drew, World.heap_drewN, size_setCell]); omega); have hl1_ := fun o => (bcell hb).2.1 (w.heap.size + 1) o (by (try simp only [World.size_alloc, heap_drew, World.heap_drewN, size_setCell]); omega))
    exact bodyPost_ret (v := .tuple #[.agg #[.int .i64 0, .int .i64 0], .bool false]) (by simp [results, Tryz.results10, go_sem, *]) rfl (⟨by simp [M.pick_f], (by repeat (first | exact Below.refl _ _ | refine below_alloc ?_ _ | refine below_step ?_ (by assumption) | refine Below.drew ?_ | refine Below.setCell ?_ (by first | exact Nat.le_refl _ | exact Nat.le_add_right _ _ | (simp <;> omega)) _ | refine below_drewN ?_ _))⟩)
  · obtain ⟨h1, n1, n2⟩ := trAsk_t h2
    have h := M.good_in h1
    have hgl := goods_le a b n (by omega)
    by_cases he : M.goods a b n = []
    · have hl : (M.goods a b n).length = 0 := by rw [he]; rfl
      have hl := Lib.hid hl
      have he := Lib.hid he
      go_enter Tryz.func10, Tryz.ntmps10
      go_wp2_with (first | (go_at_call 33; refine (T.out _).mono ?_; rintro e w' ⟨rfl, hb⟩; have hz_ := hb.size; (try simp only [World.size_alloc, heap_drew, World.heap_drewN, size_setCell] at hz_); have hs0_ : w.heap.size < w'.heap.size := (by omega); have hk0_ := fun o => (bcell hb).1 (w.heap.size) o (by (try simp only [World.size_alloc, heap_drew, World.heap_drewN, size_setCell]); omega); have hl0_ := fun o => (bcell hb).2.1 (w.heap.size) o (by (try simp only [World.size_alloc, heap_drew, World.heap_drewN, size_setCell]); omega); have hs1_ : w.heap.size + 1 < w'.heap.size := (by omega); have hk1_ := fun o => (bcell hb).1 (w.heap.size + 1) o (by (try simp only [World.size_alloc, heap_drew, World.heap_drewN, size_setCell]); omega); have hl1_ := fun o => (bcell hb).2.1 (w.heap.size + 1) o (by (try simp only [World.size_alloc, heap_drew, World.heap_drewN, size_setCell]); omega)) | (go_at_call 34; refine (trPrimes_c _ _ _ _ h1 n1 (by omega)).mono ?_; rintro e w1 ⟨v, rfl, hown, hb⟩; obtain ⟨av, cap, rfl, hm, hv⟩ := hown.seen; rw [hl.out] at hm hv ⊢; have hz_ := hb.size; (try simp only [World.size_alloc, heap_drew, World.heap_drewN, size_setCell] at hz_); have hs0_ : w.heap.size < w1.heap.size := (by omega); have hk0_ := fun o => (bcell hb).1 (w.heap.size) o (by (try simp only [World.size_alloc, heap_drew, World.heap_drewN, size_setCell]); omega); have hl0_ := fun o => (bcell hb).2.1 (w.heap.size) o (by (try simp only [World.size_alloc, heap_drew, World.heap_drewN, size_setCell]); omega); have hs1_ : w.heap.size + 1 < w1.heap.size := (by omega); have hk1_ := fun o => (bcell hb).1 (w.heap.size + 1) o (by (try simp only [World.size_alloc, heap_drew, World.heap_drewN, size_setCell]); omega); have hl1_ := fun o => (bcell hb).2.1 (w.heap.size + 1) o (by (try simp only [World.size_alloc, heap_drew, World.heap_drewN, size_setCell]); omega)))
      exact bodyPost_ret (v := .tuple #[.agg #[.int .i64 0, .int .i64 0], .bool false]) (by simp [results, Tryz.results10, go_sem, *]) rfl (⟨by simp [M.pick_f, he.out], (by repeat (first | exact Below.refl _ _ | refine below_alloc ?_ _ | refine below_step ?_ (by assumption) | refine Below.drew ?_ | refine Below.setCell ?_ (by first | exact Nat.le_refl _ | exact Nat.le_add_right _ _ | (simp <;> omega)) _ | refine below_drewN ?_ _))⟩)
    · have hl : 0 < (M.goods a b n).length := List.length_pos_iff.2 he
      have hlb : (((M.goods a b n).length : Int) == 0) = false := by simp; omega
      have hie : (M.goods a b n).isEmpty = false := by simpa using he
      have hie := Lib.hid hie
      clear he
      go_enter Tryz.func10, Tryz.ntmps10
      go_wp2_with (first | (go_at_call 33; refine (T.out _).mono ?_; rintro e w' ⟨rfl, hb⟩; have hz_ := hb.size; (try simp only [World.size_alloc, heap_drew, World.heap_drewN, size_setCell] at hz_); have hs0_ : w.heap.size < w'.heap.size := (by omega); have hk0_ := fun o => (bcell hb).1 (w.heap.size) o (by (try simp only [World.size_alloc, heap_drew, World.heap_drewN, size_setCell]); omega); have hl0_ := fun o => (bcell hb).2.1 (w.heap.size) o (by (try simp only [World.size_alloc, heap_drew, World.heap_drewN, size_setCell]); omega); have hs1_ : w.heap.size + 1 < w'.heap.size := (by omega); have hk1_ := fun o => (bcell hb).1 (w.heap.size + 1) o (by (try simp only [World.size_alloc, heap_drew, World.heap_drewN, size_setCell]); omega); have hl1_ := fun o => (bcell hb).2.1 (w.heap.size + 1) o (by (try simp only [World.size_alloc, heap_drew, World.heap_drewN, size_setCell]); omega)) | (go_at_call 34; refine (trPrimes_c _ _ _ _ h1 n1 (by omega)).mono ?_; rintro e w1 ⟨v, rfl, hown, hb⟩; obtain ⟨av, cap, rfl, hm, hv⟩ := hown.seen; have hz_ := hb.size; (try simp only [World.size_alloc, heap_drew, World.heap_drewN, size_setCell] at hz_); have hs0_ : w.heap.size < w1.heap.size := (by omega); have hk0_ := fun o => (bcell hb).1 (w.heap.size) o (by (try simp only [World.size_alloc, heap_drew, World.heap_drewN, size_setCell]); omega); have hl0_ := fun o => (bcell hb).2.1 (w.heap.size) o (by (try simp only [World.size_alloc, heap_drew, World.heap_drewN, size_setCell]); omega); have hs1_ : w.heap.size + 1 < w1.heap.size := (by omega); have hk1_ := fun o => (bcell hb).1 (w.heap.size + 1) o (by (try simp only [World.size_alloc, heap_drew, World.heap_drewN, size_setCell]); omega); have hl1_ := fun o => (bcell hb).2.1 (w.heap.size + 1) o (by (try simp only [World.size_alloc, heap_drew, World.heap_drewN, size_setCell]); omega)))
      have c0 : w1.cell? ⟨w.heap.size, 0, none⟩ = some (.int .i64 a) := (hk0_ 0).trans (by simp [go_sem, *])
      have c1 : w1.cell? ⟨w.heap.size, 1, none⟩ = some (.int .i64 b) := (hk0_ 1).trans (by simp [go_sem, *])
      have d0 : w1.cell? ⟨w.heap.size + 1, 0, none⟩ = some (.int .i64 0) := (hk1_ 0).trans (by simp [go_sem, *])
      have d1 : w1.cell? ⟨w.heap.size + 1, 1, none⟩ = some (.int .i64 0) := (hk1_ 1).trans (by simp [go_sem, *])
      have f0 : w1.frozen? ⟨w.heap.size + 1, 0, none⟩ = false := (hl1_ 0).trans (by simp [go_sem, *])
      have f1 : w1.frozen? ⟨w.heap.size + 1, 1, none⟩ = false := (hl1_ 1).trans (by simp [go_sem, *])
      have hbw : Below w.heap.size w w1 := (by repeat (first | exact Below.refl _ _ | refine below_alloc ?_ _ | refine below_step ?_ (by assumption) | refine Below.drew ?_ | refine Below.setCell ?_ (by first | exact Nat.le_refl _ | exact Nat.le_add_right _ _ | (simp <;> omega)) _ | refine below_drewN ?_ _))
      have hs1 : w.heap.size + 1 < w1.heap.size := hs1_
      clear hb hk0_ hk1_ hl0_ hl1_
      go_loopw [6, 8, 25] (fun vs _ vi wr => ∃ k : Nat, k ≤ (M.goods a b n).length ∧ vi = .int .i64 k ∧ vs = .int .i64 (((M.goods a b n).take k).foldl (mtStep a b) 0) ∧ Below w1.heap.size w1 wr) (fun _ _ vi _ => (M.goods a b n).length - (intOf vi).toNat)
      case atStart => exact ⟨0, by omega, rfl, rfl, Below.refl _ _⟩
      case round =>
        obtain ⟨k, hk, rfl, rfl, hbr⟩ := hrel
        have hmb := mt_bd a b n k
        by_cases hlt : k < (M.goods a b n).length
        · obtain ⟨g, p, rfl, hg, hx, hcell⟩ := hv k hlt
          have hmem := M.mem_goods (List.mem_of_getElem? hx.out)
          have gp := hmem.1
          have tb := goodp_trace gp
          have e0 := keepCell hbr c0
          have e1 := keepCell hbr c1
          have e4 := keepCell hbr hcell
          have hf := Lib.hid (foldl_next (mtStep a b) 0 hx.out)
          clear hv c0 c1 hcell hmem d0 d1 f0 f1
          go_wp2_with (go_at_call 35; (with_reducible refine (trAt_c a b p _ h gp).mono ?_); rintro e w' ⟨rfl, hb9⟩)
          go_roundw
          case rel => exact ⟨k + 1, by omega, by go_num, by rw [hf.out]; rfl, below_step hbr hb9⟩
          case measure => simp [intOf]; omega
        · obtain rfl : k = (M.goods a b n).length := by omega
          have e0 := keepCell hbr d0
          have e1 := keepCell hbr d1
          have e2 := keepCell hbr c0
          have e3 := keepCell hbr c1
          have g0 := keepFrz hbr (by exact hs1) f0
          have g1 := keepFrz hbr (by exact hs1) f1
          have hsr := keepSz hbr hs1
          have hmt : ((M.goods a b n).take (M.goods a b n).length).foldl (mtStep a b) 0 = mtSum a b n := by rw [List.take_length]; rfl
          rw [hmt] at hmb ⊢
          clear hv c0 c1 hmt
          have hsr0 : w.heap.size < wr.heap.size := by omega
          go_wp2_with (first | (go_at_call 34; refine (trPrimes_c _ _ _ _ h1 n1 (by omega)).mono ?_; rintro e w2 ⟨v2, rfl, hown2, hb2⟩; obtain ⟨av2, cap2, rfl, hm2, hv2⟩ := hown2.seen; have hz_ := hb2.size; (try simp only [World.size_alloc, heap_drew, World.heap_drewN, size_setCell] at hz_); have hs0_ : w.heap.size < w2.heap.size := (by omega); have hk0_ := fun o => (bcell hb2).1 (w.heap.size) o (by (try simp only [World.size_alloc, heap_drew, World.heap_drewN, size_setCell]); omega); have hl0_ := fun o => (bcell hb2).2.1 (w.heap.size) o (by (try simp only [World.size_alloc, heap_drew, World.heap_drewN, size_setCell]); omega); have hs1_ : w.heap.size + 1 < w2.heap.size := (by omega); have hk1_ := fun o => (bcell hb2).1 (w.heap.size + 1) o (by (try simp only [World.size_alloc, heap_drew, World.heap_drewN, size_setCell]); omega); have hl1_ := fun o => (bcell hb2).2.1 (w.heap.size + 1) o (by (try simp only [World.size_alloc, heap_drew, World.heap_drewN, size_setCell]); omega)) | (go_at_call 42; refine (frMake_c _ _ _ (by omega) (by omega) (by omega) (by omega) (by omega)).mono ?_; rintro e w' ⟨rfl, hb9⟩; have hz_ := hb9.size; (try simp only [World.size_alloc, heap_drew, World.heap_drewN, size_setCell] at hz_); have hs0_ : w.heap.size < w'.heap.size := (by omega); have hk0_ := fun o => (bcell hb9).1 (w.heap.size) o (by (try simp only [World.size_alloc, heap_drew, World.heap_drewN, size_setCell]); omega); have hl0_ := fun o => (bcell hb9).2.1 (w.heap.size) o (by (try simp only [World.size_alloc, heap_drew, World.heap_drewN, size_setCell]); omega); have hs1_ : w.heap.size + 1 < w'.heap.size := (by omega); have hk1_ := fun o => (bcell hb9).1 (w.heap.size + 1) o (by (try simp only [World.size_alloc, heap_drew, World.heap_drewN, size_setCell]); omega); have hl1_ := fun o => (bcell hb9).2.1 (w.heap.size + 1) o (by (try simp only [World.size_alloc, heap_drew, World.heap_drewN, size_setCell]); omega)))
          (refine bodyPost_ret (v := .tuple #[.agg #[.int .i64 (M.pick (frq (mtSum a b n) (M.goods a b n).length) (partN (mtSum a b n) (M.goods a b n).length)), .int .i64 (M.pick (frq (mtSum a b n) (M.goods a b n).length) (partD (mtSum a b n) (M.goods a b n).length))], .bool (frq (mtSum a b n) (M.goods a b n).length)]) ?_ rfl ?_; (· (simp [results, Tryz.results10, go_sem, *]; done)); (· (refine ⟨?_, ?_⟩; (· (simp [hie.out]; done)); (· exact (by repeat (first | exact Below.refl _ _ | refine below_alloc ?_ _ | refine below_step ?_ (by assumption) | refine Below.drew ?_ | refine Below.setCell ?_ (by first | exact Nat.le_refl _ | exact Nat.le_add_right _ _ | (simp <;> omega)) _ | refine below_drewN ?_ _))))))

end Go.Proofs.YtodgfechhielaaaGreatDoor
