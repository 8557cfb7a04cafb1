/-
  Descents: the values that the law on descents meets.
-/
import Derived.Test.YtgkjmjlkhnfbiaaGreatB28
import Derived.Test.YtgkjmjlkhnfbiaaGreatB23
namespace Go.Proofs.YtgkjmjlkhnfbiaaGreat
set_option linter.unusedSimpArgs false
set_option linter.unusedVariables false
open Go.RowKit
namespace M
theorem ds_vals (a b : Int) (q : Bool) (hDr : tc a b → Dr a b) : ∃ (S D F : List Int) (ok one : Bool), gT a b (slk a b q) = ok ∧ gT a b true = one ∧ optL ok (slm a b q) = S ∧ optL one (dvs (sB a b q)) = D ∧ gN a b 6 true = one ∧ optL one (fnd a b q (6 : Int).toNat) = F ∧
    (ok = true → one = true ∧ tcb a b = true ∧ slk a b q = true ∧ (∀ d ∈ D, d ∈ dvs (sB a b q)) ∧ S = slm a b q ∧ (∀ x ∈ S, ∀ y ∈ S, (isCl x = true ∧ isCl y = true ∧ isCl (prd x y) = true) ∧ prd x y ∈ S) ∧ 1 ∈ F ∧ ∀ x ∈ F, x ∈ S) := by
  refine ⟨_, _, _, _, _, rfl, rfl, rfl, rfl, ?_, rfl, fun hok => ?_⟩
  · unfold gN gT
    rw [show ins 6 1 60 = true from rfl, Bool.and_true]
  · unfold gT at *
    rw [Bool.and_eq_true] at hok
    obtain ⟨ht, hk⟩ := hok
    have htc := tcb_t ht
    rw [ht, hk]
    have hc := (Dr.sel htc (hDr htc)).closed q hk
    refine ⟨rfl, rfl, rfl, fun d hd => hd, rfl, fun x hx y hy => ?_, ?_, ?_⟩
    · have hp := hc x hx y hy
      exact ⟨⟨dvs_cl htc (slm_dvs hx), dvs_cl htc (slm_dvs hy), dvs_cl htc (slm_dvs hp)⟩, hp⟩
    · exact one_fnd htc (by decide)
    · exact fnd_slm hk htc _
theorem od_vals (a b : Int) (q : Bool) (n : Int) : ∃ (O F : List Int) (three five : Bool), odO a b q n = three ∧ odL a b q n = O ∧ gN a b n true = five ∧ optL five (fnd a b q n.toNat) = F ∧ (three = true → five = true ∧ ∀ x ∈ O, x ∉ F) := by
  refine ⟨_, _, _, _, rfl, rfl, rfl, rfl, fun h => ?_⟩
  unfold odO at h
  simp only [Bool.and_eq_true] at h
  have e : gN a b n true = true := by
    unfold gN
    rw [h.1.1, h.1.2]
    rfl
  exact ⟨e, fun x hx => by rw [e]; exact od_not (tcb_t h.1.1) x hx⟩
end M
/-- what the calls on one divisor answer -/
theorem ds_elem (a b d : Int) (q : Bool) (ht : M.tcb a b = true) (hk : M.slk a b q = true) (hd : d ∈ M.dvs (M.sB a b q)) : ∃ (r g0 g1 : Int) (ev : Bool),
    (∀ w, Calls Tryz.prog 12 #[.agg #[.int .i64 a, .int .i64 b], .bool q, .int .i64 d] w fun e w' => e = .returned (.tuple #[.int .i64 r, .bool true]) ∧ Below w.heap.size w w') ∧
    (∀ w, Calls Tryz.prog 13 #[.agg #[.int .i64 a, .int .i64 b], .bool q, .int .i64 d] w fun e w' => e = .returned (.tuple #[.int .i64 r, .bool true]) ∧ Below w.heap.size w w') ∧
    (∀ w, Calls Tryz.prog 14 #[.agg #[.int .i64 a, .int .i64 b], .bool q, .int .i64 d] w fun e w' => e = .returned (.tuple #[.agg #[.int .i64 d, .int .i64 g0, .int .i64 g1], .bool true]) ∧ Below w.heap.size w w') ∧
    (∀ w, Calls Tryz.prog 15 #[.agg #[.int .i64 a, .int .i64 b], .bool q, .int .i64 d] w fun e w' => e = .returned (.tuple #[.agg #[.int .i64 d, .int .i64 g0, .int .i64 g1], .bool true]) ∧ Below w.heap.size w w') ∧
    (∀ w, Calls Tryz.prog 16 #[.agg #[.int .i64 d, .int .i64 g0, .int .i64 g1]] w fun e w' => e = .returned (.tuple #[.bool ev, .bool true]) ∧ Below w.heap.size w w') ∧
    (r = 0 → ev = true ∧ d ∈ M.slm a b q) ∧ (r ≠ 0 → ev = false ∧ d ∉ M.slm a b q) ∧
    (0 < r → ∀ w, Calls Tryz.prog 18 #[.agg #[.int .i64 d, .int .i64 g0, .int .i64 g1], .int .i64 r] w fun e w' => e = .returned (.tuple #[.bool false, .bool true]) ∧ Below w.heap.size w w') := by
  have R := M.dsR hk hd
  obtain ⟨h1, h2⟩ := (M.tcb_t ht).dsc hd
  refine ⟨M.rsn a b q d, M.sA a q, M.dC a b q d, _, fun w => ?_, fun w => ?_, fun w => ?_, fun w => ?_, fun w => implIsEverywhereSoluble_c _ _ _ w h1 h2 R.fok, fun e => ⟨R.none e, R.stay e⟩, fun e => ⟨R.some e, R.gone e⟩, fun e w => ?_⟩
  · have := implReasonAgainst_c a b d q w ht hd
    rwa [R.told] at this
  · have := specReasonAgainst_c a b d q w ht hd
    rwa [R.told] at this
  · exact implDescentQuartic_c a b d q w ht hd
  · exact specDescentQuartic_c a b d q w ht hd
  · obtain ⟨⟨p1, p2⟩, p3, p4⟩ := R.prime e
    have := implIsLocallySoluble_c d (M.sA a q) (M.dC a b q d) (M.rsn a b q d) w h1 p1 p2
    rwa [p3, p4] at this
end Go.Proofs.YtgkjmjlkhnfbiaaGreat
