/-
  Contracts: steps between two curves of a class.
-/
import Derived.Test.YthacknphhjmliaaE12
namespace Go.Proofs.Ythacknphhjmliaa
set_option linter.unusedSimpArgs false
set_option linter.unusedVariables false
open Go.RowKit Go.Shelf

namespace M
def stI (a b c d : Int) : Int := cidx (smA c d, smB c d) (clsL a b).1
def stOk (a b c d : Int) : Bool := good a b && good c d && (clsOk a b && decide (0 ≤ stI a b c d))
def stV (a b c d : Int) : Int := if stOk a b c d then (clsL a b).2.getD (stI a b c d).toNat 0 else 0
theorem st_no {a b c d : Int} (h : stOk a b c d = false) : stV a b c d = 0 ∧ stOk a b c d = false := ⟨by unfold stV; rw [h]; rfl, h⟩
theorem st_no1 {a b c d : Int} (h : good a b = false) : stV a b c d = 0 ∧ stOk a b c d = false := st_no (by simp [stOk, h])
theorem st_no2 {a b c d : Int} (h : good c d = false) : stV a b c d = 0 ∧ stOk a b c d = false := st_no (by simp [stOk, h])
theorem st_no3 {a b c d : Int} (h : clsOk a b = false) : stV a b c d = 0 ∧ stOk a b c d = false := st_no (by simp [stOk, h])
theorem st_no4 {a b c d : Int} (h : cidx (smA c d, smB c d) (clsL a b).1 < 0) : stV a b c d = 0 ∧ stOk a b c d = false := st_no (by unfold stOk stI; rw [decide_eq_false (by omega)]; simp)
theorem st_yes {a b c d t : Int} {n : Nat} (h1 : good a b = true) (h2 : good c d = true) (h3 : clsOk a b = true) (h : cidx (smA c d, smB c d) (clsL a b).1 = n) (ht : (clsL a b).2[n]? = some t) : stV a b c d = t ∧ stOk a b c d = true := by
  have : stOk a b c d = true := by simp [stOk, stI, h1, h2, h3, h]
  refine ⟨?_, this⟩
  unfold stV stI
  rw [this, if_pos rfl, h, Int.toNat_natCast, List.getD_eq_getElem?_getD, ht]
  rfl
end M


theorem implIsogenySteps_c (a b c d : Int) (w : World) :
    Calls Try.prog 16 #[.agg #[.int .i64 a, .int .i64 b], .agg #[.int .i64 c, .int .i64 d]] w fun e w' => e = .returned (.tuple #[.int .i64 (M.stV a b c d), .bool (M.stOk a b c d)]) ∧ Below w.heap.size w w' := by
  cases h1 : M.good a b
  · have hst := Lib.hid (M.st_no1 (c := c) (d := d) h1)
    go_enter Try.func16, Try.ntmps16
    go_wp2_with (go_at_call 21; refine (isCurve_c _ _ _).mono ?_; rintro e w' ⟨rfl, hb⟩; have hz_ := hb.size; (try simp only [World.size_alloc, heap_drew, World.heap_drewN, size_setCell] at hz_); have hs0_ : w.heap.size < w'.heap.size := (by omega); have hk0_ := fun o => (bcell hb).1 (w.heap.size) o (by (try simp only [World.size_alloc, heap_drew, World.heap_drewN, size_setCell]); omega); have hl0_ := fun o => (bcell hb).2.1 (w.heap.size) o (by (try simp only [World.size_alloc, heap_drew, World.heap_drewN, size_setCell]); omega); have hs1_ : w.heap.size + 1 < w'.heap.size := (by omega); have hk1_ := fun o => (bcell hb).1 (w.heap.size + 1) o (by (try simp only [World.size_alloc, heap_drew, World.heap_drewN, size_setCell]); omega); have hl1_ := fun o => (bcell hb).2.1 (w.heap.size + 1) o (by (try simp only [World.size_alloc, heap_drew, World.heap_drewN, size_setCell]); omega))
    all_goals (go_ret2; exact ⟨by rw [hst.out.1, hst.out.2]; rfl, (by repeat (first | exact Below.refl _ _ | refine below_alloc ?_ _ | refine below_step ?_ (by assumption) | refine Below.drew ?_ | refine Below.setCell ?_ (by first | exact Nat.le_refl _ | exact Nat.le_add_right _ _ | (simp <;> omega)) _ | refine below_drewN ?_ _))⟩)
  · cases h2 : M.good c d
    · have hst := Lib.hid (M.st_no2 (a := a) (b := b) h2)
      go_enter Try.func16, Try.ntmps16
      go_wp2_with (go_at_call 21; refine (isCurve_c _ _ _).mono ?_; rintro e w' ⟨rfl, hb⟩; have hz_ := hb.size; (try simp only [World.size_alloc, heap_drew, World.heap_drewN, size_setCell] at hz_); have hs0_ : w.heap.size < w'.heap.size := (by omega); have hk0_ := fun o => (bcell hb).1 (w.heap.size) o (by (try simp only [World.size_alloc, heap_drew, World.heap_drewN, size_setCell]); omega); have hl0_ := fun o => (bcell hb).2.1 (w.heap.size) o (by (try simp only [World.size_alloc, heap_drew, World.heap_drewN, size_setCell]); omega); have hs1_ : w.heap.size + 1 < w'.heap.size := (by omega); have hk1_ := fun o => (bcell hb).1 (w.heap.size + 1) o (by (try simp only [World.size_alloc, heap_drew, World.heap_drewN, size_setCell]); omega); have hl1_ := fun o => (bcell hb).2.1 (w.heap.size + 1) o (by (try simp only [World.size_alloc, heap_drew, World.heap_drewN, size_setCell]); omega))
      all_goals (go_ret2; exact ⟨by rw [hst.out.1, hst.out.2]; rfl, (by repeat (first | exact Below.refl _ _ | refine below_alloc ?_ _ | refine below_step ?_ (by assumption) | refine Below.drew ?_ | refine Below.setCell ?_ (by first | exact Nat.le_refl _ | exact Nat.le_add_right _ _ | (simp <;> omega)) _ | refine below_drewN ?_ _))⟩)
    · have HT := fun w => isogenyClass_c a b w h1
      change ∀ w, Calls Try.prog 29 _ w (fun e w' => ∃ q : Value × Value, e = .returned (.tuple #[q.1, q.2, .bool (M.clsOk a b)]) ∧ _) at HT
      have HS := Lib.hid fun w => smallest_c c d w h2
      have hcp := Lib.hid (M.clsL_props a b)
      have hil := M.cidx_lo (M.smA c d, M.smB c d) (M.clsL a b).1
      generalize hi : M.cidx (M.smA c d, M.smB c d) (M.clsL a b).1 = i at hil
      have Hi := Lib.hid hi
      clear hi
      cases hn : M.clsOk a b <;> simp only [hn] at HT <;> have HT := Lib.hid HT
      · have hst := Lib.hid (M.st_no3 (c := c) (d := d) hn)
        go_enter Try.func16, Try.ntmps16
        go_wp2_with (go_at_call 21; refine (isCurve_c _ _ _).mono ?_; rintro e w' ⟨rfl, hb⟩; have hz_ := hb.size; (try simp only [World.size_alloc, heap_drew, World.heap_drewN, size_setCell] at hz_); have hs0_ : w.heap.size < w'.heap.size := (by omega); have hk0_ := fun o => (bcell hb).1 (w.heap.size) o (by (try simp only [World.size_alloc, heap_drew, World.heap_drewN, size_setCell]); omega); have hl0_ := fun o => (bcell hb).2.1 (w.heap.size) o (by (try simp only [World.size_alloc, heap_drew, World.heap_drewN, size_setCell]); omega); have hs1_ : w.heap.size + 1 < w'.heap.size := (by omega); have hk1_ := fun o => (bcell hb).1 (w.heap.size + 1) o (by (try simp only [World.size_alloc, heap_drew, World.heap_drewN, size_setCell]); omega); have hl1_ := fun o => (bcell hb).2.1 (w.heap.size + 1) o (by (try simp only [World.size_alloc, heap_drew, World.heap_drewN, size_setCell]); omega))
        refine (HT.out _).mono ?_; rintro e w2 ⟨⟨v2, v3⟩, rfl, hown2, hown3, hb2⟩
        have hz_ := hb2.size; (try simp only [World.size_alloc, heap_drew, World.heap_drewN, size_setCell] at hz_); have hs0_ : w.heap.size < w2.heap.size := (by omega); have hk0_ := fun o => (bcell hb2).1 (w.heap.size) o (by (try simp only [World.size_alloc, heap_drew, World.heap_drewN, size_setCell]); omega); have hl0_ := fun o => (bcell hb2).2.1 (w.heap.size) o (by (try simp only [World.size_alloc, heap_drew, World.heap_drewN, size_setCell]); omega); have hs1_ : w.heap.size + 1 < w2.heap.size := (by omega); have hk1_ := fun o => (bcell hb2).1 (w.heap.size + 1) o (by (try simp only [World.size_alloc, heap_drew, World.heap_drewN, size_setCell]); omega); have hl1_ := fun o => (bcell hb2).2.1 (w.heap.size + 1) o (by (try simp only [World.size_alloc, heap_drew, World.heap_drewN, size_setCell]); omega)
        have s2 := hown2.seen
        go_wp2_with fail
        refine (HS.out _).mono ?_; rintro e w3 ⟨rfl, hb3⟩
        have hz_ := hb3.size; (try simp only [World.size_alloc, heap_drew, World.heap_drewN, size_setCell] at hz_); have hs0_ : w.heap.size < w3.heap.size := (by omega); have hk0_ := fun o => (bcell hb3).1 (w.heap.size) o (by (try simp only [World.size_alloc, heap_drew, World.heap_drewN, size_setCell]); omega); have hl0_ := fun o => (bcell hb3).2.1 (w.heap.size) o (by (try simp only [World.size_alloc, heap_drew, World.heap_drewN, size_setCell]); omega); have hs1_ : w.heap.size + 1 < w3.heap.size := (by omega); have hk1_ := fun o => (bcell hb3).1 (w.heap.size + 1) o (by (try simp only [World.size_alloc, heap_drew, World.heap_drewN, size_setCell]); omega); have hl1_ := fun o => (bcell hb3).2.1 (w.heap.size + 1) o (by (try simp only [World.size_alloc, heap_drew, World.heap_drewN, size_setCell]); omega)
        have z3 := hb3.size
        go_wp2_with fail
        refine (indexC_c _ _ (M.smA c d, M.smB c d) _ _ (s2.below (below_alloc hb3 _)) (by simp; omega)).mono ?_; rintro e w4 ⟨he, hb4⟩
        rw [Hi.out] at he
        subst he
        have d0 := (hb4.cell (p := ⟨w3.heap.size, 0, none⟩) (by simp)).trans (box_cell w3 #[.int .i64 (M.smA c d), .int .i64 (M.smB c d)] 27 0)
        have d1 := (hb4.cell (p := ⟨w3.heap.size, 1, none⟩) (by simp)).trans (box_cell w3 #[.int .i64 (M.smA c d), .int .i64 (M.smB c d)] 27 1)
        have d2 : w3.heap.size < w4.heap.size := by have := hb4.size; simp at this; omega
        all_goals go_wp2
        all_goals (go_ret2; exact ⟨by rw [hst.out.1, hst.out.2]; rfl, (by repeat (first | exact Below.refl _ _ | refine below_alloc ?_ _ | refine below_step ?_ (by assumption) | refine Below.drew ?_ | refine Below.setCell ?_ (by first | exact Nat.le_refl _ | exact Nat.le_add_right _ _ | (simp <;> omega)) _ | refine below_drewN ?_ _))⟩)
      · by_cases hneg : i < 0
        · have hst := Lib.hid (M.st_no4 (by rw [Hi.out]; exact hneg))
          go_enter Try.func16, Try.ntmps16
          go_wp2_with (go_at_call 21; refine (isCurve_c _ _ _).mono ?_; rintro e w' ⟨rfl, hb⟩; have hz_ := hb.size; (try simp only [World.size_alloc, heap_drew, World.heap_drewN, size_setCell] at hz_); have hs0_ : w.heap.size < w'.heap.size := (by omega); have hk0_ := fun o => (bcell hb).1 (w.heap.size) o (by (try simp only [World.size_alloc, heap_drew, World.heap_drewN, size_setCell]); omega); have hl0_ := fun o => (bcell hb).2.1 (w.heap.size) o (by (try simp only [World.size_alloc, heap_drew, World.heap_drewN, size_setCell]); omega); have hs1_ : w.heap.size + 1 < w'.heap.size := (by omega); have hk1_ := fun o => (bcell hb).1 (w.heap.size + 1) o (by (try simp only [World.size_alloc, heap_drew, World.heap_drewN, size_setCell]); omega); have hl1_ := fun o => (bcell hb).2.1 (w.heap.size + 1) o (by (try simp only [World.size_alloc, heap_drew, World.heap_drewN, size_setCell]); omega))
          refine (HT.out _).mono ?_; rintro e w2 ⟨⟨v2, v3⟩, rfl, hown2, hown3, hb2⟩
          have hz_ := hb2.size; (try simp only [World.size_alloc, heap_drew, World.heap_drewN, size_setCell] at hz_); have hs0_ : w.heap.size < w2.heap.size := (by omega); have hk0_ := fun o => (bcell hb2).1 (w.heap.size) o (by (try simp only [World.size_alloc, heap_drew, World.heap_drewN, size_setCell]); omega); have hl0_ := fun o => (bcell hb2).2.1 (w.heap.size) o (by (try simp only [World.size_alloc, heap_drew, World.heap_drewN, size_setCell]); omega); have hs1_ : w.heap.size + 1 < w2.heap.size := (by omega); have hk1_ := fun o => (bcell hb2).1 (w.heap.size + 1) o (by (try simp only [World.size_alloc, heap_drew, World.heap_drewN, size_setCell]); omega); have hl1_ := fun o => (bcell hb2).2.1 (w.heap.size + 1) o (by (try simp only [World.size_alloc, heap_drew, World.heap_drewN, size_setCell]); omega)
          have s2 := hown2.seen
          go_wp2_with fail
          refine (HS.out _).mono ?_; rintro e w3 ⟨rfl, hb3⟩
          have hz_ := hb3.size; (try simp only [World.size_alloc, heap_drew, World.heap_drewN, size_setCell] at hz_); have hs0_ : w.heap.size < w3.heap.size := (by omega); have hk0_ := fun o => (bcell hb3).1 (w.heap.size) o (by (try simp only [World.size_alloc, heap_drew, World.heap_drewN, size_setCell]); omega); have hl0_ := fun o => (bcell hb3).2.1 (w.heap.size) o (by (try simp only [World.size_alloc, heap_drew, World.heap_drewN, size_setCell]); omega); have hs1_ : w.heap.size + 1 < w3.heap.size := (by omega); have hk1_ := fun o => (bcell hb3).1 (w.heap.size + 1) o (by (try simp only [World.size_alloc, heap_drew, World.heap_drewN, size_setCell]); omega); have hl1_ := fun o => (bcell hb3).2.1 (w.heap.size + 1) o (by (try simp only [World.size_alloc, heap_drew, World.heap_drewN, size_setCell]); omega)
          have z3 := hb3.size
          go_wp2_with fail
          refine (indexC_c _ _ (M.smA c d, M.smB c d) _ _ (s2.below (below_alloc hb3 _)) (by simp; omega)).mono ?_; rintro e w4 ⟨he, hb4⟩
          rw [Hi.out] at he
          subst he
          have d0 := (hb4.cell (p := ⟨w3.heap.size, 0, none⟩) (by simp)).trans (box_cell w3 #[.int .i64 (M.smA c d), .int .i64 (M.smB c d)] 27 0)
          have d1 := (hb4.cell (p := ⟨w3.heap.size, 1, none⟩) (by simp)).trans (box_cell w3 #[.int .i64 (M.smA c d), .int .i64 (M.smB c d)] 27 1)
          have d2 : w3.heap.size < w4.heap.size := by have := hb4.size; simp at this; omega
          all_goals go_wp2
          all_goals (go_ret2; exact ⟨by rw [hst.out.1, hst.out.2]; rfl, (by repeat (first | exact Below.refl _ _ | refine below_alloc ?_ _ | refine below_step ?_ (by assumption) | refine Below.drew ?_ | refine Below.setCell ?_ (by first | exact Nat.le_refl _ | exact Nat.le_add_right _ _ | (simp <;> omega)) _ | refine below_drewN ?_ _))⟩)
        · obtain ⟨n, rfl⟩ : ∃ n : Nat, i = n := ⟨i.toNat, by omega⟩
          have hnl : n < (M.clsL a b).2.length := by have := hcp.out.1; omega
          obtain ⟨t, ht⟩ : ∃ t, Hid ((M.clsL a b).2[n]? = some t) := ⟨_, Lib.hid (List.getElem?_eq_getElem hnl)⟩
          have hst := Lib.hid (M.st_yes h1 h2 hn Hi.out ht.out)
          go_enter Try.func16, Try.ntmps16
          go_wp2_with (go_at_call 21; refine (isCurve_c _ _ _).mono ?_; rintro e w' ⟨rfl, hb⟩; have hz_ := hb.size; (try simp only [World.size_alloc, heap_drew, World.heap_drewN, size_setCell] at hz_); have hs0_ : w.heap.size < w'.heap.size := (by omega); have hk0_ := fun o => (bcell hb).1 (w.heap.size) o (by (try simp only [World.size_alloc, heap_drew, World.heap_drewN, size_setCell]); omega); have hl0_ := fun o => (bcell hb).2.1 (w.heap.size) o (by (try simp only [World.size_alloc, heap_drew, World.heap_drewN, size_setCell]); omega); have hs1_ : w.heap.size + 1 < w'.heap.size := (by omega); have hk1_ := fun o => (bcell hb).1 (w.heap.size + 1) o (by (try simp only [World.size_alloc, heap_drew, World.heap_drewN, size_setCell]); omega); have hl1_ := fun o => (bcell hb).2.1 (w.heap.size + 1) o (by (try simp only [World.size_alloc, heap_drew, World.heap_drewN, size_setCell]); omega))
          refine (HT.out _).mono ?_; rintro e w2 ⟨⟨v2, v3⟩, rfl, hown2, hown3, hb2⟩
          have hz_ := hb2.size; (try simp only [World.size_alloc, heap_drew, World.heap_drewN, size_setCell] at hz_); have hs0_ : w.heap.size < w2.heap.size := (by omega); have hk0_ := fun o => (bcell hb2).1 (w.heap.size) o (by (try simp only [World.size_alloc, heap_drew, World.heap_drewN, size_setCell]); omega); have hl0_ := fun o => (bcell hb2).2.1 (w.heap.size) o (by (try simp only [World.size_alloc, heap_drew, World.heap_drewN, size_setCell]); omega); have hs1_ : w.heap.size + 1 < w2.heap.size := (by omega); have hk1_ := fun o => (bcell hb2).1 (w.heap.size + 1) o (by (try simp only [World.size_alloc, heap_drew, World.heap_drewN, size_setCell]); omega); have hl1_ := fun o => (bcell hb2).2.1 (w.heap.size + 1) o (by (try simp only [World.size_alloc, heap_drew, World.heap_drewN, size_setCell]); omega)
          have s2 := hown2.seen
          go_wp2_with fail
          refine (HS.out _).mono ?_; rintro e w3 ⟨rfl, hb3⟩
          have hz_ := hb3.size; (try simp only [World.size_alloc, heap_drew, World.heap_drewN, size_setCell] at hz_); have hs0_ : w.heap.size < w3.heap.size := (by omega); have hk0_ := fun o => (bcell hb3).1 (w.heap.size) o (by (try simp only [World.size_alloc, heap_drew, World.heap_drewN, size_setCell]); omega); have hl0_ := fun o => (bcell hb3).2.1 (w.heap.size) o (by (try simp only [World.size_alloc, heap_drew, World.heap_drewN, size_setCell]); omega); have hs1_ : w.heap.size + 1 < w3.heap.size := (by omega); have hk1_ := fun o => (bcell hb3).1 (w.heap.size + 1) o (by (try simp only [World.size_alloc, heap_drew, World.heap_drewN, size_setCell]); omega); have hl1_ := fun o => (bcell hb3).2.1 (w.heap.size + 1) o (by (try simp only [World.size_alloc, heap_drew, World.heap_drewN, size_setCell]); omega)
          have z3 := hb3.size
          go_wp2_with fail
          refine (indexC_c _ _ (M.smA c d, M.smB c d) _ _ (s2.below (below_alloc hb3 _)) (by simp; omega)).mono ?_; rintro e w4 ⟨he, hb4⟩
          rw [Hi.out] at he
          subst he
          have d0 := (hb4.cell (p := ⟨w3.heap.size, 0, none⟩) (by simp)).trans (box_cell w3 #[.int .i64 (M.smA c d), .int .i64 (M.smB c d)] 27 0)
          have d1 := (hb4.cell (p := ⟨w3.heap.size, 1, none⟩) (by simp)).trans (box_cell w3 #[.int .i64 (M.smA c d), .int .i64 (M.smB c d)] 27 1)
          have d2 : w3.heap.size < w4.heap.size := by have := hb4.size; simp at this; omega
          obtain ⟨g8, cap8, rfl, hg8, hgs8⟩ := hown3.form (by omega)
          have e8 := OwnI.cellAt rfl hown3 ht.out
          have e9 := (hb4.cell (p := ⟨g8, n, none⟩) (by simp; omega)).trans (((below_alloc hb3 _).cell (p := ⟨g8, n, none⟩) hgs8).trans e8)
          go_wp2
          all_goals (go_ret2; exact ⟨by rw [hst.out.1, hst.out.2]; rfl, (by repeat (first | exact Below.refl _ _ | refine below_alloc ?_ _ | refine below_step ?_ (by assumption) | refine Below.drew ?_ | refine Below.setCell ?_ (by first | exact Nat.le_refl _ | exact Nat.le_add_right _ _ | (simp <;> omega)) _ | refine below_drewN ?_ _))⟩)

theorem specIsogenySteps_c (a b c d : Int) (w : World) :
    Calls Try.prog 15 #[.agg #[.int .i64 a, .int .i64 b], .agg #[.int .i64 c, .int .i64 d]] w fun e w' => e = .returned (.tuple #[.int .i64 (M.stV a b c d), .bool (M.stOk a b c d)]) ∧ Below w.heap.size w w' := by
  cases h1 : M.good a b
  · have hst := Lib.hid (M.st_no1 (c := c) (d := d) h1)
    go_enter Try.func15, Try.ntmps15
    go_wp2_with (go_at_call 19; refine (ecGood_c _ _ _).mono ?_; rintro e w' ⟨rfl, hb⟩; have hz_ := hb.size; (try simp only [World.size_alloc, heap_drew, World.heap_drewN, size_setCell] at hz_); have hs0_ : w.heap.size < w'.heap.size := (by omega); have hk0_ := fun o => (bcell hb).1 (w.heap.size) o (by (try simp only [World.size_alloc, heap_drew, World.heap_drewN, size_setCell]); omega); have hl0_ := fun o => (bcell hb).2.1 (w.heap.size) o (by (try simp only [World.size_alloc, heap_drew, World.heap_drewN, size_setCell]); omega); have hs1_ : w.heap.size + 1 < w'.heap.size := (by omega); have hk1_ := fun o => (bcell hb).1 (w.heap.size + 1) o (by (try simp only [World.size_alloc, heap_drew, World.heap_drewN, size_setCell]); omega); have hl1_ := fun o => (bcell hb).2.1 (w.heap.size + 1) o (by (try simp only [World.size_alloc, heap_drew, World.heap_drewN, size_setCell]); omega))
    all_goals (go_ret2; exact ⟨by rw [hst.out.1, hst.out.2]; rfl, (by repeat (first | exact Below.refl _ _ | refine below_alloc ?_ _ | refine below_step ?_ (by assumption) | refine Below.drew ?_ | refine Below.setCell ?_ (by first | exact Nat.le_refl _ | exact Nat.le_add_right _ _ | (simp <;> omega)) _ | refine below_drewN ?_ _))⟩)
  · cases h2 : M.good c d
    · have hst := Lib.hid (M.st_no2 (a := a) (b := b) h2)
      go_enter Try.func15, Try.ntmps15
      go_wp2_with (go_at_call 19; refine (ecGood_c _ _ _).mono ?_; rintro e w' ⟨rfl, hb⟩; have hz_ := hb.size; (try simp only [World.size_alloc, heap_drew, World.heap_drewN, size_setCell] at hz_); have hs0_ : w.heap.size < w'.heap.size := (by omega); have hk0_ := fun o => (bcell hb).1 (w.heap.size) o (by (try simp only [World.size_alloc, heap_drew, World.heap_drewN, size_setCell]); omega); have hl0_ := fun o => (bcell hb).2.1 (w.heap.size) o (by (try simp only [World.size_alloc, heap_drew, World.heap_drewN, size_setCell]); omega); have hs1_ : w.heap.size + 1 < w'.heap.size := (by omega); have hk1_ := fun o => (bcell hb).1 (w.heap.size + 1) o (by (try simp only [World.size_alloc, heap_drew, World.heap_drewN, size_setCell]); omega); have hl1_ := fun o => (bcell hb).2.1 (w.heap.size + 1) o (by (try simp only [World.size_alloc, heap_drew, World.heap_drewN, size_setCell]); omega))
      all_goals (go_ret2; exact ⟨by rw [hst.out.1, hst.out.2]; rfl, (by repeat (first | exact Below.refl _ _ | refine below_alloc ?_ _ | refine below_step ?_ (by assumption) | refine Below.drew ?_ | refine Below.setCell ?_ (by first | exact Nat.le_refl _ | exact Nat.le_add_right _ _ | (simp <;> omega)) _ | refine below_drewN ?_ _))⟩)
    · have HT := fun w => icClass_c a b w h1
      change ∀ w, Calls Try.prog 28 _ w (fun e w' => ∃ q : Value × Value, e = .returned (.tuple #[q.1, q.2, .bool (M.clsOk a b)]) ∧ _) at HT
      have HS := Lib.hid fun w => ecSmallest_c c d w h2
      have hcp := Lib.hid (M.clsL_props a b)
      have hil := M.cidx_lo (M.smA c d, M.smB c d) (M.clsL a b).1
      generalize hi : M.cidx (M.smA c d, M.smB c d) (M.clsL a b).1 = i at hil
      have Hi := Lib.hid hi
      clear hi
      cases hn : M.clsOk a b <;> simp only [hn] at HT <;> have HT := Lib.hid HT
      · have hst := Lib.hid (M.st_no3 (c := c) (d := d) hn)
        go_enter Try.func15, Try.ntmps15
        go_wp2_with (go_at_call 19; refine (ecGood_c _ _ _).mono ?_; rintro e w' ⟨rfl, hb⟩; have hz_ := hb.size; (try simp only [World.size_alloc, heap_drew, World.heap_drewN, size_setCell] at hz_); have hs0_ : w.heap.size < w'.heap.size := (by omega); have hk0_ := fun o => (bcell hb).1 (w.heap.size) o (by (try simp only [World.size_alloc, heap_drew, World.heap_drewN, size_setCell]); omega); have hl0_ := fun o => (bcell hb).2.1 (w.heap.size) o (by (try simp only [World.size_alloc, heap_drew, World.heap_drewN, size_setCell]); omega); have hs1_ : w.heap.size + 1 < w'.heap.size := (by omega); have hk1_ := fun o => (bcell hb).1 (w.heap.size + 1) o (by (try simp only [World.size_alloc, heap_drew, World.heap_drewN, size_setCell]); omega); have hl1_ := fun o => (bcell hb).2.1 (w.heap.size + 1) o (by (try simp only [World.size_alloc, heap_drew, World.heap_drewN, size_setCell]); omega))
        refine (HT.out _).mono ?_; rintro e w2 ⟨⟨v2, v3⟩, rfl, hown2, hown3, hb2⟩
        have hz_ := hb2.size; (try simp only [World.size_alloc, heap_drew, World.heap_drewN, size_setCell] at hz_); have hs0_ : w.heap.size < w2.heap.size := (by omega); have hk0_ := fun o => (bcell hb2).1 (w.heap.size) o (by (try simp only [World.size_alloc, heap_drew, World.heap_drewN, size_setCell]); omega); have hl0_ := fun o => (bcell hb2).2.1 (w.heap.size) o (by (try simp only [World.size_alloc, heap_drew, World.heap_drewN, size_setCell]); omega); have hs1_ : w.heap.size + 1 < w2.heap.size := (by omega); have hk1_ := fun o => (bcell hb2).1 (w.heap.size + 1) o (by (try simp only [World.size_alloc, heap_drew, World.heap_drewN, size_setCell]); omega); have hl1_ := fun o => (bcell hb2).2.1 (w.heap.size + 1) o (by (try simp only [World.size_alloc, heap_drew, World.heap_drewN, size_setCell]); omega)
        have s2 := hown2.seen
        go_wp2_with fail
        refine (HS.out _).mono ?_; rintro e w3 ⟨rfl, hb3⟩
        have hz_ := hb3.size; (try simp only [World.size_alloc, heap_drew, World.heap_drewN, size_setCell] at hz_); have hs0_ : w.heap.size < w3.heap.size := (by omega); have hk0_ := fun o => (bcell hb3).1 (w.heap.size) o (by (try simp only [World.size_alloc, heap_drew, World.heap_drewN, size_setCell]); omega); have hl0_ := fun o => (bcell hb3).2.1 (w.heap.size) o (by (try simp only [World.size_alloc, heap_drew, World.heap_drewN, size_setCell]); omega); have hs1_ : w.heap.size + 1 < w3.heap.size := (by omega); have hk1_ := fun o => (bcell hb3).1 (w.heap.size + 1) o (by (try simp only [World.size_alloc, heap_drew, World.heap_drewN, size_setCell]); omega); have hl1_ := fun o => (bcell hb3).2.1 (w.heap.size + 1) o (by (try simp only [World.size_alloc, heap_drew, World.heap_drewN, size_setCell]); omega)
        have z3 := hb3.size
        all_goals go_wp2
        all_goals (go_ret2; exact ⟨by rw [hst.out.1, hst.out.2]; rfl, (by repeat (first | exact Below.refl _ _ | refine below_alloc ?_ _ | refine below_step ?_ (by assumption) | refine Below.drew ?_ | refine Below.setCell ?_ (by first | exact Nat.le_refl _ | exact Nat.le_add_right _ _ | (simp <;> omega)) _ | refine below_drewN ?_ _))⟩)
      · by_cases hneg : i < 0
        · have hst := Lib.hid (M.st_no4 (by rw [Hi.out]; exact hneg))
          go_enter Try.func15, Try.ntmps15
          go_wp2_with (go_at_call 19; refine (ecGood_c _ _ _).mono ?_; rintro e w' ⟨rfl, hb⟩; have hz_ := hb.size; (try simp only [World.size_alloc, heap_drew, World.heap_drewN, size_setCell] at hz_); have hs0_ : w.heap.size < w'.heap.size := (by omega); have hk0_ := fun o => (bcell hb).1 (w.heap.size) o (by (try simp only [World.size_alloc, heap_drew, World.heap_drewN, size_setCell]); omega); have hl0_ := fun o => (bcell hb).2.1 (w.heap.size) o (by (try simp only [World.size_alloc, heap_drew, World.heap_drewN, size_setCell]); omega); have hs1_ : w.heap.size + 1 < w'.heap.size := (by omega); have hk1_ := fun o => (bcell hb).1 (w.heap.size + 1) o (by (try simp only [World.size_alloc, heap_drew, World.heap_drewN, size_setCell]); omega); have hl1_ := fun o => (bcell hb).2.1 (w.heap.size + 1) o (by (try simp only [World.size_alloc, heap_drew, World.heap_drewN, size_setCell]); omega))
          refine (HT.out _).mono ?_; rintro e w2 ⟨⟨v2, v3⟩, rfl, hown2, hown3, hb2⟩
          have hz_ := hb2.size; (try simp only [World.size_alloc, heap_drew, World.heap_drewN, size_setCell] at hz_); have hs0_ : w.heap.size < w2.heap.size := (by omega); have hk0_ := fun o => (bcell hb2).1 (w.heap.size) o (by (try simp only [World.size_alloc, heap_drew, World.heap_drewN, size_setCell]); omega); have hl0_ := fun o => (bcell hb2).2.1 (w.heap.size) o (by (try simp only [World.size_alloc, heap_drew, World.heap_drewN, size_setCell]); omega); have hs1_ : w.heap.size + 1 < w2.heap.size := (by omega); have hk1_ := fun o => (bcell hb2).1 (w.heap.size + 1) o (by (try simp only [World.size_alloc, heap_drew, World.heap_drewN, size_setCell]); omega); have hl1_ := fun o => (bcell hb2).2.1 (w.heap.size + 1) o (by (try simp only [World.size_alloc, heap_drew, World.heap_drewN, size_setCell]); omega)
          have s2 := hown2.seen
          go_wp2_with fail
          refine (HS.out _).mono ?_; rintro e w3 ⟨rfl, hb3⟩
          have hz_ := hb3.size; (try simp only [World.size_alloc, heap_drew, World.heap_drewN, size_setCell] at hz_); have hs0_ : w.heap.size < w3.heap.size := (by omega); have hk0_ := fun o => (bcell hb3).1 (w.heap.size) o (by (try simp only [World.size_alloc, heap_drew, World.heap_drewN, size_setCell]); omega); have hl0_ := fun o => (bcell hb3).2.1 (w.heap.size) o (by (try simp only [World.size_alloc, heap_drew, World.heap_drewN, size_setCell]); omega); have hs1_ : w.heap.size + 1 < w3.heap.size := (by omega); have hk1_ := fun o => (bcell hb3).1 (w.heap.size + 1) o (by (try simp only [World.size_alloc, heap_drew, World.heap_drewN, size_setCell]); omega); have hl1_ := fun o => (bcell hb3).2.1 (w.heap.size + 1) o (by (try simp only [World.size_alloc, heap_drew, World.heap_drewN, size_setCell]); omega)
          have z3 := hb3.size
          go_wp2_with fail
          refine (icAt_c _ _ (M.smA c d, M.smB c d) _ _ (s2.below (below_alloc hb3 _)) (by simp; omega)).mono ?_; rintro e w4 ⟨he, hb4⟩
          rw [Hi.out] at he
          subst he
          have d0 := (hb4.cell (p := ⟨w3.heap.size, 0, none⟩) (by simp)).trans (box_cell w3 #[.int .i64 (M.smA c d), .int .i64 (M.smB c d)] 27 0)
          have d1 := (hb4.cell (p := ⟨w3.heap.size, 1, none⟩) (by simp)).trans (box_cell w3 #[.int .i64 (M.smA c d), .int .i64 (M.smB c d)] 27 1)
          have d2 : w3.heap.size < w4.heap.size := by have := hb4.size; simp at this; omega
          all_goals go_wp2
          all_goals (go_ret2; exact ⟨by rw [hst.out.1, hst.out.2]; rfl, (by repeat (first | exact Below.refl _ _ | refine below_alloc ?_ _ | refine below_step ?_ (by assumption) | refine Below.drew ?_ | refine Below.setCell ?_ (by first | exact Nat.le_refl _ | exact Nat.le_add_right _ _ | (simp <;> omega)) _ | refine below_drewN ?_ _))⟩)
        · obtain ⟨n, rfl⟩ : ∃ n : Nat, i = n := ⟨i.toNat, by omega⟩
          have hnl : n < (M.clsL a b).2.length := by have := hcp.out.1; omega
          obtain ⟨t, ht⟩ : ∃ t, Hid ((M.clsL a b).2[n]? = some t) := ⟨_, Lib.hid (List.getElem?_eq_getElem hnl)⟩
          have hst := Lib.hid (M.st_yes h1 h2 hn Hi.out ht.out)
          go_enter Try.func15, Try.ntmps15
          go_wp2_with (go_at_call 19; refine (ecGood_c _ _ _).mono ?_; rintro e w' ⟨rfl, hb⟩; have hz_ := hb.size; (try simp only [World.size_alloc, heap_drew, World.heap_drewN, size_setCell] at hz_); have hs0_ : w.heap.size < w'.heap.size := (by omega); have hk0_ := fun o => (bcell hb).1 (w.heap.size) o (by (try simp only [World.size_alloc, heap_drew, World.heap_drewN, size_setCell]); omega); have hl0_ := fun o => (bcell hb).2.1 (w.heap.size) o (by (try simp only [World.size_alloc, heap_drew, World.heap_drewN, size_setCell]); omega); have hs1_ : w.heap.size + 1 < w'.heap.size := (by omega); have hk1_ := fun o => (bcell hb).1 (w.heap.size + 1) o (by (try simp only [World.size_alloc, heap_drew, World.heap_drewN, size_setCell]); omega); have hl1_ := fun o => (bcell hb).2.1 (w.heap.size + 1) o (by (try simp only [World.size_alloc, heap_drew, World.heap_drewN, size_setCell]); omega))
          refine (HT.out _).mono ?_; rintro e w2 ⟨⟨v2, v3⟩, rfl, hown2, hown3, hb2⟩
          have hz_ := hb2.size; (try simp only [World.size_alloc, heap_drew, World.heap_drewN, size_setCell] at hz_); have hs0_ : w.heap.size < w2.heap.size := (by omega); have hk0_ := fun o => (bcell hb2).1 (w.heap.size) o (by (try simp only [World.size_alloc, heap_drew, World.heap_drewN, size_setCell]); omega); have hl0_ := fun o => (bcell hb2).2.1 (w.heap.size) o (by (try simp only [World.size_alloc, heap_drew, World.heap_drewN, size_setCell]); omega); have hs1_ : w.heap.size + 1 < w2.heap.size := (by omega); have hk1_ := fun o => (bcell hb2).1 (w.heap.size + 1) o (by (try simp only [World.size_alloc, heap_drew, World.heap_drewN, size_setCell]); omega); have hl1_ := fun o => (bcell hb2).2.1 (w.heap.size + 1) o (by (try simp only [World.size_alloc, heap_drew, World.heap_drewN, size_setCell]); omega)
          have s2 := hown2.seen
          go_wp2_with fail
          refine (HS.out _).mono ?_; rintro e w3 ⟨rfl, hb3⟩
          have hz_ := hb3.size; (try simp only [World.size_alloc, heap_drew, World.heap_drewN, size_setCell] at hz_); have hs0_ : w.heap.size < w3.heap.size := (by omega); have hk0_ := fun o => (bcell hb3).1 (w.heap.size) o (by (try simp only [World.size_alloc, heap_drew, World.heap_drewN, size_setCell]); omega); have hl0_ := fun o => (bcell hb3).2.1 (w.heap.size) o (by (try simp only [World.size_alloc, heap_drew, World.heap_drewN, size_setCell]); omega); have hs1_ : w.heap.size + 1 < w3.heap.size := (by omega); have hk1_ := fun o => (bcell hb3).1 (w.heap.size + 1) o (by (try simp only [World.size_alloc, heap_drew, World.heap_drewN, size_setCell]); omega); have hl1_ := fun o => (bcell hb3).2.1 (w.heap.size + 1) o (by (try simp only [World.size_alloc, heap_drew, World.heap_drewN, size_setCell]); omega)
          have z3 := hb3.size
          go_wp2_with fail
          refine (icAt_c _ _ (M.smA c d, M.smB c d) _ _ (s2.below (below_alloc hb3 _)) (by simp; omega)).mono ?_; rintro e w4 ⟨he, hb4⟩
          rw [Hi.out] at he
          subst he
          have d0 := (hb4.cell (p := ⟨w3.heap.size, 0, none⟩) (by simp)).trans (box_cell w3 #[.int .i64 (M.smA c d), .int .i64 (M.smB c d)] 27 0)
          have d1 := (hb4.cell (p := ⟨w3.heap.size, 1, none⟩) (by simp)).trans (box_cell w3 #[.int .i64 (M.smA c d), .int .i64 (M.smB c d)] 27 1)
          have d2 : w3.heap.size < w4.heap.size := by have := hb4.size; simp at this; omega
          obtain ⟨g8, cap8, rfl, hg8, hgs8⟩ := hown3.form (by omega)
          have e8 := OwnI.cellAt rfl hown3 ht.out
          have e9 := (hb4.cell (p := ⟨g8, n, none⟩) (by simp; omega)).trans (((below_alloc hb3 _).cell (p := ⟨g8, n, none⟩) hgs8).trans e8)
          go_wp2_with fail
          refine (icAt_c _ _ (M.smA c d, M.smB c d) _ _ (s2.below ((below_alloc hb3 _).trans (hb4.mono (by simp; omega)))) (by omega)).mono ?_; rintro e w5 ⟨he, hb5⟩
          rw [Hi.out] at he
          subst he
          have e10 := (hb5.cell (p := ⟨g8, n, none⟩) (by show g8 < _; omega)).trans e9
          go_wp2
          all_goals (go_ret2; exact ⟨by rw [hst.out.1, hst.out.2]; rfl, (by repeat (first | exact Below.refl _ _ | refine below_alloc ?_ _ | refine below_step ?_ (by assumption) | refine Below.drew ?_ | refine Below.setCell ?_ (by first | exact Nat.le_refl _ | exact Nat.le_add_right _ _ | (simp <;> omega)) _ | refine below_drewN ?_ _))⟩)
end Go.Proofs.Ythacknphhjmliaa
