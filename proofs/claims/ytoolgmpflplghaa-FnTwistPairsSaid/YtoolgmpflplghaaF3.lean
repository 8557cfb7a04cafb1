/-
  Contracts: the twist between two curves.
-/
import Derived.Test.YtoolgmpflplghaaF2
namespace Go.Proofs.Ytoolgmpflplghaa
set_option linter.unusedSimpArgs false
set_option linter.unusedVariables false
open Go.RowKit Go.Shelf

namespace M
theorem find_at {q : Int → Bool} : ∀ {l : List Int} {k : Nat} {d : Int}, l[k]? = some d → q d = true → (∀ j x, j < k → l[j]? = some x → q x = false) → l.find? q = some d
  | [], _, _, h, _, _ => by simp at h
  | x :: l, 0, d, h, hq, _ => by
    simp only [List.getElem?_cons_zero, Option.some.injEq] at h
    subst h
    simp [List.find?_cons, hq]
  | x :: l, k + 1, d, h, hq, hn => by
    have h0 := hn 0 x (by omega) rfl
    rw [List.find?_cons, h0]
    exact find_at (k := k) (by simpa using h) hq fun j y hj hy => hn (j + 1) y (by omega) (by simpa using hy)
theorem find_no {q : Int → Bool} {l : List Int} (h : ∀ (j : Nat) x, l[j]? = some x → q x = false) : l.find? q = none := by
  rw [List.find?_eq_none]
  intro x hx
  obtain ⟨j, hj⟩ := List.getElem?_of_mem hx
  simp [h j x hj]
def btQ (a b c e d : Int) : Bool := same (a * d * d) (b * d * d * d) c e
def btw (a b c e : Int) : Option Int := (nearOk a b).find? (btQ a b c e)
def btOk (a b c e : Int) : Bool := good a b && good c e && (btw a b c e).isSome
def btV (a b c e : Int) : Int := if btOk a b c e then (btw a b c e).getD 0 else 0
theorem bt_no {a b c e : Int} (h : btOk a b c e = false) : btV a b c e = 0 ∧ btOk a b c e = false := ⟨by unfold btV; rw [h]; rfl, h⟩
theorem bt_no1 {a b c e : Int} (h : good a b = false) : btV a b c e = 0 ∧ btOk a b c e = false := bt_no (by simp [btOk, h])
theorem bt_no2 {a b c e : Int} (h : good c e = false) : btV a b c e = 0 ∧ btOk a b c e = false := bt_no (by simp [btOk, h])
theorem bt_no3 {a b c e : Int} (h : btw a b c e = none) : btV a b c e = 0 ∧ btOk a b c e = false := bt_no (by simp [btOk, h])
theorem bt_yes {a b c e d : Int} (h1 : good a b = true) (h2 : good c e = true) (h : btw a b c e = some d) : btV a b c e = d ∧ btOk a b c e = true := by
  have : btOk a b c e = true := by simp [btOk, h1, h2, h]
  exact ⟨by unfold btV; rw [this, h]; rfl, this⟩
theorem nearOk_mem {a b : Int} {k : Nat} {d : Int} (h : (nearOk a b)[k]? = some d) : twOk a b d = true ∧ -30 ≤ d ∧ d ≤ 30 := by
  have hm := List.mem_of_getElem? h
  rw [nearOk, List.mem_filter, mem_near] at hm
  exact ⟨hm.2, by omega, by omega⟩
end M

set_option maxHeartbeats 1000000 in
theorem implTwistBetween_c (a b c e : Int) (w : World) :
    Calls Try.prog 32 #[.agg #[.int .i64 a, .int .i64 b], .agg #[.int .i64 c, .int .i64 e]] w fun r w' => r = .returned (.tuple #[.int .i64 (M.btV a b c e), .bool (M.btOk a b c e)]) ∧ Below w.heap.size w w' := by
  cases h1 : M.good a b
  · have hst := Lib.hid (M.bt_no1 (c := c) (e := e) h1)
    go_enter Try.func32, Try.ntmps32
    go_wp2_with (go_at_call 46; refine (isCurve_c _ _ _).mono ?_; rintro e w' ⟨rfl, hb⟩; have hz_ := hb.size; (try simp only [World.size_alloc, heap_drew, World.heap_drewN, size_setCell] at hz_); have hs0_ : w.heap.size < w'.heap.size := (by omega); have hk0_ := fun o => (bcell hb).1 (w.heap.size) o (by (try simp only [World.size_alloc, heap_drew, World.heap_drewN, size_setCell]); omega); have hl0_ := fun o => (bcell hb).2.1 (w.heap.size) o (by (try simp only [World.size_alloc, heap_drew, World.heap_drewN, size_setCell]); omega); have hs1_ : w.heap.size + 1 < w'.heap.size := (by omega); have hk1_ := fun o => (bcell hb).1 (w.heap.size + 1) o (by (try simp only [World.size_alloc, heap_drew, World.heap_drewN, size_setCell]); omega); have hl1_ := fun o => (bcell hb).2.1 (w.heap.size + 1) o (by (try simp only [World.size_alloc, heap_drew, World.heap_drewN, size_setCell]); omega))
    all_goals (go_ret2; exact ⟨by rw [hst.out.1, hst.out.2]; rfl, (by repeat (first | exact Below.refl _ _ | refine below_alloc ?_ _ | refine below_step ?_ (by assumption) | refine Below.drew ?_ | refine Below.setCell ?_ (by first | exact Nat.le_refl _ | exact Nat.le_add_right _ _ | (simp <;> omega)) _ | refine below_drewN ?_ _))⟩)
  · cases h2 : M.good c e
    · have hst := Lib.hid (M.bt_no2 (a := a) (b := b) h2)
      go_enter Try.func32, Try.ntmps32
      go_wp2_with (go_at_call 46; refine (isCurve_c _ _ _).mono ?_; rintro e w' ⟨rfl, hb⟩; have hz_ := hb.size; (try simp only [World.size_alloc, heap_drew, World.heap_drewN, size_setCell] at hz_); have hs0_ : w.heap.size < w'.heap.size := (by omega); have hk0_ := fun o => (bcell hb).1 (w.heap.size) o (by (try simp only [World.size_alloc, heap_drew, World.heap_drewN, size_setCell]); omega); have hl0_ := fun o => (bcell hb).2.1 (w.heap.size) o (by (try simp only [World.size_alloc, heap_drew, World.heap_drewN, size_setCell]); omega); have hs1_ : w.heap.size + 1 < w'.heap.size := (by omega); have hk1_ := fun o => (bcell hb).1 (w.heap.size + 1) o (by (try simp only [World.size_alloc, heap_drew, World.heap_drewN, size_setCell]); omega); have hl1_ := fun o => (bcell hb).2.1 (w.heap.size + 1) o (by (try simp only [World.size_alloc, heap_drew, World.heap_drewN, size_setCell]); omega))
      all_goals (go_ret2; exact ⟨by rw [hst.out.1, hst.out.2]; rfl, (by repeat (first | exact Below.refl _ _ | refine below_alloc ?_ _ | refine below_step ?_ (by assumption) | refine Below.drew ?_ | refine Below.setCell ?_ (by first | exact Nat.le_refl _ | exact Nat.le_add_right _ _ | (simp <;> omega)) _ | refine below_drewN ?_ _))⟩)
    · have HS := Lib.hid fun w => smallest_c c e w h2
      have HT := Lib.hid fun w => twistsOf_c a b w (M.good_in h1)
      have hbq := Lib.hid (show M.btw a b c e = (M.nearOk a b).find? (M.btQ a b c e) from rfl)
      have hbd : ∀ d, M.btQ a b c e d = (M.smA (a * d * d) (b * d * d * d) == M.smA c e && M.smB (a * d * d) (b * d * d * d) == M.smB c e) := fun d => rfl
      generalize hq : M.btQ a b c e = q at hbq hbd
      have hbd := Lib.hid hbd
      clear hq
      generalize M.smA c e = y1 at *
      generalize M.smB c e = y2 at *
      generalize M.sm c e = y3 at *
      go_enter Try.func32, Try.ntmps32
      go_wp2_with (go_at_call 46; refine (isCurve_c _ _ _).mono ?_; rintro e w' ⟨rfl, hb⟩; have hz_ := hb.size; (try simp only [World.size_alloc, heap_drew, World.heap_drewN, size_setCell] at hz_); have hs0_ : w.heap.size < w'.heap.size := (by omega); have hk0_ := fun o => (bcell hb).1 (w.heap.size) o (by (try simp only [World.size_alloc, heap_drew, World.heap_drewN, size_setCell]); omega); have hl0_ := fun o => (bcell hb).2.1 (w.heap.size) o (by (try simp only [World.size_alloc, heap_drew, World.heap_drewN, size_setCell]); omega); have hs1_ : w.heap.size + 1 < w'.heap.size := (by omega); have hk1_ := fun o => (bcell hb).1 (w.heap.size + 1) o (by (try simp only [World.size_alloc, heap_drew, World.heap_drewN, size_setCell]); omega); have hl1_ := fun o => (bcell hb).2.1 (w.heap.size + 1) o (by (try simp only [World.size_alloc, heap_drew, World.heap_drewN, size_setCell]); omega))
      refine (HS.out _).mono ?_; rintro r w1 ⟨rfl, hb1⟩
      have hz_ := hb1.size; (try simp only [World.size_alloc, heap_drew, World.heap_drewN, size_setCell] at hz_); have hs0_ : w.heap.size < w1.heap.size := (by omega); have hk0_ := fun o => (bcell hb1).1 (w.heap.size) o (by (try simp only [World.size_alloc, heap_drew, World.heap_drewN, size_setCell]); omega); have hl0_ := fun o => (bcell hb1).2.1 (w.heap.size) o (by (try simp only [World.size_alloc, heap_drew, World.heap_drewN, size_setCell]); omega); have hs1_ : w.heap.size + 1 < w1.heap.size := (by omega); have hk1_ := fun o => (bcell hb1).1 (w.heap.size + 1) o (by (try simp only [World.size_alloc, heap_drew, World.heap_drewN, size_setCell]); omega); have hl1_ := fun o => (bcell hb1).2.1 (w.heap.size + 1) o (by (try simp only [World.size_alloc, heap_drew, World.heap_drewN, size_setCell]); omega)
      have B1 : Below w.heap.size w w1 := (by repeat (first | exact Below.refl _ _ | refine below_alloc ?_ _ | refine below_step ?_ (by assumption) | refine Below.drew ?_ | refine Below.setCell ?_ (by first | exact Nat.le_refl _ | exact Nat.le_add_right _ _ | (simp <;> omega)) _ | refine below_drewN ?_ _))
      go_wp2_with fail
      refine (HT.out _).mono ?_; rintro r w2 ⟨v2, rfl, hown2, hb2⟩
      have z2 := hb2.size
      go_wp2_with fail
      refine (nearestFirst_c a b _ _ _ hown2 z2).mono ?_; rintro r w3 ⟨rfl, hown3, hb3⟩
      have hzz : w.heap.size + 1 < w1.heap.size := by omega
      have c0 : (w1.alloc (.cells #[.int .i64 y1, .int .i64 y2] 23)).cell? ⟨w.heap.size, 0, none⟩ = some (.int .i64 a) := by simp [go_sem, *]
      have c1 : (w1.alloc (.cells #[.int .i64 y1, .int .i64 y2] 23)).cell? ⟨w.heap.size, 1, none⟩ = some (.int .i64 b) := by simp [go_sem, *]
      have hB : Below (w1.alloc (.cells #[.int .i64 y1, .int .i64 y2] 23)).heap.size (w1.alloc (.cells #[.int .i64 y1, .int .i64 y2] 23)) w3 := hb2.trans hb3
      have z3 : w1.heap.size + 1 ≤ w3.heap.size := by have := hB.size; simpa using this
      have d0 : w3.cell? ⟨w.heap.size, 0, none⟩ = some (.int .i64 a) := (hB.cell (by simp; omega)).trans c0
      have d1 : w3.cell? ⟨w.heap.size, 1, none⟩ = some (.int .i64 b) := (hB.cell (by simp; omega)).trans c1
      have d2 : w3.cell? ⟨w1.heap.size, 0, none⟩ = some (.int .i64 y1) := (hB.cell (by simp)).trans (box_cell _ _ _ _)
      have d3 : w3.cell? ⟨w1.heap.size, 1, none⟩ = some (.int .i64 y2) := (hB.cell (by simp)).trans (box_cell _ _ _ _)
      have B3 : Below w.heap.size w w3 := (below_alloc B1 _).trans (hB.mono (by simp; omega))
      obtain ⟨A, cap, rfl, hm, hv⟩ := hown3.seen
      clear c0 c1 hB hb2 hb3 hown2 hown3
      go_wp2
      go_loopw [31] (fun vi wr => ∃ k : Nat, k ≤ (M.nearOk a b).length ∧ vi = .int .i64 k ∧ (∀ j x, j < k → (M.nearOk a b)[j]? = some x → q x = false) ∧ Below w3.heap.size w3 wr) (fun vi _ => (M.nearOk a b).length - (intOf vi).toNat)
      case atStart => exact ⟨0, by omega, rfl, fun j x h => by omega, Below.refl _ _⟩
      case round =>
        obtain ⟨k, hk, rfl, hall, hbr⟩ := hrel
        have Hall := Lib.hid hall
        clear hall
        have hzr := hbr.size
        have f0 := (hbr.cell (p := ⟨w.heap.size, 0, none⟩) (by show w.heap.size < _; omega)).trans d0
        have f1 := (hbr.cell (p := ⟨w.heap.size, 1, none⟩) (by show w.heap.size < _; omega)).trans d1
        have f2 := (hbr.cell (p := ⟨w1.heap.size, 0, none⟩) (by show w1.heap.size < _; omega)).trans d2
        have f3 := (hbr.cell (p := ⟨w1.heap.size, 1, none⟩) (by show w1.heap.size < _; omega)).trans d3
        clear d0 d1 d2 d3
        by_cases hlt : k < (M.nearOk a b).length
        · obtain ⟨g, d, rfl, hg, hx, hcell⟩ := hv k hlt
          have e0 : wr.cell? ⟨g, k, none⟩ = some (.int .i64 d) := (hbr.cell (p := ⟨g, k, none⟩) hg).trans hcell
          clear hv hcell
          obtain ⟨m1, m2, m3⟩ := M.nearOk_mem hx.out
          have HTW := Lib.hid fun w => twist_t a b d w (M.good_in h1) m2 m3 m1
          have HSM := Lib.hid fun w => smallest_c (a * d * d) (b * d * d * d) w m1
          have hqd := Lib.hid (hbd.out d)
          generalize M.smA (a * d * d) (b * d * d * d) = x1 at *
          generalize M.smB (a * d * d) (b * d * d * d) = x2 at *
          generalize M.sm (a * d * d) (b * d * d * d) = x3 at *
          go_wp2_with fail
          refine (HTW.out _).mono ?_; rintro r w4 ⟨rfl, hb4⟩
          have z4 := hb4.size
          go_wp2_with fail
          refine (HSM.out _).mono ?_; rintro r w5 ⟨rfl, hb5⟩
          have z5 : w4.heap.size + 1 ≤ w5.heap.size := by have := hb5.size; simpa using this
          have hb6 : Below wr.heap.size wr w5 := (below_alloc hb4 _).trans (hb5.mono (by simp; omega))
          have g2 := (hb6.cell (p := ⟨w1.heap.size, 0, none⟩) (by show w1.heap.size < _; omega)).trans f2
          have g3 := (hb6.cell (p := ⟨w1.heap.size, 1, none⟩) (by show w1.heap.size < _; omega)).trans f3
          have hs5 : w1.heap.size < w5.heap.size := by have := hb6.size; omega
          cases b1 : (x1 == y1) <;> cases b2 : (x2 == y2)
          case true.true =>
            have hst := Lib.hid (M.bt_yes h1 h2 (hbq.out.trans (M.find_at hx.out (by rw [hqd.out, b1, b2]; rfl) Hall.out)))
            go_wp2
            go_ret2
            exact ⟨by rw [hst.out.1, hst.out.2]; rfl, B3.trans ((below_alloc (hbr.trans (hb6.mono hzr)) _).mono (by omega))⟩
          all_goals
            have hnx : Hid (∀ j x, j < k + 1 → (M.nearOk a b)[j]? = some x → q x = false) := Lib.hid fun j x hj hy => by
              rcases Nat.lt_or_ge j k with hh | hh
              · exact Hall.out j x hh hy
              · obtain rfl : j = k := by omega
                obtain rfl := Option.some.inj (hx.out.symm.trans hy)
                rw [hqd.out, b1, b2]; rfl
            go_wp2
            go_roundw
            case rel => exact ⟨k + 1, by omega, by go_num, hnx.out, below_alloc (hbr.trans (hb6.mono hzr)) _⟩
            case measure => simp [intOf]; omega
        · have hst := Lib.hid (M.bt_no3 (hbq.out.trans (M.find_no fun j x hx => Hall.out j x (by have := (List.getElem?_eq_some_iff.1 hx).1; omega) hx)))
          obtain rfl : k = (M.nearOk a b).length := by omega
          go_wp2
          go_ret2
          exact ⟨by rw [hst.out.1, hst.out.2]; rfl, B3.trans (hbr.mono (by omega))⟩

theorem M.btw_near (a b c e : Int) : M.btw a b c e = (M.near 30).find? (fun d => M.twOk a b d && M.btQ a b c e d) := by
  unfold M.btw M.nearOk
  rw [List.find?_filter]
  congr 1
  funext x
  cases M.twOk a b x <;> cases M.btQ a b c e x <;> rfl

set_option maxHeartbeats 1000000 in
theorem specTwistBetween_c (a b c e : Int) (w : World) :
    Calls Try.prog 33 #[.agg #[.int .i64 a, .int .i64 b], .agg #[.int .i64 c, .int .i64 e]] w fun r w' => r = .returned (.tuple #[.int .i64 (M.btV a b c e), .bool (M.btOk a b c e)]) ∧ Below w.heap.size w w' := by
  cases h1 : M.good a b
  · have hst := Lib.hid (M.bt_no1 (c := c) (e := e) h1)
    go_enter Try.func33, Try.ntmps33
    go_wp2_with (go_at_call 50; refine (ecGood_c _ _ _).mono ?_; rintro e w' ⟨rfl, hb⟩; have hz_ := hb.size; (try simp only [World.size_alloc, heap_drew, World.heap_drewN, size_setCell] at hz_); have hs0_ : w.heap.size < w'.heap.size := (by omega); have hk0_ := fun o => (bcell hb).1 (w.heap.size) o (by (try simp only [World.size_alloc, heap_drew, World.heap_drewN, size_setCell]); omega); have hl0_ := fun o => (bcell hb).2.1 (w.heap.size) o (by (try simp only [World.size_alloc, heap_drew, World.heap_drewN, size_setCell]); omega); have hs1_ : w.heap.size + 1 < w'.heap.size := (by omega); have hk1_ := fun o => (bcell hb).1 (w.heap.size + 1) o (by (try simp only [World.size_alloc, heap_drew, World.heap_drewN, size_setCell]); omega); have hl1_ := fun o => (bcell hb).2.1 (w.heap.size + 1) o (by (try simp only [World.size_alloc, heap_drew, World.heap_drewN, size_setCell]); omega))
    all_goals (go_ret2; exact ⟨by rw [hst.out.1, hst.out.2]; rfl, (by repeat (first | exact Below.refl _ _ | refine below_alloc ?_ _ | refine below_step ?_ (by assumption) | refine Below.drew ?_ | refine Below.setCell ?_ (by first | exact Nat.le_refl _ | exact Nat.le_add_right _ _ | (simp <;> omega)) _ | refine below_drewN ?_ _))⟩)
  · cases h2 : M.good c e
    · have hst := Lib.hid (M.bt_no2 (a := a) (b := b) h2)
      go_enter Try.func33, Try.ntmps33
      go_wp2_with (go_at_call 50; refine (ecGood_c _ _ _).mono ?_; rintro e w' ⟨rfl, hb⟩; have hz_ := hb.size; (try simp only [World.size_alloc, heap_drew, World.heap_drewN, size_setCell] at hz_); have hs0_ : w.heap.size < w'.heap.size := (by omega); have hk0_ := fun o => (bcell hb).1 (w.heap.size) o (by (try simp only [World.size_alloc, heap_drew, World.heap_drewN, size_setCell]); omega); have hl0_ := fun o => (bcell hb).2.1 (w.heap.size) o (by (try simp only [World.size_alloc, heap_drew, World.heap_drewN, size_setCell]); omega); have hs1_ : w.heap.size + 1 < w'.heap.size := (by omega); have hk1_ := fun o => (bcell hb).1 (w.heap.size + 1) o (by (try simp only [World.size_alloc, heap_drew, World.heap_drewN, size_setCell]); omega); have hl1_ := fun o => (bcell hb).2.1 (w.heap.size + 1) o (by (try simp only [World.size_alloc, heap_drew, World.heap_drewN, size_setCell]); omega))
      all_goals (go_ret2; exact ⟨by rw [hst.out.1, hst.out.2]; rfl, (by repeat (first | exact Below.refl _ _ | refine below_alloc ?_ _ | refine below_step ?_ (by assumption) | refine Below.drew ?_ | refine Below.setCell ?_ (by first | exact Nat.le_refl _ | exact Nat.le_add_right _ _ | (simp <;> omega)) _ | refine below_drewN ?_ _))⟩)
    · have hbq := Lib.hid (M.btw_near a b c e)
      have HN := Lib.hid fun w => twNumbers_c w
      go_enter Try.func33, Try.ntmps33
      go_wp2_with (go_at_call 50; refine (ecGood_c _ _ _).mono ?_; rintro e w' ⟨rfl, hb⟩; have hz_ := hb.size; (try simp only [World.size_alloc, heap_drew, World.heap_drewN, size_setCell] at hz_); have hs0_ : w.heap.size < w'.heap.size := (by omega); have hk0_ := fun o => (bcell hb).1 (w.heap.size) o (by (try simp only [World.size_alloc, heap_drew, World.heap_drewN, size_setCell]); omega); have hl0_ := fun o => (bcell hb).2.1 (w.heap.size) o (by (try simp only [World.size_alloc, heap_drew, World.heap_drewN, size_setCell]); omega); have hs1_ : w.heap.size + 1 < w'.heap.size := (by omega); have hk1_ := fun o => (bcell hb).1 (w.heap.size + 1) o (by (try simp only [World.size_alloc, heap_drew, World.heap_drewN, size_setCell]); omega); have hl1_ := fun o => (bcell hb).2.1 (w.heap.size + 1) o (by (try simp only [World.size_alloc, heap_drew, World.heap_drewN, size_setCell]); omega))
      refine (HN.out _).mono ?_; rintro r w3 ⟨v3, rfl, hown3, hb3⟩
      have hz_ := hb3.size; (try simp only [World.size_alloc, heap_drew, World.heap_drewN, size_setCell] at hz_); have hs0_ : w.heap.size < w3.heap.size := (by omega); have hk0_ := fun o => (bcell hb3).1 (w.heap.size) o (by (try simp only [World.size_alloc, heap_drew, World.heap_drewN, size_setCell]); omega); have hl0_ := fun o => (bcell hb3).2.1 (w.heap.size) o (by (try simp only [World.size_alloc, heap_drew, World.heap_drewN, size_setCell]); omega); have hs1_ : w.heap.size + 1 < w3.heap.size := (by omega); have hk1_ := fun o => (bcell hb3).1 (w.heap.size + 1) o (by (try simp only [World.size_alloc, heap_drew, World.heap_drewN, size_setCell]); omega); have hl1_ := fun o => (bcell hb3).2.1 (w.heap.size + 1) o (by (try simp only [World.size_alloc, heap_drew, World.heap_drewN, size_setCell]); omega)
      have B3 : Below w.heap.size w w3 := (by repeat (first | exact Below.refl _ _ | refine below_alloc ?_ _ | refine below_step ?_ (by assumption) | refine Below.drew ?_ | refine Below.setCell ?_ (by first | exact Nat.le_refl _ | exact Nat.le_add_right _ _ | (simp <;> omega)) _ | refine below_drewN ?_ _))
      have z3 : w.heap.size + 1 < w3.heap.size := by omega
      have d0 : w3.cell? ⟨w.heap.size, 0, none⟩ = some (.int .i64 a) := by simp [go_sem, *]
      have d1 : w3.cell? ⟨w.heap.size, 1, none⟩ = some (.int .i64 b) := by simp [go_sem, *]
      have d2 : w3.cell? ⟨w.heap.size + 1, 0, none⟩ = some (.int .i64 c) := by simp [go_sem, *]
      have d3 : w3.cell? ⟨w.heap.size + 1, 1, none⟩ = some (.int .i64 e) := by simp [go_sem, *]
      obtain ⟨A, cap, rfl, hm, hv⟩ := hown3.seen
      go_wp2
      go_loopw [20] (fun vi wr => ∃ k : Nat, k ≤ (M.near 30).length ∧ vi = .int .i64 k ∧ (∀ j x, j < k → (M.near 30)[j]? = some x → (M.twOk a b x && M.btQ a b c e x) = false) ∧ Below w3.heap.size w3 wr) (fun vi _ => (M.near 30).length - (intOf vi).toNat)
      case atStart => exact ⟨0, by omega, rfl, fun j x h => by omega, Below.refl _ _⟩
      case round =>
        obtain ⟨k, hk, rfl, hall, hbr⟩ := hrel
        have Hall := Lib.hid hall
        clear hall
        have hzr := hbr.size
        have f0 := (hbr.cell (p := ⟨w.heap.size, 0, none⟩) (by show w.heap.size < _; omega)).trans d0
        have f1 := (hbr.cell (p := ⟨w.heap.size, 1, none⟩) (by show w.heap.size < _; omega)).trans d1
        have f2 := (hbr.cell (p := ⟨w.heap.size + 1, 0, none⟩) (by show w.heap.size + 1 < _; omega)).trans d2
        have f3 := (hbr.cell (p := ⟨w.heap.size + 1, 1, none⟩) (by show w.heap.size + 1 < _; omega)).trans d3
        clear d0 d1 d2 d3
        by_cases hlt : k < (M.near 30).length
        · obtain ⟨g, d, rfl, hg, hx, hcell⟩ := hv k hlt
          have e0 : wr.cell? ⟨g, k, none⟩ = some (.int .i64 d) := (hbr.cell (p := ⟨g, k, none⟩) hg).trans hcell
          clear hv hcell
          have hmn := (M.mem_near 30 d).1 (List.mem_of_getElem? hx.out)
          have m2 : -30 ≤ d := by omega
          have m3 : d ≤ 30 := by omega
          have hstep : (M.twOk a b d && M.btQ a b c e d) = false → Hid (∀ j x, j < k + 1 → (M.near 30)[j]? = some x → (M.twOk a b x && M.btQ a b c e x) = false) := fun hf => Lib.hid fun j x hj hy => by
            rcases Nat.lt_or_ge j k with hh | hh
            · exact Hall.out j x hh hy
            · obtain rfl : j = k := by omega
              obtain rfl := Option.some.inj (hx.out.symm.trans hy)
              exact hf
          cases m1 : M.good (a * d * d) (b * d * d * d)
          · have hnx := hstep (by unfold M.twOk; rw [m1]; rfl)
            have HTW := Lib.hid fun w => twOf_f a b d w (M.good_in h1) m2 m3 m1
            clear hstep
            go_wp2_with fail
            refine (HTW.out _).mono ?_; rintro r w4 ⟨rfl, hb4⟩
            go_wp2
            go_roundw
            case rel => exact ⟨k + 1, by omega, by go_num, hnx.out, below_alloc (hbr.trans (hb4.mono hzr)) _⟩
            case measure => simp [intOf]; omega
          · have HTW := Lib.hid fun w => twOf_t a b d w (M.good_in h1) m2 m3 m1
            have HES := fun w => ecSame_c (a * d * d) (b * d * d * d) c e w m1 h2
            change ∀ w, Calls Try.prog 82 _ w (fun r w' => r = .returned (.bool (M.btQ a b c e d)) ∧ _) at HES
            cases hq : M.btQ a b c e d <;> simp only [hq] at HES <;> have HES := Lib.hid HES
            all_goals
              go_wp2_with fail
              refine (HTW.out _).mono ?_; rintro r w4 ⟨rfl, hb4⟩
              have z4 := hb4.size
              have g2 := (hb4.cell (p := ⟨w.heap.size + 1, 0, none⟩) (by show w.heap.size + 1 < _; omega)).trans f2
              have g3 := (hb4.cell (p := ⟨w.heap.size + 1, 1, none⟩) (by show w.heap.size + 1 < _; omega)).trans f3
              have hs4 : w.heap.size + 1 < w4.heap.size := by omega
              go_wp2_with fail
              refine (HES.out _).mono ?_; rintro r w5 ⟨rfl, hb5⟩
              have hb6 : Below wr.heap.size wr w5 := (below_alloc hb4 _).trans (hb5.mono (by simp; omega))
            · have hnx := hstep (by rw [hq]; simp)
              go_wp2
              go_roundw
              case rel => exact ⟨k + 1, by omega, by go_num, hnx.out, hbr.trans (hb6.mono hzr)⟩
              case measure => simp [intOf]; omega
            · have hst := Lib.hid (M.bt_yes h1 h2 (hbq.out.trans (M.find_at hx.out (by unfold M.twOk; rw [hq, m1]; rfl) Hall.out)))
              go_wp2
              go_ret2
              exact ⟨by rw [hst.out.1, hst.out.2]; rfl, B3.trans ((hbr.trans (hb6.mono hzr)).mono (by omega))⟩
        · have hst := Lib.hid (M.bt_no3 (hbq.out.trans (M.find_no fun j x hx => Hall.out j x (by have := (List.getElem?_eq_some_iff.1 hx).1; omega) hx)))
          obtain rfl : k = (M.near 30).length := by omega
          go_wp2
          go_ret2
          exact ⟨by rw [hst.out.1, hst.out.2]; rfl, B3.trans (hbr.mono (by omega))⟩
end Go.Proofs.Ytoolgmpflplghaa
