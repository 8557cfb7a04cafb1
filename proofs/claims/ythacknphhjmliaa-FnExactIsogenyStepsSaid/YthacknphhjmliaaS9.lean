/-
  Slices of curves, marked and held by a law.
-/
import Derived.Test.YthacknphhjmliaaE6
import Derived.Test.YthacknphhjmliaaE5
import Derived.Test.YthacknphhjmliaaS2
import Derived.Test.YthacknphhjmliaaL1
namespace Go.Proofs.Ythacknphhjmliaa
set_option linter.unusedSimpArgs false
set_option linter.unusedVariables false
open Go.RowKit Go.Shelf

theorem eqCurveS_c (v u : Value) (xs ys : List (Int × Int)) (w : World) (h1 h2 : Nat) (hx : Rw.Seen EC w h1 v xs) (hy : Rw.Seen EC w h2 u ys) (hh1 : h1 ≤ w.heap.size) (hh2 : h2 ≤ w.heap.size) :
    Calls Try.prog 10 #[v, u] w fun e w' => e = .returned (.bool (decide (xs = ys))) ∧ Below w.heap.size w w' := by
  obtain ⟨a, cap, rfl, hm, hm2, hv⟩ := hx
  obtain ⟨a', cap', rfl, hm', hm2', hv'⟩ := hy
  by_cases hl : xs.length = ys.length
  · have hl' := Lib.hid hl
    rw [hl] at hv hm ⊢
    clear hl
    go_enter Try.func10, Try.ntmps10
    go_wp2
    go_loopw [5] (fun vi wr => ∃ k : Nat, k ≤ ys.length ∧ vi = .int .i64 k ∧ (∀ j : Nat, j < k → xs[j]? = ys[j]?) ∧ Below w.heap.size w wr) (fun vi _ => ys.length - (intOf vi).toNat)
    case atStart => exact ⟨0, by omega, rfl, fun j h => by omega, Below.refl _ _⟩
    case round =>
      obtain ⟨k, hk, rfl, hall, hbr⟩ := hrel
      have Hall := Lib.hid hall
      clear hall
      by_cases hlt : k < ys.length
      · obtain ⟨g, x, rfl, hg, hx, hcell⟩ := hv k (by omega)
        obtain ⟨g', y, rfl, hg', hy, hcell'⟩ := hv' k hlt
        have e0 : wr.cell? ⟨g, k * 2, none⟩ = some (.int .i64 x.1) := (hbr.cell (p := ⟨g, k * 2, none⟩) (Nat.lt_of_lt_of_le hg hh1)).trans (hcell 0 _ rfl)
        have e1 : wr.cell? ⟨g, k * 2 + 1, none⟩ = some (.int .i64 x.2) := (hbr.cell (p := ⟨g, k * 2 + 1, none⟩) (Nat.lt_of_lt_of_le hg hh1)).trans (hcell 1 _ rfl)
        have f0 : wr.cell? ⟨g', k * 2, none⟩ = some (.int .i64 y.1) := (hbr.cell (p := ⟨g', k * 2, none⟩) (Nat.lt_of_lt_of_le hg' hh2)).trans (hcell' 0 _ rfl)
        have f1 : wr.cell? ⟨g', k * 2 + 1, none⟩ = some (.int .i64 y.2) := (hbr.cell (p := ⟨g', k * 2 + 1, none⟩) (Nat.lt_of_lt_of_le hg' hh2)).trans (hcell' 1 _ rfl)
        clear hv hv' hcell hcell'
        have HE := fun w => eqCurve_c x.1 x.2 y.1 y.2 w
        cases b1 : (x.1 == y.1 && x.2 == y.2) <;> simp only [b1] at HE <;> have HE := Lib.hid HE
        · have hne : Hid (decide (xs = ys) = false) := Lib.hid (by
            rw [decide_eq_false_iff_not]
            intro he
            have h1 := hx.out
            rw [he, hy.out] at h1
            obtain rfl := Option.some.inj h1
            simp at b1)
          go_wp2
          first | go_region_held3 (fun W => W.cell? ⟨g, k * 2, none⟩ = some (.int .i64 x.1) ∧ W.cell? ⟨g, k * 2 + 1, none⟩ = some (.int .i64 x.2) ∧ W.cell? ⟨g', k * 2, none⟩ = some (.int .i64 y.1) ∧ W.cell? ⟨g', k * 2 + 1, none⟩ = some (.int .i64 y.2)) (first | exact ⟨keepCell (by assumption) (by assumption), keepCell (by assumption) (by assumption), keepCell (by assumption) (by assumption), keepCell (by assumption) (by assumption)⟩ | (go_split_ands; exact ⟨keepCell (by assumption) (by assumption), keepCell (by assumption) (by assumption), keepCell (by assumption) (by assumption), keepCell (by assumption) (by assumption)⟩) | go_keep) ((go_at_call 23; (with_reducible refine (HE.out _).mono ?_); rintro e w2 ⟨rfl, hb2⟩)) | fail
          go_wp2
          go_ret
          exact ⟨ret_b hne.out.symm, hbr.trans (below_mono' hb2 hbr.size)⟩
        · have hxy : Hid (x = y) := Lib.hid (by
            simp only [Bool.and_eq_true, beq_iff_eq] at b1
            exact Prod.ext b1.1 b1.2)
          go_wp2
          first | go_region_held3 (fun W => W.cell? ⟨g, k * 2, none⟩ = some (.int .i64 x.1) ∧ W.cell? ⟨g, k * 2 + 1, none⟩ = some (.int .i64 x.2) ∧ W.cell? ⟨g', k * 2, none⟩ = some (.int .i64 y.1) ∧ W.cell? ⟨g', k * 2 + 1, none⟩ = some (.int .i64 y.2)) (first | exact ⟨keepCell (by assumption) (by assumption), keepCell (by assumption) (by assumption), keepCell (by assumption) (by assumption), keepCell (by assumption) (by assumption)⟩ | (go_split_ands; exact ⟨keepCell (by assumption) (by assumption), keepCell (by assumption) (by assumption), keepCell (by assumption) (by assumption), keepCell (by assumption) (by assumption)⟩) | go_keep) ((go_at_call 23; (with_reducible refine (HE.out _).mono ?_); rintro e w2 ⟨rfl, hb2⟩)) | fail
          go_wp2
          go_roundw
          case rel => exact ⟨k + 1, by omega, by go_num, fun j hj => if q : j = k then by rw [q, hx.out, hy.out, hxy.out] else Hall.out j (by omega), hbr.trans (below_mono' hb2 hbr.size)⟩
          case measure => simp [intOf]; omega
      · obtain rfl : k = ys.length := by omega
        clear hv hv'
        go_wp2
        go_ret
        refine ⟨ret_b ?_, hbr⟩
        symm
        rw [decide_eq_true_iff]
        refine List.ext_getElem? fun j => ?_
        rcases Nat.lt_or_ge j ys.length with q | q
        · exact Hall.out j q
        · rw [List.getElem?_eq_none q, List.getElem?_eq_none (by have := hl'.out; omega)]
  · have hne : Hid (decide (xs = ys) = false) := Lib.hid (by
      rw [decide_eq_false_iff_not]
      exact fun he => hl (by rw [he]))
    have hl2 : ¬ ((xs.length : Int) = ys.length) := by omega
    clear hv hv'
    go_enter Try.func10, Try.ntmps10
    go_wp2
    go_ret
    exact ⟨ret_b hne.out.symm, (by repeat (first | exact Below.refl _ _ | refine below_alloc ?_ _ | refine below_step ?_ (by assumption) | refine Below.drew ?_ | refine Below.setCell ?_ (by first | exact Nat.le_refl _ | exact Nat.le_add_right _ _ | (simp <;> omega)) _ | refine below_drewN ?_ _))⟩

/-- the numbers from k on, two a curve -/
def M.cmark (k : Int) (i : Nat) : Int × Int := (k + 2 * i, k + 2 * i + 1)
def M.cmarks (k : Int) (n : Nat) : List (Int × Int) := (List.range n).map (M.cmark k)
theorem M.cmarks_len (k : Int) (n : Nat) : (M.cmarks k n).length = n := by simp [M.cmarks]
theorem M.cmarks_get {k : Int} {n j : Nat} (h : j < n) : (M.cmarks k n)[j]? = some (M.cmark k j) := by simp [M.cmarks, h]
theorem M.cmarks_step {k : Int} {j : Nat} {xs : List (Int × Int)} (h : j < xs.length) : (M.cmarks k j ++ xs.drop j).set j (M.cmark k j) = M.cmarks k (j + 1) ++ xs.drop (j + 1) := by
  have hl := M.cmarks_len k j
  rw [List.set_append_right _ _ (by omega)]
  rw [hl, Nat.sub_self, List.drop_eq_getElem_cons h, List.set_cons_zero]
  unfold M.cmarks
  rw [List.range_succ, List.map_append]
  simp

theorem markCurveS_c (v : Value) (xs : List (Int × Int)) (k : Int) (w : World) (base : Nat) (hx : Rw.Own EC w base v xs) (h1 : 0 ≤ k) (h2 : k + 2 * xs.length ≤ 4000000000000000000) :
    Calls Try.prog 11 #[v, .int .i64 k] w fun e w' => e = .returned (.int .i64 (k + 2 * xs.length)) ∧ Rw.Own EC w' base v (M.cmarks k xs.length) ∧ w.grownBy w' v.ownBlock := by
  rcases hx.forms with ⟨rfl, rfl⟩ | ⟨g, cap, rfl, hg, hgs, hc, hc2⟩
  · go_enter Try.func11, Try.ntmps11
    go_wp2
    go_loop [1, 5] (fun vk vi => vk = .int .i64 k ∧ vi = .int .i64 0) (fun _ _ => 0)
    case atStart => exact ⟨rfl, rfl⟩
    case round =>
      obtain ⟨rfl, rfl⟩ := hrel
      go_wp2
      go_ret
      exact ⟨ret_i (by simp), hx, grown_rf _ _⟩
  · go_enter Try.func11, Try.ntmps11
    go_wp2
    go_loopw [1, 5] (fun vk vi wr => ∃ j : Nat, j ≤ xs.length ∧ vi = .int .i64 j ∧ vk = .int .i64 (k + 2 * j) ∧ Rw.Own EC wr base (.slice (some ⟨g, 0, none⟩) xs.length cap) (M.cmarks k j ++ xs.drop j) ∧ w.grownBy wr (some g)) (fun _ vi _ => xs.length - (intOf vi).toNat)
    case atStart => exact ⟨0, by omega, rfl, by simp, by simpa [M.cmarks] using hx, grown_rf _ _⟩
    case round =>
      obtain ⟨j, hj, rfl, rfl, hown, hgr⟩ := hrel
      have hlen : (M.cmarks k j ++ xs.drop j).length = xs.length := by rw [List.length_append, M.cmarks_len, List.length_drop]; omega
      by_cases hlt : j < xs.length
      · have hj0 : (M.cmarks k j ++ xs.drop j)[j]? = some xs[j] := by
          rw [List.getElem?_append_right (by rw [M.cmarks_len]; omega), M.cmarks_len, Nat.sub_self, List.getElem?_drop]
          simp [hlt]
        obtain ⟨c0, c1, f0, f1⟩ := cellC hlen.symm hown hj0
        have hst := Lib.hid (setC hlen.symm hown hlt (M.cmark k j) (M.cmarks_step hlt).symm)
        generalize xs[j] = y at *
        clear hlen hj0
        go_wp2
        go_roundw
        case rel => exact ⟨j + 1, by omega, by go_num, by congr 1; omega, hst.out.1, grown_tr hgr hst.out.2⟩
        case measure => simp [intOf]; omega
      · obtain rfl : j = xs.length := by omega
        clear hlen
        go_wp2
        go_ret
        exact ⟨rfl, by simpa using hown, hgr⟩

theorem heldCurveS_c (v : Value) (n : Nat) (k : Int) (w : World) (base : Nat) (hx : Rw.Own EC w base v (M.cmarks k n)) (h1 : 0 ≤ k) (h2 : k + 2 * n ≤ 4000000000000000000) :
    Calls Try.prog 12 #[v, .int .i64 k] w fun e w' => e = .returned (.int .i64 (k + 2 * n)) ∧ Below w.heap.size w w' := by
  obtain ⟨a, cap, rfl, hm, hm2, hv⟩ := hx.seen
  rw [M.cmarks_len] at hm hv ⊢
  go_enter Try.func12, Try.ntmps12
  go_wp2
  go_loop [1, 5] (fun vk vi => ∃ j : Nat, j ≤ n ∧ vi = .int .i64 j ∧ vk = .int .i64 (k + 2 * j)) (fun _ vi => n - (intOf vi).toNat)
  case atStart => exact ⟨0, by omega, rfl, by simp⟩
  case round =>
    obtain ⟨j, hj, rfl, rfl⟩ := hrel
    by_cases hlt : j < n
    · obtain ⟨g, x, rfl, hg, hx', hcell⟩ := hv j hlt
      rw [M.cmarks_get hlt] at hx'
      obtain rfl := Option.some.inj hx'.out
      have e0 : w.cell? ⟨g, j * 2, none⟩ = some (.int .i64 (k + 2 * j)) := hcell 0 _ rfl
      have e1 : w.cell? ⟨g, j * 2 + 1, none⟩ = some (.int .i64 (k + 2 * j + 1)) := hcell 1 _ rfl
      clear hv hcell
      go_wp2
      go_round
      case rel => exact ⟨j + 1, by omega, by go_num, by congr 1; omega⟩
      case measure => simp [intOf]; omega
    · obtain rfl : j = n := by omega
      clear hv
      go_wp2
      go_ret
      exact ⟨rfl, (by repeat (first | exact Below.refl _ _ | refine below_alloc ?_ _ | refine below_step ?_ (by assumption) | refine Below.drew ?_ | refine Below.setCell ?_ (by first | exact Nat.le_refl _ | exact Nat.le_add_right _ _ | (simp <;> omega)) _ | refine below_drewN ?_ _))⟩
end Go.Proofs.Ythacknphhjmliaa
