/-
  Slices of curves, read, copied and marked by a law.
-/
import Derived.Test.YtpemckpnlemkfaaE2
import Derived.Test.YtpemckpnlemkfaaS2
import Derived.Test.YtpemckpnlemkfaaL1
import Derived.Laws.IdiomCopy
import Derived.Shelf.Abstract
namespace Go.Proofs.Ytpemckpnlemkfaa
set_option linter.unusedSimpArgs false
set_option linter.unusedVariables false
open Go.RowKit Go.Shelf

theorem setC {w : World} {base g n cap j : Nat} {xs : List (Int × Int)} (hn : n = xs.length) (h : Rw.Own EC w base (.slice (some ⟨g, 0, none⟩) n cap) xs) (hj : j < n) (c : Int × Int) {ys : List (Int × Int)} (hy : ys = xs.set j c) :
    Rw.Own EC ((w.setCell ⟨g, j * 2, none⟩ (.int .i64 c.1)).setCell ⟨g, j * 2 + 1, none⟩ (.int .i64 c.2)) base (.slice (some ⟨g, 0, none⟩) n cap) ys ∧ w.grownBy ((w.setCell ⟨g, j * 2, none⟩ (.int .i64 c.1)).setCell ⟨g, j * 2 + 1, none⟩ (.int .i64 c.2)) (some g) := by
  subst hn hy
  have h1 := World.ownsRow.stored (g := g) (cap := cap) h (j * 2) (.int .i64 c.1)
  have h2 := World.ownsRow.stored (g := g) (cap := cap) h1.1 (j * 2 + 1) (.int .i64 c.2)
  refine ⟨?_, grown_tr h1.2 h2.2⟩
  have e : ((xs.flatMap EC.cells).set (j * 2) (.int .i64 c.1)).set (j * 2 + 1) (.int .i64 c.2) = (xs.set j c).flatMap EC.cells := by
    refine List.ext_getElem? fun t => ?_
    have hl : (xs.flatMap EC.cells).length = xs.length * 2 := Rw.flat_len EC xs
    rw [Rw.flat_set EC xs j c hj]
    have hk : EC.k = 2 := rfl
    rw [hk]
    by_cases h0 : t = j * 2
    · subst h0
      rw [List.getElem?_set_ne (by omega), List.getElem?_set_self (by omega), if_pos (by omega), Nat.sub_self]
      rfl
    · by_cases h1 : t = j * 2 + 1
      · subst h1
        rw [List.getElem?_set_self (by rw [List.length_set]; omega), if_pos (by omega), show j * 2 + 1 - j * 2 = 1 from by omega]
        rfl
      · rw [List.getElem?_set_ne (by omega), List.getElem?_set_ne (by omega), if_neg (by omega)]
  have h3 := h2.1
  rw [e] at h3
  unfold Rw.Own
  rw [List.length_set]
  exact h3
theorem cellC {w : World} {base g n cap j : Nat} {xs : List (Int × Int)} {c : Int × Int} (hn : n = xs.length) (h : Rw.Own EC w base (.slice (some ⟨g, 0, none⟩) n cap) xs) (hc : xs[j]? = some c) :
    w.cell? ⟨g, j * 2, none⟩ = some (.int .i64 c.1) ∧ w.cell? ⟨g, j * 2 + 1, none⟩ = some (.int .i64 c.2) ∧ w.frozen? ⟨g, j * 2, none⟩ = false ∧ w.frozen? ⟨g, j * 2 + 1, none⟩ = false := by
  have e0 := h.cellAt hn (j * 2) _ ((Rw.flat_get EC xs j 0 c hc (by decide)).trans rfl)
  have e1 := h.cellAt hn (j * 2 + 1) _ ((Rw.flat_get EC xs j 1 c hc (by decide)).trans rfl)
  exact ⟨e0.1, e1.1, e0.2, e1.2⟩
theorem below_mono' {B : Nat} {a w' : World} (h : Below a.drew.heap.size a.drew w') (hB : B ≤ a.heap.size) : Below B a w' := ⟨h.os, h.tape, h.output, h.size, fun k hk => h.block k (Nat.lt_of_lt_of_le hk hB)⟩

theorem eqCurveS_c (v u : Value) (xs ys : List (Int × Int)) (w : World) (h1 h2 : Nat) (hx : Rw.Seen EC w h1 v xs) (hy : Rw.Seen EC w h2 u ys) (hh1 : h1 ≤ w.heap.size) (hh2 : h2 ≤ w.heap.size) :
    Calls Try.prog 12 #[v, u] w fun e w' => e = .returned (.bool (decide (xs = ys))) ∧ Below w.heap.size w w' := by
  obtain ⟨a, cap, rfl, hm, hm2, hv⟩ := hx
  obtain ⟨a', cap', rfl, hm', hm2', hv'⟩ := hy
  by_cases hl : xs.length = ys.length
  · have hl' := Lib.hid hl
    rw [hl] at hv hm ⊢
    clear hl
    go_enter Try.func12, Try.ntmps12
    go_wp2
    go_loopw [5] (fun vi wr => ∃ k : Nat, k ≤ ys.length ∧ vi = .int .i64 k ∧ (∀ j : Nat, j < k → xs[j]? = ys[j]?) ∧ Below w.heap.size w wr) (fun vi _ => ys.length - (intOf vi).toNat)
    case atStart => exact ⟨0, by omega, rfl, fun j h => by omega, Below.refl _ _⟩
    case round =>
      obtain ⟨k, hk, rfl, hall, hbr⟩ := hrel
      have Hall := Lib.hid hall
      clear hall
      by_cases hlt : k < ys.length
      · obtain ⟨g, x, rfl, hg, hx, hcell⟩ := hv k (by omega)
        obtain ⟨g', y, rfl, hg', hy, hcell'⟩ := hv' k hlt
        have e0 : wr.cell? ⟨g, k * 2, none⟩ = some (.int .i64 x.1) := (hbr.cell (p := ⟨g, k * 2, none⟩) (Nat.lt_of_lt_of_le hg hh1)).trans (hcell 0 _ rfl)
        have e1 : wr.cell? ⟨g, k * 2 + 1, none⟩ = some (.int .i64 x.2) := (hbr.cell (p := ⟨g, k * 2 + 1, none⟩) (Nat.lt_of_lt_of_le hg hh1)).trans (hcell 1 _ rfl)
        have f0 : wr.cell? ⟨g', k * 2, none⟩ = some (.int .i64 y.1) := (hbr.cell (p := ⟨g', k * 2, none⟩) (Nat.lt_of_lt_of_le hg' hh2)).trans (hcell' 0 _ rfl)
        have f1 : wr.cell? ⟨g', k * 2 + 1, none⟩ = some (.int .i64 y.2) := (hbr.cell (p := ⟨g', k * 2 + 1, none⟩) (Nat.lt_of_lt_of_le hg' hh2)).trans (hcell' 1 _ rfl)
        clear hv hv' hcell hcell'
        have HE := fun w => eqCurve_c x.1 x.2 y.1 y.2 w
        cases b1 : (x.1 == y.1 && x.2 == y.2) <;> simp only [b1] at HE <;> have HE := Lib.hid HE
        · have hne : Hid (decide (xs = ys) = false) := Lib.hid (by
            rw [decide_eq_false_iff_not]
            intro he
            have h1 := hx.out
            rw [he, hy.out] at h1
            obtain rfl := Option.some.inj h1
            simp at b1)
          go_wp2
          first | go_region_held3 (fun W => W.cell? ⟨g, k * 2, none⟩ = some (.int .i64 x.1) ∧ W.cell? ⟨g, k * 2 + 1, none⟩ = some (.int .i64 x.2) ∧ W.cell? ⟨g', k * 2, none⟩ = some (.int .i64 y.1) ∧ W.cell? ⟨g', k * 2 + 1, none⟩ = some (.int .i64 y.2)) (first | exact ⟨keepCell (by assumption) (by assumption), keepCell (by assumption) (by assumption), keepCell (by assumption) (by assumption), keepCell (by assumption) (by assumption)⟩ | (go_split_ands; exact ⟨keepCell (by assumption) (by assumption), keepCell (by assumption) (by assumption), keepCell (by assumption) (by assumption), keepCell (by assumption) (by assumption)⟩) | go_keep) ((go_at_call 25; (with_reducible refine (HE.out _).mono ?_); rintro e w2 ⟨rfl, hb2⟩)) | fail
          go_wp2
          go_ret
          exact ⟨ret_b hne.out.symm, hbr.trans (below_mono' hb2 hbr.size)⟩
        · have hxy : Hid (x = y) := Lib.hid (by
            simp only [Bool.and_eq_true, beq_iff_eq] at b1
            exact Prod.ext b1.1 b1.2)
          go_wp2
          first | go_region_held3 (fun W => W.cell? ⟨g, k * 2, none⟩ = some (.int .i64 x.1) ∧ W.cell? ⟨g, k * 2 + 1, none⟩ = some (.int .i64 x.2) ∧ W.cell? ⟨g', k * 2, none⟩ = some (.int .i64 y.1) ∧ W.cell? ⟨g', k * 2 + 1, none⟩ = some (.int .i64 y.2)) (first | exact ⟨keepCell (by assumption) (by assumption), keepCell (by assumption) (by assumption), keepCell (by assumption) (by assumption), keepCell (by assumption) (by assumption)⟩ | (go_split_ands; exact ⟨keepCell (by assumption) (by assumption), keepCell (by assumption) (by assumption), keepCell (by assumption) (by assumption), keepCell (by assumption) (by assumption)⟩) | go_keep) ((go_at_call 25; (with_reducible refine (HE.out _).mono ?_); rintro e w2 ⟨rfl, hb2⟩)) | fail
          go_wp2
          go_roundw
          case rel => exact ⟨k + 1, by omega, by go_num, fun j hj => if q : j = k then by rw [q, hx.out, hy.out, hxy.out] else Hall.out j (by omega), hbr.trans (below_mono' hb2 hbr.size)⟩
          case measure => simp [intOf]; omega
      · obtain rfl : k = ys.length := by omega
        clear hv hv'
        go_wp2
        go_ret
        refine ⟨ret_b ?_, hbr⟩
        symm
        rw [decide_eq_true_iff]
        refine List.ext_getElem? fun j => ?_
        rcases Nat.lt_or_ge j ys.length with q | q
        · exact Hall.out j q
        · rw [List.getElem?_eq_none q, List.getElem?_eq_none (by have := hl'.out; omega)]
  · have hne : Hid (decide (xs = ys) = false) := Lib.hid (by
      rw [decide_eq_false_iff_not]
      exact fun he => hl (by rw [he]))
    have hl2 : ¬ ((xs.length : Int) = ys.length) := by omega
    clear hv hv'
    go_enter Try.func12, Try.ntmps12
    go_wp2
    go_ret
    exact ⟨ret_b hne.out.symm, (by repeat (first | exact Below.refl _ _ | refine below_alloc ?_ _ | refine below_step ?_ (by assumption) | refine Below.drew ?_ | refine Below.setCell ?_ (by first | exact Nat.le_refl _ | exact Nat.le_add_right _ _ | (simp <;> omega)) _ | refine below_drewN ?_ _))⟩
def M.cmark (k : Int) (i : Nat) : Int × Int := (k + 2 * i, k + 2 * i + 1)
def M.cmarks (k : Int) (n : Nat) : List (Int × Int) := (List.range n).map (M.cmark k)
theorem M.cmarks_len (k : Int) (n : Nat) : (M.cmarks k n).length = n := by simp [M.cmarks]
theorem M.cmarks_get {k : Int} {n j : Nat} (h : j < n) : (M.cmarks k n)[j]? = some (M.cmark k j) := by simp [M.cmarks, h]
theorem M.cmarks_step {k : Int} {j : Nat} {xs : List (Int × Int)} (h : j < xs.length) : (M.cmarks k j ++ xs.drop j).set j (M.cmark k j) = M.cmarks k (j + 1) ++ xs.drop (j + 1) := by
  have hl := M.cmarks_len k j
  rw [List.set_append_right _ _ (by omega)]
  rw [hl, Nat.sub_self, List.drop_eq_getElem_cons h, List.set_cons_zero]
  unfold M.cmarks
  rw [List.range_succ, List.map_append]
  simp
theorem markCurveS_c (v : Value) (xs : List (Int × Int)) (k : Int) (w : World) (base : Nat) (hx : Rw.Own EC w base v xs) (h1 : 0 ≤ k) (h2 : k + 2 * xs.length ≤ 4000000000000000000) :
    Calls Try.prog 13 #[v, .int .i64 k] w fun e w' => e = .returned (.int .i64 (k + 2 * xs.length)) ∧ Rw.Own EC w' base v (M.cmarks k xs.length) ∧ w.grownBy w' v.ownBlock := by
  rcases hx.forms with ⟨rfl, rfl⟩ | ⟨g, cap, rfl, hg, hgs, hc, hc2⟩
  · go_enter Try.func13, Try.ntmps13
    go_wp2
    go_loop [1, 5] (fun vk vi => vk = .int .i64 k ∧ vi = .int .i64 0) (fun _ _ => 0)
    case atStart => exact ⟨rfl, rfl⟩
    case round =>
      obtain ⟨rfl, rfl⟩ := hrel
      go_wp2
      go_ret
      exact ⟨ret_i (by simp), hx, grown_rf _ _⟩
  · go_enter Try.func13, Try.ntmps13
    go_wp2
    go_loopw [1, 5] (fun vk vi wr => ∃ j : Nat, j ≤ xs.length ∧ vi = .int .i64 j ∧ vk = .int .i64 (k + 2 * j) ∧ Rw.Own EC wr base (.slice (some ⟨g, 0, none⟩) xs.length cap) (M.cmarks k j ++ xs.drop j) ∧ w.grownBy wr (some g)) (fun _ vi _ => xs.length - (intOf vi).toNat)
    case atStart => exact ⟨0, by omega, rfl, by simp, by simpa [M.cmarks] using hx, grown_rf _ _⟩
    case round =>
      obtain ⟨j, hj, rfl, rfl, hown, hgr⟩ := hrel
      have hlen : (M.cmarks k j ++ xs.drop j).length = xs.length := by rw [List.length_append, M.cmarks_len, List.length_drop]; omega
      by_cases hlt : j < xs.length
      · have hj0 : (M.cmarks k j ++ xs.drop j)[j]? = some xs[j] := by
          rw [List.getElem?_append_right (by rw [M.cmarks_len]; omega), M.cmarks_len, Nat.sub_self, List.getElem?_drop]
          simp [hlt]
        obtain ⟨c0, c1, f0, f1⟩ := cellC hlen.symm hown hj0
        have hst := Lib.hid (setC hlen.symm hown hlt (M.cmark k j) (M.cmarks_step hlt).symm)
        generalize xs[j] = y at *
        clear hlen hj0
        go_wp2
        go_roundw
        case rel => exact ⟨j + 1, by omega, by go_num, by congr 1; omega, hst.out.1, grown_tr hgr hst.out.2⟩
        case measure => simp [intOf]; omega
      · obtain rfl : j = xs.length := by omega
        clear hlen
        go_wp2
        go_ret
        exact ⟨rfl, by simpa using hown, hgr⟩

/-- curves that came in: they may begin anywhere in a block -/
def CurvesAt (w : World) (v : Value) (xs : List (Int × Int)) : Prop :=
  ∃ (A : Option Addr) (cap : Nat), v = .slice A xs.length cap ∧ (xs.length : Int) ≤ 9223372036854775807 ∧
    ∀ k, k < xs.length → ∃ g o x, A = some ⟨g, o, none⟩ ∧ g < w.heap.size ∧ Hid (xs[k]? = some x) ∧ w.cell? ⟨g, o + k * 2, none⟩ = some (.int .i64 x.1) ∧ w.cell? ⟨g, o + k * 2 + 1, none⟩ = some (.int .i64 x.2)
theorem CurvesAt.keep {w w' : World} {v : Value} {xs : List (Int × Int)} (h : CurvesAt w v xs) (hb : Below w.heap.size w w') : CurvesAt w' v xs := by
  obtain ⟨A, cap, rfl, hm, hv⟩ := h
  refine ⟨A, cap, rfl, hm, fun k hk => ?_⟩
  obtain ⟨g, o, x, hA, hg, hx, h0, h1⟩ := hv k hk
  exact ⟨g, o, x, hA, Nat.lt_of_lt_of_le hg hb.size, hx, keepCell hb h0, keepCell hb h1⟩
def szOk (n : Nat) : Bool := decide (n ≤ 1048576)
theorem szCurveS_c (v : Value) (xs : List (Int × Int)) (w : World) (hx : CurvesAt w v xs) :
    Calls Try.prog 7 #[v, .int .i64 1048576] w fun e w' => e = .returned (.int .i64 (if xs.length ≤ 1048576 then (1048576 - xs.length : Int) else -1)) ∧ w = w' := by
  obtain ⟨A, cap, rfl, hm, hv⟩ := hx
  clear hv
  by_cases h : xs.length ≤ 1048576
  · rw [if_pos h]
    generalize xs.length = n at *
    go_enter Try.func7, Try.ntmps7
    go_wp2
    go_ret
    exact ⟨rfl, rfl⟩
  · rw [if_neg h]
    generalize xs.length = n at *
    go_enter Try.func7, Try.ntmps7
    go_wp2
    go_ret
    exact ⟨rfl, rfl⟩
theorem made_flat (n : Nat) : (madeCells #[.int .i64 0, .int .i64 0] (n * 2)).toList = (List.replicate n ((0 : Int), (0 : Int))).flatMap EC.cells := by
  have e : (madeCells #[.int .i64 0, .int .i64 0] (n * 2)) = madeCells #[Value.int .i64 0] (n * 2) := by
    unfold madeCells
    congr 1
    funext i
    have : i % 2 = 0 ∨ i % 2 = 1 := by omega
    rcases this with h | h <;> simp [h, Nat.mod_one]
  rw [e, toList_madeCells_one]
  clear e
  induction n with
  | zero => rfl
  | succ n ih =>
    rw [List.replicate_succ, List.flatMap_cons, ← ih, show (n + 1) * 2 = n * 2 + 1 + 1 by omega, List.replicate_succ, List.replicate_succ]
    rfl
theorem cop_step {xs : List (Int × Int)} {n j : Nat} {x : Int × Int} (hn : n = xs.length) (h : xs[j]? = some x) : xs.take (j + 1) ++ List.replicate (n - (j + 1)) ((0 : Int), (0 : Int)) = (xs.take j ++ List.replicate (n - j) ((0 : Int), (0 : Int))).set j x := by
  have hj := (List.getElem?_eq_some_iff.1 h).1
  rw [List.set_append_right _ _ (by rw [List.length_take]; omega), List.length_take, show j - min j xs.length = 0 by omega, show n - j = (n - (j + 1)) + 1 by omega, List.replicate_succ, List.set_cons_zero, List.take_add_one, h]
  simp
theorem infoCv : (Try.prog.info? 41).map (fun i => (i.zero, i.size, i.bytes)) = some (some (.agg #[.int .i64 0, .int .i64 0]), 2, 16) := by kernel_rfl
set_option maxRecDepth 20000 in
set_option maxHeartbeats 2000000 in
theorem toCurveS_c (v : Value) (xs : List (Int × Int)) (w : World) (hx : CurvesAt w v xs) (hn : xs.length ≤ 1048576) :
    Calls Try.prog 9 #[v] w fun e w' => ∃ v', e = .returned v' ∧ Rw.Own EC w' w.heap.size v' xs ∧ Below w.heap.size w w' := by
  obtain ⟨A, cap, rfl, hm, hv⟩ := hx
  have Hv := Lib.hid hv
  clear hv
  obtain ⟨i0, hi, hz0, hz1, hz2⟩ := info_parts infoCv
  obtain ⟨w1, hrun, hown1, hg1⟩ := run_make_full (P := Try.prog) w w.heap.size 27 41 i0 (.agg #[.int .i64 0, .int .i64 0]) 2 Try.underlying27 hi hz0 hz1 .i64 .i64 xs.length (by rw [hz2]; omega) (by unfold maxLen; omega) (Nat.le_refl _)
  go_enter Try.func9, Try.ntmps9
  go_wp2
  have hown1 : Rw.Own EC w1 w.heap.size (.slice (some ⟨w.heap.size, 0, none⟩) xs.length xs.length) (List.replicate xs.length ((0 : Int), (0 : Int))) := by
    unfold Rw.Own
    rw [← made_flat, List.length_replicate]
    exact hown1
  have hb1 : Below w.heap.size w w1 := grown_below hg1 (Nat.le_refl _) (fun k hk => by cases hk)
  go_loopw [4] (fun vi wr => ∃ j : Nat, j ≤ xs.length ∧ vi = .int .i64 j ∧ Rw.Own EC wr w.heap.size (.slice (some ⟨w.heap.size, 0, none⟩) xs.length xs.length) (xs.take j ++ List.replicate (xs.length - j) ((0 : Int), (0 : Int))) ∧ Below w.heap.size w wr) (fun vi _ => xs.length - (intOf vi).toNat)
  case atStart => exact ⟨0, by omega, rfl, by simpa using hown1, hb1⟩
  case round =>
    obtain ⟨j, hj, rfl, hown, hbr⟩ := hrel
    have hlen : (xs.take j ++ List.replicate (xs.length - j) ((0 : Int), (0 : Int))).length = xs.length := by rw [List.length_append, List.length_take, List.length_replicate]; omega
    by_cases hlt : j < xs.length
    · obtain ⟨g, o, x, rfl, hg, hx, h0, h1⟩ := Hv.out j hlt
      have e0 := (hbr.cell (p := ⟨g, o + j * 2, none⟩) hg).trans h0
      have e1 := (hbr.cell (p := ⟨g, o + j * 2 + 1, none⟩) hg).trans h1
      have hj0 : (xs.take j ++ List.replicate (xs.length - j) ((0 : Int), (0 : Int)))[j]? = some (0, 0) := by
        rw [List.getElem?_append_right (by rw [List.length_take]; omega), List.length_take, show j - min j xs.length = 0 by omega, List.getElem?_replicate]
        rw [if_pos (by omega)]
      have hzr := hbr.size
      go_wp2_with fail
      refine (toCurve_c x.1 x.2 _).mono ?_; rintro e w2 ⟨rfl, hb2⟩
      have hown2 := hown.below hb2
      obtain ⟨c0, c1, f0, f1⟩ := cellC hlen.symm hown2 hj0
      have hst := Lib.hid (setC hlen.symm hown2 hlt x (cop_step rfl hx.out))
      clear hlen hj0 h0 h1
      go_wp2
      go_roundw
      case rel => exact ⟨j + 1, by omega, by go_num, hst.out.1, ((hbr.trans (hb2.mono hzr)).grown hst.out.2 (by have := hb2.size; omega) (fun q hq => by cases hq; exact Nat.le_refl _))⟩
      case measure => simp [intOf]; omega
    · obtain rfl : j = xs.length := by omega
      clear hlen
      go_wp2
      go_ret
      exact ⟨_, rfl, by simpa using hown, hbr⟩
end Go.Proofs.Ytpemckpnlemkfaa
