/-
  Contracts: a curve put in its place; neighbours of a curve, all of them.
-/
import Derived.Test.YtoolgmpflplghaaE5
import Derived.Test.YtoolgmpflplghaaC15
import Derived.Test.YtoolgmpflplghaaC13
namespace Go.Proofs.Ytoolgmpflplghaa
set_option linter.unusedSimpArgs false
set_option linter.unusedVariables false
open Go.RowKit Go.Shelf

theorem below_mono' {B : Nat} {a w' : World} (h : Below a.drew.heap.size a.drew w') (hB : B ≤ a.heap.size) : Below B a w' := ⟨h.os, h.tape, h.output, h.size, fun k hk => h.block k (Nat.lt_of_lt_of_le hk hB)⟩
theorem lit0H {w : World} {base H : Nat} (hH : w.heap.size = H) (hb : base ≤ w.heap.size) : Rw.Own EC (w.alloc (.cells #[] 23)) base (.slice (some ⟨H, 0, none⟩) 0 0) [] := by
  subst hH
  exact Rw.Own.lit0 EC w base hb
theorem fromH {w : World} {H : Nat} (c : Int × Int) (hH : w.heap.size = H) : Rw.From EC (w.alloc (.cells #[.int .i64 c.1, .int .i64 c.2] 23)) (some ⟨H, 0, none⟩) [c] := Rw.From.lit EC w c H hH
theorem fromKept {w w' : World} {H : Nat} {ys : List (Int × Int)} (h : Rw.From EC w (some ⟨H, 0, none⟩) ys) (hH : H < w.heap.size) (hb : Below w.heap.size w w') : Rw.From EC w' (some ⟨H, 0, none⟩) ys := by
  intro j u hu
  obtain ⟨ad, h1, h2⟩ := h j u hu
  obtain rfl := Option.some.inj h1
  have hblk : ((⟨H, 0, none⟩ : Addr).add j).block = H := by unfold Addr.add; split <;> rfl
  exact ⟨_, rfl, (hb.cell (p := (⟨H, 0, none⟩ : Addr).add j) (by rw [hblk]; exact hH)).trans h2⟩

theorem fromGrown {w w' : World} {H : Nat} {ys : List (Int × Int)} {r : Option Nat} (h : Rw.From EC w (some ⟨H, 0, none⟩) ys) (hg : w.grownBy w' r) (hne : some H ≠ r) : Rw.From EC w' (some ⟨H, 0, none⟩) ys := by
  intro j u hu
  obtain ⟨ad, h1, h2⟩ := h j u hu
  obtain rfl := Option.some.inj h1
  have hblk : ((⟨H, 0, none⟩ : Addr).add j).block = H := by unfold Addr.add; split <;> rfl
  exact ⟨_, rfl, hg.cell h2 (by rw [hblk]; exact hne)⟩

set_option maxHeartbeats 1000000 in
theorem icPut_c (xs : List (Int × Int)) (v : Value) (c : Int × Int) (w : World) (base : Nat) (hown : Rw.Own EC w base v xs) (hb : base ≤ w.heap.size) (hl : xs.length ≤ 1000000) :
    Calls Try.prog 98 #[v, .agg #[.int .i64 c.1, .int .i64 c.2]] w fun e w' => ∃ v', e = .returned v' ∧ Rw.Own EC w' base v' (M.cput xs c) ∧ Below w.heap.size w w' := by
  obtain ⟨a, cap, rfl, hm, hm2, hv⟩ := hown.seen
  go_enter Try.func98, Try.ntmps98
  go_wp2
  go_loopw [5] (fun vi wr => ∃ k : Nat, k ≤ xs.length ∧ vi = .int .i64 k ∧ (∀ j y, j < k → xs[j]? = some y → M.clt y c = true) ∧ Below (w.heap.size + 1) (w.alloc (.cells #[.int .i64 c.1, .int .i64 c.2] 23)) wr) (fun vi _ => xs.length - (intOf vi).toNat)
  case atStart => exact ⟨0, by omega, rfl, fun j y h => by omega, Below.refl _ _⟩
  case round =>
    obtain ⟨k, hk, rfl, hall, hbr⟩ := hrel
    have Hall := Lib.hid hall
    clear hall
    have c0 : wr.cell? ⟨w.heap.size, 0, none⟩ = some (.int .i64 c.1) := (hbr.cell (Nat.lt_succ_self _)).trans (box_cell _ _ _ _)
    have c1 : wr.cell? ⟨w.heap.size, 1, none⟩ = some (.int .i64 c.2) := (hbr.cell (Nat.lt_succ_self _)).trans (box_cell _ _ _ _)
    have hz0 : w.heap.size + 1 ≤ wr.heap.size := by have := hbr.size; simpa using this
    have hbw : Below w.heap.size w wr := ((Below.refl _ _).alloc (Nat.le_refl _) _).trans (hbr.mono (by omega))
    have hkc : (k : Int) ≤ cap := by omega
    by_cases hlt : k < xs.length
    · obtain ⟨g, x, rfl, hg, hx, hcell⟩ := hv k hlt
      have e0 : wr.cell? ⟨g, k * 2, none⟩ = some (.int .i64 x.1) := (hbw.cell (p := ⟨g, k * 2, none⟩) hg).trans (hcell 0 _ rfl)
      have e1 : wr.cell? ⟨g, k * 2 + 1, none⟩ = some (.int .i64 x.2) := (hbw.cell (p := ⟨g, k * 2 + 1, none⟩) hg).trans (hcell 1 _ rfl)
      clear hv hcell
      have E := fun w => icBefore_c x c w
      cases hb1 : M.clt x c <;> simp only [hb1] at E <;> have E := Lib.hid E
      · go_wp2
        first | go_region_held3 (fun W => W.cell? ⟨w.heap.size, 0, none⟩ = some (.int .i64 c.1) ∧ W.cell? ⟨w.heap.size, 1, none⟩ = some (.int .i64 c.2) ∧ W.cell? ⟨g, k * 2, none⟩ = some (.int .i64 x.1) ∧ W.cell? ⟨g, k * 2 + 1, none⟩ = some (.int .i64 x.2)) (first | exact ⟨keepCell (by assumption) (by assumption), keepCell (by assumption) (by assumption), keepCell (by assumption) (by assumption), keepCell (by assumption) (by assumption)⟩ | (go_split_ands; exact ⟨keepCell (by assumption) (by assumption), keepCell (by assumption) (by assumption), keepCell (by assumption) (by assumption), keepCell (by assumption) (by assumption)⟩) | go_keep) ((go_at_call 126; (with_reducible refine (E.out _).mono ?_); rintro e w2 ⟨rfl, hb2⟩)) | fail
        have d0 : w2.cell? ⟨w.heap.size, 0, none⟩ = some (.int .i64 c.1) := (hb2.cell (by simpa using (show w.heap.size < wr.heap.size by omega))).trans c0
        have d1 : w2.cell? ⟨w.heap.size, 1, none⟩ = some (.int .i64 c.2) := (hb2.cell (by simpa using (show w.heap.size < wr.heap.size by omega))).trans c1
        have hbw2 : Below w.heap.size w w2 := hbw.trans (below_mono' hb2 hbw.size)
        cases b1 : (x.1 == c.1) <;> cases b2 : (x.2 == c.2)
        case true.true =>
          have hxc : Hid (x = c) := Lib.hid (Prod.ext (eq_of_beq b1) (eq_of_beq b2))
          have hpl : Hid (k = M.cplace xs c) := Lib.hid (M.cplace_eq xs c k (by omega) Hall.out fun y hy => by
            obtain rfl := Option.some.inj (hx.out.symm.trans hy)
            exact hb1)
          have hput : Hid (M.cput xs c = xs) := Lib.hid (by unfold M.cput; rw [← hpl.out, hx.out, hxc.out, if_pos rfl])
          go_wp2
          go_quiet (fail)
          go_wp2
          go_ret
          exact ⟨_, rfl, by rw [hput.out]; exact hown.below (below_dN hbw2 _), below_dN hbw2 _⟩
        all_goals
          have hpl : Hid (k = M.cplace xs c) := Lib.hid (M.cplace_eq xs c k (by omega) Hall.out fun y hy => by
            obtain rfl := Option.some.inj (hx.out.symm.trans hy)
            exact hb1)
          have hput : Hid (M.cput xs c = xs.take k ++ [c] ++ xs.drop k) := Lib.hid (by
            unfold M.cput
            rw [← hpl.out, if_neg]
            intro h
            rw [hx.out] at h
            obtain rfl := Option.some.inj h
            simp at b1 b2)
          have hs1 : Hid (∀ W, Below w2.heap.size w2 W → Rw.From EC W (some ⟨g, 0, none⟩) (xs.take k)) := Lib.hid fun W hW => hown.take_ rfl hg (hbw2.trans (hW.mono hbw2.size)) k
          have hs2 : Hid (∀ W, Below w2.heap.size w2 W → Rw.From EC W (some ⟨g, k * 2, none⟩) (xs.drop k)) := Lib.hid fun W hW => hown.drop_ rfl hg (hbw2.trans (hW.mono hbw2.size)) k _ rfl
          have hl1 : Hid ((xs.take k).length = k) := Lib.hid (by rw [List.length_take]; omega)
          have hl2 : Hid ((xs.drop k).length = xs.length - k) := Lib.hid (by rw [List.length_drop])
          have hc0 : ¬ cap = k := by omega
          have hc1 : (xs.length : Int) ≤ cap := by omega
          go_wp2
          go_quiet (fail)
          go_wp2
          have hz2 : w.heap.size < w2.heap.size := by have := hb2.size; simp at this; omega
          go_region_held3 (fun W => W.cell? ⟨w.heap.size, 0, none⟩ = some (.int .i64 c.1) ∧ W.cell? ⟨w.heap.size, 1, none⟩ = some (.int .i64 c.2)) (first | exact ⟨keepCell (by assumption) (by assumption), keepCell (by assumption) (by assumption)⟩ | (go_split_ands; exact ⟨keepCell (by assumption) (by assumption), keepCell (by assumption) (by assumption)⟩) | go_keep)
            ((first
            | (refine Rw.step_push2 fitsC (W := w2) w2.heap.size (xs.take k) [] _ (some ⟨g, 0, none⟩) k cap hl1.out (by rfl) (.tmp 33) (.tmp 36) (by rfl) (by rfl) (by rfl) (hs1.out _ (by repeat (first | exact Below.refl _ _ | assumption | refine below_alloc ?_ _ | refine below_dN ?_ _ | refine Below.drew ?_))) (by first | exact lit0H (by simp) (by simp) | exact (lit0H (by simp) (by simp)).alloc _) (by repeat (first | exact Below.refl _ _ | assumption | refine below_alloc ?_ _ | refine below_dN ?_ _ | refine Below.drew ?_)) (by first | (simp; done) | (simp; omega)) (by rw [hl1.out]; simp; omega) ?_; intro v1 w6 hown1 hb6 hg6; (first | (have hg6 : World.grownBy _ w6 (some w2.heap.size) := hg6) | (have hg6 : World.grownBy _ w6 (some (w2.heap.size + 1)) := hg6)))
            | (refine Rw.step_push2 fitsC (W := w2) w2.heap.size [c] ([] ++ xs.take k) _ (some ⟨_, 0, none⟩) 1 1 (by rfl) (by rfl) (.tmp 37) (.tmp 39) (by rfl) (by rfl) (by rfl) (by first | exact fromH c (by simp) | exact fromGrown (fromH c (by simp)) hg6 (by simp) | exact fromGrown (fromKept (fromH c (by simp)) (by simp) (below_alloc (Below.refl _ _) _)) hg6 (by simp)) (by first | exact hown1 | exact hown1.alloc _) (by repeat (first | exact Below.refl _ _ | assumption | refine below_alloc ?_ _ | refine below_dN ?_ _ | refine Below.drew ?_)) (by first | (simp; done) | (simp; omega) | exact hb7.size | exact hb6.size | (have := hb7.size; simp; omega) | (have := hb6.size; simp; omega)) (by first | (simp; done) | (simp; omega)) ?_; intro v2 w7 hown2 hb7 hg7)
            | (refine Rw.step_push2 fitsC (W := w2) w2.heap.size (xs.drop k) ([] ++ xs.take k ++ [c]) _ (some ⟨g, k * 2, none⟩) (xs.length - k) (cap - k) hl2.out (by rfl) (.tmp 40) (.tmp 43) (by rfl) (by rfl) (by rfl) (hs2.out _ (by repeat (first | exact Below.refl _ _ | assumption | refine below_alloc ?_ _ | refine below_dN ?_ _ | refine Below.drew ?_))) hown2 (by repeat (first | exact Below.refl _ _ | assumption | refine below_alloc ?_ _ | refine below_dN ?_ _ | refine Below.drew ?_)) (by first | (simp; done) | (simp; omega) | exact hb7.size | exact hb6.size | (have := hb7.size; simp; omega) | (have := hb6.size; simp; omega)) (by first | (simp; done) | (simp; omega)) ?_; intro v3 w8 hown3 hb8 hg8)
            | (fail "ARMS")))
          all_goals
            go_wp2
            go_ret
            exact ⟨_, rfl, by rw [hput.out]; simpa using hown3.down (Nat.le_trans hb (Nat.le_of_lt hz2)), hbw2.trans (hb8.mono (by omega))⟩
      · have hnx : Hid (∀ j y, j < k + 1 → xs[j]? = some y → M.clt y c = true) := Lib.hid fun j y hj hy => by
          rcases Nat.lt_or_ge j k with q | q
          · exact Hall.out j y q hy
          · obtain rfl : j = k := by omega
            obtain rfl := Option.some.inj (hx.out.symm.trans hy)
            exact hb1
        go_wp2
        first | go_region_held3 (fun W => W.cell? ⟨w.heap.size, 0, none⟩ = some (.int .i64 c.1) ∧ W.cell? ⟨w.heap.size, 1, none⟩ = some (.int .i64 c.2) ∧ W.cell? ⟨g, k * 2, none⟩ = some (.int .i64 x.1) ∧ W.cell? ⟨g, k * 2 + 1, none⟩ = some (.int .i64 x.2)) (first | exact ⟨keepCell (by assumption) (by assumption), keepCell (by assumption) (by assumption), keepCell (by assumption) (by assumption), keepCell (by assumption) (by assumption)⟩ | (go_split_ands; exact ⟨keepCell (by assumption) (by assumption), keepCell (by assumption) (by assumption), keepCell (by assumption) (by assumption), keepCell (by assumption) (by assumption)⟩) | go_keep) ((go_at_call 126; (with_reducible refine (E.out _).mono ?_); rintro e w2 ⟨rfl, hb2⟩)) | fail
        go_wp2
        go_roundw
        case rel => exact ⟨k + 1, by omega, by go_num, hnx.out, hbr.trans (below_mono' hb2 hz0)⟩
        case measure => simp [intOf]; omega
    · obtain rfl : k = xs.length := by omega
      have hpl : Hid (xs.length = M.cplace xs c) := Lib.hid (M.cplace_eq xs c xs.length (by omega) Hall.out fun y hy => by simp at hy)
      have hput : Hid (M.cput xs c = xs ++ [c]) := Lib.hid (by unfold M.cput; rw [← hpl.out]; simp)
      have hzr : w.heap.size < wr.heap.size := by omega
      clear hv
      rcases hown.forms with ⟨h1, h2⟩ | ⟨g, cap', h1, hg0, hg, hcc⟩
      · injection h1 with e1 e2 e3
        subst e1 e3 h2
        clear e2
        have hput : Hid (M.cput [] c = [] ++ [] ++ [c] ++ []) := Lib.hid (by rw [hput.out]; simp)
        go_wp2
        go_quiet (fail)
        go_wp2
        go_quiet (fail)
        go_wp2
        go_region_held3 (fun W => W.cell? ⟨w.heap.size, 0, none⟩ = some (.int .i64 c.1) ∧ W.cell? ⟨w.heap.size, 1, none⟩ = some (.int .i64 c.2)) (first | exact ⟨keepCell (by assumption) (by assumption), keepCell (by assumption) (by assumption)⟩ | (go_split_ands; exact ⟨keepCell (by assumption) (by assumption), keepCell (by assumption) (by assumption)⟩) | go_keep)
          ((first
          | (refine Rw.step_push2 fitsC (W := wr) wr.heap.size ([] : List (Int × Int)) [] _ none 0 0 (by rfl) (by rfl) (.tmp 33) (.tmp 36) (by rfl) (by rfl) (by rfl) (Rw.From.nil _ _ _) (by first | exact lit0H (by simp) (by simp) | exact (lit0H (by simp) (by simp)).alloc _) (by repeat (first | exact Below.refl _ _ | assumption | refine below_alloc ?_ _ | refine below_dN ?_ _ | refine Below.drew ?_)) (by first | (simp; done) | (simp; omega)) (by simp) ?_; intro v1 w6 hown1 hb6 hg6; (first | (have hg6 : World.grownBy _ w6 (some wr.heap.size) := hg6) | (have hg6 : World.grownBy _ w6 (some (wr.heap.size + 1)) := hg6)))
          | (refine Rw.step_push2 fitsC (W := wr) wr.heap.size [c] ([] ++ ([] : List (Int × Int))) _ (some ⟨_, 0, none⟩) 1 1 (by rfl) (by rfl) (.tmp 37) (.tmp 39) (by rfl) (by rfl) (by rfl) (by first | exact fromH c (by simp) | exact fromGrown (fromH c (by simp)) hg6 (by simp) | exact fromGrown (fromKept (fromH c (by simp)) (by simp) (below_alloc (Below.refl _ _) _)) hg6 (by simp)) (by first | exact hown1 | exact hown1.alloc _) (by repeat (first | exact Below.refl _ _ | assumption | refine below_alloc ?_ _ | refine below_dN ?_ _ | refine Below.drew ?_)) (by first | (simp; done) | (simp; omega) | exact hb7.size | exact hb6.size | (have := hb7.size; simp; omega) | (have := hb6.size; simp; omega)) (by first | (simp; done) | (simp; omega)) ?_; intro v2 w7 hown2 hb7 hg7)
          | (refine Rw.step_push2 fitsC (W := wr) wr.heap.size ([] : List (Int × Int)) ([] ++ ([] : List (Int × Int)) ++ [c]) _ none 0 0 (by rfl) (by rfl) (.tmp 40) (.tmp 43) (by rfl) (by rfl) (by rfl) (Rw.From.nil _ _ _) hown2 (by repeat (first | exact Below.refl _ _ | assumption | refine below_alloc ?_ _ | refine below_dN ?_ _ | refine Below.drew ?_)) (by first | (simp; done) | (simp; omega) | exact hb7.size | exact hb6.size | (have := hb7.size; simp; omega) | (have := hb6.size; simp; omega)) (by first | (simp; done) | (simp; omega)) ?_; intro v3 w8 hown3 hb8 hg8)
          | (fail "ARMS")))
        all_goals
          go_wp2
          go_ret
          exact ⟨_, rfl, by rw [hput.out]; exact hown3.down (Nat.le_trans hb (Nat.le_of_lt hzr)), hbw.trans (hb8.mono (by omega))⟩
      · injection h1 with e1 e2 e3
        subst e1 e3
        clear e2
        have hput : Hid (M.cput xs c = [] ++ xs ++ [c] ++ []) := Lib.hid (by rw [hput.out]; simp)
        have hs1 : Hid (∀ W, Below wr.heap.size wr W → Rw.From EC W (some ⟨g, 0, none⟩) xs) := Lib.hid fun W hW => by
          have := hown.take_ rfl hg (hbw.trans (hW.mono hbw.size)) xs.length
          rwa [List.take_length] at this
        have hg2 : g < w.heap.size := hg
        by_cases hcx : cap = xs.length
        all_goals
          go_wp2
          go_quiet (fail)
          go_wp2
          go_quiet (fail)
          go_wp2
          go_region_held3 (fun W => W.cell? ⟨w.heap.size, 0, none⟩ = some (.int .i64 c.1) ∧ W.cell? ⟨w.heap.size, 1, none⟩ = some (.int .i64 c.2)) (first | exact ⟨keepCell (by assumption) (by assumption), keepCell (by assumption) (by assumption)⟩ | (go_split_ands; exact ⟨keepCell (by assumption) (by assumption), keepCell (by assumption) (by assumption)⟩) | go_keep)
            ((first
            | (refine Rw.step_push2 fitsC (W := wr) wr.heap.size xs [] _ (some ⟨g, 0, none⟩) xs.length _ (by rfl) (by rfl) (.tmp 33) (.tmp 36) (by rfl) (by rfl) (by rfl) (hs1.out _ (by repeat (first | exact Below.refl _ _ | assumption | refine below_alloc ?_ _ | refine below_dN ?_ _ | refine Below.drew ?_))) (by first | exact lit0H (by simp) (by simp) | exact (lit0H (by simp) (by simp)).alloc _) (by repeat (first | exact Below.refl _ _ | assumption | refine below_alloc ?_ _ | refine below_dN ?_ _ | refine Below.drew ?_)) (by first | (simp; done) | (simp; omega)) (by first | (simp; done) | (simp; omega)) ?_; intro v1 w6 hown1 hb6 hg6; (first | (have hg6 : World.grownBy _ w6 (some wr.heap.size) := hg6) | (have hg6 : World.grownBy _ w6 (some (wr.heap.size + 1)) := hg6)))
            | (refine Rw.step_push2 fitsC (W := wr) wr.heap.size [c] ([] ++ xs) _ (some ⟨_, 0, none⟩) 1 1 (by rfl) (by rfl) (.tmp 37) (.tmp 39) (by rfl) (by rfl) (by rfl) (by first | exact fromH c (by simp) | exact fromGrown (fromH c (by simp)) hg6 (by simp) | exact fromGrown (fromKept (fromH c (by simp)) (by simp) (below_alloc (Below.refl _ _) _)) hg6 (by simp)) (by first | exact hown1 | exact hown1.alloc _) (by repeat (first | exact Below.refl _ _ | assumption | refine below_alloc ?_ _ | refine below_dN ?_ _ | refine Below.drew ?_)) (by first | (simp; done) | (simp; omega) | exact hb7.size | exact hb6.size | (have := hb7.size; simp; omega) | (have := hb6.size; simp; omega)) (by first | (simp; done) | (simp; omega)) ?_; intro v2 w7 hown2 hb7 hg7)
            | (refine Rw.step_push2 fitsC (W := wr) wr.heap.size ([] : List (Int × Int)) ([] ++ xs ++ [c]) _ _ 0 _ (by rfl) (by rfl) (.tmp 40) (.tmp 43) (by rfl) (by rfl) (by rfl) (Rw.From.nil _ _ _) hown2 (by repeat (first | exact Below.refl _ _ | assumption | refine below_alloc ?_ _ | refine below_dN ?_ _ | refine Below.drew ?_)) (by first | (simp; done) | (simp; omega) | exact hb7.size | exact hb6.size | (have := hb7.size; simp; omega) | (have := hb6.size; simp; omega)) (by first | (simp; done) | (simp; omega)) ?_; intro v3 w8 hown3 hb8 hg8)
            | (fail "ARMS")))
          all_goals
            go_wp2
            go_ret
            exact ⟨_, rfl, by rw [hput.out]; exact hown3.down (Nat.le_trans hb (Nat.le_of_lt hzr)), hbw.trans (hb8.mono (by omega))⟩
end Go.Proofs.Ytoolgmpflplghaa
