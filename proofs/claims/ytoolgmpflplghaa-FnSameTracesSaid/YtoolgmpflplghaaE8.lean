/-
  Contracts: all neighbours of a curve.
-/
import Derived.Test.YtoolgmpflplghaaE7
import Derived.Test.YtoolgmpflplghaaE5
import Derived.Test.YtoolgmpflplghaaE4
import Derived.Test.YtoolgmpflplghaaC15
namespace Go.Proofs.Ytoolgmpflplghaa
set_option linter.unusedSimpArgs false
set_option linter.unusedVariables false
open Go.RowKit Go.Shelf

namespace M
theorem root_ask {a b e : Int} (hg : good a b = true) (h : e ∈ roots a b) : nbAsk a b e = true := by
  have h2 := (mem_sel.1 h)
  have h3 := root_small (good_in hg) (by simpa [root3] using h2.2)
  simp only [nbAsk, order2, Bool.and_eq_true, ins_iff]
  exact ⟨hg, ⟨by omega, by omega⟩, h2.2⟩
end M
theorem M.nbs_f {a b e : Int} (h : e ∈ M.roots a b) (hn : M.nbg a b e = false) : M.nbOk a b = false ∧ M.nbs a b = [] := by
  have : M.nbOk a b = false := List.all_eq_false.2 ⟨e, h, by simp [hn]⟩
  exact ⟨this, by unfold M.nbs; rw [this]; rfl⟩
theorem M.nbs_t {a b : Int} (h : ∀ (j : Nat) (e : Int), (M.roots a b)[j]? = some e → M.nbg a b e = true) : M.nbOk a b = true ∧ M.nbs a b = M.cputs ((M.roots a b).map (M.nbl a b)) := by
  have : M.nbOk a b = true := List.all_eq_true.2 fun e he => by
    obtain ⟨j, hj⟩ := List.getElem?_of_mem he
    exact h j e hj
  exact ⟨this, by unfold M.nbs; rw [this]; rfl⟩
theorem map_next {α : Type} (f : Int → α) {xs : List Int} {k : Nat} {x : Int} (h : xs[k]? = some x) : (xs.take (k + 1)).map f = (xs.take k).map f ++ [f x] := by
  rw [take_next h, List.map_append]; rfl

theorem neighbourAt_n (a b e : Int) (w : World) (h : nbAsk a b e = true) :
    Calls Try.prog 90 #[.agg #[.int .i64 a, .int .i64 b], .int .i64 e] w fun r w' => r = .returned (cvOk (M.nbg a b e) (M.nbl a b e).1 (M.nbl a b e).2) ∧ Below w.heap.size w w' := neighbourAt_c a b e w h
theorem icNeighbour_n (a b e : Int) (w : World) (h : nbAsk a b e = true) :
    Calls Try.prog 97 #[.agg #[.int .i64 a, .int .i64 b], .int .i64 e] w fun r w' => r = .returned (cvOk (M.nbg a b e) (M.nbl a b e).1 (M.nbl a b e).2) ∧ Below w.heap.size w w' := icNeighbour_c a b e w h

set_option maxHeartbeats 1000000 in
theorem twoNeighbours_c (a b : Int) (w : World) (hg : M.good a b = true) :
    Calls Try.prog 47 #[.agg #[.int .i64 a, .int .i64 b]] w fun e w' => ∃ v, e = .returned (.tuple #[v, .bool (M.nbOk a b)]) ∧ Rw.Own EC w' w.heap.size v (M.nbs a b) ∧ Below w.heap.size w w' := by
  have hO := Lib.hid fun w => orderTwoAt_c a b w hg
  have hrl := M.roots_le a b
  go_enter Try.func47, Try.ntmps47
  go_wp2_with (go_at_call 89; (with_reducible refine (hO.out _).mono ?_); rintro e w1 ⟨v1, rfl, hown1, hb1⟩; obtain ⟨A, cap, rfl, hm, hv⟩ := hown1.seen)
  have hz1 : w.heap.size + 1 ≤ w1.heap.size := by have := hb1.size; simpa using this
  have hw1 : Below w.heap.size w w1 := ((Below.refl _ _).alloc (Nat.le_refl _) _).trans (hb1.mono (by simp))
  go_loopw [6, 18] (fun v vi wr => ∃ k : Nat, k ≤ (M.roots a b).length ∧ vi = .int .i64 k ∧ Rw.Own EC wr w1.heap.size v (((M.roots a b).take k).map (M.nbl a b)) ∧ (∀ j e, j < k → (M.roots a b)[j]? = some e → M.nbg a b e = true) ∧ Below w1.heap.size w1 wr) (fun _ vi _ => (M.roots a b).length - (intOf vi).toNat)
  case atStart => exact ⟨0, by omega, rfl, Rw.Own.nil _ _ _, fun j e h => by omega, Below.refl _ _⟩
  case round =>
    obtain ⟨k, hk, rfl, hown, hall, hbr⟩ := hrel
    have Hall := Lib.hid hall
    clear hall
    have hzr := hbr.size
    have hbo := hb1.trans (hbr.mono (show (w.alloc (Obj.cells #[Value.int IntKind.i64 a, Value.int IntKind.i64 b] 23)).heap.size ≤ w1.heap.size by simpa using hz1))
    have c0 : wr.cell? ⟨w.heap.size, 0, none⟩ = some (.int .i64 a) := (hbo.cell (by simp)).trans (box_cell _ _ _ _)
    have c1 : wr.cell? ⟨w.heap.size, 1, none⟩ = some (.int .i64 b) := (hbo.cell (by simp)).trans (box_cell _ _ _ _)
    have hlk : Hid ((((M.roots a b).take k).map (M.nbl a b)).length = k) := Lib.hid (by rw [List.length_map, List.length_take]; omega)
    by_cases hlt : k < (M.roots a b).length
    · obtain ⟨g, e, rfl, hgl, hx, hcell⟩ := hv k hlt
      have e0 : wr.cell? ⟨g, k, none⟩ = some (.int .i64 e) := (hbr.cell (p := ⟨g, k, none⟩) hgl).trans hcell
      have hmem := Lib.hid (List.mem_of_getElem? hx.out)
      have HN := fun w => neighbourAt_n a b e w (M.root_ask hg hmem.out)
      clear hv hcell
      cases hn : M.nbg a b e <;> simp only [hn, cvOk_t, cvOk_f] at HN <;> have HN := Lib.hid HN
      · have hnf := Lib.hid (M.nbs_f hmem.out hn)
        go_wp2_with (go_at_call 90; (with_reducible refine (HN.out _).mono ?_); rintro e w2 ⟨rfl, hb2⟩)
        go_ret2
        exact ⟨.slice none 0 0, by rw [hnf.out.1]; rfl, by rw [hnf.out.2]; exact Rw.Own.nil _ _ _, below_alloc (hw1.trans ((hbr.trans (hb2.mono hzr)).mono (by omega))) _⟩
      · have hnx : Hid (∀ j y, j < k + 1 → (M.roots a b)[j]? = some y → M.nbg a b y = true) := Lib.hid fun j y hj hy => by
          rcases Nat.lt_or_ge j k with q | q
          · exact Hall.out j y q hy
          · obtain rfl : j = k := by omega
            obtain rfl := Option.some.inj (hx.out.symm.trans hy)
            exact hn
        have hmn := Lib.hid (map_next (M.nbl a b) hx.out)
        generalize M.nbl a b e = c at *
        go_wp2_with (first
          | (go_at_call 90; (with_reducible refine (HN.out _).mono ?_); rintro e w2 ⟨rfl, hb2⟩; have hz2 := hb2.size)
          | (at_builtin; refine Rw.push fitsC (W := w1) w1.heap.size [c] _ _ (some ⟨_, 0, none⟩) 1 1 (by rfl) (by rfl) (.tmp 30) (.tmp 32) (by rfl) (by rfl) (by rfl) (fromH c (by simp)) (((hown.below hb2).alloc _).alloc _) (below_alloc (below_alloc (hbr.trans (hb2.mono hzr)) _) _) (by simp; omega) (by rw [hlk.out]; simp; omega) ?_; intro v3 w3 hown3 hb3))
        go_roundw
        case rel => exact ⟨k + 1, by omega, by go_num, by rw [hmn.out]; exact hown3, hnx.out, hb3⟩
        case measure => simp [intOf]; omega
    · obtain rfl : k = (M.roots a b).length := by omega
      have hnt := Lib.hid (M.nbs_t fun j e he => Hall.out j e (List.getElem?_eq_some_iff.1 he).1 he)
      rw [List.take_length] at hown
      go_wp2_with (first
        | (go_at_call 91; (with_reducible refine (sortC_c _ _ _ _ hown hzr (by rw [List.length_map]; omega)).mono ?_); rintro e w2 ⟨rfl, ys, hys, hown2, hb2⟩; have hly := hys.1.length_eq)
        | (go_at_call 93; (with_reducible refine (compactC_c _ _ _ _ hown2 (Nat.le_trans hzr hb2.size) (by rw [hly, List.length_map]; omega)).mono ?_); rintro e w3 ⟨v3, rfl, hown3, hb3⟩))
      go_ret2
      exact ⟨v3, by rw [hnt.out.1]; rfl, by rw [hnt.out.2, ← M.ddl_cputs hys.1 hys.2]; exact hown3.down (by omega), hw1.trans (((hbr.trans hb2).trans hb3).mono (by omega))⟩

theorem cputs_le (l acc : List (Int × Int)) : (l.foldl M.cput acc).length ≤ acc.length + l.length := by
  induction l generalizing acc with
  | nil => simp
  | cons c l ih =>
    have h1 := ih (M.cput acc c)
    have h2 := M.cput_le acc c
    rw [List.foldl_cons, List.length_cons]
    omega
theorem cputs_next (f : Int → Int × Int) {xs : List Int} {k : Nat} {x : Int} (h : xs[k]? = some x) : M.cputs ((xs.take (k + 1)).map f) = M.cput (M.cputs ((xs.take k).map f)) (f x) := by
  unfold M.cputs
  rw [map_next f h, List.foldl_append]
  rfl

set_option maxHeartbeats 1000000 in
theorem icAll_c (a b : Int) (w : World) (hg : M.good a b = true) :
    Calls Try.prog 51 #[.agg #[.int .i64 a, .int .i64 b]] w fun e w' => ∃ v, e = .returned (.tuple #[v, .bool (M.nbOk a b)]) ∧ Rw.Own EC w' w.heap.size v (M.nbs a b) ∧ Below w.heap.size w w' := by
  have hO := Lib.hid fun w => ecRoots_c a b w (M.good_in hg)
  have hrl := M.roots_le a b
  go_enter Try.func51, Try.ntmps51
  go_wp2_with (go_at_call 96; (with_reducible refine (hO.out _).mono ?_); rintro e w1 ⟨v1, rfl, hown1, hb1⟩; obtain ⟨A, cap, rfl, hm, hv⟩ := hown1.seen)
  have hz1 : w.heap.size + 1 ≤ w1.heap.size := by have := hb1.size; simpa using this
  have hw1 : Below w.heap.size w w1 := ((Below.refl _ _).alloc (Nat.le_refl _) _).trans (hb1.mono (by simp))
  go_loopw [4, 12] (fun v vi wr => ∃ k : Nat, k ≤ (M.roots a b).length ∧ vi = .int .i64 k ∧ Rw.Own EC wr w1.heap.size v (M.cputs (((M.roots a b).take k).map (M.nbl a b))) ∧ (∀ j e, j < k → (M.roots a b)[j]? = some e → M.nbg a b e = true) ∧ Below w1.heap.size w1 wr) (fun _ vi _ => (M.roots a b).length - (intOf vi).toNat)
  case atStart => exact ⟨0, by omega, rfl, Rw.Own.nil _ _ _, fun j e h => by omega, Below.refl _ _⟩
  case round =>
    obtain ⟨k, hk, rfl, hown, hall, hbr⟩ := hrel
    have Hall := Lib.hid hall
    clear hall
    have hzr := hbr.size
    have hbo := hb1.trans (hbr.mono (show (w.alloc (Obj.cells #[Value.int IntKind.i64 a, Value.int IntKind.i64 b] 23)).heap.size ≤ w1.heap.size by simpa using hz1))
    have c0 : wr.cell? ⟨w.heap.size, 0, none⟩ = some (.int .i64 a) := (hbo.cell (by simp)).trans (box_cell _ _ _ _)
    have c1 : wr.cell? ⟨w.heap.size, 1, none⟩ = some (.int .i64 b) := (hbo.cell (by simp)).trans (box_cell _ _ _ _)
    have hlk := cputs_le (((M.roots a b).take k).map (M.nbl a b)) []
    have hlk : (M.cputs (((M.roots a b).take k).map (M.nbl a b))).length ≤ 1000000 := by
      rw [List.length_map, List.length_take, List.length_nil] at hlk
      unfold M.cputs
      omega
    have hlk := Lib.hid hlk
    by_cases hlt : k < (M.roots a b).length
    · obtain ⟨g, e, rfl, hgl, hx, hcell⟩ := hv k hlt
      have e0 : wr.cell? ⟨g, k, none⟩ = some (.int .i64 e) := (hbr.cell (p := ⟨g, k, none⟩) hgl).trans hcell
      have hmem := Lib.hid (List.mem_of_getElem? hx.out)
      have HN := fun w => icNeighbour_n a b e w (M.root_ask hg hmem.out)
      clear hv hcell
      cases hn : M.nbg a b e <;> simp only [hn, cvOk_t, cvOk_f] at HN <;> have HN := Lib.hid HN
      · have hnf := Lib.hid (M.nbs_f hmem.out hn)
        go_wp2_with (go_at_call 97; (with_reducible refine (HN.out _).mono ?_); rintro e w2 ⟨rfl, hb2⟩)
        go_ret2
        exact ⟨.slice none 0 0, by rw [hnf.out.1]; rfl, by rw [hnf.out.2]; exact Rw.Own.nil _ _ _, below_alloc (hw1.trans ((hbr.trans (hb2.mono hzr)).mono (by omega))) _⟩
      · have hnx : Hid (∀ j y, j < k + 1 → (M.roots a b)[j]? = some y → M.nbg a b y = true) := Lib.hid fun j y hj hy => by
          rcases Nat.lt_or_ge j k with q | q
          · exact Hall.out j y q hy
          · obtain rfl : j = k := by omega
            obtain rfl := Option.some.inj (hx.out.symm.trans hy)
            exact hn
        have hmn := Lib.hid (cputs_next (M.nbl a b) hx.out)
        generalize M.nbl a b e = c at *
        go_wp2_with (first
          | (go_at_call 97; (with_reducible refine (HN.out _).mono ?_); rintro e w2 ⟨rfl, hb2⟩; have hz2 := hb2.size)
          | (go_at_call 98; (with_reducible refine (icPut_c _ _ c _ w1.heap.size ((hown.below hb2).alloc _) (by simp; omega) hlk.out).mono ?_); rintro e w3 ⟨v3, rfl, hown3, hb3⟩))
        go_roundw
        case rel => exact ⟨k + 1, by omega, by go_num, by rw [hmn.out]; exact hown3, hnx.out, (below_alloc (hbr.trans (hb2.mono hzr)) _).trans (hb3.mono (by simp; omega))⟩
        case measure => simp [intOf]; omega
    · obtain rfl : k = (M.roots a b).length := by omega
      have hnt := Lib.hid (M.nbs_t fun j e he => Hall.out j e (List.getElem?_eq_some_iff.1 he).1 he)
      rw [List.take_length] at hown
      go_wp2
      go_ret2
      exact ⟨_, by rw [hnt.out.1]; rfl, by rw [hnt.out.2]; exact hown.down (by omega), hw1.trans (hbr.mono (by omega))⟩
end Go.Proofs.Ytoolgmpflplghaa
