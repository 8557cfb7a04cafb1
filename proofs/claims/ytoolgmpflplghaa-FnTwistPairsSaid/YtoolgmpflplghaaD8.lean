/-
  Contracts: lists of twist numbers.
-/
import Derived.Test.YtoolgmpflplghaaPlain6
import Derived.Test.YtoolgmpflplghaaS3
import Derived.Test.YtoolgmpflplghaaC9
import Derived.Test.YtoolgmpflplghaaD1
namespace Go.Proofs.Ytoolgmpflplghaa
set_option linter.unusedSimpArgs false
set_option linter.unusedVariables false
open Go.RowKit

theorem seen_take {w : World} {hi : Nat} {g : Option Addr} {n : Nat} {xs : List Int} (h : ∀ k, k < xs.length → ∃ b x, g = some ⟨b, 0, none⟩ ∧ b < hi ∧ Hid (xs[k]? = some x) ∧ w.cell? ⟨b, k, none⟩ = some (.int .i64 x)) {w' : World} (hb : Below hi w w') :
    ∀ j y, (xs.take n)[j]? = some y → ∃ ad, g = some ad ∧ w'.cell? (ad.add j) = some (.int .i64 y) := by
  have hadd : ∀ b i : Nat, (⟨b, 0, none⟩ : Addr).add i = ⟨b, i, none⟩ := fun b i => by unfold Addr.add; split <;> simp_all
  intro j y hy
  rw [List.getElem?_take] at hy
  split at hy
  · have hj := (List.getElem?_eq_some_iff.1 hy).1
    obtain ⟨b, x, e1, e2, e3, e4⟩ := h j hj
    obtain rfl := Option.some.inj (e3.out.symm.trans hy)
    exact ⟨_, e1, by rw [hadd]; exact (hb.cell (p := ⟨b, j, none⟩) e2).trans e4⟩
  · cases hy
theorem seen_drop {w : World} {hi g n : Nat} {xs : List Int} (h : ∀ k, k < xs.length → ∃ b x, some (⟨g, 0, none⟩ : Addr) = some ⟨b, 0, none⟩ ∧ b < hi ∧ Hid (xs[k]? = some x) ∧ w.cell? ⟨b, k, none⟩ = some (.int .i64 x)) {w' : World} (hb : Below hi w w') :
    ∀ j y, (xs.drop n)[j]? = some y → ∃ ad, some (⟨g, n, none⟩ : Addr) = some ad ∧ w'.cell? (ad.add j) = some (.int .i64 y) := by
  have hadd2 : ∀ b i j : Nat, (⟨b, i, none⟩ : Addr).add j = ⟨b, i + j, none⟩ := fun b i j => by unfold Addr.add; split <;> simp_all
  intro j y hy
  rw [List.getElem?_drop] at hy
  have hj := (List.getElem?_eq_some_iff.1 hy).1
  obtain ⟨b, x, e1, e2, e3, e4⟩ := h (n + j) hj
  obtain rfl := Option.some.inj (e3.out.symm.trans hy)
  simp only [Option.some.injEq, Addr.mk.injEq, and_true] at e1
  subst e1
  exact ⟨_, rfl, by rw [hadd2]; exact (hb.cell (p := ⟨g, n + j, none⟩) e2).trans e4⟩

set_option maxHeartbeats 400000 in
theorem l1Put_c (xs : List Int) (v : Value) (n : Int) (w : World) (base : Nat) (hown : OwnI w base v xs) (hbs : base ≤ w.heap.size) (hlen : xs.length ≤ 1000000) :
    Calls Try.prog 68 #[v, .int .i64 n] w fun e w' => ∃ v', e = .returned v' ∧ OwnI w' base v' (M.put xs n) ∧ Below w.heap.size w w' := by
  obtain ⟨a, cap, rfl, hm, hv⟩ := hown.seen
  go_enter Try.func68, Try.ntmps68
  go_wp2
  have hcap := hown.cap
  go_loop [5] (fun vi => ∃ k : Nat, k ≤ xs.length ∧ vi = .int .i64 k ∧ ∀ j y, j < k → xs[j]? = some y → y < n) (fun vi => xs.length - (intOf vi).toNat)
  case atStart => exact ⟨0, by omega, rfl, fun j y h => by omega⟩
  case round =>
    obtain ⟨k, hk, rfl, hall⟩ := hrel
    have Hall := Lib.hid hall
    clear hall
    have hkc : (k : Int) ≤ cap := by omega
    by_cases hlt : k < xs.length
    · obtain ⟨g, x, rfl, hg, hx, hcell⟩ := hv k hlt
      by_cases hxn : x < n
      · have hnx : Hid (∀ j y, j < k + 1 → xs[j]? = some y → y < n) := Lib.hid fun j y hj hy => by
          rcases Nat.lt_or_ge j k with q | q
          · exact Hall.out j y q hy
          · obtain rfl : j = k := by omega
            obtain rfl := Option.some.inj (hx.out.symm.trans hy)
            exact hxn
        clear hv
        go_wp2
        go_round
        case rel => exact ⟨k + 1, by omega, by go_num, hnx.out⟩
        case measure => simp [intOf]; omega
      · have hpl : Hid (k = M.place xs n) := Lib.hid (M.place_eq xs n k (by omega) Hall.out fun y hy => by
          obtain rfl := Option.some.inj (hx.out.symm.trans hy)
          exact hxn)
        by_cases hxe : x = n
        · have hb : (x == n) = true := by simpa using hxe
          have hput : Hid (M.put xs n = xs) := Lib.hid (by unfold M.put; rw [← hpl.out, hx.out, hxe, if_pos rfl])
          clear hv
          have hxe := Lib.hid hxe
          go_wp2
          go_ret
          exact ⟨_, rfl, by rw [hput.out]; exact hown, Below.refl _ _⟩
        · have hb : (x == n) = false := by simpa using hxe
          have hput : Hid (M.put xs n = xs.take k ++ [n] ++ xs.drop k) := Lib.hid (by unfold M.put; rw [← hpl.out, hx.out, if_neg (by intro h; exact hxe (Option.some.inj h))])
          have hs1 := Lib.hid fun w' (hb : Below w.heap.size w w') => seen_take (n := k) hv hb
          have hs2 := Lib.hid fun w' (hb : Below w.heap.size w w') => seen_drop (n := k) hv hb
          clear hv
          have hc0 : ¬ cap = k := by omega
          have hl1 : Hid ((xs.take k).length = k) := Lib.hid (by rw [List.length_take]; omega)
          have hl2 : Hid ((xs.drop k).length = xs.length - k) := Lib.hid (by rw [List.length_drop])
          go_wp2_with (first
            | (at_builtin; refine push_seg (W := w) w.heap.size (xs.take k) [] _ (some ⟨g, 0, none⟩) k cap hl1.out rfl (.tmp 34) (.tmp 37) rfl rfl rfl (hs1.out _ (by repeat (first | exact Below.refl _ _ | refine below_alloc ?_ _ | refine below_step ?_ (by assumption) | refine Below.drew ?_ | refine Below.setCell ?_ (by first | exact Nat.le_refl _ | exact Nat.le_add_right _ _ | (simp <;> omega)) _ | refine below_drewN ?_ _))) (OwnI.lit0 _ _ (Nat.le_refl _)) (by repeat (first | exact Below.refl _ _ | refine below_alloc ?_ _ | refine below_step ?_ (by assumption) | refine Below.drew ?_ | refine Below.setCell ?_ (by first | exact Nat.le_refl _ | exact Nat.le_add_right _ _ | (simp <;> omega)) _ | refine below_drewN ?_ _)) (by simp) (by rw [hl1.out]; simp; omega) ?_; rintro v1 w1 hown1 hb1)
            | (at_builtin; refine push_int w.heap.size n (xs.take k) v1 rfl (.tmp 39) (.tmp 41) rfl rfl rfl hown1 hb1 hb1.size (by rw [hl1.out]; omega) ?_; rintro v2 w2 hown2 hb2)
            | (at_builtin; refine push_seg (W := w) w.heap.size (xs.drop k) (xs.take k ++ [n]) v2 (some ⟨g, k, none⟩) (xs.length - k) (cap - k) hl2.out rfl (.tmp 43) (.tmp 46) rfl rfl rfl (hs2.out _ hb2) hown2 hb2 hb2.size (by rw [List.length_append, hl1.out, hl2.out]; simp; omega) ?_; rintro v3 w3 hown3 hb3))
          go_ret
          exact ⟨_, rfl, by rw [hput.out]; exact hown3.base hbs, hb3⟩
    · obtain rfl : k = xs.length := by omega
      have hpl : Hid (xs.length = M.place xs n) := Lib.hid (M.place_eq xs n xs.length (by omega) Hall.out fun y hy => by simp at hy)
      have hput : Hid (M.put xs n = xs.take xs.length ++ [n] ++ []) := Lib.hid (by unfold M.put; rw [← hpl.out]; simp)
      have hs1 := Lib.hid fun w' (hb : Below w.heap.size w w') => seen_take (n := xs.length) hv hb
      clear hv
      have hl1 : Hid ((xs.take xs.length).length = xs.length) := Lib.hid (by rw [List.length_take]; omega)
      have h00 : Hid (([] : List Int).length = xs.length - xs.length) := Lib.hid (by simp)
      rcases hown.forms with ⟨h1, h2⟩ | ⟨g, cap', h1, hg⟩
      · injection h1 with e1 e2 e3
        subst e1 e3 h2
        clear e2
        go_wp2_with (first
          | (at_builtin; refine push_seg (W := w) w.heap.size [] [] _ none 0 0 rfl rfl (.tmp 34) (.tmp 37) rfl rfl rfl (by intro j y hy; cases hy) (OwnI.lit0 _ _ (Nat.le_refl _)) (by repeat (first | exact Below.refl _ _ | refine below_alloc ?_ _ | refine below_step ?_ (by assumption) | refine Below.drew ?_ | refine Below.setCell ?_ (by first | exact Nat.le_refl _ | exact Nat.le_add_right _ _ | (simp <;> omega)) _ | refine below_drewN ?_ _)) (by simp) (by simp) ?_; rintro v1 w1 hown1 hb1)
          | (at_builtin; refine push_int w.heap.size n [] v1 rfl (.tmp 39) (.tmp 41) rfl rfl rfl hown1 hb1 hb1.size (by simp) ?_; rintro v2 w2 hown2 hb2)
          | (at_builtin; refine push_seg (W := w) w.heap.size [] [n] v2 none 0 0 rfl rfl (.tmp 43) (.tmp 46) rfl rfl rfl (by intro j y hy; cases hy) hown2 hb2 hb2.size (by simp) ?_; rintro v3 w3 hown3 hb3))
        go_ret
        exact ⟨_, rfl, by rw [hput.out]; exact hown3.base hbs, hb3⟩
      · injection h1 with e1 e2 e3
        subst e1 e3
        clear e2
        by_cases hcx : cap = xs.length
        all_goals
          go_wp2_with (first
            | (at_builtin; refine push_seg (W := w) w.heap.size (xs.take xs.length) [] _ (some ⟨g, 0, none⟩) xs.length _ hl1.out rfl (.tmp 34) (.tmp 37) rfl rfl rfl (hs1.out _ (by repeat (first | exact Below.refl _ _ | refine below_alloc ?_ _ | refine below_step ?_ (by assumption) | refine Below.drew ?_ | refine Below.setCell ?_ (by first | exact Nat.le_refl _ | exact Nat.le_add_right _ _ | (simp <;> omega)) _ | refine below_drewN ?_ _))) (OwnI.lit0 _ _ (Nat.le_refl _)) (by repeat (first | exact Below.refl _ _ | refine below_alloc ?_ _ | refine below_step ?_ (by assumption) | refine Below.drew ?_ | refine Below.setCell ?_ (by first | exact Nat.le_refl _ | exact Nat.le_add_right _ _ | (simp <;> omega)) _ | refine below_drewN ?_ _)) (by simp) (by rw [hl1.out]; simp; omega) ?_; rintro v1 w1 hown1 hb1)
            | (at_builtin; refine push_int w.heap.size n (xs.take xs.length) v1 rfl (.tmp 39) (.tmp 41) rfl rfl rfl hown1 hb1 hb1.size (by rw [hl1.out]; omega) ?_; rintro v2 w2 hown2 hb2)
            | (at_builtin; refine push_seg (W := w) w.heap.size [] (xs.take xs.length ++ [n]) v2 _ 0 _ rfl rfl (.tmp 43) (.tmp 46) rfl rfl rfl (by intro j y hy; cases hy) hown2 hb2 hb2.size (by rw [List.length_append, hl1.out]; simp; omega) ?_; rintro v3 w3 hown3 hb3))
          go_ret
          exact ⟨_, rfl, by rw [hput.out]; exact hown3.base hbs, hb3⟩
end Go.Proofs.Ytoolgmpflplghaa
