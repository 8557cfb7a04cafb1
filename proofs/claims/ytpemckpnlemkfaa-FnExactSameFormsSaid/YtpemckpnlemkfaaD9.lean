/-
  Contracts: the twist numbers with a valid twist.
-/
import Derived.Test.YtpemckpnlemkfaaD8
namespace Go.Proofs.Ytpemckpnlemkfaa
set_option linter.unusedSimpArgs false
set_option linter.unusedVariables false
open Go.RowKit

set_option maxHeartbeats 400000 in
theorem twistsOf_c (a b : Int) (w : World) (h : M.inCurve a b = true) :
    Calls Try.prog 55 #[.agg #[.int .i64 a, .int .i64 b]] w fun e w' => ∃ v, e = .returned v ∧ OwnI w' w.heap.size v (M.tws a b) ∧ Below w.heap.size w w' := by
  go_enter Try.func55, Try.ntmps55
  go_wp2
  go_loopw [3, 4, 5, 6] (fun v x _ _ wr => ∃ k : Nat, k ≤ 61 ∧ x = .int .i64 ((-30 : Int) + k) ∧ OwnI wr (w.heap.size + 1) v (M.sel (M.twp a b) (-30) k) ∧ Below (w.heap.size + 1) (w.alloc (.cells #[.int .i64 a, .int .i64 b] 41)) wr) (fun _ x _ _ _ => (31 - intOf x).toNat)
  case atStart => exact ⟨0, by omega, rfl, OwnI.nil _ _, Below.refl _ _⟩
  case round =>
    obtain ⟨k, hk, rfl, hown, hb⟩ := hrel
    have c0 : wr.cell? ⟨w.heap.size, 0, none⟩ = some (.int .i64 a) := (hb.cell (Nat.lt_succ_self _)).trans (box_cell _ _ _ _)
    have c1 : wr.cell? ⟨w.heap.size, 1, none⟩ = some (.int .i64 b) := (hb.cell (Nat.lt_succ_self _)).trans (box_cell _ _ _ _)
    have hz0 : w.heap.size + 1 ≤ wr.heap.size := by have := hb.size; simpa using this
    have hlen := M.sel_le (M.twp a b) (-30) k
    by_cases hlt : k < 61
    · have E := fun w => isTwist_c (-30 + k) w
      cases hr : M.tw (-30 + k) <;> simp only [hr] at E <;> have E := Lib.hid E
      · have hn := Lib.hid (M.sel_no (p := M.twp a b) (lo := -30) (k := k) (by simp [M.twp, hr]))
        go_wp2_with (go_at_call 80; (with_reducible refine (E.out _).mono ?_); rintro e w1 ⟨rfl, hb1⟩; have hz := hb1.size)
        go_roundw
        case rel => exact ⟨k + 1, by omega, by go_num, by rw [hn.out]; exact hown.below hb1, hb.trans (hb1.mono hz0)⟩
        case measure => simp [intOf]; omega
      · cases ht : M.good (a * (-30 + k) * (-30 + k)) (b * (-30 + k) * (-30 + k) * (-30 + k))
        · have hn := Lib.hid (M.sel_no (p := M.twp a b) (lo := -30) (k := k) (by simp [M.twp, M.twOk, ht]))
          have T := Lib.hid fun w => twist_f a b (-30 + k) w h (by omega) (by omega) ht
          go_wp2_with (first | (go_at_call 80; (with_reducible refine (E.out _).mono ?_); rintro e w1 ⟨rfl, hb1⟩; have hz := hb1.size; have e0 := keepCell hb1 c0; have e1 := keepCell hb1 c1) | (go_at_call 56; (with_reducible refine (T.out _).mono ?_); rintro e w2 ⟨rfl, hb2⟩; have hz2 := hb2.size))
          go_roundw
          case rel => exact ⟨k + 1, by omega, by go_num, by rw [hn.out]; exact ((hown.below hb1).below hb2).alloc _, ((hb.trans (hb1.mono hz0)).trans (hb2.mono (by omega))).alloc (by omega) _⟩
          case measure => simp [intOf]; omega
        · have hn := Lib.hid (M.sel_yes (p := M.twp a b) (lo := -30) (k := k) (by simp [M.twp, M.twOk, ht, hr]))
          have T := Lib.hid fun w => twist_t a b (-30 + k) w h (by omega) (by omega) ht
          go_wp2_with (first | (go_at_call 80; (with_reducible refine (E.out _).mono ?_); rintro e w1 ⟨rfl, hb1⟩; have hz := hb1.size; have e0 := keepCell hb1 c0; have e1 := keepCell hb1 c1) | (go_at_call 56; (with_reducible refine (T.out _).mono ?_); rintro e w2 ⟨rfl, hb2⟩; have hz2 := hb2.size) | (at_builtin; refine push_intH (w.heap.size + 1) (-30 + k) _ _ (w2.heap.size + 1) (by simp) rfl _ _ rfl rfl rfl (((hown.below hb1).below hb2).alloc _) (((hb.trans (hb1.mono hz0)).trans (hb2.mono (by omega))).alloc (by omega) _) (by simp; omega) (by omega) ?_; rintro v3 w3 hown3 hb3))
          go_roundw
          case rel => exact ⟨k + 1, by omega, by go_num, by rw [hn.out]; exact hown3, hb3⟩
          case measure => simp [intOf]; omega
    · obtain rfl : k = 61 := by omega
      go_wp2
      go_ret
      exact ⟨_, rfl, hown.base (by omega), ((Below.refl _ _).alloc (Nat.le_refl _) _).trans (hb.mono (by omega))⟩

theorem read2 (w : World) (x y : Int) (T : TypeId) (H : Nat) (hH : w.heap.size = H) : ∀ j z, ([x, y] : List Int)[j]? = some z → ∃ ad, some (⟨H, 0, none⟩ : Addr) = some ad ∧ (w.alloc (.cells #[.int .i64 x, .int .i64 y] T)).cell? (ad.add j) = some (.int .i64 z) := by
  intro j z hz
  subst hH
  have hadd : ∀ b i : Nat, (⟨b, 0, none⟩ : Addr).add i = ⟨b, i, none⟩ := fun b i => by unfold Addr.add; split <;> simp_all
  refine ⟨_, rfl, ?_⟩
  rw [hadd, box_cell]
  match j with
  | 0 => simpa using hz
  | 1 => simpa using hz
  | j + 2 => simp at hz

theorem twNumbers_c (w : World) :
    Calls Try.prog 52 #[] w fun e w' => ∃ v, e = .returned v ∧ OwnI w' w.heap.size v (M.near 30) ∧ Below w.heap.size w w' := by
  go_enter Try.func52, Try.ntmps52
  go_wp2
  go_loopw [1, 2] (fun v x wr => ∃ k : Nat, k ≤ 30 ∧ x = .int .i64 ((k : Int) + 1) ∧ OwnI wr w.heap.size v (M.near k) ∧ Below w.heap.size w wr) (fun _ x _ => (31 - intOf x).toNat)
  case atStart => exact ⟨0, by omega, rfl, OwnI.nil _ _, Below.refl _ _⟩
  case round =>
    obtain ⟨k, hk, rfl, hown, hb⟩ := hrel
    have hlen := M.near_le k
    have hz := hb.size
    by_cases hlt : k < 30
    · have E := fun w => twFree_c ((k : Int) + 1) w (by omega) (by omega) (by omega)
      cases hr : M.tw ((k : Int) + 1) <;> simp only [hr] at E <;> have E := Lib.hid E
      · have hn : Hid (M.near (k + 1) = M.near k) := Lib.hid (by rw [M.near, hr]; simp)
        go_wp2_with (go_at_call 74; refine (E.out _).mono ?_; rintro e w' ⟨rfl, rfl⟩)
        go_roundw
        case rel => exact ⟨k + 1, by omega, by go_num, by rw [hn.out]; exact hown, hb⟩
        case measure => simp [intOf]; omega
      · have hn : Hid (M.near (k + 1) = M.near k ++ [-((k : Int) + 1), (k : Int) + 1]) := Lib.hid (by rw [M.near, hr]; simp)
        go_wp2_with (first | (go_at_call 74; refine (E.out _).mono ?_; rintro e w' ⟨rfl, rfl⟩) | (at_builtin; refine push_seg (W := w) w.heap.size [-((k : Int) + 1), (k : Int) + 1] (M.near k) _ (some ⟨wr.heap.size, 0, none⟩) 2 2 rfl rfl (.tmp 9) (.tmp 13) rfl rfl (by go_num) (read2 _ _ _ _ _ rfl) (hown.alloc _) (hb.alloc hz _) (by simp; omega) (by simp; omega) ?_; rintro v3 w3 hown3 hb3))
        go_roundw
        case rel => exact ⟨k + 1, by omega, by go_num, by rw [hn.out]; exact hown3, hb3⟩
        case measure => simp [intOf]; omega
    · obtain rfl : k = 30 := by omega
      go_wp2
      go_ret
      exact ⟨_, rfl, hown, hb⟩

/-- the list behind k numbers -/
def putIf (f : Int → Bool) (acc : List Int) (d : Int) : List Int := if f d then M.put acc d else acc
theorem putIf_le (f : Int → Bool) (xs : List Int) : ∀ k : Nat, ((xs.take k).foldl (putIf f) []).length ≤ k
  | 0 => by simp
  | k + 1 => by
    have ih := putIf_le f xs k
    cases hx : xs[k]? with
    | none =>
      have hl := List.getElem?_eq_none_iff.1 hx
      rw [List.take_of_length_le (by omega)]
      rw [List.take_of_length_le hl] at ih
      omega
    | some p =>
      rw [foldl_next _ _ hx]
      generalize (xs.take k).foldl (putIf f) [] = acc at ih ⊢
      have := M.put_le acc p
      unfold putIf
      split <;> omega

end Go.Proofs.Ytpemckpnlemkfaa
