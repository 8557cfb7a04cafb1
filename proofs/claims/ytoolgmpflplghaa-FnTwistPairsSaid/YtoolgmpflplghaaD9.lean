/-
  Contracts: the twist numbers with a valid twist.
-/
import Derived.Test.YtoolgmpflplghaaD8
namespace Go.Proofs.Ytoolgmpflplghaa
set_option linter.unusedSimpArgs false
set_option linter.unusedVariables false
open Go.RowKit

set_option maxHeartbeats 400000 in
theorem twistsOf_c (a b : Int) (w : World) (h : M.inCurve a b = true) :
    Calls Try.prog 66 #[.agg #[.int .i64 a, .int .i64 b]] w fun e w' => ∃ v, e = .returned v ∧ OwnI w' w.heap.size v (M.tws a b) ∧ Below w.heap.size w w' := by
  go_enter Try.func66, Try.ntmps66
  go_wp2
  go_loopw [3, 4, 5, 6] (fun v x _ _ wr => ∃ k : Nat, k ≤ 61 ∧ x = .int .i64 ((-30 : Int) + k) ∧ OwnI wr (w.heap.size + 1) v (M.sel (M.twp a b) (-30) k) ∧ Below (w.heap.size + 1) (w.alloc (.cells #[.int .i64 a, .int .i64 b] 23)) wr) (fun _ x _ _ _ => (31 - intOf x).toNat)
  case atStart => exact ⟨0, by omega, rfl, OwnI.nil _ _, Below.refl _ _⟩
  case round =>
    obtain ⟨k, hk, rfl, hown, hb⟩ := hrel
    have c0 : wr.cell? ⟨w.heap.size, 0, none⟩ = some (.int .i64 a) := (hb.cell (Nat.lt_succ_self _)).trans (box_cell _ _ _ _)
    have c1 : wr.cell? ⟨w.heap.size, 1, none⟩ = some (.int .i64 b) := (hb.cell (Nat.lt_succ_self _)).trans (box_cell _ _ _ _)
    have hz0 : w.heap.size + 1 ≤ wr.heap.size := by have := hb.size; simpa using this
    have hlen := M.sel_le (M.twp a b) (-30) k
    by_cases hlt : k < 61
    · have E := fun w => isTwist_c (-30 + k) w
      cases hr : M.tw (-30 + k) <;> simp only [hr] at E <;> have E := Lib.hid E
      · have hn := Lib.hid (M.sel_no (p := M.twp a b) (lo := -30) (k := k) (by simp [M.twp, hr]))
        go_wp2_with (go_at_call 60; (with_reducible refine (E.out _).mono ?_); rintro e w1 ⟨rfl, hb1⟩; have hz := hb1.size)
        go_roundw
        case rel => exact ⟨k + 1, by omega, by go_num, by rw [hn.out]; exact hown.below hb1, hb.trans (hb1.mono hz0)⟩
        case measure => simp [intOf]; omega
      · cases ht : M.good (a * (-30 + k) * (-30 + k)) (b * (-30 + k) * (-30 + k) * (-30 + k))
        · have hn := Lib.hid (M.sel_no (p := M.twp a b) (lo := -30) (k := k) (by simp [M.twp, M.twOk, ht]))
          have T := Lib.hid fun w => twist_f a b (-30 + k) w h (by omega) (by omega) ht
          go_wp2_with (first | (go_at_call 60; (with_reducible refine (E.out _).mono ?_); rintro e w1 ⟨rfl, hb1⟩; have hz := hb1.size; have e0 := keepCell hb1 c0; have e1 := keepCell hb1 c1) | (go_at_call 61; (with_reducible refine (T.out _).mono ?_); rintro e w2 ⟨rfl, hb2⟩; have hz2 := hb2.size))
          go_roundw
          case rel => exact ⟨k + 1, by omega, by go_num, by rw [hn.out]; exact ((hown.below hb1).below hb2).alloc _, ((hb.trans (hb1.mono hz0)).trans (hb2.mono (by omega))).alloc (by omega) _⟩
          case measure => simp [intOf]; omega
        · have hn := Lib.hid (M.sel_yes (p := M.twp a b) (lo := -30) (k := k) (by simp [M.twp, M.twOk, ht, hr]))
          have T := Lib.hid fun w => twist_t a b (-30 + k) w h (by omega) (by omega) ht
          go_wp2_with (first | (go_at_call 60; (with_reducible refine (E.out _).mono ?_); rintro e w1 ⟨rfl, hb1⟩; have hz := hb1.size; have e0 := keepCell hb1 c0; have e1 := keepCell hb1 c1) | (go_at_call 61; (with_reducible refine (T.out _).mono ?_); rintro e w2 ⟨rfl, hb2⟩; have hz2 := hb2.size) | (at_builtin; refine push_intH (w.heap.size + 1) (-30 + k) _ _ (w2.heap.size + 1) (by simp) rfl _ _ rfl rfl rfl (((hown.below hb1).below hb2).alloc _) (((hb.trans (hb1.mono hz0)).trans (hb2.mono (by omega))).alloc (by omega) _) (by simp; omega) (by omega) ?_; rintro v3 w3 hown3 hb3))
          go_roundw
          case rel => exact ⟨k + 1, by omega, by go_num, by rw [hn.out]; exact hown3, hb3⟩
          case measure => simp [intOf]; omega
    · obtain rfl : k = 61 := by omega
      go_wp2
      go_ret
      exact ⟨_, rfl, hown.base (by omega), ((Below.refl _ _).alloc (Nat.le_refl _) _).trans (hb.mono (by omega))⟩

theorem read2 (w : World) (x y : Int) (T : TypeId) (H : Nat) (hH : w.heap.size = H) : ∀ j z, ([x, y] : List Int)[j]? = some z → ∃ ad, some (⟨H, 0, none⟩ : Addr) = some ad ∧ (w.alloc (.cells #[.int .i64 x, .int .i64 y] T)).cell? (ad.add j) = some (.int .i64 z) := by
  intro j z hz
  subst hH
  have hadd : ∀ b i : Nat, (⟨b, 0, none⟩ : Addr).add i = ⟨b, i, none⟩ := fun b i => by unfold Addr.add; split <;> simp_all
  refine ⟨_, rfl, ?_⟩
  rw [hadd, box_cell]
  match j with
  | 0 => simpa using hz
  | 1 => simpa using hz
  | j + 2 => simp at hz

theorem twNumbers_c (w : World) :
    Calls Try.prog 67 #[] w fun e w' => ∃ v, e = .returned v ∧ OwnI w' w.heap.size v (M.near 30) ∧ Below w.heap.size w w' := by
  go_enter Try.func67, Try.ntmps67
  go_wp2
  go_loopw [1, 2] (fun v x wr => ∃ k : Nat, k ≤ 30 ∧ x = .int .i64 ((k : Int) + 1) ∧ OwnI wr w.heap.size v (M.near k) ∧ Below w.heap.size w wr) (fun _ x _ => (31 - intOf x).toNat)
  case atStart => exact ⟨0, by omega, rfl, OwnI.nil _ _, Below.refl _ _⟩
  case round =>
    obtain ⟨k, hk, rfl, hown, hb⟩ := hrel
    have hlen := M.near_le k
    have hz := hb.size
    by_cases hlt : k < 30
    · have E := fun w => twFree_c ((k : Int) + 1) w (by omega) (by omega) (by omega)
      cases hr : M.tw ((k : Int) + 1) <;> simp only [hr] at E <;> have E := Lib.hid E
      · have hn : Hid (M.near (k + 1) = M.near k) := Lib.hid (by rw [M.near, hr]; simp)
        go_wp2_with (go_at_call 108; refine (E.out _).mono ?_; rintro e w' ⟨rfl, rfl⟩)
        go_roundw
        case rel => exact ⟨k + 1, by omega, by go_num, by rw [hn.out]; exact hown, hb⟩
        case measure => simp [intOf]; omega
      · have hn : Hid (M.near (k + 1) = M.near k ++ [-((k : Int) + 1), (k : Int) + 1]) := Lib.hid (by rw [M.near, hr]; simp)
        go_wp2_with (first | (go_at_call 108; refine (E.out _).mono ?_; rintro e w' ⟨rfl, rfl⟩) | (at_builtin; refine push_seg (W := w) w.heap.size [-((k : Int) + 1), (k : Int) + 1] (M.near k) _ (some ⟨wr.heap.size, 0, none⟩) 2 2 rfl rfl (.tmp 9) (.tmp 13) rfl rfl (by go_num) (read2 _ _ _ _ _ rfl) (hown.alloc _) (hb.alloc hz _) (by simp; omega) (by simp; omega) ?_; rintro v3 w3 hown3 hb3))
        go_roundw
        case rel => exact ⟨k + 1, by omega, by go_num, by rw [hn.out]; exact hown3, hb3⟩
        case measure => simp [intOf]; omega
    · obtain rfl : k = 30 := by omega
      go_wp2
      go_ret
      exact ⟨_, rfl, hown, hb⟩

theorem implTwistsOf_c (a b : Int) (w : World) :
    Calls Try.prog 18 #[.agg #[.int .i64 a, .int .i64 b]] w fun e w' => ∃ v, e = .returned (.tuple #[v, .bool (M.good a b)]) ∧ OwnI w' w.heap.size v (if M.good a b then M.tws a b else []) ∧ Below w.heap.size w w' := by
  cases h1 : M.good a b
  · go_enter Try.func18, Try.ntmps18
    go_wp2_with (go_at_call 46; refine (isCurve_c _ _ _).mono ?_; rintro e w' ⟨rfl, hb⟩; have hz_ := hb.size; (try simp only [World.size_alloc, heap_drew, World.heap_drewN, size_setCell] at hz_); have hs0_ : w.heap.size < w'.heap.size := (by omega); have hk0_ := fun o => (bcell hb).1 (w.heap.size) o (by (try simp only [World.size_alloc, heap_drew, World.heap_drewN, size_setCell]); omega); have hl0_ := fun o => (bcell hb).2.1 (w.heap.size) o (by (try simp only [World.size_alloc, heap_drew, World.heap_drewN, size_setCell]); omega))
    go_ret2; exact ⟨_, by simp, OwnI.nil _ _, (by repeat (first | exact Below.refl _ _ | refine below_alloc ?_ _ | refine below_step ?_ (by assumption) | refine Below.drew ?_ | refine Below.setCell ?_ (by first | exact Nat.le_refl _ | exact Nat.le_add_right _ _ | (simp <;> omega)) _ | refine below_drewN ?_ _))⟩
  · go_enter Try.func18, Try.ntmps18
    go_wp2_with (first | (go_at_call 46; refine (isCurve_c _ _ _).mono ?_; rintro e w' ⟨rfl, hb⟩; have hz_ := hb.size; (try simp only [World.size_alloc, heap_drew, World.heap_drewN, size_setCell] at hz_); have hs0_ : w.heap.size < w'.heap.size := (by omega); have hk0_ := fun o => (bcell hb).1 (w.heap.size) o (by (try simp only [World.size_alloc, heap_drew, World.heap_drewN, size_setCell]); omega); have hl0_ := fun o => (bcell hb).2.1 (w.heap.size) o (by (try simp only [World.size_alloc, heap_drew, World.heap_drewN, size_setCell]); omega)) | (go_at_call 66; refine (twistsOf_c _ _ _ (M.good_in h1)).mono ?_; rintro e w2 ⟨v, rfl, hown, hb2⟩))
    go_ret2; exact ⟨v, by simp, hown.base (by omega), (by repeat (first | exact Below.refl _ _ | refine below_alloc ?_ _ | refine below_step ?_ (by assumption) | refine Below.drew ?_ | refine Below.setCell ?_ (by first | exact Nat.le_refl _ | exact Nat.le_add_right _ _ | (simp <;> omega)) _ | refine below_drewN ?_ _))⟩

/-- the list behind k numbers -/
def putIf (f : Int → Bool) (acc : List Int) (d : Int) : List Int := if f d then M.put acc d else acc
theorem putIf_le (f : Int → Bool) (xs : List Int) : ∀ k : Nat, ((xs.take k).foldl (putIf f) []).length ≤ k
  | 0 => by simp
  | k + 1 => by
    have ih := putIf_le f xs k
    cases hx : xs[k]? with
    | none =>
      have hl := List.getElem?_eq_none_iff.1 hx
      rw [List.take_of_length_le (by omega)]
      rw [List.take_of_length_le hl] at ih
      omega
    | some p =>
      rw [foldl_next _ _ hx]
      generalize (xs.take k).foldl (putIf f) [] = acc at ih ⊢
      have := M.put_le acc p
      unfold putIf
      split <;> omega

set_option maxHeartbeats 400000 in
theorem specTwistsOf_c (a b : Int) (w : World) :
    Calls Try.prog 19 #[.agg #[.int .i64 a, .int .i64 b]] w fun e w' => ∃ v, e = .returned (.tuple #[v, .bool (M.good a b)]) ∧ OwnI w' w.heap.size v (if M.good a b then M.tws a b else []) ∧ Below w.heap.size w w' := by
  cases h1 : M.good a b
  · go_enter Try.func19, Try.ntmps19
    go_wp2_with (go_at_call 50; refine (ecGood_c _ _ _).mono ?_; rintro e w' ⟨rfl, hb⟩; have hz_ := hb.size; (try simp only [World.size_alloc, heap_drew, World.heap_drewN, size_setCell] at hz_); have hs0_ : w.heap.size < w'.heap.size := (by omega); have hk0_ := fun o => (bcell hb).1 (w.heap.size) o (by (try simp only [World.size_alloc, heap_drew, World.heap_drewN, size_setCell]); omega); have hl0_ := fun o => (bcell hb).2.1 (w.heap.size) o (by (try simp only [World.size_alloc, heap_drew, World.heap_drewN, size_setCell]); omega))
    go_ret2; exact ⟨_, by simp, OwnI.nil _ _, (by repeat (first | exact Below.refl _ _ | refine below_alloc ?_ _ | refine below_step ?_ (by assumption) | refine Below.drew ?_ | refine Below.setCell ?_ (by first | exact Nat.le_refl _ | exact Nat.le_add_right _ _ | (simp <;> omega)) _ | refine below_drewN ?_ _))⟩
  · have h := M.good_in h1
    go_enter Try.func19, Try.ntmps19
    go_wp2_with (first | (go_at_call 50; refine (ecGood_c _ _ _).mono ?_; rintro e w' ⟨rfl, hb⟩; have hz_ := hb.size; (try simp only [World.size_alloc, heap_drew, World.heap_drewN, size_setCell] at hz_); have hs0_ : w.heap.size < w'.heap.size := (by omega); have hk0_ := fun o => (bcell hb).1 (w.heap.size) o (by (try simp only [World.size_alloc, heap_drew, World.heap_drewN, size_setCell]); omega); have hl0_ := fun o => (bcell hb).2.1 (w.heap.size) o (by (try simp only [World.size_alloc, heap_drew, World.heap_drewN, size_setCell]); omega)) | (go_at_call 67; refine (twNumbers_c _).mono ?_; rintro e w1 ⟨v, rfl, hown, hb⟩; obtain ⟨av, cap, rfl, hm, hv⟩ := hown.seen; have hz_ := hb.size; (try simp only [World.size_alloc, heap_drew, World.heap_drewN, size_setCell] at hz_); have hs0_ : w.heap.size < w1.heap.size := (by omega); have hk0_ := fun o => (bcell hb).1 (w.heap.size) o (by (try simp only [World.size_alloc, heap_drew, World.heap_drewN, size_setCell]); omega); have hl0_ := fun o => (bcell hb).2.1 (w.heap.size) o (by (try simp only [World.size_alloc, heap_drew, World.heap_drewN, size_setCell]); omega)))
    have c0 : w1.cell? ⟨w.heap.size, 0, none⟩ = some (.int .i64 a) := (hk0_ 0).trans (by simp [go_sem, *])
    have c1 : w1.cell? ⟨w.heap.size, 1, none⟩ = some (.int .i64 b) := (hk0_ 1).trans (by simp [go_sem, *])
    have hbw : Below w.heap.size w w1 := (by repeat (first | exact Below.refl _ _ | refine below_alloc ?_ _ | refine below_step ?_ (by assumption) | refine Below.drew ?_ | refine Below.setCell ?_ (by first | exact Nat.le_refl _ | exact Nat.le_add_right _ _ | (simp <;> omega)) _ | refine below_drewN ?_ _))
    clear hb hk0_ hl0_
    go_loopw [4, 6, 7, 8, 14] (fun vo _ _ _ vi wr => ∃ k : Nat, k ≤ (M.near 30).length ∧ vi = .int .i64 k ∧ OwnI wr w.heap.size vo (((M.near 30).take k).foldl (putIf (M.twOk a b)) []) ∧ Below w1.heap.size w1 wr) (fun _ _ _ _ vi _ => (M.near 30).length - (intOf vi).toNat)
    case atStart => exact ⟨0, by omega, rfl, OwnI.nil _ _, Below.refl _ _⟩
    case round =>
      obtain ⟨k, hk, rfl, hown2, hbr⟩ := hrel
      have hl2 := putIf_le (M.twOk a b) (M.near 30) k
      have hnl := M.near_le 30
      have hz1 := hbw.size
      have hz2 := hbr.size
      by_cases hlt : k < (M.near 30).length
      · obtain ⟨g, d, rfl, hg, hx, hcell⟩ := hv k hlt
        have hd := (M.mem_near 30 d).1 (List.mem_of_getElem? hx.out)
        have e0 := keepCell hbr c0
        have e1 := keepCell hbr c1
        have e4 := keepCell hbr hcell
        have hf := Lib.hid (foldl_next (putIf (M.twOk a b)) [] hx.out)
        obtain ⟨-, hd2⟩ := hd
        clear hv c0 c1 hcell
        cases ht : M.good (a * d * d) (b * d * d * d)
        · have T := Lib.hid fun w => twOf_f a b d w h (by omega) (by omega) ht
          go_wp2_with (go_at_call 63; (with_reducible refine (T.out _).mono ?_); rintro e w2 ⟨rfl, hb2⟩; have hz3 := hb2.size)
          go_roundw
          case rel => exact ⟨k + 1, by omega, by go_num, by rw [hf.out]; unfold putIf M.twOk; rw [ht]; exact (hown2.below hb2).alloc _, (hbr.trans (hb2.mono hz2)).alloc (by omega) _⟩
          case measure => simp [intOf]; omega
        · have T := Lib.hid fun w => twOf_t a b d w h (by omega) (by omega) ht
          go_wp2_with (first | (go_at_call 63; (with_reducible refine (T.out _).mono ?_); rintro e w2 ⟨rfl, hb2⟩; have hz3 := hb2.size) | (go_at_call 68; refine (l1Put_c _ _ d _ _ ((hown2.below hb2).alloc _) (by simp; omega) (by omega)).mono ?_; rintro e w3 ⟨v3, rfl, hown3, hb3⟩))
          go_roundw
          case rel => exact ⟨k + 1, by omega, by go_num, by rw [hf.out]; rw [putIf, M.twOk, ht, if_pos rfl]; exact hown3, ((hbr.trans (hb2.mono hz2)).alloc (by omega) _).trans (hb3.mono (by simp; omega))⟩
          case measure => simp [intOf]; omega
      · obtain rfl : k = (M.near 30).length := by omega
        have hfin : Hid (((M.near 30).take (M.near 30).length).foldl (putIf (M.twOk a b)) [] = M.tws a b) := Lib.hid (by rw [List.take_length]; exact M.tws_puts a b)
        clear hv
        go_wp2
        go_ret2
        exact ⟨_, rfl, by simp only [if_true]; rw [← hfin.out]; exact hown2, below_step hbw hbr⟩
end Go.Proofs.Ytoolgmpflplghaa
