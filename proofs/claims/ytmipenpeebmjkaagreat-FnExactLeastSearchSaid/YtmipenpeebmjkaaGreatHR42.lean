/-
  Contracts: LeastSearch.
-/
import Derived.Test.YtmipenpeebmjkaaGreatB19
namespace Go.Proofs.YtmipenpeebmjkaaGreat
set_option linter.unusedSimpArgs false
set_option linter.unusedVariables false
open Go.RowKit
namespace M
/-- the first number from k on, m of them, that passes -/
def lsg (f : Nat → Bool) : Nat → Nat → Option Nat
  | 0, _ => none
  | m + 1, k => if f k then some k else lsg f m (k + 1)
theorem lsg_hit {f : Nat → Bool} {n k : Nat} (h : k ≤ n) (hf : f k = true) : lsg f (n + 1 - k) k = some k := by
  obtain ⟨m, hm⟩ : ∃ m, n + 1 - k = m + 1 := ⟨n - k, by omega⟩
  rw [hm]
  unfold lsg
  rw [if_pos hf]
theorem lsg_next {f : Nat → Bool} {n k : Nat} (h : k ≤ n) (hf : f k = false) : lsg f (n + 1 - k) k = lsg f (n + 1 - (k + 1)) (k + 1) := by
  obtain ⟨m, hm⟩ : ∃ m, n + 1 - k = m + 1 := ⟨n - k, by omega⟩
  rw [hm, show n + 1 - (k + 1) = m by omega]
  conv => lhs; unfold lsg
  rw [if_neg (by rw [hf]; decide)]
theorem lsg_end (f : Nat → Bool) (n k : Nat) : lsg f (n + 1 - (n + 1)) k = none := by rw [Nat.sub_self]; rfl
noncomputable def stp (A B : Int) (k : Nat) : Bool := !bOk A B k || eqb (low A B k) (up A B)
noncomputable def lsR (A B : Int) (n : Nat) : Option Nat := lsg (stp A B) n 1
noncomputable def lsk (A B : Int) (n : Nat) : Bool := match lsR A B n with
  | some k => bOk A B k
  | none => false
noncomputable def lsv (A B : Int) (n : Nat) : Int := ((lsR A B n).getD 0 : Nat)
noncomputable def lsO (A B n : Int) : Bool := (tcb A B && ins n 1 60) && lsk A B n.toNat
theorem ls_some {A B : Int} {n k : Nat} (h : lsR A B n = some k) : lsk A B n = bOk A B k ∧ lsv A B n = k := by
  unfold lsk lsv
  rw [h]
  exact ⟨rfl, rfl⟩
theorem ls_none {A B : Int} {n : Nat} (h : lsR A B n = none) : lsk A B n = false := by unfold lsk; rw [h]
theorem stp_f {A B : Int} {k : Nat} (h : bOk A B k = false) : stp A B k = true := by unfold stp; rw [h]; rfl
theorem stp_t {A B : Int} {k : Nat} (h : bOk A B k = true) : stp A B k = eqb (low A B k) (up A B) := by unfold stp; rw [h]; rfl
theorem ls_fail {A B : Int} {n k : Nat} (h : k ≤ n) (hz : lsg (stp A B) (n + 1 - k) k = lsR A B n) (hb : bOk A B k = false) : lsk A B n = false := by
  rw [lsg_hit h (stp_f hb)] at hz
  rw [(ls_some hz.symm).1, hb]
theorem ls_hit {A B : Int} {n k : Nat} (h : k ≤ n) (hz : lsg (stp A B) (n + 1 - k) k = lsR A B n) (hb : bOk A B k = true) (he : low A B k = up A B) : lsk A B n = true ∧ lsv A B n = k := by
  rw [lsg_hit h (by rw [stp_t hb]; exact decide_eq_true he)] at hz
  rw [(ls_some hz.symm).1, (ls_some hz.symm).2, hb]
  exact ⟨rfl, rfl⟩
theorem ls_next {A B : Int} {n k : Nat} (h : k ≤ n) (hz : lsg (stp A B) (n + 1 - k) k = lsR A B n) (hb : bOk A B k = true) (he : ¬ low A B k = up A B) : lsg (stp A B) (n + 1 - (k + 1)) (k + 1) = lsR A B n := by
  rw [← lsg_next h (by rw [stp_t hb]; exact decide_eq_false he)]
  exact hz
theorem ls_end {A B : Int} {n : Nat} (hz : lsg (stp A B) (n + 1 - (n + 1)) (n + 1) = lsR A B n) : lsk A B n = false := ls_none (by rw [← hz]; exact lsg_end _ _ _)
end M
set_option maxRecDepth 100000 in
set_option maxHeartbeats 1000000 in
theorem implLeastSearch_c (A B n : Int) (w : World) :
    Calls Tryz.prog 24 #[.agg #[.int .i64 A, .int .i64 B], .int .i64 n] w fun e w' => e = .returned (.tuple #[.int .i64 (M.pick (M.lsO A B n) (M.lsv A B n.toNat)), .bool (M.lsO A B n)]) ∧ Below w.heap.size w w' := by
  have PT := fun W => isTwoCurve_c A B W
  unfold M.lsO
  have bx := Box.new w A B 26
  cases h1 : M.tcb A B
  · simp only [h1, Bool.true_and, Bool.false_and, M.pick_f] at PT ⊢
    have PT := Lib.hid PT
    go_enter Tryz.func24, Tryz.ntmps24
    go_wp2_with (first | (go_at_call 29; (with_reducible refine (PT.out _).mono ?_); rintro e w1 ⟨rfl, hb1⟩; (have B1 : Below w.heap.size w w1 := (by repeat (first | exact Below.refl _ _ | refine below_alloc ?_ _ | refine below_step ?_ (by assumption) | refine Below.drew ?_ | refine Below.setCell ?_ (by first | exact Nat.le_refl _ | exact Nat.le_add_right _ _ | (simp <;> omega)) _ | refine below_drewN ?_ _)))) | (go_at_call 30; refine (inside_c _ _ _ _).mono ?_; rintro e w' ⟨rfl, rfl⟩))
    go_ret2
    exact ⟨rfl, B1⟩
  · cases h2 : M.ins n 1 60
    · simp only [h1, h2, Bool.true_and, Bool.false_and, M.pick_f] at PT ⊢
      have PT := Lib.hid PT
      go_enter Tryz.func24, Tryz.ntmps24
      go_wp2_with (first | (go_at_call 29; (with_reducible refine (PT.out _).mono ?_); rintro e w1 ⟨rfl, hb1⟩; (have B1 : Below w.heap.size w w1 := (by repeat (first | exact Below.refl _ _ | refine below_alloc ?_ _ | refine below_step ?_ (by assumption) | refine Below.drew ?_ | refine Below.setCell ?_ (by first | exact Nat.le_refl _ | exact Nat.le_add_right _ _ | (simp <;> omega)) _ | refine below_drewN ?_ _)))) | (go_at_call 30; refine (inside_c _ _ _ _).mono ?_; rintro e w' ⟨rfl, rfl⟩))
      go_ret2
      exact ⟨rfl, B1⟩
    · have ht := M.tcb_t h1
      have hk := M.ins_t h2
      simp only [h1, h2, Bool.true_and] at PT ⊢
      have PT := Lib.hid PT
      obtain ⟨N, rfl⟩ : ∃ N : Nat, n = N := ⟨n.toNat, by omega⟩
      have P := fun k (hk : k ≤ 60) W => rankBounds_c A B k W ht hk
      have P := Lib.hid P
      simp only [Int.toNat_natCast]
      clear ht
      go_enter Tryz.func24, Tryz.ntmps24
      go_wp2_with (first | (go_at_call 29; (with_reducible refine (PT.out _).mono ?_); rintro e w1 ⟨rfl, hb1⟩; (have bx1 := bx.keep hb1); (have B1 : Below w.heap.size w w1 := (by repeat (first | exact Below.refl _ _ | refine below_alloc ?_ _ | refine below_step ?_ (by assumption) | refine Below.drew ?_ | refine Below.setCell ?_ (by first | exact Nat.le_refl _ | exact Nat.le_add_right _ _ | (simp <;> omega)) _ | refine below_drewN ?_ _)))) | (go_at_call 30; refine (inside_c _ _ _ _).mono ?_; rintro e w' ⟨rfl, rfl⟩))
      have bx1 := Lib.hid bx1
      clear bx PT hb1
      go_loopw [6, 7, 8, 9] (fun vk _ _ _ wr => ∃ k : Nat, 1 ≤ k ∧ k ≤ N + 1 ∧ vk = .int .i64 k ∧ M.lsg (M.stp A B) (N + 1 - k) k = M.lsR A B N ∧ Hid (Box wr w.heap.size A B) ∧ Below w.heap.size w wr) (fun vk _ _ _ _ => N + 1 - (intOf vk).toNat)
      case atStart => exact ⟨1, by omega, by omega, rfl, rfl, bx1, B1⟩
      case round =>
        obtain ⟨k, k1, k2, rfl, hz, bxr, hbr⟩ := hrel
        clear bx1 B1
        have hz := Lib.hid hz
        by_cases hkn : k ≤ N
        · have P2 := P.out k (by omega)
          have c0 := bxr.out.c0
          have c1 := bxr.out.c1
          have L1 := Lib.hid fun hb => M.ls_fail hkn hz.out hb
          have L2 := Lib.hid fun hb he => M.ls_hit hkn hz.out hb he
          have L3 := Lib.hid fun hb he => M.ls_next hkn hz.out hb he
          clear hz
          generalize M.low A B k = a at *
          generalize M.up A B = b at *
          generalize M.bOk A B k = q at *
          cases q
          · simp only [M.pick_f] at P2
            have P2 := Lib.hid P2
            have L1 := Lib.hid (L1.out rfl)
            clear L2 L3
            go_wp2_with (go_at_call 43; (with_reducible refine (P2.out _).mono ?_); rintro e w2 ⟨rfl, hb2⟩)
            go_ret2
            exact ⟨by rw [L1.out] <;> first | rfl | trivial, hbr.trans (hb2.mono hbr.size)⟩
          · simp only [M.pick_t] at P2
            have P2 := Lib.hid P2
            by_cases hab : a = b
            · have L4 := Lib.hid (L2.out rfl hab)
              clear L1 L2 L3
              subst hab
              go_wp2_with (go_at_call 43; (with_reducible refine (P2.out _).mono ?_); rintro e w2 ⟨rfl, hb2⟩)
              go_ret2
              exact ⟨by rw [L4.out.1, L4.out.2] <;> first | rfl | trivial, hbr.trans (hb2.mono hbr.size)⟩
            · have L4 := Lib.hid (L3.out rfl hab)
              clear L1 L2 L3
              go_wp2_with (go_at_call 43; (with_reducible refine (P2.out _).mono ?_); rintro e w2 ⟨rfl, hb2⟩; (have bx2 := Lib.hid (bxr.out.keep hb2)))
              go_roundw
              case rel => exact ⟨k + 1, by omega, by omega, by go_num, L4.out, bx2, hbr.trans (hb2.mono hbr.size)⟩
              case measure => simp [intOf]; omega
        · obtain rfl : k = N + 1 := by omega
          have L1 := Lib.hid (M.ls_end hz.out)
          clear hz
          go_wp2
          go_ret2
          exact ⟨by rw [L1.out] <;> first | rfl | trivial, hbr⟩
set_option maxRecDepth 100000 in
set_option maxHeartbeats 1000000 in
theorem specLeastSearch_c (A B n : Int) (w : World) :
    Calls Tryz.prog 23 #[.agg #[.int .i64 A, .int .i64 B], .int .i64 n] w fun e w' => e = .returned (.tuple #[.int .i64 (M.pick (M.lsO A B n) (M.lsv A B n.toNat)), .bool (M.lsO A B n)]) ∧ Below w.heap.size w w' := by
  have PT := fun W => rkAsked_c A B n W
  unfold M.lsO
  have bx := Box.new w A B 26
  cases h1 : (M.tcb A B && M.ins n 1 60)
  · simp only [h1, Bool.false_and, M.pick_f] at PT ⊢
    have PT := Lib.hid PT
    go_enter Tryz.func23, Tryz.ntmps23
    go_wp2_with (go_at_call 25; (with_reducible refine (PT.out _).mono ?_); rintro e w1 ⟨rfl, hb1⟩; (have B1 : Below w.heap.size w w1 := (by repeat (first | exact Below.refl _ _ | refine below_alloc ?_ _ | refine below_step ?_ (by assumption) | refine Below.drew ?_ | refine Below.setCell ?_ (by first | exact Nat.le_refl _ | exact Nat.le_add_right _ _ | (simp <;> omega)) _ | refine below_drewN ?_ _))))
    go_ret2
    exact ⟨rfl, B1⟩
  · simp only [h1, Bool.true_and] at PT ⊢
    have PT := Lib.hid PT
    rw [Bool.and_eq_true] at h1
    have ht := M.tcb_t h1.1
    have hk := M.ins_t h1.2
    clear h1
    obtain ⟨N, rfl⟩ : ∃ N : Nat, n = N := ⟨n.toNat, by omega⟩
    have P := fun k (hk : k ≤ 60) W => rkFound_c A B k W ht hk
    have P := Lib.hid P
    have PL := fun k W => rkLow_c (M.fR A B false k) (M.fR A B true k) W (M.rkc_bd (M.fg A B false k)) (M.rkc_bd (M.fg A B true k))
    have PL := Lib.hid PL
    have PU := fun W => rkUpper_c A B W ht
    have hlow : Hid (∀ k, M.low A B k = max (M.fR A B false k + M.fR A B true k - 2) 0) := Lib.hid fun _ => rfl
    have hbo : Hid (∀ k, M.bOk A B k = (M.fOk A B k && M.sOk A B)) := Lib.hid fun _ => rfl
    simp only [Int.toNat_natCast]
    clear ht
    cases hs : M.sOk A B
    · have L1 := Lib.hid (M.ls_fail (A := A) (B := B) (n := N) (k := 1) (by omega) rfl (by rw [hbo.out, hs, Bool.and_false]))
      simp only [hs, M.pick_f] at PU
      have PU := Lib.hid PU
      clear hs
      go_enter Tryz.func23, Tryz.ntmps23
      go_wp2_with (first
        | (go_at_call 25; (with_reducible refine (PT.out _).mono ?_); rintro e w1 ⟨rfl, hb1⟩; (have bx1 := bx.keep hb1); (have c0 := bx1.c0); (have c1 := bx1.c1); (have B1 : Below w.heap.size w w1 := (by repeat (first | exact Below.refl _ _ | refine below_alloc ?_ _ | refine below_step ?_ (by assumption) | refine Below.drew ?_ | refine Below.setCell ?_ (by first | exact Nat.le_refl _ | exact Nat.le_add_right _ _ | (simp <;> omega)) _ | refine below_drewN ?_ _))))
        | (go_at_call 45; (with_reducible refine (PU.out _).mono ?_); rintro e w2 ⟨rfl, hb2⟩; (have B2 := B1.trans (hb2.mono B1.size))))
      clear bx1 c0 c1 hb1 hb2 bx
      go_loopw [8, 9, 10, 11] (fun vk _ _ _ wr => vk = .int .i64 1 ∧ Below w.heap.size w wr) (fun _ _ _ _ _ => 0)
      case atStart => exact ⟨rfl, B2⟩
      case round =>
        obtain ⟨rfl, hbr⟩ := hrel
        go_wp2
        go_ret2
        exact ⟨by rw [L1.out] <;> first | rfl | trivial, hbr⟩
    · simp only [hs, M.pick_t] at PU
      have PU := Lib.hid PU
      replace hbo := Lib.hid fun k => (hbo.out k).trans (by rw [hs, Bool.and_true])
      clear hs
      go_enter Tryz.func23, Tryz.ntmps23
      go_wp2_with (first
        | (go_at_call 25; (with_reducible refine (PT.out _).mono ?_); rintro e w1 ⟨rfl, hb1⟩; (have bx1 := bx.keep hb1); (have c0 := bx1.c0); (have c1 := bx1.c1); (have B1 : Below w.heap.size w w1 := (by repeat (first | exact Below.refl _ _ | refine below_alloc ?_ _ | refine below_step ?_ (by assumption) | refine Below.drew ?_ | refine Below.setCell ?_ (by first | exact Nat.le_refl _ | exact Nat.le_add_right _ _ | (simp <;> omega)) _ | refine below_drewN ?_ _))))
        | (go_at_call 45; (with_reducible refine (PU.out _).mono ?_); rintro e w2 ⟨rfl, hb2⟩; (have B2 := B1.trans (hb2.mono B1.size)); (have bx2 := Lib.hid (bx1.keep hb2))))
      clear bx1 c0 c1 hb1 hb2 bx PT PU
      go_loopw [8, 9, 10, 11] (fun vk _ _ _ wr => ∃ k : Nat, 1 ≤ k ∧ k ≤ N + 1 ∧ vk = .int .i64 k ∧ M.lsg (M.stp A B) (N + 1 - k) k = M.lsR A B N ∧ Hid (Box wr w.heap.size A B) ∧ Below w.heap.size w wr) (fun vk _ _ _ _ => N + 1 - (intOf vk).toNat)
      case atStart => exact ⟨1, by omega, by omega, rfl, rfl, bx2, B2⟩
      case round =>
        obtain ⟨k, k1, k2, rfl, hz, bxr, hbr⟩ := hrel
        clear bx2 B2
        have hz := Lib.hid hz
        by_cases hkn : k ≤ N
        · have P2 := P.out k (by omega)
          have P3 := PL.out k
          have c0 := bxr.out.c0
          have c1 := bxr.out.c1
          have L1 := Lib.hid fun hb => M.ls_fail hkn hz.out hb
          have L2 := Lib.hid fun hb he => M.ls_hit hkn hz.out hb he
          have L3 := Lib.hid fun hb he => M.ls_next hkn hz.out hb he
          rw [hbo.out k, hlow.out k] at *
          clear hz
          generalize M.fR A B false k = x at *
          generalize M.fR A B true k = y at *
          generalize max (x + y - 2) 0 = a at *
          generalize M.up A B = b at *
          generalize M.fOk A B k = q at *
          have P3 := Lib.hid P3
          cases q
          · simp only [M.pick_f] at P2
            have P2 := Lib.hid P2
            have L1 := Lib.hid (L1.out rfl)
            clear L2 L3
            go_wp2_with (go_at_call 46; (with_reducible refine (P2.out _).mono ?_); rintro e w2 ⟨rfl, hb2⟩)
            go_ret2
            exact ⟨by rw [L1.out] <;> first | rfl | trivial, hbr.trans (hb2.mono hbr.size)⟩
          · simp only [M.pick_t] at P2
            have P2 := Lib.hid P2
            by_cases hab : a = b
            · have L4 := Lib.hid (L2.out rfl hab)
              clear L1 L2 L3
              subst hab
              go_wp2_with (first
                | (go_at_call 46; (with_reducible refine (P2.out _).mono ?_); rintro e w2 ⟨rfl, hb2⟩)
                | (go_at_call 47; (with_reducible refine (P3.out _).mono ?_); rintro e w3 ⟨rfl, hb3⟩))
              go_ret2
              exact ⟨by rw [L4.out.1, L4.out.2] <;> first | rfl | trivial, hbr.trans ((hb2.trans (hb3.mono hb2.size)).mono hbr.size)⟩
            · have L4 := Lib.hid (L3.out rfl hab)
              clear L1 L2 L3
              go_wp2_with (first
                | (go_at_call 46; (with_reducible refine (P2.out _).mono ?_); rintro e w2 ⟨rfl, hb2⟩)
                | (go_at_call 47; (with_reducible refine (P3.out _).mono ?_); rintro e w3 ⟨rfl, hb3⟩; (have bx3 := Lib.hid ((bxr.out.keep hb2).keep hb3))))
              go_roundw
              case rel => exact ⟨k + 1, by omega, by omega, by go_num, L4.out, bx3, hbr.trans ((hb2.trans (hb3.mono hb2.size)).mono hbr.size)⟩
              case measure => simp [intOf]; omega
        · obtain rfl : k = N + 1 := by omega
          have L1 := Lib.hid (M.ls_end hz.out)
          clear hz
          go_wp2
          go_ret2
          exact ⟨by rw [L1.out] <;> first | rfl | trivial, hbr⟩
end Go.Proofs.YtmipenpeebmjkaaGreat
