/-
  The walk of the law on twists.
-/
import Derived.Test.YtoolgmpflplghaaJ6
import Derived.Deep.DeepCutAuto
import Derived.Outline
namespace Go.Proofs.Ytoolgmpflplghaa
set_option linter.unusedSimpArgs false
set_option linter.unusedVariables false
open Go.RowKit

theorem twc_vals (a b d : Int) : ∃ (x y : Int) (ok : Bool), cvOk (twcOk a b d) (a * d * d) (b * d * d * d) = .tuple #[.agg #[.int .i64 x, .int .i64 y], .bool ok] ∧ (ok = true → twcOk a b d = true ∧ x = a * d * d ∧ y = b * d * d * d) := by
  unfold cvOk
  exact ⟨_, _, _, rfl, fun h => by simp [h]⟩
theorem ut_vals (a b d : Int) : ∃ (x y : Int) (ok : Bool), cvOk (utOk a b d) (a.tdiv (d * d)) (b.tdiv (d * d * d)) = .tuple #[.agg #[.int .i64 x, .int .i64 y], .bool ok] ∧ (ok = true → utOk a b d = true ∧ x = a.tdiv (d * d) ∧ y = b.tdiv (d * d * d)) := by
  unfold cvOk
  exact ⟨_, _, _, rfl, fun h => by simp [h]⟩
theorem tc_vals (a b d q : Int) : ∃ (x y : Int) (ok : Bool), tcVal a b d q = .tuple #[.int .i64 x, .int .i64 y, .bool ok] ∧ (ok = true → tcOk a b d q = true ∧ x = M.count a b q ∧ y = M.count (a * d * d) (b * d * d * d) q) := by
  unfold tcVal
  exact ⟨_, _, _, rfl, fun h => by simp [h, M.pick_t]⟩
theorem ts_vals (d q : Int) : ∃ (x : Int) (ok : Bool), (.tuple #[.int .i64 (M.pick (tsOk d q) (M.symb d q)), .bool (tsOk d q)] : Value) = .tuple #[.int .i64 x, .bool ok] ∧ (ok = true → tsOk d q = true ∧ x = M.symb d q) ∧ (tsOk d q = true → ok = true ∧ x = M.symb d q) := by
  exact ⟨_, _, rfl, fun h => by simp [h, M.pick_t], fun h => by simp [h, M.pick_t]⟩

set_option maxRecDepth 100000 in
set_option maxHeartbeats 8000000 in
theorem law_Twists (v u : Value) (n m : Nat) (w : World) (hv : Bytes w w.heap.size v n) (hu : Bytes w w.heap.size u m) :
    Calls Try.prog 4 #[v, u] w fun e w' => e = .returned (.bool true) ∧ Below w.heap.size w w' := by
  have HB := fun w hv hu => big_c v u n m w hv hu
  have Hv := Lib.hid hv
  have Hu := Lib.hid hu
  have HB := Lib.hid (big_c v u n m w hv hu)
  obtain ⟨Av, cv, rfl, -, -⟩ := hv
  obtain ⟨Au, cu, rfl, -, -⟩ := hu
  have BX : Below w.heap.size w w := Below.refl _ _
  go_enter Try.func4, Try.ntmps4
  go_wp2_with fail
  refine HB.out.mono ?_; rintro e w0 ⟨rfl, rfl⟩
  cases bigB n m
  case true =>
    go_wp2
    go_ret
    exact ⟨rfl, BX⟩
  case false =>
    go_wp2_with fail
    refine (drawTwistCurve_c _ n _ Hv.out).mono ?_; rintro e w1 ⟨a, b, d, rfl, hb_⟩
    replace BX := BX.trans hb_
    clear hb_
    have t5 := Box.new w1 (a) (b) 23
    replace BX := below_alloc BX (.cells #[.int .i64 (a), .int .i64 (b)] 23)
    obtain ⟨x, y, ok, hval, hok⟩ := twc_vals a b d
    have E1 := fun w => implTwistCurve_c a b d w
    have E2 := fun w => specTwistCurve_c a b d w
    rw [hval] at E1 E2
    have E1 := Lib.hid E1
    have E2 := Lib.hid E2
    have Hok := Lib.hid hok
    clear hval hok
    have E3 := fun w => implIsTwistNumber_c d w
    have E4 := fun w => specIsTwistNumber_c d w
    generalize M.tw d = T at E3 E4
    have E3 := Lib.hid E3
    have E4 := Lib.hid E4
    have q_t50 := t5.c0
    have q_t51 := t5.c1
    have q_t5s := t5.size
    go_wp2_with fail
    refine (E1.out _).mono ?_; rintro e w2 ⟨rfl, hb_⟩
    clear q_t50 q_t51 q_t5s
    replace t5 := t5.keep hb_
    replace BX := BX.trans (hb_.mono BX.size)
    clear hb_
    replace t5 := t5.alloc (.cells #[.int .i64 (x), .int .i64 (y)] 23)
    have t7 := Box.new w2 (x) (y) 23
    replace BX := below_alloc BX (.cells #[.int .i64 (x), .int .i64 (y)] 23)
    have q_t50 := t5.c0
    have q_t51 := t5.c1
    have q_t5s := t5.size
    have q_t70 := t7.c0
    have q_t71 := t7.c1
    have q_t7s := t7.size
    go_wp2_with fail
    refine (E2.out _).mono ?_; rintro e w3 ⟨rfl, hb_⟩
    clear q_t50 q_t51 q_t5s q_t70 q_t71 q_t7s
    replace t5 := t5.keep hb_
    replace t7 := t7.keep hb_
    replace BX := BX.trans (hb_.mono BX.size)
    clear hb_
    replace t5 := t5.alloc (.cells #[.int .i64 (x), .int .i64 (y)] 23)
    replace t7 := t7.alloc (.cells #[.int .i64 (x), .int .i64 (y)] 23)
    have t9 := Box.new w3 (x) (y) 23
    replace BX := below_alloc BX (.cells #[.int .i64 (x), .int .i64 (y)] 23)
    have q_t50 := t5.c0
    have q_t51 := t5.c1
    have q_t5s := t5.size
    have q_t70 := t7.c0
    have q_t71 := t7.c1
    have q_t7s := t7.size
    have q_t90 := t9.c0
    have q_t91 := t9.c1
    have q_t9s := t9.size
    go_wp2_with fail
    refine (E3.out _).mono ?_; rintro e w4 ⟨rfl, hb_⟩
    clear q_t50 q_t51 q_t5s q_t70 q_t71 q_t7s q_t90 q_t91 q_t9s
    replace t5 := t5.keep hb_
    replace t7 := t7.keep hb_
    replace t9 := t9.keep hb_
    replace BX := BX.trans (hb_.mono BX.size)
    clear hb_
    have q_t50 := t5.c0
    have q_t51 := t5.c1
    have q_t5s := t5.size
    have q_t70 := t7.c0
    have q_t71 := t7.c1
    have q_t7s := t7.size
    have q_t90 := t9.c0
    have q_t91 := t9.c1
    have q_t9s := t9.size
    go_wp2_with fail
    refine (E4.out _).mono ?_; rintro e w5 ⟨rfl, hb_⟩
    clear q_t50 q_t51 q_t5s q_t70 q_t71 q_t7s q_t90 q_t91 q_t9s
    replace t5 := t5.keep hb_
    replace t7 := t7.keep hb_
    replace t9 := t9.keep hb_
    replace BX := BX.trans (hb_.mono BX.size)
    clear hb_
    have q_t50 := t5.c0
    have q_t51 := t5.c1
    have q_t5s := t5.size
    have q_t70 := t7.c0
    have q_t71 := t7.c1
    have q_t7s := t7.size
    have q_t90 := t9.c0
    have q_t91 := t9.c1
    have q_t9s := t9.size
    go_upto_if 81 with fail
    go_cut [] from 5 (fun wx => Below w.heap.size w wx)
    case first => as_aux_lemma =>
      cases hkk : ok
      case false =>
        go_wp2
        go_meet
        exact BX
      case true =>
        clear q_t50 q_t51 q_t5s q_t70 q_t71 q_t7s q_t90 q_t91 q_t9s
        obtain ⟨htc, rfl, rfl⟩ := Hok.out hkk
        clear hkk
        obtain ⟨hg, htw, hG⟩ := twc_t htc
        obtain ⟨b1, b2, b3⟩ := tw_back htc
        have i1 := tw_inv htc
        obtain ⟨m1, m2⟩ := tw_mem htc
        have A1 := fun w => implUntwistCurve_c (a * d * d) (b * d * d * d) d w
        rw [b1, b2, b3] at A1
        simp only [cvOk, if_true] at A1
        have A1 := Lib.hid A1
        have A2 := fun w => implHaveSameInvariant_c a b (a * d * d) (b * d * d * d) w
        rw [hg, hG, i1] at A2
        have A2 := Lib.hid A2
        have A3 := fun w => implTwistsOf_c a b w
        have A4 := fun w => specTwistsOf_c a b w
        rw [hg, if_pos rfl] at A3 A4
        have A3 := Lib.hid A3
        have A4 := Lib.hid A4
        have A5 := fun w => implIsCurve_c (a * d * d) (b * d * d * d) w
        rw [hG] at A5
        have A5 := Lib.hid A5
        have M1 := Lib.hid m1
        have M2 := Lib.hid m2
        clear htc hg htw hG b1 b2 b3 i1 m1 m2 E1 E2 E3 E4
        generalize M.tws a b = L at *
        have q_t50 := t5.c0
        have q_t51 := t5.c1
        have q_t5s := t5.size
        have q_t70 := t7.c0
        have q_t71 := t7.c1
        have q_t7s := t7.size
        have q_t90 := t9.c0
        have q_t91 := t9.c1
        have q_t9s := t9.size
        go_wp2_with fail
        refine (A1.out _).mono ?_; rintro e w6 ⟨rfl, hb_⟩
        clear q_t50 q_t51 q_t5s q_t70 q_t71 q_t7s q_t90 q_t91 q_t9s
        replace t5 := t5.keep hb_
        replace t7 := t7.keep hb_
        replace t9 := t9.keep hb_
        replace BX := BX.trans (hb_.mono BX.size)
        clear hb_
        replace t5 := t5.alloc (.cells #[.int .i64 (a), .int .i64 (b)] 23)
        replace t7 := t7.alloc (.cells #[.int .i64 (a), .int .i64 (b)] 23)
        replace t9 := t9.alloc (.cells #[.int .i64 (a), .int .i64 (b)] 23)
        have t11 := Box.new w6 (a) (b) 23
        replace BX := below_alloc BX (.cells #[.int .i64 (a), .int .i64 (b)] 23)
        have q_t50 := t5.c0
        have q_t51 := t5.c1
        have q_t5s := t5.size
        have q_t70 := t7.c0
        have q_t71 := t7.c1
        have q_t7s := t7.size
        have q_t90 := t9.c0
        have q_t91 := t9.c1
        have q_t9s := t9.size
        have q_t110 := t11.c0
        have q_t111 := t11.c1
        have q_t11s := t11.size
        go_wp2_with fail
        refine (A2.out _).mono ?_; rintro e w7 ⟨rfl, hb_⟩
        clear q_t50 q_t51 q_t5s q_t70 q_t71 q_t7s q_t90 q_t91 q_t9s q_t110 q_t111 q_t11s
        replace t5 := t5.keep hb_
        replace t7 := t7.keep hb_
        replace t9 := t9.keep hb_
        replace t11 := t11.keep hb_
        replace BX := BX.trans (hb_.mono BX.size)
        clear hb_
        have q_t50 := t5.c0
        have q_t51 := t5.c1
        have q_t5s := t5.size
        have q_t70 := t7.c0
        have q_t71 := t7.c1
        have q_t7s := t7.size
        have q_t90 := t9.c0
        have q_t91 := t9.c1
        have q_t9s := t9.size
        have q_t110 := t11.c0
        have q_t111 := t11.c1
        have q_t11s := t11.size
        go_wp2_with fail
        refine (A3.out _).mono ?_; rintro e w8 ⟨vl, rfl, ol, hb_⟩
        clear q_t50 q_t51 q_t5s q_t70 q_t71 q_t7s q_t90 q_t91 q_t9s q_t110 q_t111 q_t11s
        replace t5 := t5.keep hb_
        replace t7 := t7.keep hb_
        replace t9 := t9.keep hb_
        replace t11 := t11.keep hb_
        replace BX := BX.trans (hb_.mono BX.size)
        have sl := ol.seen
        clear ol hb_
        have q_t50 := t5.c0
        have q_t51 := t5.c1
        have q_t5s := t5.size
        have q_t70 := t7.c0
        have q_t71 := t7.c1
        have q_t7s := t7.size
        have q_t90 := t9.c0
        have q_t91 := t9.c1
        have q_t9s := t9.size
        have q_t110 := t11.c0
        have q_t111 := t11.c1
        have q_t11s := t11.size
        go_wp2_with fail
        refine (A4.out _).mono ?_; rintro e w9 ⟨vn, rfl, on, hb_⟩
        clear q_t50 q_t51 q_t5s q_t70 q_t71 q_t7s q_t90 q_t91 q_t9s q_t110 q_t111 q_t11s
        replace t5 := t5.keep hb_
        replace t7 := t7.keep hb_
        replace t9 := t9.keep hb_
        replace t11 := t11.keep hb_
        replace BX := BX.trans (hb_.mono BX.size)
        replace sl := (sl.below hb_).mono hb_.size
        have sn := on.seen
        clear on hb_
        have q_t50 := t5.c0
        have q_t51 := t5.c1
        have q_t5s := t5.size
        have q_t70 := t7.c0
        have q_t71 := t7.c1
        have q_t7s := t7.size
        have q_t90 := t9.c0
        have q_t91 := t9.c1
        have q_t9s := t9.size
        have q_t110 := t11.c0
        have q_t111 := t11.c1
        have q_t11s := t11.size
        go_wp2_with fail
        refine (sameInts_c vl vn L _ _ _ sl sn).mono ?_; rintro e w10 ⟨rfl, hb_⟩
        clear q_t50 q_t51 q_t5s q_t70 q_t71 q_t7s q_t90 q_t91 q_t9s q_t110 q_t111 q_t11s
        replace t5 := t5.keep hb_
        replace t7 := t7.keep hb_
        replace t9 := t9.keep hb_
        replace t11 := t11.keep hb_
        replace BX := BX.trans (hb_.mono BX.size)
        replace sl := (sl.below hb_).mono hb_.size
        replace sn := (sn.below hb_).mono hb_.size
        clear hb_
        have q_t50 := t5.c0
        have q_t51 := t5.c1
        have q_t5s := t5.size
        have q_t70 := t7.c0
        have q_t71 := t7.c1
        have q_t7s := t7.size
        have q_t90 := t9.c0
        have q_t91 := t9.c1
        have q_t9s := t9.size
        have q_t110 := t11.c0
        have q_t111 := t11.c1
        have q_t11s := t11.size
        go_wp2_with fail
        refine (pIn_c vn L d _ _ sn M1.out).mono ?_; rintro e w11 ⟨rfl, rfl⟩
        clear q_t50 q_t51 q_t5s q_t70 q_t71 q_t7s q_t90 q_t91 q_t9s q_t110 q_t111 q_t11s
        have q_t50 := t5.c0
        have q_t51 := t5.c1
        have q_t5s := t5.size
        have q_t70 := t7.c0
        have q_t71 := t7.c1
        have q_t7s := t7.size
        have q_t90 := t9.c0
        have q_t91 := t9.c1
        have q_t9s := t9.size
        have q_t110 := t11.c0
        have q_t111 := t11.c1
        have q_t11s := t11.size
        go_wp2_with fail
        refine (pIn_c vn L 1 _ _ sn M2.out).mono ?_; rintro e w12 ⟨rfl, rfl⟩
        clear q_t50 q_t51 q_t5s q_t70 q_t71 q_t7s q_t90 q_t91 q_t9s q_t110 q_t111 q_t11s
        have q_t50 := t5.c0
        have q_t51 := t5.c1
        have q_t5s := t5.size
        have q_t70 := t7.c0
        have q_t71 := t7.c1
        have q_t7s := t7.size
        have q_t90 := t9.c0
        have q_t91 := t9.c1
        have q_t9s := t9.size
        have q_t110 := t11.c0
        have q_t111 := t11.c1
        have q_t11s := t11.size
        go_wp2_with fail
        refine (A5.out _).mono ?_; rintro e w13 ⟨rfl, hb_⟩
        clear q_t50 q_t51 q_t5s q_t70 q_t71 q_t7s q_t90 q_t91 q_t9s q_t110 q_t111 q_t11s
        replace t5 := t5.keep hb_
        replace t7 := t7.keep hb_
        replace t9 := t9.keep hb_
        replace t11 := t11.keep hb_
        replace BX := BX.trans (hb_.mono BX.size)
        clear hb_
        have q_t50 := t5.c0
        have q_t51 := t5.c1
        have q_t5s := t5.size
        have q_t70 := t7.c0
        have q_t71 := t7.c1
        have q_t7s := t7.size
        have q_t90 := t9.c0
        have q_t91 := t9.c1
        have q_t9s := t9.size
        have q_t110 := t11.c0
        have q_t111 := t11.c1
        have q_t11s := t11.size
        go_wp2
        go_meet
        exact BX
    case rest => as_aux_lemma =>
      clear q_t50 q_t51 q_t5s q_t70 q_t71 q_t7s q_t90 q_t91 q_t9s
      clear t5 t7 t9
      clear BX
      have BX := hcut
      generalize wc = wp at *
      clear hcut
      clear E1 E2 E3 E4 Hok
      go_wp2_with fail
      refine (drawTwistCounts_c _ m _ ((Hu.out.keepB BX).mono BX.size)).mono ?_; rintro e w14 ⟨a2, b2, d2, q2, rfl, hb_⟩
      replace BX := BX.trans (hb_.mono BX.size)
      clear hb_
      have t19 := Box.new w14 (a2) (b2) 23
      replace BX := below_alloc BX (.cells #[.int .i64 (a2), .int .i64 (b2)] 23)
      obtain ⟨x2, y2, ok2, hval, hok⟩ := tc_vals a2 b2 d2 q2
      have E1 := fun w => implTwistCounts_c a2 b2 d2 q2 w
      have E2 := fun w => specTwistCounts_c a2 b2 d2 q2 w
      rw [hval] at E1 E2
      have E1 := Lib.hid E1
      have E2 := Lib.hid E2
      have Hok := Lib.hid hok
      clear hval hok
      have q_t190 := t19.c0
      have q_t191 := t19.c1
      have q_t19s := t19.size
      go_wp2_with fail
      refine (E1.out _).mono ?_; rintro e w15 ⟨rfl, hb_⟩
      clear q_t190 q_t191 q_t19s
      replace t19 := t19.keep hb_
      replace BX := BX.trans (hb_.mono BX.size)
      clear hb_
      have q_t190 := t19.c0
      have q_t191 := t19.c1
      have q_t19s := t19.size
      go_wp2_with fail
      refine (E2.out _).mono ?_; rintro e w16 ⟨rfl, hb_⟩
      clear q_t190 q_t191 q_t19s
      replace t19 := t19.keep hb_
      replace BX := BX.trans (hb_.mono BX.size)
      clear hb_
      have q_t190 := t19.c0
      have q_t191 := t19.c1
      have q_t19s := t19.size
      go_upto_if 184 with fail
      go_cut [] from 5 (fun wx => Below w.heap.size w wx)
      case first => as_aux_lemma =>
        cases hkk : ok2
        case false =>
          go_wp2
          go_meet
          exact BX
        case true =>
          clear q_t190 q_t191 q_t19s
          obtain ⟨htc, rfl, rfl⟩ := Hok.out hkk
          clear hkk
          obtain ⟨k1, k2, k3, k4, k5⟩ := tw_cnt htc
          have c1 := M.count_bd a2 b2 (p := q2) (by omega)
          have c2 := M.count_bd (a2 * d2 * d2) (b2 * d2 * d2 * d2) (p := q2) (by omega)
          have A1 := fun w => implTwistSymbol_c d2 q2 w
          have A2 := fun w => specTwistSymbol_c d2 q2 w
          rw [k1, M.pick_t] at A1 A2
          clear htc k1 E1 E2
          generalize M.symb d2 q2 = s at *
          generalize M.count a2 b2 q2 = f1 at *
          generalize M.count (a2 * d2 * d2) (b2 * d2 * d2 * d2) q2 = f2 at *
          have A1 := Lib.hid A1
          have A2 := Lib.hid A2
          by_cases s1 : s = 1
          · subst s1
            obtain rfl := k2 rfl
            clear k2 k3
            have q_t190 := t19.c0
            have q_t191 := t19.c1
            have q_t19s := t19.size
            go_wp2_with fail
            refine (A1.out _).mono ?_; rintro e w17 ⟨rfl, hb_⟩
            clear q_t190 q_t191 q_t19s
            replace t19 := t19.keep hb_
            replace BX := BX.trans (hb_.mono BX.size)
            clear hb_
            have q_t190 := t19.c0
            have q_t191 := t19.c1
            have q_t19s := t19.size
            go_wp2_with fail
            refine (A2.out _).mono ?_; rintro e w18 ⟨rfl, hb_⟩
            clear q_t190 q_t191 q_t19s
            replace t19 := t19.keep hb_
            replace BX := BX.trans (hb_.mono BX.size)
            clear hb_
            have q_t190 := t19.c0
            have q_t191 := t19.c1
            have q_t19s := t19.size
            go_wp2
            go_meet
            exact BX
          · by_cases s2 : s = -1
            · subst s2
              have k6 := k3 rfl
              obtain rfl : f2 = 2 * q2 + 2 - f1 := by omega
              clear k2 k3 k6
              have k7 : f1 + (2 * q2 + 2 - f1) = 2 * q2 + 2 := by omega
              have q_t190 := t19.c0
              have q_t191 := t19.c1
              have q_t19s := t19.size
              go_wp2_with fail
              refine (A1.out _).mono ?_; rintro e w17 ⟨rfl, hb_⟩
              clear q_t190 q_t191 q_t19s
              replace t19 := t19.keep hb_
              replace BX := BX.trans (hb_.mono BX.size)
              clear hb_
              have q_t190 := t19.c0
              have q_t191 := t19.c1
              have q_t19s := t19.size
              go_wp2_with fail
              refine (A2.out _).mono ?_; rintro e w18 ⟨rfl, hb_⟩
              clear q_t190 q_t191 q_t19s
              replace t19 := t19.keep hb_
              replace BX := BX.trans (hb_.mono BX.size)
              clear hb_
              have q_t190 := t19.c0
              have q_t191 := t19.c1
              have q_t19s := t19.size
              go_wp2
              go_meet
              exact BX
            · clear k2 k3
              have n1 : (s == 1) = false := by simpa using s1
              have n2 : (s == -1) = false := by simpa using s2
              have q_t190 := t19.c0
              have q_t191 := t19.c1
              have q_t19s := t19.size
              go_wp2_with fail
              refine (A1.out _).mono ?_; rintro e w17 ⟨rfl, hb_⟩
              clear q_t190 q_t191 q_t19s
              replace t19 := t19.keep hb_
              replace BX := BX.trans (hb_.mono BX.size)
              clear hb_
              have q_t190 := t19.c0
              have q_t191 := t19.c1
              have q_t19s := t19.size
              go_wp2_with fail
              refine (A2.out _).mono ?_; rintro e w18 ⟨rfl, hb_⟩
              clear q_t190 q_t191 q_t19s
              replace t19 := t19.keep hb_
              replace BX := BX.trans (hb_.mono BX.size)
              clear hb_
              have q_t190 := t19.c0
              have q_t191 := t19.c1
              have q_t19s := t19.size
              go_wp2
              go_meet
              exact BX
      case rest => as_aux_lemma =>
        clear q_t190 q_t191 q_t19s
        clear t19
        clear BX
        have BX := hcut
        generalize wc = wp at *
        clear hcut
        clear E1 E2 Hok
        go_wp2_with fail
        refine (drawUntwistCurve_c _ m _ ((Hu.out.keepB BX).mono BX.size)).mono ?_; rintro e w19 ⟨a3, b3, d3, rfl, hb_⟩
        replace BX := BX.trans (hb_.mono BX.size)
        clear hb_
        have t32 := Box.new w19 (a3) (b3) 23
        replace BX := below_alloc BX (.cells #[.int .i64 (a3), .int .i64 (b3)] 23)
        obtain ⟨x3, y3, ok3, hval, hok⟩ := ut_vals a3 b3 d3
        have E1 := fun w => implUntwistCurve_c a3 b3 d3 w
        have E2 := fun w => specUntwistCurve_c a3 b3 d3 w
        rw [hval] at E1 E2
        have E1 := Lib.hid E1
        have E2 := Lib.hid E2
        have Hok := Lib.hid hok
        clear hval hok
        have q_t320 := t32.c0
        have q_t321 := t32.c1
        have q_t32s := t32.size
        go_wp2_with fail
        refine (E1.out _).mono ?_; rintro e w20 ⟨rfl, hb_⟩
        clear q_t320 q_t321 q_t32s
        replace t32 := t32.keep hb_
        replace BX := BX.trans (hb_.mono BX.size)
        clear hb_
        replace t32 := t32.alloc (.cells #[.int .i64 (x3), .int .i64 (y3)] 23)
        have t34 := Box.new w20 (x3) (y3) 23
        replace BX := below_alloc BX (.cells #[.int .i64 (x3), .int .i64 (y3)] 23)
        have q_t320 := t32.c0
        have q_t321 := t32.c1
        have q_t32s := t32.size
        have q_t340 := t34.c0
        have q_t341 := t34.c1
        have q_t34s := t34.size
        go_wp2_with fail
        refine (E2.out _).mono ?_; rintro e w21 ⟨rfl, hb_⟩
        clear q_t320 q_t321 q_t32s q_t340 q_t341 q_t34s
        replace t32 := t32.keep hb_
        replace t34 := t34.keep hb_
        replace BX := BX.trans (hb_.mono BX.size)
        clear hb_
        replace t32 := t32.alloc (.cells #[.int .i64 (x3), .int .i64 (y3)] 23)
        replace t34 := t34.alloc (.cells #[.int .i64 (x3), .int .i64 (y3)] 23)
        have t36 := Box.new w21 (x3) (y3) 23
        replace BX := below_alloc BX (.cells #[.int .i64 (x3), .int .i64 (y3)] 23)
        have q_t320 := t32.c0
        have q_t321 := t32.c1
        have q_t32s := t32.size
        have q_t340 := t34.c0
        have q_t341 := t34.c1
        have q_t34s := t34.size
        have q_t360 := t36.c0
        have q_t361 := t36.c1
        have q_t36s := t36.size
        go_upto_if 255 with fail
        go_cut [] from 5 (fun wx => Below w.heap.size w wx)
        case first => as_aux_lemma =>
          cases hkk : ok3
          case false =>
            go_wp2
            go_meet
            exact BX
          case true =>
            clear q_t320 q_t321 q_t32s q_t340 q_t341 q_t34s q_t360 q_t361 q_t36s
            obtain ⟨hut, rfl, rfl⟩ := Hok.out hkk
            clear hkk
            obtain ⟨k1, k2, k3⟩ := ut_back hut
            have A1 := fun w => implTwistCurve_c (a3.tdiv (d3 * d3)) (b3.tdiv (d3 * d3 * d3)) d3 w
            rw [k1, k2, k3] at A1
            simp only [cvOk, if_true] at A1
            clear k1 k2 k3 hut E1 E2
            generalize a3.tdiv (d3 * d3) = r3 at *
            generalize b3.tdiv (d3 * d3 * d3) = t3 at *
            have A1 := Lib.hid A1
            have q_t320 := t32.c0
            have q_t321 := t32.c1
            have q_t32s := t32.size
            have q_t340 := t34.c0
            have q_t341 := t34.c1
            have q_t34s := t34.size
            have q_t360 := t36.c0
            have q_t361 := t36.c1
            have q_t36s := t36.size
            go_wp2_with fail
            refine (A1.out _).mono ?_; rintro e w22 ⟨rfl, hb_⟩
            clear q_t320 q_t321 q_t32s q_t340 q_t341 q_t34s q_t360 q_t361 q_t36s
            replace t32 := t32.keep hb_
            replace t34 := t34.keep hb_
            replace t36 := t36.keep hb_
            replace BX := BX.trans (hb_.mono BX.size)
            clear hb_
            replace t32 := t32.alloc (.cells #[.int .i64 (a3), .int .i64 (b3)] 23)
            replace t34 := t34.alloc (.cells #[.int .i64 (a3), .int .i64 (b3)] 23)
            replace t36 := t36.alloc (.cells #[.int .i64 (a3), .int .i64 (b3)] 23)
            have t38 := Box.new w22 (a3) (b3) 23
            replace BX := below_alloc BX (.cells #[.int .i64 (a3), .int .i64 (b3)] 23)
            have q_t320 := t32.c0
            have q_t321 := t32.c1
            have q_t32s := t32.size
            have q_t340 := t34.c0
            have q_t341 := t34.c1
            have q_t34s := t34.size
            have q_t360 := t36.c0
            have q_t361 := t36.c1
            have q_t36s := t36.size
            have q_t380 := t38.c0
            have q_t381 := t38.c1
            have q_t38s := t38.size
            go_wp2
            go_meet
            exact BX
        case rest => as_aux_lemma =>
          clear q_t320 q_t321 q_t32s q_t340 q_t341 q_t34s q_t360 q_t361 q_t36s
          clear t32 t34 t36
          clear BX
          have BX := hcut
          generalize wc = wp at *
          clear hcut
          clear E1 E2 Hok
          go_wp2_with fail
          refine (drawTwistSymbol_c _ m _ ((Hu.out.keepB BX).mono BX.size)).mono ?_; rintro e w23 ⟨d4, q4, rfl, hb_⟩
          replace BX := BX.trans (hb_.mono BX.size)
          clear hb_
          obtain ⟨x4, ok4, hval, -, -⟩ := ts_vals d4 q4
          have E1 := fun w => implTwistSymbol_c d4 q4 w
          have E2 := fun w => specTwistSymbol_c d4 q4 w
          rw [hval] at E1 E2
          have E1 := Lib.hid E1
          have E2 := Lib.hid E2
          clear hval
          go_wp2_with fail
          refine (E1.out _).mono ?_; rintro e w24 ⟨rfl, hb_⟩
          replace BX := BX.trans (hb_.mono BX.size)
          clear hb_
          go_wp2_with fail
          refine (E2.out _).mono ?_; rintro e w25 ⟨rfl, hb_⟩
          replace BX := BX.trans (hb_.mono BX.size)
          clear hb_
          go_wp2
          go_ret
          exact ⟨by simp, BX⟩
end Go.Proofs.Ytoolgmpflplghaa
