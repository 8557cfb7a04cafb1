/-
  The walk of the law on twists between curves.
-/
import Derived.Test.YtoolgmpflplghaaKM
import Derived.Test.YtoolgmpflplghaaF4
import Derived.Deep.DeepCutAuto
import Derived.Outline
namespace Go.Proofs.Ytoolgmpflplghaa
set_option linter.unusedSimpArgs false
set_option linter.unusedVariables false
open Go.RowKit


set_option maxRecDepth 100000 in
set_option maxHeartbeats 8000000 in
theorem law_TwistPairs (v u : Value) (n m : Nat) (w : World) (hv : Bytes w w.heap.size v n) (hu : Bytes w w.heap.size u m) :
    Calls Try.prog 5 #[v, u] w fun e w' => e = .returned (.bool true) ∧ Below w.heap.size w w' := by
  have Hv := Lib.hid hv
  have Hu := Lib.hid hu
  have HB := Lib.hid (big_c v u n m w hv hu)
  obtain ⟨Av, cv, rfl, -, -⟩ := hv
  obtain ⟨Au, cu, rfl, -, -⟩ := hu
  have BX : Below w.heap.size w w := Below.refl _ _
  go_enter Try.func5, Try.ntmps5
  go_wp2_with fail
  refine HB.out.mono ?_; rintro e w0 ⟨rfl, rfl⟩
  cases bigB n m
  case true =>
    go_wp2
    go_ret
    exact ⟨rfl, BX⟩
  case false =>
    go_wp2_with fail
    refine (drawTwistBetween_c _ n _ Hv.out).mono ?_; rintro e w1 ⟨a, b, c, k, rfl, hb_⟩
    replace BX := BX.trans hb_
    clear hb_
    have t5 := Box.new w1 (a) (b) 23
    replace BX := below_alloc BX (.cells #[.int .i64 (a), .int .i64 (b)] 23)
    replace t5 := t5.alloc (.cells #[.int .i64 (c), .int .i64 (k)] 23)
    have t6 := Box.new (w1.alloc (.cells #[.int .i64 (a), .int .i64 (b)] 23)) (c) (k) 23
    replace BX := below_alloc BX (.cells #[.int .i64 (c), .int .i64 (k)] 23)
    rw [World.size_alloc] at t6
    obtain ⟨d, ok, one, same, e1, e2, e3, e4, hok⟩ := bt_vals a b c k
    have E1 := fun w => implTwistBetween_c a b c k w
    have E2 := fun w => specTwistBetween_c a b c k w
    rw [e1, e2] at E1 E2
    have E3 := fun w => implHaveSameInvariant_c a b c k w
    have E4 := fun w => specHaveSameInvariant_c a b c k w
    rw [e3, e4] at E3 E4
    have E1 := Lib.hid E1
    have E2 := Lib.hid E2
    have E3 := Lib.hid E3
    have E4 := Lib.hid E4
    have Hok := Lib.hid hok
    clear hok e1 e2 e3 e4
    have q_t50 := t5.c0
    have q_t51 := t5.c1
    have q_t5s := t5.size
    have q_t60 := t6.c0
    have q_t61 := t6.c1
    have q_t6s := t6.size
    go_wp2_with fail
    refine (E1.out _).mono ?_; rintro r w2 ⟨rfl, hb_⟩
    clear q_t50 q_t51 q_t5s q_t60 q_t61 q_t6s
    replace t5 := t5.keep hb_
    replace t6 := t6.keep hb_
    replace BX := BX.trans (hb_.mono BX.size)
    clear hb_
    have q_t50 := t5.c0
    have q_t51 := t5.c1
    have q_t5s := t5.size
    have q_t60 := t6.c0
    have q_t61 := t6.c1
    have q_t6s := t6.size
    go_wp2_with fail
    refine (E2.out _).mono ?_; rintro r w3 ⟨rfl, hb_⟩
    clear q_t50 q_t51 q_t5s q_t60 q_t61 q_t6s
    replace t5 := t5.keep hb_
    replace t6 := t6.keep hb_
    replace BX := BX.trans (hb_.mono BX.size)
    clear hb_
    have q_t50 := t5.c0
    have q_t51 := t5.c1
    have q_t5s := t5.size
    have q_t60 := t6.c0
    have q_t61 := t6.c1
    have q_t6s := t6.size
    go_wp2_with fail
    refine (E3.out _).mono ?_; rintro r w4 ⟨rfl, hb_⟩
    clear q_t50 q_t51 q_t5s q_t60 q_t61 q_t6s
    replace t5 := t5.keep hb_
    replace t6 := t6.keep hb_
    replace BX := BX.trans (hb_.mono BX.size)
    clear hb_
    have q_t50 := t5.c0
    have q_t51 := t5.c1
    have q_t5s := t5.size
    have q_t60 := t6.c0
    have q_t61 := t6.c1
    have q_t6s := t6.size
    go_wp2_with fail
    refine (E4.out _).mono ?_; rintro r w5 ⟨rfl, hb_⟩
    clear q_t50 q_t51 q_t5s q_t60 q_t61 q_t6s
    replace t5 := t5.keep hb_
    replace t6 := t6.keep hb_
    replace BX := BX.trans (hb_.mono BX.size)
    clear hb_
    have q_t50 := t5.c0
    have q_t51 := t5.c1
    have q_t5s := t5.size
    have q_t60 := t6.c0
    have q_t61 := t6.c1
    have q_t6s := t6.size
    clear E1 E2 E3 E4
    go_upto_region 8 with fail
    go_cut [106] (fun s wx => s = .bool false ∧ w5 = wx)
    case first => as_aux_lemma =>
      cases ok
      case false =>
        go_wp2_with fail
        go_meet
        exact ⟨rfl, rfl⟩
      case true =>
        obtain ⟨o1, o2, -⟩ := Hok.out rfl
        subst o1 o2
        go_wp2_with fail
        go_meet
        exact ⟨rfl, rfl⟩
    case rest => as_aux_lemma =>
      obtain ⟨rfl, rfl⟩ := hcut
      go_upto_if 107 with fail
      go_cut [] from 5 (fun wx => Below w.heap.size w wx)
      case first => as_aux_lemma =>
        cases hkk : ok
        case false =>
          go_wp2
          go_meet
          exact BX
        case true =>
          clear q_t50 q_t51 q_t5s q_t60 q_t61 q_t6s
          obtain ⟨-, -, htc, hGc, hs⟩ := Hok.out hkk
          clear hkk Hok
          obtain ⟨hg, htw, hG⟩ := twc_t htc
          have A1 := fun w => implTwistCurve_c a b d w
          rw [htc] at A1
          simp only [cvOk, if_true] at A1
          have A2 := fun w => AreIsomorphic_c (a * d * d) (b * d * d * d) c k w hG hGc hs
          have A3 := fun w => implIsTwistNumber_c d w
          rw [htw] at A3
          have A1 := Lib.hid A1
          have A2 := Lib.hid A2
          have A3 := Lib.hid A3
          clear htc hGc hs hg htw hG
          generalize a * d * d = x at *
          generalize b * d * d * d = y at *
          have q_t50 := t5.c0
          have q_t51 := t5.c1
          have q_t5s := t5.size
          have q_t60 := t6.c0
          have q_t61 := t6.c1
          have q_t6s := t6.size
          go_wp2_with fail
          refine (A1.out _).mono ?_; rintro r w6 ⟨rfl, hb_⟩
          clear q_t50 q_t51 q_t5s q_t60 q_t61 q_t6s
          replace t5 := t5.keep hb_
          replace t6 := t6.keep hb_
          replace BX := BX.trans (hb_.mono BX.size)
          clear hb_
          replace t5 := t5.alloc (.cells #[.int .i64 (x), .int .i64 (y)] 23)
          replace t6 := t6.alloc (.cells #[.int .i64 (x), .int .i64 (y)] 23)
          have t15 := Box.new w6 (x) (y) 23
          replace BX := below_alloc BX (.cells #[.int .i64 (x), .int .i64 (y)] 23)
          have q_t50 := t5.c0
          have q_t51 := t5.c1
          have q_t5s := t5.size
          have q_t60 := t6.c0
          have q_t61 := t6.c1
          have q_t6s := t6.size
          have q_t150 := t15.c0
          have q_t151 := t15.c1
          have q_t15s := t15.size
          go_wp2_with fail
          refine (A2.out _).mono ?_; rintro r w7 ⟨rfl, hb_⟩
          clear q_t50 q_t51 q_t5s q_t60 q_t61 q_t6s q_t150 q_t151 q_t15s
          replace t5 := t5.keep hb_
          replace t6 := t6.keep hb_
          replace t15 := t15.keep hb_
          replace BX := BX.trans (hb_.mono BX.size)
          clear hb_
          have q_t50 := t5.c0
          have q_t51 := t5.c1
          have q_t5s := t5.size
          have q_t60 := t6.c0
          have q_t61 := t6.c1
          have q_t6s := t6.size
          have q_t150 := t15.c0
          have q_t151 := t15.c1
          have q_t15s := t15.size
          go_wp2_with fail
          refine (A3.out _).mono ?_; rintro r w8 ⟨rfl, hb_⟩
          clear q_t50 q_t51 q_t5s q_t60 q_t61 q_t6s q_t150 q_t151 q_t15s
          replace t5 := t5.keep hb_
          replace t6 := t6.keep hb_
          replace t15 := t15.keep hb_
          replace BX := BX.trans (hb_.mono BX.size)
          clear hb_
          have q_t50 := t5.c0
          have q_t51 := t5.c1
          have q_t5s := t5.size
          have q_t60 := t6.c0
          have q_t61 := t6.c1
          have q_t6s := t6.size
          have q_t150 := t15.c0
          have q_t151 := t15.c1
          have q_t15s := t15.size
          go_wp2
          go_meet
          exact BX
      case rest => as_aux_lemma =>
        clear q_t50 q_t51 q_t5s q_t60 q_t61 q_t6s
        clear t5 t6
        clear BX
        have BX := hcut
        generalize wc = wp at *
        clear hcut
        clear Hok
        go_wp2_with fail
        refine (drawLeastTwist_c _ m _ ((Hu.out.keepB BX).mono BX.size)).mono ?_; rintro e w9 ⟨a2, b2, rfl, hb_⟩
        replace BX := BX.trans (hb_.mono BX.size)
        clear hb_
        have t19 := Box.new w9 (a2) (b2) 23
        replace BX := below_alloc BX (.cells #[.int .i64 (a2), .int .i64 (b2)] 23)
        obtain ⟨nn, x, y, ok, e1, e2, e3, e4, hok⟩ := lt_vals a2 b2
        have E1 := fun w => implLeastTwist_c a2 b2 w
        have E2 := fun w => specLeastTwist_c a2 b2 w
        rw [e1, e2, e3, e4] at E1 E2
        have E1 := Lib.hid E1
        have E2 := Lib.hid E2
        have Hok := Lib.hid hok
        clear hok e1 e2 e3 e4
        have q_t190 := t19.c0
        have q_t191 := t19.c1
        have q_t19s := t19.size
        go_wp2_with fail
        refine (E1.out _).mono ?_; rintro r w10 ⟨rfl, hb_⟩
        clear q_t190 q_t191 q_t19s
        replace t19 := t19.keep hb_
        replace BX := BX.trans (hb_.mono BX.size)
        clear hb_
        replace t19 := t19.alloc (.cells #[.int .i64 (x), .int .i64 (y)] 23)
        have t21 := Box.new w10 (x) (y) 23
        replace BX := below_alloc BX (.cells #[.int .i64 (x), .int .i64 (y)] 23)
        have q_t190 := t19.c0
        have q_t191 := t19.c1
        have q_t19s := t19.size
        have q_t210 := t21.c0
        have q_t211 := t21.c1
        have q_t21s := t21.size
        go_wp2_with fail
        refine (E2.out _).mono ?_; rintro r w11 ⟨rfl, hb_⟩
        clear q_t190 q_t191 q_t19s q_t210 q_t211 q_t21s
        replace t19 := t19.keep hb_
        replace t21 := t21.keep hb_
        replace BX := BX.trans (hb_.mono BX.size)
        clear hb_
        replace t19 := t19.alloc (.cells #[.int .i64 (x), .int .i64 (y)] 23)
        replace t21 := t21.alloc (.cells #[.int .i64 (x), .int .i64 (y)] 23)
        have t24 := Box.new w11 (x) (y) 23
        replace BX := below_alloc BX (.cells #[.int .i64 (x), .int .i64 (y)] 23)
        have q_t190 := t19.c0
        have q_t191 := t19.c1
        have q_t19s := t19.size
        have q_t210 := t21.c0
        have q_t211 := t21.c1
        have q_t21s := t21.size
        have q_t240 := t24.c0
        have q_t241 := t24.c1
        have q_t24s := t24.size
        clear E1 E2
        go_upto_if 162 with fail
        go_cut [] from 5 (fun wx => Below w.heap.size w wx)
        case first => as_aux_lemma =>
          cases hkk : ok
          case false =>
            go_wp2
            go_meet
            exact BX
          case true =>
            clear q_t190 q_t191 q_t19s q_t210 q_t211 q_t21s q_t240 q_t241 q_t24s
            obtain ⟨hg, hgx, hsi, hle, hb1, hb2⟩ := Hok.out hkk
            clear hkk Hok
            have A1 := fun w => SmallestModel_c a2 b2 w hg
            have A2 := fun w => implDiscriminantOf_c x y w hgx
            have A3 := fun w => specDiscriminantOf_c x y w hgx
            have A4 := fun w => specDiscriminantOf_c _ _ w (M.sm_good hg)
            have A5 := fun w => implHaveSameInvariant_c a2 b2 x y w
            rw [hg, hgx, hsi] at A5
            simp only [Bool.and_true] at A5
            generalize M.smA a2 b2 = s1 at *
            generalize M.smB a2 b2 = s2 at *
            generalize M.sm a2 b2 = u2 at *
            clear hg hgx hsi
            generalize -16 * M.disc x y = D1 at *
            generalize -16 * M.disc s1 s2 = D2 at *
            have A6 := fun w => pAbs_c D1 w hb1.1 hb1.2
            have A7 := fun w => pAbs_c D2 w hb2.1 hb2.2
            clear hb1 hb2
            generalize (D1.natAbs : Int) = n1 at *
            generalize (D2.natAbs : Int) = n2 at *
            have A1 := Lib.hid A1
            have A2 := Lib.hid A2
            have A3 := Lib.hid A3
            have A4 := Lib.hid A4
            have A5 := Lib.hid A5
            have A6 := Lib.hid A6
            have A7 := Lib.hid A7
            have q_t190 := t19.c0
            have q_t191 := t19.c1
            have q_t19s := t19.size
            have q_t210 := t21.c0
            have q_t211 := t21.c1
            have q_t21s := t21.size
            have q_t240 := t24.c0
            have q_t241 := t24.c1
            have q_t24s := t24.size
            go_wp2_with fail
            refine (A1.out _).mono ?_; rintro r w12 ⟨rfl, hb_⟩
            clear q_t190 q_t191 q_t19s q_t210 q_t211 q_t21s q_t240 q_t241 q_t24s
            replace t19 := t19.keep hb_
            replace t21 := t21.keep hb_
            replace t24 := t24.keep hb_
            replace BX := BX.trans (hb_.mono BX.size)
            clear hb_
            replace t19 := t19.alloc (.cells #[.int .i64 (s1), .int .i64 (s2)] 23)
            replace t21 := t21.alloc (.cells #[.int .i64 (s1), .int .i64 (s2)] 23)
            replace t24 := t24.alloc (.cells #[.int .i64 (s1), .int .i64 (s2)] 23)
            have t26 := Box.new w12 (s1) (s2) 23
            replace BX := below_alloc BX (.cells #[.int .i64 (s1), .int .i64 (s2)] 23)
            have q_t190 := t19.c0
            have q_t191 := t19.c1
            have q_t19s := t19.size
            have q_t210 := t21.c0
            have q_t211 := t21.c1
            have q_t21s := t21.size
            have q_t240 := t24.c0
            have q_t241 := t24.c1
            have q_t24s := t24.size
            have q_t260 := t26.c0
            have q_t261 := t26.c1
            have q_t26s := t26.size
            go_wp2_with fail
            refine (A2.out _).mono ?_; rintro r w13 ⟨rfl, hb_⟩
            clear q_t190 q_t191 q_t19s q_t210 q_t211 q_t21s q_t240 q_t241 q_t24s q_t260 q_t261 q_t26s
            replace t19 := t19.keep hb_
            replace t21 := t21.keep hb_
            replace t24 := t24.keep hb_
            replace t26 := t26.keep hb_
            replace BX := BX.trans (hb_.mono BX.size)
            clear hb_
            have q_t190 := t19.c0
            have q_t191 := t19.c1
            have q_t19s := t19.size
            have q_t210 := t21.c0
            have q_t211 := t21.c1
            have q_t21s := t21.size
            have q_t240 := t24.c0
            have q_t241 := t24.c1
            have q_t24s := t24.size
            have q_t260 := t26.c0
            have q_t261 := t26.c1
            have q_t26s := t26.size
            go_wp2_with fail
            refine (A3.out _).mono ?_; rintro r w14 ⟨rfl, hb_⟩
            clear q_t190 q_t191 q_t19s q_t210 q_t211 q_t21s q_t240 q_t241 q_t24s q_t260 q_t261 q_t26s
            replace t19 := t19.keep hb_
            replace t21 := t21.keep hb_
            replace t24 := t24.keep hb_
            replace t26 := t26.keep hb_
            replace BX := BX.trans (hb_.mono BX.size)
            clear hb_
            have q_t190 := t19.c0
            have q_t191 := t19.c1
            have q_t19s := t19.size
            have q_t210 := t21.c0
            have q_t211 := t21.c1
            have q_t21s := t21.size
            have q_t240 := t24.c0
            have q_t241 := t24.c1
            have q_t24s := t24.size
            have q_t260 := t26.c0
            have q_t261 := t26.c1
            have q_t26s := t26.size
            go_wp2_with fail
            refine (A4.out _).mono ?_; rintro r w15 ⟨rfl, hb_⟩
            clear q_t190 q_t191 q_t19s q_t210 q_t211 q_t21s q_t240 q_t241 q_t24s q_t260 q_t261 q_t26s
            replace t19 := t19.keep hb_
            replace t21 := t21.keep hb_
            replace t24 := t24.keep hb_
            replace t26 := t26.keep hb_
            replace BX := BX.trans (hb_.mono BX.size)
            clear hb_
            have q_t190 := t19.c0
            have q_t191 := t19.c1
            have q_t19s := t19.size
            have q_t210 := t21.c0
            have q_t211 := t21.c1
            have q_t21s := t21.size
            have q_t240 := t24.c0
            have q_t241 := t24.c1
            have q_t24s := t24.size
            have q_t260 := t26.c0
            have q_t261 := t26.c1
            have q_t26s := t26.size
            go_wp2_with fail
            refine (A6.out _).mono ?_; rintro r w16 ⟨rfl, rfl⟩
            clear q_t190 q_t191 q_t19s q_t210 q_t211 q_t21s q_t240 q_t241 q_t24s q_t260 q_t261 q_t26s
            have q_t190 := t19.c0
            have q_t191 := t19.c1
            have q_t19s := t19.size
            have q_t210 := t21.c0
            have q_t211 := t21.c1
            have q_t21s := t21.size
            have q_t240 := t24.c0
            have q_t241 := t24.c1
            have q_t24s := t24.size
            have q_t260 := t26.c0
            have q_t261 := t26.c1
            have q_t26s := t26.size
            go_wp2_with fail
            refine (A7.out _).mono ?_; rintro r w17 ⟨rfl, rfl⟩
            clear q_t190 q_t191 q_t19s q_t210 q_t211 q_t21s q_t240 q_t241 q_t24s q_t260 q_t261 q_t26s
            have q_t190 := t19.c0
            have q_t191 := t19.c1
            have q_t19s := t19.size
            have q_t210 := t21.c0
            have q_t211 := t21.c1
            have q_t21s := t21.size
            have q_t240 := t24.c0
            have q_t241 := t24.c1
            have q_t24s := t24.size
            have q_t260 := t26.c0
            have q_t261 := t26.c1
            have q_t26s := t26.size
            go_wp2_with fail
            refine (A5.out _).mono ?_; rintro r w18 ⟨rfl, hb_⟩
            clear q_t190 q_t191 q_t19s q_t210 q_t211 q_t21s q_t240 q_t241 q_t24s q_t260 q_t261 q_t26s
            replace t19 := t19.keep hb_
            replace t21 := t21.keep hb_
            replace t24 := t24.keep hb_
            replace t26 := t26.keep hb_
            replace BX := BX.trans (hb_.mono BX.size)
            clear hb_
            have q_t190 := t19.c0
            have q_t191 := t19.c1
            have q_t19s := t19.size
            have q_t210 := t21.c0
            have q_t211 := t21.c1
            have q_t21s := t21.size
            have q_t240 := t24.c0
            have q_t241 := t24.c1
            have q_t24s := t24.size
            have q_t260 := t26.c0
            have q_t261 := t26.c1
            have q_t26s := t26.size
            go_wp2
            go_meet
            exact BX
        case rest => as_aux_lemma =>
          clear q_t190 q_t191 q_t19s q_t210 q_t211 q_t21s q_t240 q_t241 q_t24s
          clear t19 t21 t24
          clear BX
          have BX := hcut
          generalize wc = wp at *
          clear hcut
          clear Hok
          go_wp2_with fail
          refine (drawProductOfTwists_c _ m _ ((Hu.out.keepB BX).mono BX.size)).mono ?_; rintro e w19 ⟨d3, f3, rfl, hb_⟩
          replace BX := BX.trans (hb_.mono BX.size)
          clear hb_
          obtain ⟨p3, ok, e1, e2, hok⟩ := prod_vals d3 f3
          have E1 := fun w => implProductOfTwists_c d3 f3 w
          have E2 := fun w => specProductOfTwists_c d3 f3 w
          rw [e1, e2] at E1 E2
          have E1 := Lib.hid E1
          have E2 := Lib.hid E2
          have Hok := Lib.hid hok
          clear hok e1 e2
          go_wp2_with fail
          refine (E1.out _).mono ?_; rintro r w20 ⟨rfl, hb_⟩
          replace BX := BX.trans (hb_.mono BX.size)
          clear hb_
          go_wp2_with fail
          refine (E2.out _).mono ?_; rintro r w21 ⟨rfl, hb_⟩
          replace BX := BX.trans (hb_.mono BX.size)
          clear hb_
          clear E1 E2
          go_upto_if 247 with fail
          cases hkk : ok
          case false =>
            go_wp2
            go_ret
            exact ⟨rfl, BX⟩
          case true =>
            obtain ⟨k1, k2, k3, k4⟩ := Hok.out hkk
            clear hkk Hok
            have A1 := fun w => implProductOfTwists_c p3 f3 w
            have A2 := fun w => implProductOfTwists_c f3 d3 w
            rw [k1, k2] at A1
            rw [k3, k4] at A2
            simp only [if_true] at A1 A2
            clear k1 k2 k3 k4
            have A1 := Lib.hid A1
            have A2 := Lib.hid A2
            go_wp2_with fail
            refine (A1.out _).mono ?_; rintro r w22 ⟨rfl, hb_⟩
            replace BX := BX.trans (hb_.mono BX.size)
            clear hb_
            go_wp2_with fail
            refine (A2.out _).mono ?_; rintro r w23 ⟨rfl, hb_⟩
            replace BX := BX.trans (hb_.mono BX.size)
            clear hb_
            go_wp2
            go_ret
            exact ⟨by simp, BX⟩
end Go.Proofs.Ytoolgmpflplghaa
