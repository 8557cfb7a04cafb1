/-
  The walk of the law on traces.
-/
import Derived.Test.YtjolmigpeghaoaaM6
import Derived.Deep.DeepCutAuto
import Derived.Outline
namespace Go.Proofs.Ytjolmigpeghaoaa
set_option linter.unusedSimpArgs false
set_option linter.unusedVariables false
open Go.RowKit

theorem tmod0 {n c : Int} (h : n % c = 0) : Int.tmod n c = 0 := Int.tmod_eq_zero_of_dvd (Int.dvd_of_emod_eq_zero h)

set_option maxRecDepth 100000 in
set_option maxHeartbeats 8000000 in
theorem law_Traces (v u : Value) (n m : Nat) (w : World) (hv : Bytes w w.heap.size v n) (hu : Bytes w w.heap.size u m) :
    Calls Try.prog 3 #[v, u] w fun e w' => e = .returned (.bool true) ∧ Below w.heap.size w w' := by
  have Hv := Lib.hid hv
  have Hu := Lib.hid hu
  obtain ⟨Av, cv, rfl, hn, -⟩ := hv
  obtain ⟨Au, cu, rfl, hm, -⟩ := hu
  have BX : Below w.heap.size w w := Below.refl _ _
  by_cases hbig : 1048576 < wrap64 ((n : Int) + (m : Int))
  · go_enter Try.func3, Try.ntmps3
    go_wp2
    go_ret
    exact ⟨rfl, BX⟩
  · go_enter Try.func3, Try.ntmps3
    go_wp2_with fail
    refine (drawTraceAt_c _ n _ Hv.out).mono ?_; rintro e w1 ⟨a, b, q, rfl, hd, hb_⟩
    replace BX := BX.trans hb_
    clear hb_ hbig hn hm
    have t5 := Box.new w1 (a) (b) 24
    replace BX := below_alloc BX (.cells #[.int .i64 (a), .int .i64 (b)] 24)
    obtain ⟨t, r, ok, th, e1, e2, e3, e4, e5, hok⟩ := tr_vals a b q hd
    have E1 := fun w => implTraceAt_c a b q w
    have E2 := fun w => specTraceAt_c a b q w
    rw [e1, e2] at E1 E2
    have E3 := fun w => implIsSupersingularAt_c a b q w
    have E4 := fun w => specIsSupersingularAt_c a b q w
    rw [e3, e2] at E3 E4
    have E5 := fun w => implTraceBound_c q w
    have E6 := fun w => specTraceBound_c q w
    rw [e4, e5] at E5 E6
    have Hok := Lib.hid hok
    have E1 := Lib.hid E1
    have E2 := Lib.hid E2
    have E3 := Lib.hid E3
    have E4 := Lib.hid E4
    have E5 := Lib.hid E5
    have E6 := Lib.hid E6
    clear hok e1 e2 e3 e4 e5 hd
    generalize hss : (ok && (t == 0)) = ss at *
    have Hss := Lib.hid hss
    clear hss
    have q_t50 := t5.c0
    have q_t51 := t5.c1
    have q_t5s := t5.size
    go_wp2_with fail
    refine (E1.out _).mono ?_; rintro r w2 ⟨rfl, hb_⟩
    clear q_t50 q_t51 q_t5s
    replace t5 := t5.keep hb_
    replace BX := BX.trans (hb_.mono BX.size)
    clear hb_
    have q_t50 := t5.c0
    have q_t51 := t5.c1
    have q_t5s := t5.size
    go_wp2_with fail
    refine (E2.out _).mono ?_; rintro r w3 ⟨rfl, hb_⟩
    clear q_t50 q_t51 q_t5s
    replace t5 := t5.keep hb_
    replace BX := BX.trans (hb_.mono BX.size)
    clear hb_
    have q_t50 := t5.c0
    have q_t51 := t5.c1
    have q_t5s := t5.size
    go_wp2_with fail
    refine (E3.out _).mono ?_; rintro r w4 ⟨rfl, hb_⟩
    clear q_t50 q_t51 q_t5s
    replace t5 := t5.keep hb_
    replace BX := BX.trans (hb_.mono BX.size)
    clear hb_
    have q_t50 := t5.c0
    have q_t51 := t5.c1
    have q_t5s := t5.size
    go_wp2_with fail
    refine (E4.out _).mono ?_; rintro r w5 ⟨rfl, hb_⟩
    clear q_t50 q_t51 q_t5s
    replace t5 := t5.keep hb_
    replace BX := BX.trans (hb_.mono BX.size)
    clear hb_
    have q_t50 := t5.c0
    have q_t51 := t5.c1
    have q_t5s := t5.size
    go_wp2_with fail
    refine (E5.out _).mono ?_; rintro r w6 ⟨rfl, rfl⟩
    clear q_t50 q_t51 q_t5s
    have q_t50 := t5.c0
    have q_t51 := t5.c1
    have q_t5s := t5.size
    go_wp2_with fail
    refine (E6.out _).mono ?_; rintro r w7 ⟨rfl, rfl⟩
    clear q_t50 q_t51 q_t5s
    clear E1 E2 E3 E4 E5 E6
    have q_t50 := t5.c0
    have q_t51 := t5.c1
    have q_t5s := t5.size
    go_wp2_with fail
    refine (drawCountOver_c _ m _ ((Hu.out.keepB BX).mono BX.size)).mono ?_; rintro e w8 ⟨c, d, s, k, rfl, hb_⟩
    clear q_t50 q_t51 q_t5s
    replace t5 := t5.keep hb_
    replace BX := BX.trans (hb_.mono BX.size)
    clear hb_
    replace t5 := t5.alloc (.cells #[.int .i64 (c), .int .i64 (d)] 24)
    have t19 := Box.new w8 (c) (d) 24
    replace BX := below_alloc BX (.cells #[.int .i64 (c), .int .i64 (d)] 24)
    obtain ⟨nn, mm, five, e1, e2, e3, hfive⟩ := co_vals c d s k
    have E7 := fun w => implCountOver_c c d s k w
    have E8 := fun w => specCountOver_c c d s k w
    rw [e1, e3] at E7 E8
    have E9 := fun w => implTraceOfPower_c c d s k w
    have E10 := fun w => specTraceOfPower_c c d s k w
    rw [e2, e3] at E9 E10
    have Hfive := Lib.hid hfive
    have E7 := Lib.hid E7
    have E8 := Lib.hid E8
    have E9 := Lib.hid E9
    have E10 := Lib.hid E10
    clear hfive e1 e2 e3
    have q_t50 := t5.c0
    have q_t51 := t5.c1
    have q_t5s := t5.size
    have q_t190 := t19.c0
    have q_t191 := t19.c1
    have q_t19s := t19.size
    go_wp2_with fail
    refine (E7.out _).mono ?_; rintro r w9 ⟨rfl, hb_⟩
    clear q_t50 q_t51 q_t5s q_t190 q_t191 q_t19s
    replace t5 := t5.keep hb_
    replace t19 := t19.keep hb_
    replace BX := BX.trans (hb_.mono BX.size)
    clear hb_
    have q_t50 := t5.c0
    have q_t51 := t5.c1
    have q_t5s := t5.size
    have q_t190 := t19.c0
    have q_t191 := t19.c1
    have q_t19s := t19.size
    go_wp2_with fail
    refine (E8.out _).mono ?_; rintro r w10 ⟨rfl, hb_⟩
    clear q_t50 q_t51 q_t5s q_t190 q_t191 q_t19s
    replace t5 := t5.keep hb_
    replace t19 := t19.keep hb_
    replace BX := BX.trans (hb_.mono BX.size)
    clear hb_
    have q_t50 := t5.c0
    have q_t51 := t5.c1
    have q_t5s := t5.size
    have q_t190 := t19.c0
    have q_t191 := t19.c1
    have q_t19s := t19.size
    go_wp2_with fail
    refine (E9.out _).mono ?_; rintro r w11 ⟨rfl, hb_⟩
    clear q_t50 q_t51 q_t5s q_t190 q_t191 q_t19s
    replace t5 := t5.keep hb_
    replace t19 := t19.keep hb_
    replace BX := BX.trans (hb_.mono BX.size)
    clear hb_
    have q_t50 := t5.c0
    have q_t51 := t5.c1
    have q_t5s := t5.size
    have q_t190 := t19.c0
    have q_t191 := t19.c1
    have q_t19s := t19.size
    go_wp2_with fail
    refine (E10.out _).mono ?_; rintro r w12 ⟨rfl, hb_⟩
    clear q_t50 q_t51 q_t5s q_t190 q_t191 q_t19s
    replace t5 := t5.keep hb_
    replace t19 := t19.keep hb_
    replace BX := BX.trans (hb_.mono BX.size)
    clear hb_
    clear E7 E8 E9 E10
    have q_t50 := t5.c0
    have q_t51 := t5.c1
    have q_t5s := t5.size
    have q_t190 := t19.c0
    have q_t191 := t19.c1
    have q_t19s := t19.size
    go_upto_region 15 with fail
    go_cut [181] (fun s wx => s = .bool false ∧ w12 = wx)
    case first => as_aux_lemma =>
      cases ok
      case false =>
        go_wp2_with fail
        go_meet
        exact ⟨rfl, rfl⟩
      case true =>
        obtain ⟨o1, -⟩ := Hok.out rfl
        subst o1
        go_wp2_with fail
        go_meet
        exact ⟨rfl, rfl⟩
    case rest => as_aux_lemma =>
      obtain ⟨rfl, rfl⟩ := hcut
      go_upto_if 182 with fail
      go_cut [] from 30 (fun wx => Below w12.heap.size w12 wx)
      case first => as_aux_lemma =>
        cases ok
        case false =>
          go_wp2
          go_meet
          exact Below.refl _ _
        case true =>
          clear q_t50 q_t51 q_t5s q_t190 q_t191 q_t19s
          obtain ⟨-, hg, hp, hc, ⟨q1, q2⟩, ⟨t1, t2⟩, hab, ⟨r0, r4⟩, r1, r2⟩ := Hok.out rfl
          clear Hok Hfive
          have A1 := fun w => implCountPoints_c a b q w hg hp
          rw [hc] at A1
          have A2 := fun w => qAbs_c t w (by omega) (by omega)
          have ss1 := Hss.out
          rw [Bool.true_and] at ss1
          subst ss1
          clear hg hp hc Hss
          generalize (t.natAbs : Int) = ta at *
          skip
          have r3 : (r + 1) * (r + 1) ≤ 4001 * 4001 := Int.mul_le_mul (by omega) (by omega) (by omega) (by omega)
          have r5 : 0 ≤ (r + 1) * (r + 1) := Int.mul_nonneg (by omega) (by omega)
          have r6 : 0 ≤ r * r := Int.mul_nonneg (by omega) (by omega)
          have A1 := Lib.hid A1
          have A2 := Lib.hid A2
          have q_t50 := t5.c0
          have q_t51 := t5.c1
          have q_t5s := t5.size
          go_wp2_with fail
          refine (A1.out _).mono ?_; rintro r_ w13 ⟨rfl, hb_⟩
          go_wp2_with fail
          refine (A2.out _).mono ?_; rintro r_ w_ ⟨rfl, rfl⟩
          go_wp2
          go_meet
          exact hb_
      case rest => as_aux_lemma =>
        clear q_t50 q_t51 q_t5s q_t190 q_t191 q_t19s
        replace t5 := t5.keep hcut
        replace t19 := t19.keep hcut
        replace BX := BX.trans (hcut.mono BX.size)
        clear Hok Hss
        generalize wc = wp at *
        clear hcut
        go_upto_if 229 with fail
        cases hkk : five
        case false =>
          go_wp2
          go_ret
          exact ⟨rfl, BX⟩
        case true =>
          obtain ⟨hg, hp, ⟨k1, k2⟩, ⟨q1, q2⟩, ⟨c1, c2⟩, hmod, hnn, ⟨m1, m2⟩⟩ := Hfive.out hkk
          clear hkk Hfive
          have A1 := fun w => implCountPoints_c c d s w hg hp
          have A2 := fun w => specCountPoints_c c d s w hg hp
          clear hg hp
          generalize M.count c d s = N at *
          have hmod := tmod0 hmod
          have A1 := Lib.hid A1
          have A2 := Lib.hid A2
          have Hnn := Lib.hid hnn
          have Hmod := Lib.hid hmod
          clear hnn hmod
          have q_t50 := t5.c0
          have q_t51 := t5.c1
          have q_t5s := t5.size
          have q_t190 := t19.c0
          have q_t191 := t19.c1
          have q_t19s := t19.size
          go_wp2_with fail
          refine (A1.out _).mono ?_; rintro r w14 ⟨rfl, hb_⟩
          clear q_t50 q_t51 q_t5s q_t190 q_t191 q_t19s
          replace t5 := t5.keep hb_
          replace t19 := t19.keep hb_
          replace BX := BX.trans (hb_.mono BX.size)
          clear hb_
          have q_t50 := t5.c0
          have q_t51 := t5.c1
          have q_t5s := t5.size
          have q_t190 := t19.c0
          have q_t191 := t19.c1
          have q_t19s := t19.size
          go_wp2_with fail
          refine (A2.out _).mono ?_; rintro r w15 ⟨rfl, hb_⟩
          clear q_t50 q_t51 q_t5s q_t190 q_t191 q_t19s
          replace t5 := t5.keep hb_
          replace t19 := t19.keep hb_
          replace BX := BX.trans (hb_.mono BX.size)
          clear hb_
          clear t5 t19 A1 A2
          go_wp2_with fail
          go_loop [36, 37] (fun vs vi => ∃ j : Nat, (j : Int) ≤ k ∧ vi = .int .i64 j ∧ vs = .int .i64 (M.ipow s j)) (fun _ vi => (k - intOf vi).toNat)
          case atStart => exact ⟨0, by omega, rfl, rfl⟩
          case round =>
            obtain ⟨j, hj, rfl, rfl⟩ := hrel
            have hb := M.ipow_bd4 (p := s) (by omega) (by omega) (k := j) (by omega)
            by_cases hlt : (j : Int) < k
            · have hm := M.mul_nn hb.1 hb.2 (show 0 ≤ s by omega) (show s ≤ 1000 by omega)
              go_wp2
              go_round
              case rel => exact ⟨j + 1, by omega, by go_num, rfl⟩
              case measure => simp [intOf]; omega
            · have hjk : k.toNat = j := by omega
              have h1 := Hnn.out
              have h2 := Hmod.out
              rw [hjk] at h1
              generalize M.ipow s j = P at *
              subst h1
              clear Hnn Hmod hjk
              go_wp2
              go_ret
              exact ⟨by simp, BX⟩
end Go.Proofs.Ytjolmigpeghaoaa
