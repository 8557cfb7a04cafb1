/-
  The walk of the law on descents (printed by genr70.py).
-/
import Derived.Test.YtgkjmjlkhnfbiaaGreatB27
import Derived.Test.YtgkjmjlkhnfbiaaGreatHR69
import Derived.Deep.DeepCutAuto
import Derived.Deep.CutRange
import Derived.Outline
namespace Go.Proofs.YtgkjmjlkhnfbiaaGreat
set_option linter.unusedSimpArgs false
set_option linter.unusedVariables false
open Go.RowKit
theorem Box3.alloc {w : World} {b : Nat} {x y z : Int} (h : Box3 w b x y z) (o : Obj) : Box3 (w.alloc o) b x y z := h.keep ((Below.refl _ _).alloc (Nat.le_refl _) o)

set_option maxRecDepth 100000 in
set_option maxHeartbeats 8000000 in
theorem law_Descents (v u : Value) (n m : Nat) (w : World) (hv : Bytes w w.heap.size v n) (hu : Bytes w w.heap.size u m) :
    Calls Tryz.prog 3 #[v, u] w fun e w' => e = .returned (.bool true) ∧ Below w.heap.size w w' := by
  have Hv := Lib.hid hv
  have Hu := Lib.hid hu
  obtain ⟨Av, cv, rfl, hn, -⟩ := hv
  obtain ⟨Au, cu, rfl, hm, -⟩ := hu
  have BX : Below w.heap.size w w := Below.refl _ _
  have PB := fun W hv hu => big_c (.slice Av n cv) (.slice Au m cu) n m W hv hu
  generalize bigB n m = bg at *
  cases bg
  case true =>
    have PB := Lib.hid PB
    go_enter Tryz.func3, Tryz.ntmps3
    go_wp2_with (go_at_call 5; (refine (PB.out _ Hv.out Hu.out).mono ?_); rintro r w0 ⟨rfl, rfl⟩)
    go_ret
    exact ⟨rfl, BX⟩
  case false =>
    have PB := Lib.hid PB
    go_enter Tryz.func3, Tryz.ntmps3
    go_wp2_with (go_at_call 5; (refine (PB.out _ Hv.out Hu.out).mono ?_); rintro r w0 ⟨rfl, rfl⟩)
    clear PB
    refine (drawSelmerDivisors_c _ n _ Hv.out).mono ?_; rintro e w1 ⟨a, b, q, rfl, hDr, hb_⟩
    replace BX := BX.trans hb_
    clear hb_ hn hm
    have t5 := Box.new w1 (a) (b) 25
    replace BX := below_alloc BX (.cells #[.int .i64 (a), .int .i64 (b)] 25)
    obtain ⟨S, D, F, ok, one, g1, g2, g3, g4, g5, g6, hok⟩ := M.ds_vals a b q hDr.out
    have E1 := fun w => implSelmerDivisors_c a b q w
    rw [g1, g3] at E1
    replace E1 := Lib.hid E1
    have E2 := fun w => specSelmerDivisors_c a b q w
    rw [g1, g3] at E2
    replace E2 := Lib.hid E2
    have E3 := fun w => implDescentDivisors_c a b q w
    rw [g2, g4] at E3
    replace E3 := Lib.hid E3
    have E4 := fun w => specDescentDivisors_c a b q w
    rw [g2, g4] at E4
    replace E4 := Lib.hid E4
    have E5 := fun w => implFoundDivisors_c a b q 6 w
    rw [g5, g6] at E5
    replace E5 := Lib.hid E5
    have E6 := fun w => specFoundDivisors_c a b q 6 w
    rw [g5, g6] at E6
    replace E6 := Lib.hid E6
    have Hok := Lib.hid hok
    clear hok hDr g1 g2 g3 g4 g5 g6
    have q_t50 := t5.c0
    have q_t51 := t5.c1
    have q_t5s := t5.size
    go_wp2_with fail
    refine (E1.out _).mono ?_; rintro r w2 ⟨sl_, rfl, Ol, hb_⟩
    obtain ⟨Al, cl, rfl⟩ := Ol.nil_form
    replace Ol := Lib.hid (Ol.low (base' := w.heap.size) BX.size)
    clear q_t50 q_t51 q_t5s
    replace t5 := t5.keep hb_
    replace BX := BX.trans (hb_.mono BX.size)
    clear hb_
    have q_t50 := t5.c0
    have q_t51 := t5.c1
    have q_t5s := t5.size
    go_wp2_with fail
    refine (E2.out _).mono ?_; rintro r w3 ⟨sl_, rfl, Os, hb_⟩
    obtain ⟨As, cs, rfl⟩ := Os.nil_form
    replace Os := Lib.hid (Os.low (base' := w.heap.size) BX.size)
    clear q_t50 q_t51 q_t5s
    replace t5 := t5.keep hb_
    replace Ol := Lib.hid (Ol.out.below hb_)
    replace BX := BX.trans (hb_.mono BX.size)
    clear hb_
    have q_t50 := t5.c0
    have q_t51 := t5.c1
    have q_t5s := t5.size
    go_wp2_with fail
    refine (E3.out _).mono ?_; rintro r w4 ⟨sl_, rfl, Oe, hb_⟩
    obtain ⟨Ae, ce, rfl⟩ := Oe.nil_form
    replace Oe := Lib.hid (Oe.low (base' := w.heap.size) BX.size)
    clear q_t50 q_t51 q_t5s
    replace t5 := t5.keep hb_
    replace Ol := Lib.hid (Ol.out.below hb_)
    replace Os := Lib.hid (Os.out.below hb_)
    replace BX := BX.trans (hb_.mono BX.size)
    clear hb_
    have q_t50 := t5.c0
    have q_t51 := t5.c1
    have q_t5s := t5.size
    go_wp2_with fail
    refine (E4.out _).mono ?_; rintro r w5 ⟨sl_, rfl, Od, hb_⟩
    obtain ⟨Ad, cd, rfl⟩ := Od.nil_form
    replace Od := Lib.hid (Od.low (base' := w.heap.size) BX.size)
    clear q_t50 q_t51 q_t5s
    replace t5 := t5.keep hb_
    replace Ol := Lib.hid (Ol.out.below hb_)
    replace Os := Lib.hid (Os.out.below hb_)
    replace Oe := Lib.hid (Oe.out.below hb_)
    replace BX := BX.trans (hb_.mono BX.size)
    clear hb_
    clear E1 E2 E3 E4
    go_upto_region 8 with fail
    go_cut [118] from 92 to 118 (fun s wx => s = .bool false ∧ Below w5.heap.size w5 wx)
    case first => as_aux_lemma =>
      have Q1 := Lib.hid (sameInts_c _ _ S _ _ w5 Ol.out.seen Os.out.seen)
      have Q2 := Lib.hid (fun W (h : Below w5.heap.size w5 W) => sameInts_c _ _ D _ _ W (Oe.out.below h).seen (Od.out.below h).seen)
      have c1 := Lib.hid (fun h => (Hok.out h).1)
      clear Hv Hu Hok E5 E6 t5 Ol Os Oe Od BX
      cases ok
      · go_wp2_with (first | (go_at_call 11; (with_reducible refine (Q1.out).mono ?_); rintro r wq1_ ⟨rfl, hq1_⟩) | (go_at_call 11; (with_reducible refine (Q2.out _ hq1_).mono ?_); rintro r wq_ ⟨rfl, hq_⟩))
        go_meet
        exact ⟨rfl, hq1_.trans (hq_.mono hq1_.size)⟩
      · obtain rfl := c1.out rfl
        go_wp2_with (first | (go_at_call 11; (with_reducible refine (Q1.out).mono ?_); rintro r wq1_ ⟨rfl, hq1_⟩) | (go_at_call 11; (with_reducible refine (Q2.out _ hq1_).mono ?_); rintro r wq_ ⟨rfl, hq_⟩))
        go_meet
        exact ⟨rfl, hq1_.trans (hq_.mono hq1_.size)⟩
    case rest => as_aux_lemma =>
      obtain ⟨rfl, hb_⟩ := hcut
      clear Ol Oe
      replace t5 := t5.keep hb_
      replace Os := Lib.hid (Os.out.below hb_)
      replace Od := Lib.hid (Od.out.below hb_)
      replace BX := BX.trans (hb_.mono BX.size)
      clear hb_
      generalize wc = wp at *
      go_upto_if 119 with fail
      go_cut [16, 17, 18, 19, 20, 21, 22, 23, 24, 25, 26, 27, 28, 30, 32, 33, 34, 35, 36, 37, 38, 40] from 120 to 282 (fun _ _ _ _ _ _ _ _ _ _ _ _ _ _ _ _ _ _ _ _ _ _ wx => Below wp.heap.size wp wx)
      case first => as_aux_lemma =>
        cases ok
        case false =>
          go_wp2
          go_meet
          exact Below.refl _ _
        case true =>
          obtain ⟨rfl, ht_, hk_, hD_, hS_, hP_, h1_, hF_⟩ := Hok.out rfl
          have He := Lib.hid (fun d hd => ds_elem a b d q ht_ hk_ (hD_ d hd))
          rw [← hS_] at He
          have HP := Lib.hid hP_
          have H1 := Lib.hid h1_
          have HF := Lib.hid hF_
          have Bp : Below wp.heap.size wp wp := Below.refl _ _
          clear ht_ hk_ hD_ hS_ hP_ h1_ hF_ Hok Hu Hv BX
          have hds := Od.out.seen
          obtain ⟨A_, c_, e_, hmx, hdv⟩ := hds
          injection e_ with e1_ e2_ e3_
          subst e1_ e3_
          clear e2_ Od
          have hss := Os.out.seen
          obtain ⟨A_, c_, e_, hmx2, hsv⟩ := hss
          injection e_ with e1_ e2_ e3_
          subst e1_ e3_
          clear e2_
          go_wp2
          go_loopw [122] (fun vi wq => ∃ j : Nat, j ≤ D.length ∧ vi = .int .i64 j ∧ Below wp.heap.size wp wq) (fun vi _ => D.length - (intOf vi).toNat)
          case atStart => exact ⟨0, by omega, rfl, Bp⟩
          case round =>
            clear Bp
            obtain ⟨j, hj, rfl, Bq⟩ := hrel
            by_cases hlt : j < D.length
            · obtain ⟨g_, x, rfl, hg_, hx_, hcell⟩ := hdv j hlt
              clear hdv hsv HP H1 HF E5 E6
              have hc2 := keepCell Bq hcell
              clear hcell
              obtain ⟨r, g0, g1, ev, P1, P2, P3, P4, P5, Hz, Hn, PL⟩ := He.out x (List.mem_of_getElem? hx_.out)
              clear He hx_
              replace P1 := Lib.hid P1
              replace P2 := Lib.hid P2
              replace P3 := Lib.hid P3
              replace P4 := Lib.hid P4
              replace P5 := Lib.hid P5
              replace Hz := Lib.hid Hz
              replace Hn := Lib.hid Hn
              replace PL := Lib.hid PL
              replace t5 := t5.keep Bq
              replace Os := Lib.hid (Os.out.below Bq)
              have q_t50 := t5.c0
              have q_t51 := t5.c1
              have q_t5s := t5.size
              go_wp2_with fail
              refine (P1.out _).mono ?_; rintro r_ x6 ⟨rfl, hb_⟩
              clear q_t50 q_t51 q_t5s
              replace t5 := t5.keep hb_
              replace Os := Lib.hid (Os.out.below hb_)
              replace Bq := Bq.trans (hb_.mono Bq.size)
              clear hb_
              have q_t50 := t5.c0
              have q_t51 := t5.c1
              have q_t5s := t5.size
              go_wp2_with fail
              refine (P2.out _).mono ?_; rintro r_ x7 ⟨rfl, hb_⟩
              clear q_t50 q_t51 q_t5s
              replace t5 := t5.keep hb_
              replace Os := Lib.hid (Os.out.below hb_)
              replace Bq := Bq.trans (hb_.mono Bq.size)
              clear hb_
              have q_t50 := t5.c0
              have q_t51 := t5.c1
              have q_t5s := t5.size
              go_wp2_with fail
              refine (P3.out _).mono ?_; rintro r_ x8 ⟨rfl, hb_⟩
              clear q_t50 q_t51 q_t5s
              replace t5 := t5.keep hb_
              replace Os := Lib.hid (Os.out.below hb_)
              replace Bq := Bq.trans (hb_.mono Bq.size)
              clear hb_
              replace t5 := t5.alloc (.cells #[.int .i64 x, .int .i64 g0, .int .i64 g1] 35)
              replace Os := Lib.hid (Os.out.alloc (.cells #[.int .i64 x, .int .i64 g0, .int .i64 g1] 35))
              have b21 := Box3.new x8 x g0 g1 35
              replace Bq := below_alloc Bq (.cells #[.int .i64 x, .int .i64 g0, .int .i64 g1] 35)
              have q_t50 := t5.c0
              have q_t51 := t5.c1
              have q_t5s := t5.size
              have q_b21c0 := b21.c0
              have q_b21c1 := b21.c1
              have q_b21c2 := b21.c2
              have q_b21size := b21.size
              go_wp2_with fail
              refine (P4.out _).mono ?_; rintro r_ x9 ⟨rfl, hb_⟩
              clear q_t50 q_t51 q_t5s
              clear q_b21c0 q_b21c1 q_b21c2 q_b21size
              replace b21 := b21.keep hb_
              replace t5 := t5.keep hb_
              replace Os := Lib.hid (Os.out.below hb_)
              replace Bq := Bq.trans (hb_.mono Bq.size)
              clear hb_
              replace t5 := t5.alloc (.cells #[.int .i64 x, .int .i64 g0, .int .i64 g1] 35)
              replace b21 := b21.alloc (.cells #[.int .i64 x, .int .i64 g0, .int .i64 g1] 35)
              replace Os := Lib.hid (Os.out.alloc (.cells #[.int .i64 x, .int .i64 g0, .int .i64 g1] 35))
              have b23 := Box3.new x9 x g0 g1 35
              replace Bq := below_alloc Bq (.cells #[.int .i64 x, .int .i64 g0, .int .i64 g1] 35)
              have q_t50 := t5.c0
              have q_t51 := t5.c1
              have q_t5s := t5.size
              have q_b21c0 := b21.c0
              have q_b21c1 := b21.c1
              have q_b21c2 := b21.c2
              have q_b21size := b21.size
              have q_b23c0 := b23.c0
              have q_b23c1 := b23.c1
              have q_b23c2 := b23.c2
              have q_b23size := b23.size
              go_wp2_with fail
              refine (P5.out _).mono ?_; rintro r_ x10 ⟨rfl, hb_⟩
              clear q_t50 q_t51 q_t5s
              clear q_b21c0 q_b21c1 q_b21c2 q_b21size
              clear q_b23c0 q_b23c1 q_b23c2 q_b23size
              replace b21 := b21.keep hb_
              replace b23 := b23.keep hb_
              replace t5 := t5.keep hb_
              replace Os := Lib.hid (Os.out.below hb_)
              replace Bq := Bq.trans (hb_.mono Bq.size)
              clear hb_
              clear P1 P2 P3 P4 P5
              have q_t50 := t5.c0
              have q_t51 := t5.c1
              have q_t5s := t5.size
              have q_b21c0 := b21.c0
              have q_b21c1 := b21.c1
              have q_b21c2 := b21.c2
              have q_b21size := b21.size
              have q_b23c0 := b23.c0
              have q_b23c1 := b23.c1
              have q_b23c2 := b23.c2
              have q_b23size := b23.size
              have hr : r = 0 ∨ r < 0 ∨ 0 < r := by omega
              rcases hr with rfl | hr | hr
              · obtain ⟨rfl, hin⟩ := Hz.out rfl
                clear Hz Hn PL
                have QP := Lib.hid (pIn_c _ S x _ x10 Os.out.seen hin)
                clear hin Os
                go_wp2_with (go_at_call 17; (with_reducible refine (QP.out).mono ?_); rintro r_ wq_ ⟨rfl, rfl⟩)
                go_roundw
                case rel => exact ⟨j + 1, by omega, by go_num, Bq⟩
                case measure => simp [intOf]; omega
              · obtain ⟨rfl, hin⟩ := Hn.out (by omega)
                clear Hz Hn PL
                have QP := Lib.hid (pInN_c _ S x _ x10 Os.out.seen hin)
                clear hin Os
                have hr0 : ¬ r = 0 := by omega
                have hr1 : ¬ 0 < r := by omega
                go_wp2_with (go_at_call 17; (with_reducible refine (QP.out).mono ?_); rintro r_ wq_ ⟨rfl, rfl⟩)
                go_roundw
                case rel => exact ⟨j + 1, by omega, by go_num, Bq⟩
                case measure => simp [intOf]; omega
              · obtain ⟨rfl, hin⟩ := Hn.out (by omega)
                replace PL := Lib.hid (PL.out hr)
                clear Hz Hn
                have QP := Lib.hid (pInN_c _ S x _ x10 Os.out.seen hin)
                clear hin Os
                have hr0 : ¬ r = 0 := by omega
                go_wp2_with (first | (go_at_call 17; (with_reducible refine (QP.out).mono ?_); rintro r_ wq_ ⟨rfl, rfl⟩) | (go_at_call 18; (with_reducible refine (PL.out _).mono ?_); rintro r_ wz_ ⟨rfl, hbz_⟩; (replace Bq := Bq.trans (hbz_.mono Bq.size))))
                go_roundw
                case rel => exact ⟨j + 1, by omega, by go_num, Bq⟩
                case measure => simp [intOf]; omega
            · obtain rfl : j = D.length := by omega
              clear hdv He hj hlt
              go_wp2
              go_loopw [217] (fun vi wq => ∃ j : Nat, j ≤ S.length ∧ vi = .int .i64 j ∧ Below wp.heap.size wp wq) (fun vi _ => S.length - (intOf vi).toNat)
              case atStart => exact ⟨0, by omega, rfl, Bq⟩
              case round =>
                clear Bq
                obtain ⟨i, hi, rfl, Bq⟩ := hrel
                by_cases hlt : i < S.length
                · obtain ⟨g_, x, eA_, hg_, hx_, hcell⟩ := hsv i hlt
                  have hc2 := keepCell Bq hcell
                  clear hcell H1 HF E5 E6 t5
                  subst eA_
                  go_wp2
                  go_loopw [223] (fun vi wq => ∃ j : Nat, j ≤ S.length ∧ vi = .int .i64 j ∧ Below wp.heap.size wp wq) (fun vi _ => S.length - (intOf vi).toNat)
                  case atStart => exact ⟨0, by omega, rfl, Bq⟩
                  case round =>
                    clear Bq hc2
                    obtain ⟨k, hk, rfl, Bq⟩ := hrel
                    by_cases hlt2 : k < S.length
                    · obtain ⟨g2_, y, eB_, hg2_, hy_, hcell2⟩ := hsv k hlt2
                      injection eB_ with eB_
                      injection eB_ with eB_
                      subst eB_
                      have hc3 := keepCell Bq hcell2
                      clear hcell2 hsv
                      obtain ⟨⟨k1, k2, k3⟩, k4⟩ := HP.out x (List.mem_of_getElem? hx_.out) y (List.mem_of_getElem? hy_.out)
                      have PC := fun W => implProductClass_c x y W k1 k2 k3
                      have QP := fun W h => pIn_c _ S (M.prd x y) _ W ((Os.out.below Bq).below h).seen k4
                      clear HP k1 k2 k3 k4 hx_ hy_
                      generalize M.prd x y = z at *
                      replace PC := Lib.hid PC
                      replace QP := Lib.hid QP
                      go_wp2_with (first | (go_at_call 19; (with_reducible refine (PC.out _).mono ?_); rintro r_ wz_ ⟨rfl, hbz_⟩; (replace Bq := Bq.trans (hbz_.mono Bq.size))) | (go_at_call 17; (refine (QP.out _ hbz_).mono ?_); rintro r_ wq_ ⟨rfl, rfl⟩))
                      go_roundw
                      case rel => exact ⟨k + 1, by omega, by go_num, Bq⟩
                      case measure => simp [intOf]; omega
                    · obtain rfl : k = S.length := by omega
                      go_wp2
                      go_roundw
                      case rel => exact ⟨i + 1, by omega, by go_num, Bq⟩
                      case measure => simp [intOf]; omega
                · obtain rfl : i = S.length := by omega
                  clear hsv HP hi hlt
                  replace t5 := t5.keep Bq
                  replace Os := Lib.hid (Os.out.below Bq)
                  have q_t50 := t5.c0
                  have q_t51 := t5.c1
                  have q_t5s := t5.size
                  go_wp2_with fail
                  refine (E5.out _).mono ?_; rintro r_ x11 ⟨sl_, rfl, Of, hb_⟩
                  obtain ⟨Af, cf, rfl⟩ := Of.nil_form
                  replace Of := Lib.hid (Of.low (base' := wp.heap.size) Bq.size)
                  clear q_t50 q_t51 q_t5s
                  replace t5 := t5.keep hb_
                  replace Os := Lib.hid (Os.out.below hb_)
                  replace Bq := Bq.trans (hb_.mono Bq.size)
                  clear hb_
                  have q_t50 := t5.c0
                  have q_t51 := t5.c1
                  have q_t5s := t5.size
                  go_wp2_with fail
                  refine (E6.out _).mono ?_; rintro r_ x12 ⟨sl_, rfl, Ok, hb_⟩
                  obtain ⟨Ak, ck, rfl⟩ := Ok.nil_form
                  replace Ok := Lib.hid (Ok.low (base' := wp.heap.size) Bq.size)
                  clear q_t50 q_t51 q_t5s
                  replace t5 := t5.keep hb_
                  replace Os := Lib.hid (Os.out.below hb_)
                  replace Of := Lib.hid (Of.out.below hb_)
                  replace Bq := Bq.trans (hb_.mono Bq.size)
                  clear hb_
                  clear E5 E6 t5
                  have Q1 := Lib.hid (sameInts_c _ _ F _ _ x12 Of.out.seen Ok.out.seen)
                  have QP := Lib.hid (fun W h => pIn_c _ F 1 _ W (Ok.out.below h).seen H1.out)
                  replace Os := Lib.hid (fun W h => (Os.out.below (w' := W) h).seen)
                  have hks := Ok.out.seen
                  obtain ⟨A_, c_, e_, hmx3, hkv⟩ := hks
                  injection e_ with e1_ e2_ e3_
                  subst e1_ e3_
                  clear e2_
                  go_wp2_with (first | (go_at_call 11; (refine (Q1.out).mono ?_); rintro r_ wz_ ⟨rfl, hbz_⟩; (replace Bq := Bq.trans (hbz_.mono Bq.size))) | (go_at_call 17; (refine (QP.out _ hbz_).mono ?_); rintro r_ wq_ ⟨rfl, rfl⟩))
                  replace Os := Lib.hid (Os.out _ hbz_)
                  clear Q1 QP H1
                  go_loop [274] (fun vi => ∃ j : Nat, j ≤ F.length ∧ vi = .int .i64 j) (fun vi => F.length - (intOf vi).toNat)
                  case atStart => exact ⟨0, by omega, rfl⟩
                  case round =>
                    obtain ⟨j, hj, rfl⟩ := hrel
                    by_cases hlt : j < F.length
                    · obtain ⟨g_, x, rfl, hg_, hx_, hcell⟩ := hkv j hlt
                      have hc2 := keepCell hbz_ hcell
                      clear hkv hcell
                      have QP := Lib.hid (pIn_c _ S x _ _ Os.out (HF.out x (List.mem_of_getElem? hx_.out)))
                      clear HF Os
                      go_wp2_with (go_at_call 17; (with_reducible refine (QP.out).mono ?_); rintro r_ wq_ ⟨rfl, rfl⟩)
                      go_round
                      case rel => exact ⟨j + 1, by omega, by go_num⟩
                      case measure => simp [intOf]; omega
                    · obtain rfl : j = F.length := by omega
                      clear hkv Os HF
                      go_wp2
                      go_meet
                      exact Bq
      case rest => as_aux_lemma =>
        clear E5 E6 Hok Os Od t5 Hv
        replace BX := BX.trans (hcut.mono BX.size)
        clear hcut
        generalize wc = wr at *
        go_wp2_with fail
        refine (drawOpenDivisors_c _ m _ ((Hu.out.keepB BX).mono BX.size)).mono ?_; rintro e y0 ⟨a2, b2, q2, n2, rfl, -, hb_⟩
        replace BX := BX.trans (hb_.mono BX.size)
        clear hb_ Hu
        have t41 := Box.new y0 (a2) (b2) 25
        replace BX := below_alloc BX (.cells #[.int .i64 (a2), .int .i64 (b2)] 25)
        obtain ⟨O, F2, three, five, o1, o2, o3, o4, hod⟩ := M.od_vals a2 b2 q2 n2
        have E7 := fun w => implOpenDivisors_c a2 b2 q2 n2 w
        rw [o1, o2] at E7
        replace E7 := Lib.hid E7
        have E8 := fun w => specOpenDivisors_c a2 b2 q2 n2 w
        rw [o1, o2] at E8
        replace E8 := Lib.hid E8
        have E9 := fun w => implFoundDivisors_c a2 b2 q2 n2 w
        rw [o3, o4] at E9
        replace E9 := Lib.hid E9
        have E10 := fun w => specFoundDivisors_c a2 b2 q2 n2 w
        rw [o3, o4] at E10
        replace E10 := Lib.hid E10
        have E11 := fun w => implDescentCoefficients_c a2 b2 q2 w
        have E12 := fun w => specDescentCoefficients_c a2 b2 q2 w
        have Hod := Lib.hid hod
        clear hod o1 o2 o3 o4
        generalize M.pick (M.tcb a2 b2) (M.sA a2 q2) = k1 at *
        generalize M.pick (M.tcb a2 b2) (M.sB a2 b2 q2) = k2 at *
        generalize M.tcb a2 b2 = tb at *
        replace E11 := Lib.hid E11
        replace E12 := Lib.hid E12
        have q_t410 := t41.c0
        have q_t411 := t41.c1
        have q_t41s := t41.size
        go_wp2_with fail
        refine (E7.out _).mono ?_; rintro r w13 ⟨sl_, rfl, Oi, hb_⟩
        obtain ⟨Ai, ci, rfl⟩ := Oi.nil_form
        replace Oi := Lib.hid (Oi.low (base' := w.heap.size) BX.size)
        clear q_t410 q_t411 q_t41s
        replace t41 := t41.keep hb_
        replace BX := BX.trans (hb_.mono BX.size)
        clear hb_
        have q_t410 := t41.c0
        have q_t411 := t41.c1
        have q_t41s := t41.size
        go_wp2_with fail
        refine (E8.out _).mono ?_; rintro r w14 ⟨sl_, rfl, Oo, hb_⟩
        obtain ⟨Ao, co, rfl⟩ := Oo.nil_form
        replace Oo := Lib.hid (Oo.low (base' := w.heap.size) BX.size)
        clear q_t410 q_t411 q_t41s
        replace t41 := t41.keep hb_
        replace Oi := Lib.hid (Oi.out.below hb_)
        replace BX := BX.trans (hb_.mono BX.size)
        clear hb_
        clear E7 E8
        go_upto_region 50 with fail
        go_cut [311] from 303 to 311 (fun s wx => s = .bool false ∧ Below w14.heap.size w14 wx)
        case first => as_aux_lemma =>
          have Q1 := Lib.hid (sameInts_c _ _ O _ _ w14 Oi.out.seen Oo.out.seen)
          clear E9 E10 E11 E12 Hod t41 Oi Oo BX
          cases three <;> (go_wp2_with (go_at_call 11; (refine (Q1.out).mono ?_); rintro r_ wz_ ⟨rfl, hq_⟩); go_meet; exact ⟨rfl, hq_⟩)
        case rest => as_aux_lemma =>
          obtain ⟨rfl, hb_⟩ := hcut
          clear Oi
          replace t41 := t41.keep hb_
          replace Oo := Lib.hid (Oo.out.below hb_)
          replace BX := BX.trans (hb_.mono BX.size)
          clear hb_
          generalize wc = wp at *
          go_upto_if 312 with fail
          go_cut [48, 49, 50, 51, 53] from 313 to 348 (fun _ _ _ _ _ wx => Below wp.heap.size wp wx)
          case first => as_aux_lemma =>
            cases three
            case false =>
              go_wp2
              go_meet
              exact Below.refl _ _
            case true =>
              obtain ⟨rfl, hno_⟩ := Hod.out rfl
              have HN := Lib.hid hno_
              have Bq : Below wp.heap.size wp wp := Below.refl _ _
              clear hno_ Hod E11 E12 BX
              have q_t410 := t41.c0
              have q_t411 := t41.c1
              have q_t41s := t41.size
              go_wp2_with fail
              refine (E9.out _).mono ?_; rintro r_ x15 ⟨sl_, rfl, Of, hb_⟩
              obtain ⟨Af, cf, rfl⟩ := Of.nil_form
              replace Of := Lib.hid (Of.low (base' := wp.heap.size) Bq.size)
              clear q_t410 q_t411 q_t41s
              replace t41 := t41.keep hb_
              replace Oo := Lib.hid (Oo.out.below hb_)
              replace Bq := Bq.trans (hb_.mono Bq.size)
              clear hb_
              have q_t410 := t41.c0
              have q_t411 := t41.c1
              have q_t41s := t41.size
              go_wp2_with fail
              refine (E10.out _).mono ?_; rintro r_ x16 ⟨sl_, rfl, Ok, hb_⟩
              obtain ⟨Ak, ck, rfl⟩ := Ok.nil_form
              replace Ok := Lib.hid (Ok.low (base' := wp.heap.size) Bq.size)
              clear q_t410 q_t411 q_t41s
              replace t41 := t41.keep hb_
              replace Oo := Lib.hid (Oo.out.below hb_)
              replace Of := Lib.hid (Of.out.below hb_)
              replace Bq := Bq.trans (hb_.mono Bq.size)
              clear hb_
              clear E9 E10 t41
              have Q1 := Lib.hid (sameInts_c _ _ F2 _ _ x16 Of.out.seen Ok.out.seen)
              replace Ok := Lib.hid (fun W h => (Ok.out.below (w' := W) h).seen)
              have hos := Oo.out.seen
              obtain ⟨A_, c_, e_, hmx3, hov⟩ := hos
              injection e_ with e1_ e2_ e3_
              subst e1_ e3_
              clear e2_
              go_wp2_with (go_at_call 11; (refine (Q1.out).mono ?_); rintro r_ wz_ ⟨rfl, hbz_⟩; (replace Bq := Bq.trans (hbz_.mono Bq.size)))
              replace Ok := Lib.hid (Ok.out _ hbz_)
              clear Q1
              go_loop [341] (fun vi => ∃ j : Nat, j ≤ O.length ∧ vi = .int .i64 j) (fun vi => O.length - (intOf vi).toNat)
              case atStart => exact ⟨0, by omega, rfl⟩
              case round =>
                obtain ⟨j, hj, rfl⟩ := hrel
                by_cases hlt : j < O.length
                · obtain ⟨g_, x, rfl, hg_, hx_, hcell⟩ := hov j hlt
                  have hc2 := keepCell hbz_ hcell
                  clear hov hcell
                  have QP := Lib.hid (pInN_c _ F2 x _ _ Ok.out (HN.out x (List.mem_of_getElem? hx_.out)))
                  clear HN Ok
                  go_wp2_with (go_at_call 17; (with_reducible refine (QP.out).mono ?_); rintro r_ wq_ ⟨rfl, rfl⟩)
                  go_round
                  case rel => exact ⟨j + 1, by omega, by go_num⟩
                  case measure => simp [intOf]; omega
                · obtain rfl : j = O.length := by omega
                  clear hov Ok HN
                  go_wp2
                  go_meet
                  exact Bq
          case rest => as_aux_lemma =>
            clear E9 E10 Hod Oo
            replace t41 := t41.keep hcut
            replace BX := BX.trans (hcut.mono BX.size)
            clear hcut
            generalize wc = wv at *
            have q_t410 := t41.c0
            have q_t411 := t41.c1
            have q_t41s := t41.size
            go_wp2_with fail
            refine (E11.out _).mono ?_; rintro r w17 ⟨rfl, hb_⟩
            clear q_t410 q_t411 q_t41s
            replace t41 := t41.keep hb_
            replace BX := BX.trans (hb_.mono BX.size)
            clear hb_
            have q_t410 := t41.c0
            have q_t411 := t41.c1
            have q_t41s := t41.size
            go_wp2_with fail
            refine (E12.out _).mono ?_; rintro r w18 ⟨rfl, hb_⟩
            clear q_t410 q_t411 q_t41s
            replace t41 := t41.keep hb_
            replace BX := BX.trans (hb_.mono BX.size)
            clear hb_
            clear E11 E12 t41
            cases tb <;> (go_wp2; go_ret; exact ⟨rfl, BX⟩)
end Go.Proofs.YtgkjmjlkhnfbiaaGreat
