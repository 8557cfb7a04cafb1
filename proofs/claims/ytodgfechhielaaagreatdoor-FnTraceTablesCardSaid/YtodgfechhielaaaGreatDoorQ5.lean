/-
  The walk of the law on tables of traces.
-/
import Derived.Test.YtodgfechhielaaaGreatDoorQ3
import Derived.Test.YtodgfechhielaaaGreatDoorQ14
import Derived.Test.YtodgfechhielaaaGreatDoorZ2
import Derived.Deep.DeepCutAuto
import Derived.Outline
namespace Go.Proofs.YtodgfechhielaaaGreatDoor
set_option linter.unusedSimpArgs false
set_option linter.unusedVariables false
open Go.RowKit

set_option maxRecDepth 100000 in
set_option maxHeartbeats 200000000 in
theorem law_TraceTables (v u : Value) (n m : Nat) (w : World) (hv : Bytes w w.heap.size v n) (hu : Bytes w w.heap.size u m) (HT : Tab w.heap.size w) :
    Calls Tryz.prog 3 #[v, u] w fun e w' => e = .returned (.bool true) ∧ Below w.heap.size w w' := by
  have Hv := Lib.hid hv
  have Hu := Lib.hid hu
  obtain ⟨Av, cv, rfl, hn, -⟩ := hv
  obtain ⟨Au, cu, rfl, hm, -⟩ := hu
  have BX : Below w.heap.size w w := Below.refl _ _
  by_cases hbig : 1048576 < wrap64 ((n : Int) + (m : Int))
  · go_enter Tryz.func3, Tryz.ntmps3
    go_wp2
    go_ret
    exact ⟨rfl, BX⟩
  · go_enter Tryz.func3, Tryz.ntmps3
    go_wp2_with fail
    refine (drawTracesUpTo_c _ n _ Hv.out).mono ?_; rintro e w1 ⟨a, b, lim, rfl, hb_⟩
    replace BX := BX.trans hb_
    replace HT := HT.keep hb_
    clear hb_ hbig hn hm
    replace HT := HT.alloc (.cells #[.int .i64 (a), .int .i64 (b)] 24)
    have t5 := Box.new w1 (a) (b) 24
    replace BX := below_alloc BX (.cells #[.int .i64 (a), .int .i64 (b)] 24)
    obtain ⟨ok, q, X, Y, L, ex, s, S, e1, e2, e3, e4, e5, e6, e7, hq, hL, hrow, hS0, hSb, hX⟩ := tables_vals a b lim
    have E1 := fun w => implTracesUpTo_c a b lim w
    have E2 := fun w => specTracesUpTo_c a b lim w
    have E3 := fun w => implExtremalPrimes_c a b lim w
    have E4 := fun w => specExtremalPrimes_c a b lim w
    have E5 := fun w => implMeanTrace_c a b lim w
    have E6 := fun w => specMeanTrace_c a b lim w
    have E8 := fun w => specTracesText_c a b lim w
    have E7 := fun w ht => implTracesText_c a b lim w ht
    rw [e2, e1] at E1 E2
    rw [e3, e1] at E3 E4
    rw [e4, e5, e6] at E5 E6
    rw [e7, e1] at E7 E8
    clear e1 e2 e3 e4 e5 e6 e7
    have E1 := Lib.hid E1
    have E2 := Lib.hid E2
    have E3 := Lib.hid E3
    have E4 := Lib.hid E4
    have E5 := Lib.hid E5
    have E6 := Lib.hid E6
    have E7 := Lib.hid E7
    have E8 := Lib.hid E8
    have HQ := Lib.hid hq
    clear hq
    have HL := Lib.hid hL
    clear hL
    have HROW := Lib.hid hrow
    clear hrow
    have HS0 := Lib.hid hS0
    clear hS0
    have HSB := Lib.hid hSb
    clear hSb
    have HXX := Lib.hid hX
    clear hX
    have q_t50 := t5.c0
    have q_t51 := t5.c1
    have q_t5s := t5.size
    go_wp2_with fail
    refine (E1.out _).mono ?_; rintro r w2 ⟨v1, rfl, ho_, hb_⟩
    clear q_t50 q_t51 q_t5s
    replace t5 := t5.keep hb_
    replace HT := HT.keep hb_
    replace BX := BX.trans (hb_.mono BX.size)
    have sl := ho_.seen
    clear ho_
    clear hb_
    have q_t50 := t5.c0
    have q_t51 := t5.c1
    have q_t5s := t5.size
    go_wp2_with fail
    refine (E2.out _).mono ?_; rintro r w3 ⟨v2, rfl, ho_, hb_⟩
    clear q_t50 q_t51 q_t5s
    replace t5 := t5.keep hb_
    replace HT := HT.keep hb_
    replace sl := sl.keep hb_
    replace BX := BX.trans (hb_.mono BX.size)
    have st := ho_.seen
    clear ho_
    have st_ := st
    obtain ⟨a2, c2, rfl, hm2, -⟩ := st_
    clear hm2
    clear hb_
    have q_t50 := t5.c0
    have q_t51 := t5.c1
    have q_t5s := t5.size
    go_wp2_with fail
    refine (E3.out _).mono ?_; rintro r w4 ⟨v3, rfl, ho_, hb_⟩
    clear q_t50 q_t51 q_t5s
    replace t5 := t5.keep hb_
    replace HT := HT.keep hb_
    replace sl := sl.keep hb_
    replace st := st.keep hb_
    replace BX := BX.trans (hb_.mono BX.size)
    have sx := ho_.seen
    clear ho_
    clear hb_
    have q_t50 := t5.c0
    have q_t51 := t5.c1
    have q_t5s := t5.size
    go_wp2_with fail
    refine (E4.out _).mono ?_; rintro r w5 ⟨v4, rfl, ho_, hb_⟩
    clear q_t50 q_t51 q_t5s
    replace t5 := t5.keep hb_
    replace HT := HT.keep hb_
    replace sl := sl.keep hb_
    replace st := st.keep hb_
    replace sx := sx.keep hb_
    replace BX := BX.trans (hb_.mono BX.size)
    have se := ho_.seen
    clear ho_
    clear hb_
    have q_t50 := t5.c0
    have q_t51 := t5.c1
    have q_t5s := t5.size
    go_wp2_with fail
    refine (E5.out _).mono ?_; rintro r w6 ⟨rfl, hb_⟩
    clear q_t50 q_t51 q_t5s
    replace t5 := t5.keep hb_
    replace HT := HT.keep hb_
    replace sl := sl.keep hb_
    replace st := st.keep hb_
    replace sx := sx.keep hb_
    replace se := se.keep hb_
    replace BX := BX.trans (hb_.mono BX.size)
    clear hb_
    replace t5 := t5.alloc (.cells #[.int .i64 (X), .int .i64 (Y)] 34)
    replace HT := HT.alloc (.cells #[.int .i64 (X), .int .i64 (Y)] 34)
    replace sl := sl.alloc (.cells #[.int .i64 (X), .int .i64 (Y)] 34)
    replace st := st.alloc (.cells #[.int .i64 (X), .int .i64 (Y)] 34)
    replace sx := sx.alloc (.cells #[.int .i64 (X), .int .i64 (Y)] 34)
    replace se := se.alloc (.cells #[.int .i64 (X), .int .i64 (Y)] 34)
    have t15 := Box.new w6 (X) (Y) 34
    replace BX := below_alloc BX (.cells #[.int .i64 (X), .int .i64 (Y)] 34)
    have q_t50 := t5.c0
    have q_t51 := t5.c1
    have q_t5s := t5.size
    go_wp2_with fail
    refine (E6.out _).mono ?_; rintro r w7 ⟨rfl, hb_⟩
    clear q_t50 q_t51 q_t5s
    replace t5 := t5.keep hb_
    replace t15 := t15.keep hb_
    replace HT := HT.keep hb_
    replace sl := sl.keep hb_
    replace st := st.keep hb_
    replace sx := sx.keep hb_
    replace se := se.keep hb_
    replace BX := BX.trans (hb_.mono BX.size)
    clear hb_
    replace t5 := t5.alloc (.cells #[.int .i64 (X), .int .i64 (Y)] 34)
    replace t15 := t15.alloc (.cells #[.int .i64 (X), .int .i64 (Y)] 34)
    replace HT := HT.alloc (.cells #[.int .i64 (X), .int .i64 (Y)] 34)
    replace sl := sl.alloc (.cells #[.int .i64 (X), .int .i64 (Y)] 34)
    replace st := st.alloc (.cells #[.int .i64 (X), .int .i64 (Y)] 34)
    replace sx := sx.alloc (.cells #[.int .i64 (X), .int .i64 (Y)] 34)
    replace se := se.alloc (.cells #[.int .i64 (X), .int .i64 (Y)] 34)
    have t17 := Box.new w7 (X) (Y) 34
    replace BX := below_alloc BX (.cells #[.int .i64 (X), .int .i64 (Y)] 34)
    have q_t50 := t5.c0
    have q_t51 := t5.c1
    have q_t5s := t5.size
    go_wp2_with fail
    refine (E7.out _ HT).mono ?_; rintro r w8 ⟨rfl, hb_⟩
    clear q_t50 q_t51 q_t5s
    replace t5 := t5.keep hb_
    replace t15 := t15.keep hb_
    replace t17 := t17.keep hb_
    replace HT := HT.keep hb_
    replace sl := sl.keep hb_
    replace st := st.keep hb_
    replace sx := sx.keep hb_
    replace se := se.keep hb_
    replace BX := BX.trans (hb_.mono BX.size)
    clear hb_
    have q_t50 := t5.c0
    have q_t51 := t5.c1
    have q_t5s := t5.size
    go_wp2_with fail
    refine (E8.out _).mono ?_; rintro r w9 ⟨rfl, hb_⟩
    clear q_t50 q_t51 q_t5s
    replace t5 := t5.keep hb_
    replace t15 := t15.keep hb_
    replace t17 := t17.keep hb_
    replace HT := HT.keep hb_
    replace sl := sl.keep hb_
    replace st := st.keep hb_
    replace sx := sx.keep hb_
    replace se := se.keep hb_
    replace BX := BX.trans (hb_.mono BX.size)
    clear hb_
    clear E1 E2 E3 E4 E5 E6 E7 E8
    clear HT
    go_wp2_with fail
    refine (drawPrimesWithTrace_c _ m _ ((Hu.out.keepB BX).mono BX.size)).mono ?_; rintro r w10 ⟨f, g, tr, k, rfl, hb_⟩
    replace t5 := t5.keep hb_
    replace t15 := t15.keep hb_
    replace t17 := t17.keep hb_
    replace sl := sl.keep hb_
    replace st := st.keep hb_
    replace sx := sx.keep hb_
    replace se := se.keep hb_
    replace BX := BX.trans (hb_.mono BX.size)
    clear hb_
    replace t5 := t5.alloc (.cells #[.int .i64 (f), .int .i64 (g)] 24)
    replace t15 := t15.alloc (.cells #[.int .i64 (f), .int .i64 (g)] 24)
    replace t17 := t17.alloc (.cells #[.int .i64 (f), .int .i64 (g)] 24)
    replace sl := sl.alloc (.cells #[.int .i64 (f), .int .i64 (g)] 24)
    replace st := st.alloc (.cells #[.int .i64 (f), .int .i64 (g)] 24)
    replace sx := sx.alloc (.cells #[.int .i64 (f), .int .i64 (g)] 24)
    replace se := se.alloc (.cells #[.int .i64 (f), .int .i64 (g)] 24)
    have t23 := Box.new w10 (f) (g) 24
    replace BX := below_alloc BX (.cells #[.int .i64 (f), .int .i64 (g)] 24)
    obtain ⟨ok7, P, e1, e2, hP⟩ := primes_vals f g tr k
    have E1 := fun w => implPrimesWithTrace_c f g tr k w
    have E2 := fun w => specPrimesWithTrace_c f g tr k w
    rw [e1, e2] at E1 E2
    have E1 := Lib.hid E1
    have E2 := Lib.hid E2
    have HP := Lib.hid hP
    clear e1 e2 hP
    have q_t230 := t23.c0
    have q_t231 := t23.c1
    have q_t23s := t23.size
    go_wp2_with fail
    refine (E1.out _).mono ?_; rintro r w11 ⟨v5, rfl, ho_, hb_⟩
    clear q_t230 q_t231 q_t23s
    replace t5 := t5.keep hb_
    replace t15 := t15.keep hb_
    replace t17 := t17.keep hb_
    replace t23 := t23.keep hb_
    replace sl := sl.keep hb_
    replace st := st.keep hb_
    replace sx := sx.keep hb_
    replace se := se.keep hb_
    replace BX := BX.trans (hb_.mono BX.size)
    have sp := ho_.seen
    clear ho_
    clear hb_
    have q_t230 := t23.c0
    have q_t231 := t23.c1
    have q_t23s := t23.size
    go_wp2_with fail
    refine (E2.out _).mono ?_; rintro r w12 ⟨v6, rfl, ho_, hb_⟩
    clear q_t230 q_t231 q_t23s
    replace t5 := t5.keep hb_
    replace t15 := t15.keep hb_
    replace t17 := t17.keep hb_
    replace t23 := t23.keep hb_
    replace sl := sl.keep hb_
    replace st := st.keep hb_
    replace sx := sx.keep hb_
    replace se := se.keep hb_
    replace sp := sp.keep hb_
    replace BX := BX.trans (hb_.mono BX.size)
    have sr := ho_.seen
    clear ho_
    have st_ := sr
    obtain ⟨a6, c6, rfl, hm6, -⟩ := st_
    clear hm6
    clear hb_
    go_wp2_with fail
    refine (drawHaveSameTraces_c _ m _ ((Hu.out.keepB BX).mono BX.size)).mono ?_; rintro r w13 ⟨c, d, cc, dd, most, rfl, hb_⟩
    replace t5 := t5.keep hb_
    replace t15 := t15.keep hb_
    replace t17 := t17.keep hb_
    replace t23 := t23.keep hb_
    replace sl := sl.keep hb_
    replace st := st.keep hb_
    replace sx := sx.keep hb_
    replace se := se.keep hb_
    replace sp := sp.keep hb_
    replace sr := sr.keep hb_
    replace BX := BX.trans (hb_.mono BX.size)
    clear hb_
    clear E1 E2 Hu Hv
    replace t5 := t5.alloc (.cells #[.int .i64 (c), .int .i64 (d)] 24)
    replace t15 := t15.alloc (.cells #[.int .i64 (c), .int .i64 (d)] 24)
    replace t17 := t17.alloc (.cells #[.int .i64 (c), .int .i64 (d)] 24)
    replace t23 := t23.alloc (.cells #[.int .i64 (c), .int .i64 (d)] 24)
    replace sl := sl.alloc (.cells #[.int .i64 (c), .int .i64 (d)] 24)
    replace st := st.alloc (.cells #[.int .i64 (c), .int .i64 (d)] 24)
    replace sx := sx.alloc (.cells #[.int .i64 (c), .int .i64 (d)] 24)
    replace se := se.alloc (.cells #[.int .i64 (c), .int .i64 (d)] 24)
    replace sp := sp.alloc (.cells #[.int .i64 (c), .int .i64 (d)] 24)
    replace sr := sr.alloc (.cells #[.int .i64 (c), .int .i64 (d)] 24)
    have t30 := Box.new w13 (c) (d) 24
    replace BX := below_alloc BX (.cells #[.int .i64 (c), .int .i64 (d)] 24)
    replace t5 := t5.alloc (.cells #[.int .i64 (cc), .int .i64 (dd)] 24)
    replace t15 := t15.alloc (.cells #[.int .i64 (cc), .int .i64 (dd)] 24)
    replace t17 := t17.alloc (.cells #[.int .i64 (cc), .int .i64 (dd)] 24)
    replace t23 := t23.alloc (.cells #[.int .i64 (cc), .int .i64 (dd)] 24)
    replace t30 := t30.alloc (.cells #[.int .i64 (cc), .int .i64 (dd)] 24)
    replace sl := sl.alloc (.cells #[.int .i64 (cc), .int .i64 (dd)] 24)
    replace st := st.alloc (.cells #[.int .i64 (cc), .int .i64 (dd)] 24)
    replace sx := sx.alloc (.cells #[.int .i64 (cc), .int .i64 (dd)] 24)
    replace se := se.alloc (.cells #[.int .i64 (cc), .int .i64 (dd)] 24)
    replace sp := sp.alloc (.cells #[.int .i64 (cc), .int .i64 (dd)] 24)
    replace sr := sr.alloc (.cells #[.int .i64 (cc), .int .i64 (dd)] 24)
    have t31 := Box.new (w13.alloc (.cells #[.int .i64 (c), .int .i64 (d)] 24)) (cc) (dd) 24
    replace BX := below_alloc BX (.cells #[.int .i64 (cc), .int .i64 (dd)] 24)
    rw [World.size_alloc] at t31
    obtain ⟨nine, sm, el, fst, e1, e2, e3, e4, hel, hfst, hsym⟩ := same_vals c d cc dd most
    have E1 := fun w => implHaveSameTraces_c c d cc dd most w
    have E2 := fun w => specHaveSameTraces_c c d cc dd most w
    have E3 := fun w => implFirstDifference_c c d cc dd most w
    have E4 := fun w => specFirstDifference_c c d cc dd most w
    rw [e2, e1] at E1 E2
    rw [e4, e3] at E3 E4
    clear e1 e2 e3 e4
    have E1 := Lib.hid E1
    have E2 := Lib.hid E2
    have E3 := Lib.hid E3
    have E4 := Lib.hid E4
    have HEL := Lib.hid hel
    have HF := Lib.hid hfst
    have HS := Lib.hid hsym
    clear hel hfst hsym
    have q_t300 := t30.c0
    have q_t301 := t30.c1
    have q_t30s := t30.size
    have q_t310 := t31.c0
    have q_t311 := t31.c1
    have q_t31s := t31.size
    go_wp2_with fail
    refine (E1.out _).mono ?_; rintro r w14 ⟨rfl, hb_⟩
    clear q_t300 q_t301 q_t30s q_t310 q_t311 q_t31s
    replace t5 := t5.keep hb_
    replace t15 := t15.keep hb_
    replace t17 := t17.keep hb_
    replace t23 := t23.keep hb_
    replace t30 := t30.keep hb_
    replace t31 := t31.keep hb_
    replace sl := sl.keep hb_
    replace st := st.keep hb_
    replace sx := sx.keep hb_
    replace se := se.keep hb_
    replace sp := sp.keep hb_
    replace sr := sr.keep hb_
    replace BX := BX.trans (hb_.mono BX.size)
    clear hb_
    have q_t300 := t30.c0
    have q_t301 := t30.c1
    have q_t30s := t30.size
    have q_t310 := t31.c0
    have q_t311 := t31.c1
    have q_t31s := t31.size
    go_wp2_with fail
    refine (E2.out _).mono ?_; rintro r w15 ⟨rfl, hb_⟩
    clear q_t300 q_t301 q_t30s q_t310 q_t311 q_t31s
    replace t5 := t5.keep hb_
    replace t15 := t15.keep hb_
    replace t17 := t17.keep hb_
    replace t23 := t23.keep hb_
    replace t30 := t30.keep hb_
    replace t31 := t31.keep hb_
    replace sl := sl.keep hb_
    replace st := st.keep hb_
    replace sx := sx.keep hb_
    replace se := se.keep hb_
    replace sp := sp.keep hb_
    replace sr := sr.keep hb_
    replace BX := BX.trans (hb_.mono BX.size)
    clear hb_
    have q_t300 := t30.c0
    have q_t301 := t30.c1
    have q_t30s := t30.size
    have q_t310 := t31.c0
    have q_t311 := t31.c1
    have q_t31s := t31.size
    go_wp2_with fail
    refine (E3.out _).mono ?_; rintro r w16 ⟨rfl, hb_⟩
    clear q_t300 q_t301 q_t30s q_t310 q_t311 q_t31s
    replace t5 := t5.keep hb_
    replace t15 := t15.keep hb_
    replace t17 := t17.keep hb_
    replace t23 := t23.keep hb_
    replace t30 := t30.keep hb_
    replace t31 := t31.keep hb_
    replace sl := sl.keep hb_
    replace st := st.keep hb_
    replace sx := sx.keep hb_
    replace se := se.keep hb_
    replace sp := sp.keep hb_
    replace sr := sr.keep hb_
    replace BX := BX.trans (hb_.mono BX.size)
    clear hb_
    have q_t300 := t30.c0
    have q_t301 := t30.c1
    have q_t30s := t30.size
    have q_t310 := t31.c0
    have q_t311 := t31.c1
    have q_t31s := t31.size
    go_wp2_with fail
    refine (E4.out _).mono ?_; rintro r w17 ⟨rfl, hb_⟩
    clear q_t300 q_t301 q_t30s q_t310 q_t311 q_t31s
    replace t5 := t5.keep hb_
    replace t15 := t15.keep hb_
    replace t17 := t17.keep hb_
    replace t23 := t23.keep hb_
    replace t30 := t30.keep hb_
    replace t31 := t31.keep hb_
    replace sl := sl.keep hb_
    replace st := st.keep hb_
    replace sx := sx.keep hb_
    replace se := se.keep hb_
    replace sp := sp.keep hb_
    replace sr := sr.keep hb_
    replace BX := BX.trans (hb_.mono BX.size)
    clear hb_
    clear E1 E2 E3 E4
    go_upto_region 20 with fail
    go_cut [270] (fun s_ wx => s_ = .bool false ∧ Below w17.heap.size w17 wx)
    case first => as_aux_lemma =>
      clear HP HROW HS0 HSB HXX HF HS
      have BY : Below w17.heap.size w17 w17 := Below.refl _ _
      clear t5 t23 t30 t31
      have HN := st
      go_wp2_with fail
      refine (qLists_c _ _ L _ _ _ sl st (Nat.le_refl _) (Nat.le_refl _)).mono ?_; rintro r w18 ⟨rfl, hb_⟩
      replace t15 := t15.keep hb_
      replace t17 := t17.keep hb_
      replace sl := sl.keep hb_
      replace st := st.keep hb_
      replace sx := sx.keep hb_
      replace se := se.keep hb_
      replace sp := sp.keep hb_
      replace sr := sr.keep hb_
      replace BX := BX.trans (hb_.mono BX.size)
      replace BY := BY.trans (hb_.mono BY.size)
      clear hb_
      go_wp2_with fail
      refine (qInts_c _ _ ex _ _ _ sx se).mono ?_; rintro r w19 ⟨rfl, hb_⟩
      replace t15 := t15.keep hb_
      replace t17 := t17.keep hb_
      replace sl := sl.keep hb_
      replace st := st.keep hb_
      replace sx := sx.keep hb_
      replace se := se.keep hb_
      replace sp := sp.keep hb_
      replace sr := sr.keep hb_
      replace BX := BX.trans (hb_.mono BX.size)
      replace BY := BY.trans (hb_.mono BY.size)
      clear hb_
      have q_t150 := t15.c0
      have q_t151 := t15.c1
      have q_t15s := t15.size
      have q_t170 := t17.c0
      have q_t171 := t17.c1
      have q_t17s := t17.size
      go_wp2_with fail
      refine (qInts_c _ _ P _ _ _ sp sr).mono ?_; rintro r wz ⟨rfl, hb_⟩
      replace BY := BY.trans (hb_.mono BY.size)
      clear hb_ BX sl st sx se sp sr t15 t17 HN
      clear q_t150 q_t151 q_t15s q_t170 q_t171 q_t17s
      have hq := HQ.out
      have hel := HEL.out
      clear HQ HEL HL
      generalize hLL : L.length = l at *
      clear hLL
      cases ok
      case false =>
        obtain rfl : q = false := hq
        cases nine <;> (as_aux_lemma => (subst hel; go_wp2_with fail; go_meet; exact ⟨by simp, BY⟩))
      case true =>
        cases q
        · have hz : l = 0 := by have h_ := hq; simp at h_; omega
          clear hq
          subst hz
          cases nine <;> (as_aux_lemma => (subst hel; go_wp2_with fail; go_meet; exact ⟨by simp, BY⟩))
        · have hz : (0 : Int) < (l : Int) := by have h_ := hq; simp at h_; omega
          clear hq
          cases nine <;> (as_aux_lemma => (subst hel; go_wp2_with fail; go_meet; exact ⟨by simp, BY⟩))
    case rest => as_aux_lemma =>
      obtain ⟨rfl, hcut⟩ := hcut
      clear sl sx sp t15 HEL
      replace t5 := t5.keep hcut
      replace t17 := t17.keep hcut
      replace t23 := t23.keep hcut
      replace t30 := t30.keep hcut
      replace t31 := t31.keep hcut
      replace st := st.keep hcut
      replace se := se.keep hcut
      replace sr := sr.keep hcut
      replace BX := BX.trans (hcut.mono BX.size)
      generalize wc = wp at *
      clear hcut
      go_upto_if 271 with fail
      go_cut [] (fun wx => Below wp.heap.size wp wx)
      case first => as_aux_lemma =>
        clear HP HROW HS0 HSB HXX HS
        cases el
        case false =>
          go_wp2
          go_meet
          exact Below.refl _ _
        case true =>
          obtain ⟨k1, k2, ⟨x1, x2, k3, k4, k5⟩, k6⟩ := HF.out rfl
          have A1 := fun w => implTraceAt_c c d fst w
          have A2 := fun w => implTraceAt_c cc dd fst w
          rw [k3, k1] at A1
          rw [k4, k2] at A2
          have k7 : (x1 == x2) = false := by simpa using k5
          clear k1 k2 k3 k4 k5 HF
          have A1 := Lib.hid A1
          have A2 := Lib.hid A2
          clear sr st se t5 t17 t23
          have BY : Below wp.heap.size wp wp := Below.refl _ _
          have q_t300 := t30.c0
          have q_t301 := t30.c1
          have q_t30s := t30.size
          have q_t310 := t31.c0
          have q_t311 := t31.c1
          have q_t31s := t31.size
          go_wp2_with fail
          refine (A1.out _).mono ?_; rintro r w21 ⟨rfl, hb_⟩
          clear q_t300 q_t301 q_t30s q_t310 q_t311 q_t31s
          replace t30 := t30.keep hb_
          replace t31 := t31.keep hb_
          replace BX := BX.trans (hb_.mono BX.size)
          replace BY := BY.trans (hb_.mono BY.size)
          clear hb_
          have q_t300 := t30.c0
          have q_t301 := t30.c1
          have q_t30s := t30.size
          have q_t310 := t31.c0
          have q_t311 := t31.c1
          have q_t31s := t31.size
          go_wp2_with fail
          refine (A2.out _).mono ?_; rintro r w22 ⟨rfl, hb_⟩
          clear q_t300 q_t301 q_t30s q_t310 q_t311 q_t31s
          replace t30 := t30.keep hb_
          replace t31 := t31.keep hb_
          replace BX := BX.trans (hb_.mono BX.size)
          replace BY := BY.trans (hb_.mono BY.size)
          clear hb_
          go_wp2
          go_meet
          exact BY
      case rest => as_aux_lemma =>
        replace t5 := t5.keep hcut
        replace t17 := t17.keep hcut
        replace t23 := t23.keep hcut
        replace t30 := t30.keep hcut
        replace t31 := t31.keep hcut
        replace st := st.keep hcut
        replace se := se.keep hcut
        replace sr := sr.keep hcut
        replace BX := BX.trans (hcut.mono BX.size)
        clear HF
        generalize wc = wp2 at *
        clear hcut
        go_upto_if 300 with fail
        go_cut [] (fun wx => Below wp2.heap.size wp2 wx)
        case first => as_aux_lemma =>
          clear HP HROW HS0 HSB HXX
          cases nine
          case false =>
            go_wp2
            go_meet
            exact Below.refl _ _
          case true =>
            obtain ⟨k1, k2⟩ := HS.out rfl
            have A1 := fun w => implHaveSameTraces_c cc dd c d most w
            rw [k2, k1] at A1
            clear k1 k2 HS
            have A1 := Lib.hid A1
            clear sr st se t5 t17 t23
            have BY : Below wp2.heap.size wp2 wp2 := Below.refl _ _
            have q_t300 := t30.c0
            have q_t301 := t30.c1
            have q_t30s := t30.size
            have q_t310 := t31.c0
            have q_t311 := t31.c1
            have q_t31s := t31.size
            go_wp2_with fail
            refine (A1.out _).mono ?_; rintro r w23 ⟨rfl, hb_⟩
            clear q_t300 q_t301 q_t30s q_t310 q_t311 q_t31s
            replace t30 := t30.keep hb_
            replace t31 := t31.keep hb_
            replace BX := BX.trans (hb_.mono BX.size)
            replace BY := BY.trans (hb_.mono BY.size)
            clear hb_
            go_wp2
            go_meet
            exact BY
        case rest => as_aux_lemma =>
          replace t5 := t5.keep hcut
          replace t17 := t17.keep hcut
          replace t23 := t23.keep hcut
          replace t30 := t30.keep hcut
          replace t31 := t31.keep hcut
          replace st := st.keep hcut
          replace se := se.keep hcut
          replace sr := sr.keep hcut
          replace BX := BX.trans (hcut.mono BX.size)
          clear HS t30 t31
          generalize wc = wp3 at *
          clear hcut
          have sq := sr
          obtain ⟨a6_, c6_, hpe, hmP, hvP⟩ := sq
          obtain ⟨rfl, rfl⟩ : a6_ = a6 ∧ c6_ = c6 := by injection hpe with x1 x2 x3; exact ⟨x1.symm, x3.symm⟩
          clear hpe sr
          have HvP := Lib.hid hvP
          clear hvP
          have q_t230 := t23.c0
          have q_t231 := t23.c1
          have q_t23s := t23.size
          go_wp2_with fail
          go_loopw [317] (fun vi wr => ∃ j : Nat, j ≤ P.length ∧ vi = .int .i64 j ∧ Below wp3.heap.size wp3 wr) (fun vi _ => P.length - (intOf vi).toNat)
          case atStart => exact ⟨0, by omega, rfl, Below.refl _ _⟩
          case round =>
            obtain ⟨j, hj, rfl, hbr⟩ := hrel
            by_cases hlt : j < P.length
            · skip
              obtain ⟨g6, q6, rfl, hg6, hx, hcell⟩ := HvP.out j hlt
              obtain ⟨k1, k2, k3⟩ := HP.out j q6 hx.out
              have A1 := fun w => implTraceAt_c f g q6 w
              rw [k2, k1] at A1
              have A1 := Lib.hid A1
              clear k1 k2 HP HROW HS0 HSB HXX
              have e0 := keepCell hbr q_t230
              have e1 := keepCell hbr q_t231
              have e2 := keepCell hbr hcell
              clear hcell q_t230 q_t231
              go_wp2_with fail
              refine (A1.out _).mono ?_; rintro r w_ ⟨rfl, hb_⟩
              go_wp2
              go_roundw
              case rel => exact ⟨j + 1, by omega, by go_num, hbr.trans (hb_.mono hbr.size)⟩
              case measure => simp [intOf]; omega
            · skip
              obtain rfl : j = P.length := by omega
              clear HvP HP hlt
              clear q_t230 q_t231 q_t23s
              replace t5 := t5.keep hbr
              replace t17 := t17.keep hbr
              replace t23 := t23.keep hbr
              replace st := st.keep hbr
              replace se := se.keep hbr
              replace BX := BX.trans (hbr.mono BX.size)
              clear t23 hbr
              have sq := st
              obtain ⟨a2_, c2_, hpe, hmL, hvL⟩ := sq
              obtain ⟨rfl, rfl⟩ : a2_ = a2 ∧ c2_ = c2 := by injection hpe with x1 x2 x3; exact ⟨x1.symm, x3.symm⟩
              clear hpe st
              have HvL := Lib.hid hvL
              clear hvL
              generalize wr = wq at *
              have q_t50 := t5.c0
              have q_t51 := t5.c1
              have q_t5s := t5.size
              go_wp2_with fail
              go_loopw [51, 342] (fun vs vi wr => ∃ j : Nat, j ≤ L.length ∧ vi = .int .i64 j ∧ vs = .int .i64 (S j) ∧ Below wq.heap.size wq wr) (fun _ vi _ => L.length - (intOf vi).toNat)
              case atStart => exact ⟨0, by omega, rfl, by rw [HS0.out], Below.refl _ _⟩
              case round =>
                obtain ⟨j, hj, rfl, rfl, hbr⟩ := hrel
                have hsb := HSB.out j
                have hll := HL.out
                by_cases hlt : j < L.length
                · skip
                  obtain ⟨g2, u, r, rfl, hg2, hx, hcell, hrs⟩ := HvL.out j hlt
                  obtain ⟨p_, t_, hr, k1, k2, ⟨k3, k4, k5⟩, k6, ⟨k7, k8⟩, k9, k10, k11⟩ := HROW.out j r hx.out
                  subst hr
                  obtain ⟨ar, cr, rfl, hmr, hvr⟩ := hrs
                  obtain ⟨gr, y0, rfl, hgr, hy0, hr0⟩ := hvr 0 (by simp)
                  obtain ⟨gr_, y1, he_, hgr1, hy1, hr1⟩ := hvr 1 (by simp)
                  obtain rfl : gr = gr_ := by injection he_ with h_; injection h_
                  obtain rfl : p_ = y0 := Option.some.inj hy0.out
                  obtain rfl : t_ = y1 := Option.some.inj hy1.out
                  clear hvr he_ hy0 hy1 hgr1
                  skip
                  have A1 := fun w => implTraceAt_c a b p_ w
                  rw [k1, k2] at A1
                  have A2 := fun w => implTraceBound_c p_ w
                  rw [k6] at A2
                  have A3 := fun w (hb : Below wq.heap.size wq w) => qHas_c _ ex p_ _ w (se.below hb)
                  rw [k9] at A3
                  have A4 := fun w => qAbsT_c t_ w (by omega) (by omega)
                  simp only [if_true] at A2
                  generalize M.root (4 * p_) = bd at *
                  generalize (t_.natAbs : Int) = ta at *
                  have A1 := Lib.hid A1
                  have A2 := Lib.hid A2
                  have A3 := Lib.hid A3
                  have A4 := Lib.hid A4
                  have K10 := Lib.hid k10
                  clear k1 k2 k6 k9 k10 HXX HQ
                  have B0 := Lib.hid q_t50
                  have B1 := Lib.hid q_t51
                  have B2 := Lib.hid hcell
                  have B3 := Lib.hid hr0
                  have B4 := Lib.hid hr1
                  clear hcell hr0 hr1 q_t50 q_t51
                  have e2 := keepCell hbr B2.out
                  go_upto_region 42 with fail
                  clear e2
                  go_cut [54, 55] (fun s54 s55 wx => s54 = .int .i64 t_ ∧ s55 = .bool true ∧ Below wq.heap.size wq wx)
                  case first =>
                    have e0 := keepCell hbr B0.out
                    have e1 := keepCell hbr B1.out
                    have e3 := keepCell hbr B3.out
                    clear A2 A3 A4 K10 k11 HvL hsb hll HROW HL HSB B0 B1 B2 B3 B4 se t17
                    first | go_region_held3 (fun W => W.cell? ⟨w1.heap.size, 0, none⟩ = some (.int .i64 a) ∧ W.cell? ⟨w1.heap.size, 1, none⟩ = some (.int .i64 b) ∧ W.cell? ⟨gr, 0, none⟩ = some (.int .i64 p_)) (first | exact ⟨keepCell (by assumption) (by assumption), keepCell (by assumption) (by assumption), keepCell (by assumption) (by assumption)⟩ | (go_split_ands; exact ⟨keepCell (by assumption) (by assumption), keepCell (by assumption) (by assumption), keepCell (by assumption) (by assumption)⟩) | go_keep) ((go_at_call 23; (with_reducible refine (A1.out _).mono ?_); rintro e w_ ⟨rfl, hb3⟩)) | fail
                    all_goals
                      go_wp2_with fail
                      go_meet
                      exact ⟨rfl, rfl, by have := hbr; exact (by repeat (first | exact Below.refl _ _ | refine below_alloc ?_ _ | refine below_step ?_ (by assumption) | refine Below.drew ?_ | refine Below.setCell ?_ (by first | exact Nat.le_refl _ | exact Nat.le_add_right _ _ | (simp <;> omega)) _ | refine below_drewN ?_ _))⟩
                  case rest =>
                    obtain ⟨rfl, rfl, hbq⟩ := hcut
                    clear hbr A1 B0 B1
                    generalize wc = wd at *
                    have e3 := keepCell hbq B3.out
                    go_wp2_with fail
                    refine (A2.out _).mono ?_; rintro r_ w_ ⟨rfl, rfl⟩
                    clear A2
                    go_upto_region 44 with fail
                    clear e3
                    go_cut [412] (fun sx wx => sx = .bool false ∧ Below wq.heap.size wq wx)
                    case first =>
                      clear K10 hsb HROW HL HSB t17
                      have e3 := keepCell hbq B3.out
                      have e4 := keepCell hbq B4.out
                      have z1 : ¬ (lim < p_) := by omega
                      have z1_ : (lim < p_) = False := by simpa using z1
                      rcases Nat.eq_zero_or_pos j with hj0 | hj0
                      · skip
                        have hz0 : (j : Int) = 0 := by omega
                        clear hj0 k11 HvL B2 B3 B4
                        refine Rg.walk [.is (.bool true), .is (.bool false), .is (.bool false), .is (.int .i64 t_), .is (.slice (some ⟨gr, 0, none⟩) 2 cr), .is (.pointer (some ⟨gr, 1, none⟩)), .is (.int .i64 t_), .is (.bool false), .is (.bool false), .is (.bool false), .is (.slice (some ⟨gr, 0, none⟩) 2 cr), .is (.pointer (some ⟨gr, 0, none⟩)), .is (.int .i64 p_), .is (.int .i64 lim), .is (.bool false), .is (.bool false), .is (.bool false), .is (.int .i64 (j : Int)), .is (.bool false), .is (.bool false), .is (undef), .is (undef), .is (undef), .is (undef), .is (undef), .is (undef), .is (undef), .is (undef), .is (undef), .is (undef), .is (undef), .is (.bool false), .is (.bool false), .is (.bool false), .is (.bool true), .is (.bool false), .is (.bool false), .is (.bool false), .is (v4), .is (.slice (some ⟨gr, 0, none⟩) 2 cr), .is (.pointer (some ⟨gr, 0, none⟩)), .is (.int .i64 p_), .is (.bool (ta == bd)), .is (.slice (some ⟨gr, 0, none⟩) 2 cr), .is (.pointer (some ⟨gr, 1, none⟩)), .is (.int .i64 t_), .is (.int .i64 ta), .is (.int .i64 bd), .is (.bool (ta == bd)), .is (.bool false), .is (.bool false)] (by kernel_rfl) (by kernel_rfl) ⟨?_, ?_, ?_, ?_, ?_, ?_, ?_, ?_, ?_, ?_, ?_, ?_, ?_, ?_, ?_, ?_, ?_, ?_, ?_, ?_, ?_, ?_, ?_, ?_, ?_, ?_, ?_, ?_, ?_, ?_, ?_, ?_, ?_, ?_, ?_, ?_, ?_, ?_, ?_, ?_, ?_, ?_, ?_, ?_, ?_, ?_, ?_, ?_, ?_, ?_, ?_, trivial⟩ ?_
                        · intro ac_ w_ hB hr
                          have e55 : ac_.tmps[55]? = some (.bool true) := hr 55 (by decide)
                          exact Rg.pure1 rfl (by first | (go_simp; done) | (go_simp; exact Rg.wr (by omega) (by omega)))
                        · intro ac_ w_ hB hr
                          have e362 : ac_.tmps[362]? = some (.bool true) := Rg.ev1 (hr 362 (by decide))
                          exact Rg.pure1 rfl (by first | (go_simp; done) | (go_simp; exact Rg.wr (by omega) (by omega)))
                        · intro ac_ w_ hB hr
                          have e363 : ac_.tmps[363]? = some (.bool false) := Rg.ev1 (hr 363 (by decide))
                          exact Rg.pure1 rfl (by first | (go_simp; done) | (go_simp; exact Rg.wr (by omega) (by omega)))
                        · intro ac_ w_ hB hr
                          have e54 : ac_.tmps[54]? = some (.int .i64 t_) := hr 54 (by decide)
                          have e364 : ac_.tmps[364]? = some (.bool false) := Rg.ev1 (hr 364 (by decide))
                          exact Rg.pure1 (Rg.wantedT (j := 2) (b := false) rfl (Rg.yld rfl e364)) (by first | (go_simp; done) | (go_simp; exact Rg.wr (by omega) (by omega)))
                        · intro ac_ w_ hB hr
                          have e53 : ac_.tmps[53]? = some (.slice (some ⟨gr, 0, none⟩) 2 cr) := hr 53 (by decide)
                          have e364 : ac_.tmps[364]? = some (.bool false) := Rg.ev1 (hr 364 (by decide))
                          exact Rg.pure1 (Rg.wantedT (j := 2) (b := false) rfl (Rg.yld rfl e364)) (by first | (go_simp; done) | (go_simp; exact Rg.wr (by omega) (by omega)))
                        · intro ac_ w_ hB hr
                          have e364 : ac_.tmps[364]? = some (.bool false) := Rg.ev1 (hr 364 (by decide))
                          have e366 : ac_.tmps[366]? = some (.slice (some ⟨gr, 0, none⟩) 2 cr) := Rg.ev1 (hr 366 (by decide))
                          have ec : ∀ v, ac_.eval (.const v) = v := fun _ => rfl
                          exact Rg.pure1 (Rg.wantedT (j := 2) (b := false) rfl (Rg.yld rfl e364)) (by first | (go_simp; done) | (go_simp; exact Rg.wr (by omega) (by omega)))
                        · intro ac_ w_ hB hr
                          have e364 : ac_.tmps[364]? = some (.bool false) := Rg.ev1 (hr 364 (by decide))
                          have e367 : ac_.tmps[367]? = some (.pointer (some ⟨gr, 1, none⟩)) := Rg.ev1 (hr 367 (by decide))
                          have k_ := keepCell hB e4
                          exact Rg.pure1 (Rg.wantedT (j := 2) (b := false) rfl (Rg.yld rfl e364)) (by first | (go_simp; done) | (go_simp; exact Rg.wr (by omega) (by omega)))
                        · intro ac_ w_ hB hr
                          have e364 : ac_.tmps[364]? = some (.bool false) := Rg.ev1 (hr 364 (by decide))
                          have e365 : ac_.tmps[365]? = some (.int .i64 t_) := Rg.ev1 (hr 365 (by decide))
                          have e368 : ac_.tmps[368]? = some (.int .i64 t_) := Rg.ev1 (hr 368 (by decide))
                          exact Rg.pure1 (Rg.wantedT (j := 2) (b := false) rfl (Rg.yld rfl e364)) (by first | (go_simp; done) | (go_simp; exact Rg.wr (by omega) (by omega)))
                        · intro ac_ w_ hB hr
                          have e364 : ac_.tmps[364]? = some (.bool false) := Rg.ev1 (hr 364 (by decide))
                          have e369 : ac_.tmps[369]? = some (.bool false) := Rg.ev1 (hr 369 (by decide))
                          have ec : ∀ v, ac_.eval (.const v) = v := fun _ => rfl
                          exact Rg.pure1 rfl (by first | (go_simp; done) | (go_simp; exact Rg.wr (by omega) (by omega)))
                        · intro ac_ w_ hB hr
                          have e370 : ac_.tmps[370]? = some (.bool false) := Rg.ev1 (hr 370 (by decide))
                          exact Rg.pure1 rfl (by first | (go_simp; done) | (go_simp; exact Rg.wr (by omega) (by omega)))
                        · intro ac_ w_ hB hr
                          have e53 : ac_.tmps[53]? = some (.slice (some ⟨gr, 0, none⟩) 2 cr) := hr 53 (by decide)
                          have e371 : ac_.tmps[371]? = some (.bool false) := Rg.ev1 (hr 371 (by decide))
                          exact Rg.pure1 (Rg.wantedT (j := 9) (b := false) rfl (Rg.yld rfl e371)) (by first | (go_simp; done) | (go_simp; exact Rg.wr (by omega) (by omega)))
                        · intro ac_ w_ hB hr
                          have e371 : ac_.tmps[371]? = some (.bool false) := Rg.ev1 (hr 371 (by decide))
                          have e372 : ac_.tmps[372]? = some (.slice (some ⟨gr, 0, none⟩) 2 cr) := Rg.ev1 (hr 372 (by decide))
                          have ec : ∀ v, ac_.eval (.const v) = v := fun _ => rfl
                          exact Rg.pure1 (Rg.wantedT (j := 9) (b := false) rfl (Rg.yld rfl e371)) (by first | (go_simp; done) | (go_simp; exact Rg.wr (by omega) (by omega)))
                        · intro ac_ w_ hB hr
                          have e371 : ac_.tmps[371]? = some (.bool false) := Rg.ev1 (hr 371 (by decide))
                          have e373 : ac_.tmps[373]? = some (.pointer (some ⟨gr, 0, none⟩)) := Rg.ev1 (hr 373 (by decide))
                          have k_ := keepCell hB e3
                          exact Rg.pure1 (Rg.wantedT (j := 9) (b := false) rfl (Rg.yld rfl e371)) (by first | (go_simp; done) | (go_simp; exact Rg.wr (by omega) (by omega)))
                        · intro ac_ w_ hB hr
                          have e6 : ac_.tmps[6]? = some (.int .i64 lim) := hr 6 (by decide)
                          have e371 : ac_.tmps[371]? = some (.bool false) := Rg.ev1 (hr 371 (by decide))
                          exact Rg.pure1 (Rg.wantedT (j := 9) (b := false) rfl (Rg.yld rfl e371)) (by first | (go_simp; done) | (go_simp; exact Rg.wr (by omega) (by omega)))
                        · intro ac_ w_ hB hr
                          have e371 : ac_.tmps[371]? = some (.bool false) := Rg.ev1 (hr 371 (by decide))
                          have e374 : ac_.tmps[374]? = some (.int .i64 p_) := Rg.ev1 (hr 374 (by decide))
                          have e375 : ac_.tmps[375]? = some (.int .i64 lim) := Rg.ev1 (hr 375 (by decide))
                          exact Rg.pure1 (Rg.wantedT (j := 9) (b := false) rfl (Rg.yld rfl e371)) (by first | (go_simp; done) | (go_simp; exact Rg.wr (by omega) (by omega)))
                        · intro ac_ w_ hB hr
                          have e371 : ac_.tmps[371]? = some (.bool false) := Rg.ev1 (hr 371 (by decide))
                          have e376 : ac_.tmps[376]? = some (.bool false) := Rg.ev1 (hr 376 (by decide))
                          have ec : ∀ v, ac_.eval (.const v) = v := fun _ => rfl
                          exact Rg.pure1 rfl (by first | (go_simp; done) | (go_simp; exact Rg.wr (by omega) (by omega)))
                        · intro ac_ w_ hB hr
                          have e377 : ac_.tmps[377]? = some (.bool false) := Rg.ev1 (hr 377 (by decide))
                          exact Rg.pure1 rfl (by first | (go_simp; done) | (go_simp; exact Rg.wr (by omega) (by omega)))
                        · intro ac_ w_ hB hr
                          have e52 : ac_.tmps[52]? = some (.int .i64 (j : Int)) := hr 52 (by decide)
                          have e378 : ac_.tmps[378]? = some (.bool false) := Rg.ev1 (hr 378 (by decide))
                          exact Rg.pure1 (Rg.wantedT (j := 16) (b := false) rfl (Rg.yld rfl e378)) (by first | (go_simp; done) | (go_simp; exact Rg.wr (by omega) (by omega)))
                        · intro ac_ w_ hB hr
                          have e378 : ac_.tmps[378]? = some (.bool false) := Rg.ev1 (hr 378 (by decide))
                          have e379 : ac_.tmps[379]? = some (.int .i64 (j : Int)) := Rg.ev1 (hr 379 (by decide))
                          have ec : ∀ v, ac_.eval (.const v) = v := fun _ => rfl
                          exact Rg.pure1 (Rg.wantedT (j := 16) (b := false) rfl (Rg.yld rfl e378)) (by first | (go_simp; done) | (go_simp; exact Rg.wr (by omega) (by omega)))
                        · intro ac_ w_ hB hr
                          have e378 : ac_.tmps[378]? = some (.bool false) := Rg.ev1 (hr 378 (by decide))
                          have e380 : ac_.tmps[380]? = some (.bool false) := Rg.ev1 (hr 380 (by decide))
                          exact Rg.pure1 (Rg.wantedT (j := 16) (b := false) rfl (Rg.yld rfl e378)) (by first | (go_simp; done) | (go_simp; exact Rg.wr (by omega) (by omega)))
                        · intro ac_ w_ hB hr
                          have e9 : ac_.tmps[9]? = some (.slice (some ⟨g2, 0, none⟩) L.length c2_) := hr 9 (by decide)
                          have e381 : ac_.tmps[381]? = some (.bool false) := Rg.ev1 (hr 381 (by decide))
                          exact Rg.skip1 (Rg.wantedF (j := 19) (b := false) rfl (Rg.yld rfl e381))
                        · intro ac_ w_ hB hr
                          have e52 : ac_.tmps[52]? = some (.int .i64 (j : Int)) := hr 52 (by decide)
                          have e381 : ac_.tmps[381]? = some (.bool false) := Rg.ev1 (hr 381 (by decide))
                          exact Rg.skip1 (Rg.wantedF (j := 19) (b := false) rfl (Rg.yld rfl e381))
                        · intro ac_ w_ hB hr
                          have e381 : ac_.tmps[381]? = some (.bool false) := Rg.ev1 (hr 381 (by decide))
                          have e383 : ac_.tmps[383]? = some (undef) := Rg.ev1 (hr 383 (by decide))
                          have ec : ∀ v, ac_.eval (.const v) = v := fun _ => rfl
                          exact Rg.skip1 (Rg.wantedF (j := 19) (b := false) rfl (Rg.yld rfl e381))
                        · intro ac_ w_ hB hr
                          have e381 : ac_.tmps[381]? = some (.bool false) := Rg.ev1 (hr 381 (by decide))
                          have e382 : ac_.tmps[382]? = some (undef) := Rg.ev1 (hr 382 (by decide))
                          have e384 : ac_.tmps[384]? = some (undef) := Rg.ev1 (hr 384 (by decide))
                          exact Rg.skip1 (Rg.wantedF (j := 19) (b := false) rfl (Rg.yld rfl e381))
                        · intro ac_ w_ hB hr
                          have e381 : ac_.tmps[381]? = some (.bool false) := Rg.ev1 (hr 381 (by decide))
                          have e385 : ac_.tmps[385]? = some (undef) := Rg.ev1 (hr 385 (by decide))
                          exact Rg.skip1 (Rg.wantedF (j := 19) (b := false) rfl (Rg.yld rfl e381))
                        · intro ac_ w_ hB hr
                          have e381 : ac_.tmps[381]? = some (.bool false) := Rg.ev1 (hr 381 (by decide))
                          have e386 : ac_.tmps[386]? = some (undef) := Rg.ev1 (hr 386 (by decide))
                          have ec : ∀ v, ac_.eval (.const v) = v := fun _ => rfl
                          exact Rg.skip1 (Rg.wantedF (j := 19) (b := false) rfl (Rg.yld rfl e381))
                        · intro ac_ w_ hB hr
                          have e381 : ac_.tmps[381]? = some (.bool false) := Rg.ev1 (hr 381 (by decide))
                          have e387 : ac_.tmps[387]? = some (undef) := Rg.ev1 (hr 387 (by decide))
                          exact Rg.skip1 (Rg.wantedF (j := 19) (b := false) rfl (Rg.yld rfl e381))
                        · intro ac_ w_ hB hr
                          have e53 : ac_.tmps[53]? = some (.slice (some ⟨gr, 0, none⟩) 2 cr) := hr 53 (by decide)
                          have e381 : ac_.tmps[381]? = some (.bool false) := Rg.ev1 (hr 381 (by decide))
                          exact Rg.skip1 (Rg.wantedF (j := 19) (b := false) rfl (Rg.yld rfl e381))
                        · intro ac_ w_ hB hr
                          have e381 : ac_.tmps[381]? = some (.bool false) := Rg.ev1 (hr 381 (by decide))
                          have e389 : ac_.tmps[389]? = some (undef) := Rg.ev1 (hr 389 (by decide))
                          have ec : ∀ v, ac_.eval (.const v) = v := fun _ => rfl
                          exact Rg.skip1 (Rg.wantedF (j := 19) (b := false) rfl (Rg.yld rfl e381))
                        · intro ac_ w_ hB hr
                          have e381 : ac_.tmps[381]? = some (.bool false) := Rg.ev1 (hr 381 (by decide))
                          have e390 : ac_.tmps[390]? = some (undef) := Rg.ev1 (hr 390 (by decide))
                          exact Rg.skip1 (Rg.wantedF (j := 19) (b := false) rfl (Rg.yld rfl e381))
                        · intro ac_ w_ hB hr
                          have e381 : ac_.tmps[381]? = some (.bool false) := Rg.ev1 (hr 381 (by decide))
                          have e388 : ac_.tmps[388]? = some (undef) := Rg.ev1 (hr 388 (by decide))
                          have e391 : ac_.tmps[391]? = some (undef) := Rg.ev1 (hr 391 (by decide))
                          exact Rg.skip1 (Rg.wantedF (j := 19) (b := false) rfl (Rg.yld rfl e381))
                        · intro ac_ w_ hB hr
                          have e378 : ac_.tmps[378]? = some (.bool false) := Rg.ev1 (hr 378 (by decide))
                          have e381 : ac_.tmps[381]? = some (.bool false) := Rg.ev1 (hr 381 (by decide))
                          have e392 : ac_.tmps[392]? = some (undef) := Rg.ev1 (hr 392 (by decide))
                          have ec : ∀ v, ac_.eval (.const v) = v := fun _ => rfl
                          exact Rg.pure1 (Rg.wantedT (j := 16) (b := false) rfl (Rg.yld rfl e378)) (by first | (go_simp; done) | (go_simp; exact Rg.wr (by omega) (by omega)))
                        · intro ac_ w_ hB hr
                          have e378 : ac_.tmps[378]? = some (.bool false) := Rg.ev1 (hr 378 (by decide))
                          have e393 : ac_.tmps[393]? = some (.bool false) := Rg.ev1 (hr 393 (by decide))
                          have ec : ∀ v, ac_.eval (.const v) = v := fun _ => rfl
                          exact Rg.pure1 rfl (by first | (go_simp; done) | (go_simp; exact Rg.wr (by omega) (by omega)))
                        · intro ac_ w_ hB hr
                          have e394 : ac_.tmps[394]? = some (.bool false) := Rg.ev1 (hr 394 (by decide))
                          exact Rg.pure1 rfl (by first | (go_simp; done) | (go_simp; exact Rg.wr (by omega) (by omega)))
                        · intro ac_ w_ hB hr
                          have e57 : ac_.tmps[57]? = some (.bool true) := hr 57 (by decide)
                          have e395 : ac_.tmps[395]? = some (.bool false) := Rg.ev1 (hr 395 (by decide))
                          exact Rg.pure1 (Rg.wantedT (j := 33) (b := false) rfl (Rg.yld rfl e395)) (by first | (go_simp; done) | (go_simp; exact Rg.wr (by omega) (by omega)))
                        · intro ac_ w_ hB hr
                          have e395 : ac_.tmps[395]? = some (.bool false) := Rg.ev1 (hr 395 (by decide))
                          have e396 : ac_.tmps[396]? = some (.bool true) := Rg.ev1 (hr 396 (by decide))
                          exact Rg.pure1 (Rg.wantedT (j := 33) (b := false) rfl (Rg.yld rfl e395)) (by first | (go_simp; done) | (go_simp; exact Rg.wr (by omega) (by omega)))
                        · intro ac_ w_ hB hr
                          have e395 : ac_.tmps[395]? = some (.bool false) := Rg.ev1 (hr 395 (by decide))
                          have e397 : ac_.tmps[397]? = some (.bool false) := Rg.ev1 (hr 397 (by decide))
                          have ec : ∀ v, ac_.eval (.const v) = v := fun _ => rfl
                          exact Rg.pure1 rfl (by first | (go_simp; done) | (go_simp; exact Rg.wr (by omega) (by omega)))
                        · intro ac_ w_ hB hr
                          have e398 : ac_.tmps[398]? = some (.bool false) := Rg.ev1 (hr 398 (by decide))
                          exact Rg.pure1 rfl (by first | (go_simp; done) | (go_simp; exact Rg.wr (by omega) (by omega)))
                        · intro ac_ w_ hB hr
                          have e13 : ac_.tmps[13]? = some (v4) := hr 13 (by decide)
                          have e399 : ac_.tmps[399]? = some (.bool false) := Rg.ev1 (hr 399 (by decide))
                          exact Rg.pure1 (Rg.wantedT (j := 37) (b := false) rfl (Rg.yld rfl e399)) (by first | (go_simp; done) | (go_simp; exact Rg.wr (by omega) (by omega)))
                        · intro ac_ w_ hB hr
                          have e53 : ac_.tmps[53]? = some (.slice (some ⟨gr, 0, none⟩) 2 cr) := hr 53 (by decide)
                          have e399 : ac_.tmps[399]? = some (.bool false) := Rg.ev1 (hr 399 (by decide))
                          exact Rg.pure1 (Rg.wantedT (j := 37) (b := false) rfl (Rg.yld rfl e399)) (by first | (go_simp; done) | (go_simp; exact Rg.wr (by omega) (by omega)))
                        · intro ac_ w_ hB hr
                          have e399 : ac_.tmps[399]? = some (.bool false) := Rg.ev1 (hr 399 (by decide))
                          have e401 : ac_.tmps[401]? = some (.slice (some ⟨gr, 0, none⟩) 2 cr) := Rg.ev1 (hr 401 (by decide))
                          have ec : ∀ v, ac_.eval (.const v) = v := fun _ => rfl
                          exact Rg.pure1 (Rg.wantedT (j := 37) (b := false) rfl (Rg.yld rfl e399)) (by first | (go_simp; done) | (go_simp; exact Rg.wr (by omega) (by omega)))
                        · intro ac_ w_ hB hr
                          have e399 : ac_.tmps[399]? = some (.bool false) := Rg.ev1 (hr 399 (by decide))
                          have e402 : ac_.tmps[402]? = some (.pointer (some ⟨gr, 0, none⟩)) := Rg.ev1 (hr 402 (by decide))
                          have k_ := keepCell hB e3
                          exact Rg.pure1 (Rg.wantedT (j := 37) (b := false) rfl (Rg.yld rfl e399)) (by first | (go_simp; done) | (go_simp; exact Rg.wr (by omega) (by omega)))
                        · intro ac_ w_ hB hr
                          have e399 : ac_.tmps[399]? = some (.bool false) := Rg.ev1 (hr 399 (by decide))
                          have e400 : ac_.tmps[400]? = some (v4) := Rg.ev1 (hr 400 (by decide))
                          have e403 : ac_.tmps[403]? = some (.int .i64 p_) := Rg.ev1 (hr 403 (by decide))
                          have ef : ∀ f, ac_.eval (.func f) = .func (.func f) #[] #[] := fun _ => rfl
                          refine Rg.call1 (Rg.wantedT (j := 37) (b := false) rfl (Rg.yld rfl e399)) (by go_simp; exact ⟨rfl, rfl⟩) ?_
                          refine (A3.out _ (hbq.trans (hB.mono hbq.size))).mono ?_
                          rintro _ _ ⟨rfl, hb3⟩
                          exact ⟨_, rfl, rfl, hb3⟩
                        · intro ac_ w_ hB hr
                          have e53 : ac_.tmps[53]? = some (.slice (some ⟨gr, 0, none⟩) 2 cr) := hr 53 (by decide)
                          have e399 : ac_.tmps[399]? = some (.bool false) := Rg.ev1 (hr 399 (by decide))
                          exact Rg.pure1 (Rg.wantedT (j := 37) (b := false) rfl (Rg.yld rfl e399)) (by first | (go_simp; done) | (go_simp; exact Rg.wr (by omega) (by omega)))
                        · intro ac_ w_ hB hr
                          have e399 : ac_.tmps[399]? = some (.bool false) := Rg.ev1 (hr 399 (by decide))
                          have e405 : ac_.tmps[405]? = some (.slice (some ⟨gr, 0, none⟩) 2 cr) := Rg.ev1 (hr 405 (by decide))
                          have ec : ∀ v, ac_.eval (.const v) = v := fun _ => rfl
                          exact Rg.pure1 (Rg.wantedT (j := 37) (b := false) rfl (Rg.yld rfl e399)) (by first | (go_simp; done) | (go_simp; exact Rg.wr (by omega) (by omega)))
                        · intro ac_ w_ hB hr
                          have e399 : ac_.tmps[399]? = some (.bool false) := Rg.ev1 (hr 399 (by decide))
                          have e406 : ac_.tmps[406]? = some (.pointer (some ⟨gr, 1, none⟩)) := Rg.ev1 (hr 406 (by decide))
                          have k_ := keepCell hB e4
                          exact Rg.pure1 (Rg.wantedT (j := 37) (b := false) rfl (Rg.yld rfl e399)) (by first | (go_simp; done) | (go_simp; exact Rg.wr (by omega) (by omega)))
                        · intro ac_ w_ hB hr
                          have e399 : ac_.tmps[399]? = some (.bool false) := Rg.ev1 (hr 399 (by decide))
                          have e407 : ac_.tmps[407]? = some (.int .i64 t_) := Rg.ev1 (hr 407 (by decide))
                          have ef : ∀ f, ac_.eval (.func f) = .func (.func f) #[] #[] := fun _ => rfl
                          refine Rg.call1 (Rg.wantedT (j := 37) (b := false) rfl (Rg.yld rfl e399)) (by go_simp; exact ⟨rfl, rfl⟩) ?_
                          refine (A4.out _).mono ?_
                          rintro _ _ ⟨rfl, rfl⟩
                          exact ⟨_, rfl, rfl, Below.refl _ _⟩
                        · intro ac_ w_ hB hr
                          have e56 : ac_.tmps[56]? = some (.int .i64 bd) := hr 56 (by decide)
                          have e399 : ac_.tmps[399]? = some (.bool false) := Rg.ev1 (hr 399 (by decide))
                          exact Rg.pure1 (Rg.wantedT (j := 37) (b := false) rfl (Rg.yld rfl e399)) (by first | (go_simp; done) | (go_simp; exact Rg.wr (by omega) (by omega)))
                        · intro ac_ w_ hB hr
                          have e399 : ac_.tmps[399]? = some (.bool false) := Rg.ev1 (hr 399 (by decide))
                          have e408 : ac_.tmps[408]? = some (.int .i64 ta) := Rg.ev1 (hr 408 (by decide))
                          have e409 : ac_.tmps[409]? = some (.int .i64 bd) := Rg.ev1 (hr 409 (by decide))
                          exact Rg.pure1 (Rg.wantedT (j := 37) (b := false) rfl (Rg.yld rfl e399)) (by first | (go_simp; done) | (go_simp; exact Rg.wr (by omega) (by omega)))
                        · intro ac_ w_ hB hr
                          have e399 : ac_.tmps[399]? = some (.bool false) := Rg.ev1 (hr 399 (by decide))
                          have e404 : ac_.tmps[404]? = some (.bool (ta == bd)) := Rg.ev1 (hr 404 (by decide))
                          have e410 : ac_.tmps[410]? = some (.bool (ta == bd)) := Rg.ev1 (hr 410 (by decide))
                          exact Rg.pure1 (Rg.wantedT (j := 37) (b := false) rfl (Rg.yld rfl e399)) (by first | (go_simp; done) | (go_simp; exact Rg.wr (by omega) (by omega)))
                        · intro ac_ w_ hB hr
                          have e399 : ac_.tmps[399]? = some (.bool false) := Rg.ev1 (hr 399 (by decide))
                          have e411 : ac_.tmps[411]? = some (.bool false) := Rg.ev1 (hr 411 (by decide))
                          have ec : ∀ v, ac_.eval (.const v) = v := fun _ => rfl
                          exact Rg.pure1 rfl (by first | (go_simp; done) | (go_simp; exact Rg.wr (by omega) (by omega)))
                        · intro vals wz hB hv
                          have v_0 : vals 0 = .bool true := hv 0 (by decide)
                          have v_1 : vals 1 = .bool false := hv 1 (by decide)
                          have v_2 : vals 2 = .bool false := hv 2 (by decide)
                          have v_3 : vals 3 = .int .i64 t_ := hv 3 (by decide)
                          have v_4 : vals 4 = .slice (some ⟨gr, 0, none⟩) 2 cr := hv 4 (by decide)
                          have v_5 : vals 5 = .pointer (some ⟨gr, 1, none⟩) := hv 5 (by decide)
                          have v_6 : vals 6 = .int .i64 t_ := hv 6 (by decide)
                          have v_7 : vals 7 = .bool false := hv 7 (by decide)
                          have v_8 : vals 8 = .bool false := hv 8 (by decide)
                          have v_9 : vals 9 = .bool false := hv 9 (by decide)
                          have v_10 : vals 10 = .slice (some ⟨gr, 0, none⟩) 2 cr := hv 10 (by decide)
                          have v_11 : vals 11 = .pointer (some ⟨gr, 0, none⟩) := hv 11 (by decide)
                          have v_12 : vals 12 = .int .i64 p_ := hv 12 (by decide)
                          have v_13 : vals 13 = .int .i64 lim := hv 13 (by decide)
                          have v_14 : vals 14 = .bool false := hv 14 (by decide)
                          have v_15 : vals 15 = .bool false := hv 15 (by decide)
                          have v_16 : vals 16 = .bool false := hv 16 (by decide)
                          have v_17 : vals 17 = .int .i64 (j : Int) := hv 17 (by decide)
                          have v_18 : vals 18 = .bool false := hv 18 (by decide)
                          have v_19 : vals 19 = .bool false := hv 19 (by decide)
                          have v_20 : vals 20 = undef := hv 20 (by decide)
                          have v_21 : vals 21 = undef := hv 21 (by decide)
                          have v_22 : vals 22 = undef := hv 22 (by decide)
                          have v_23 : vals 23 = undef := hv 23 (by decide)
                          have v_24 : vals 24 = undef := hv 24 (by decide)
                          have v_25 : vals 25 = undef := hv 25 (by decide)
                          have v_26 : vals 26 = undef := hv 26 (by decide)
                          have v_27 : vals 27 = undef := hv 27 (by decide)
                          have v_28 : vals 28 = undef := hv 28 (by decide)
                          have v_29 : vals 29 = undef := hv 29 (by decide)
                          have v_30 : vals 30 = undef := hv 30 (by decide)
                          have v_31 : vals 31 = .bool false := hv 31 (by decide)
                          have v_32 : vals 32 = .bool false := hv 32 (by decide)
                          have v_33 : vals 33 = .bool false := hv 33 (by decide)
                          have v_34 : vals 34 = .bool true := hv 34 (by decide)
                          have v_35 : vals 35 = .bool false := hv 35 (by decide)
                          have v_36 : vals 36 = .bool false := hv 36 (by decide)
                          have v_37 : vals 37 = .bool false := hv 37 (by decide)
                          have v_38 : vals 38 = v4 := hv 38 (by decide)
                          have v_39 : vals 39 = .slice (some ⟨gr, 0, none⟩) 2 cr := hv 39 (by decide)
                          have v_40 : vals 40 = .pointer (some ⟨gr, 0, none⟩) := hv 40 (by decide)
                          have v_41 : vals 41 = .int .i64 p_ := hv 41 (by decide)
                          have v_42 : vals 42 = .bool (ta == bd) := hv 42 (by decide)
                          have v_43 : vals 43 = .slice (some ⟨gr, 0, none⟩) 2 cr := hv 43 (by decide)
                          have v_44 : vals 44 = .pointer (some ⟨gr, 1, none⟩) := hv 44 (by decide)
                          have v_45 : vals 45 = .int .i64 t_ := hv 45 (by decide)
                          have v_46 : vals 46 = .int .i64 ta := hv 46 (by decide)
                          have v_47 : vals 47 = .int .i64 bd := hv 47 (by decide)
                          have v_48 : vals 48 = .bool (ta == bd) := hv 48 (by decide)
                          have v_49 : vals 49 = .bool false := hv 49 (by decide)
                          have v_50 : vals 50 = .bool false := hv 50 (by decide)
                          simp only [Rg.fill, if_true, Act.put, List.setIfInBounds_toArray, List.set_cons_zero, List.set_cons_succ, Nat.zero_add, Nat.reduceAdd, v_0, v_1, v_2, v_3, v_4, v_5, v_6, v_7, v_8, v_9, v_10, v_11, v_12, v_13, v_14, v_15, v_16, v_17, v_18, v_19, v_20, v_21, v_22, v_23, v_24, v_25, v_26, v_27, v_28, v_29, v_30, v_31, v_32, v_33, v_34, v_35, v_36, v_37, v_38, v_39, v_40, v_41, v_42, v_43, v_44, v_45, v_46, v_47, v_48, v_49, v_50]
                          clear hv v_0 v_1 v_2 v_3 v_4 v_5 v_6 v_7 v_8 v_9 v_10 v_11 v_12 v_13 v_14 v_15 v_16 v_17 v_18 v_19 v_20 v_21 v_22 v_23 v_24 v_25 v_26 v_27 v_28 v_29 v_30 v_31 v_32 v_33 v_34 v_35 v_36 v_37 v_38 v_39 v_40 v_41 v_42 v_43 v_44 v_45 v_46 v_47 v_48 v_49 v_50
                          clear hz0
                          go_wp2_with fail
                          go_meet
                          exact ⟨by simp, hbq.trans (hB.mono hbq.size)⟩
                      · skip
                        obtain ⟨i, hji⟩ : ∃ i, j = i + 1 := ⟨j - 1, by omega⟩
                        have hz : (j : Int) - 1 = (i : Int) := by omega
                        obtain ⟨g2_, u_, r_, he_, -, hx_, hcell_, hrs_⟩ := HvL.out i (by omega)
                        obtain rfl : g2 = g2_ := by injection he_ with h_; injection h_
                        obtain ⟨p2, t2, hr_, hlt2⟩ := k11 i r_ hji hx_.out
                        subst hr_
                        have z2 : ¬ (p_ ≤ p2) := by omega
                        have z3 : (0 : Int) < (i : Int) + 1 := by omega
                        have z4 : (0 : Int) < (j : Int) := by omega
                        obtain ⟨ar_, cr_, rfl, -, hvr_⟩ := hrs_
                        obtain ⟨gq, y_, rfl, -, hy_, hq0⟩ := hvr_ 0 (by simp)
                        obtain rfl : p2 = y_ := Option.some.inj hy_.out
                        have e5 := keepCell hbq hcell_
                        have e6 := keepCell hbq hq0
                        clear k11 HvL B2 B3 B4 he_ hvr_ hcell_ hq0 hy_ hx_ hji
                        have hi1 : (0 : Int) ≤ (i : Int) := by omega
                        have hi2 : (i : Int) < (L.length : Int) := by omega
                        refine Rg.walk [.is (.bool true), .is (.bool false), .is (.bool false), .is (.int .i64 t_), .is (.slice (some ⟨gr, 0, none⟩) 2 cr), .is (.pointer (some ⟨gr, 1, none⟩)), .is (.int .i64 t_), .is (.bool false), .is (.bool false), .is (.bool false), .is (.slice (some ⟨gr, 0, none⟩) 2 cr), .is (.pointer (some ⟨gr, 0, none⟩)), .is (.int .i64 p_), .is (.int .i64 lim), .is (.bool false), .is (.bool false), .is (.bool false), .is (.int .i64 (j : Int)), .is (.bool true), .is (.bool true), .is (.slice (some ⟨g2, 0, none⟩) L.length c2_), .is (.int .i64 (j : Int)), .is (.int .i64 (i : Int)), .is (.pointer (some ⟨g2, i, none⟩)), .is (.slice (some ⟨gq, 0, none⟩) 2 cr_), .is (.pointer (some ⟨gq, 0, none⟩)), .is (.int .i64 p2), .is (.slice (some ⟨gr, 0, none⟩) 2 cr), .is (.pointer (some ⟨gr, 0, none⟩)), .is (.int .i64 p_), .is (.bool false), .is (.bool false), .is (.bool false), .is (.bool false), .is (.bool true), .is (.bool false), .is (.bool false), .is (.bool false), .is (v4), .is (.slice (some ⟨gr, 0, none⟩) 2 cr), .is (.pointer (some ⟨gr, 0, none⟩)), .is (.int .i64 p_), .is (.bool (ta == bd)), .is (.slice (some ⟨gr, 0, none⟩) 2 cr), .is (.pointer (some ⟨gr, 1, none⟩)), .is (.int .i64 t_), .is (.int .i64 ta), .is (.int .i64 bd), .is (.bool (ta == bd)), .is (.bool false), .is (.bool false)] (by kernel_rfl) (by kernel_rfl) ⟨?_, ?_, ?_, ?_, ?_, ?_, ?_, ?_, ?_, ?_, ?_, ?_, ?_, ?_, ?_, ?_, ?_, ?_, ?_, ?_, ?_, ?_, ?_, ?_, ?_, ?_, ?_, ?_, ?_, ?_, ?_, ?_, ?_, ?_, ?_, ?_, ?_, ?_, ?_, ?_, ?_, ?_, ?_, ?_, ?_, ?_, ?_, ?_, ?_, ?_, ?_, trivial⟩ ?_
                        · intro ac_ w_ hB hr
                          have e55 : ac_.tmps[55]? = some (.bool true) := hr 55 (by decide)
                          exact Rg.pure1 rfl (by first | (go_simp; done) | (go_simp; exact Rg.wr (by omega) (by omega)))
                        · intro ac_ w_ hB hr
                          have e362 : ac_.tmps[362]? = some (.bool true) := Rg.ev1 (hr 362 (by decide))
                          exact Rg.pure1 rfl (by first | (go_simp; done) | (go_simp; exact Rg.wr (by omega) (by omega)))
                        · intro ac_ w_ hB hr
                          have e363 : ac_.tmps[363]? = some (.bool false) := Rg.ev1 (hr 363 (by decide))
                          exact Rg.pure1 rfl (by first | (go_simp; done) | (go_simp; exact Rg.wr (by omega) (by omega)))
                        · intro ac_ w_ hB hr
                          have e54 : ac_.tmps[54]? = some (.int .i64 t_) := hr 54 (by decide)
                          have e364 : ac_.tmps[364]? = some (.bool false) := Rg.ev1 (hr 364 (by decide))
                          exact Rg.pure1 (Rg.wantedT (j := 2) (b := false) rfl (Rg.yld rfl e364)) (by first | (go_simp; done) | (go_simp; exact Rg.wr (by omega) (by omega)))
                        · intro ac_ w_ hB hr
                          have e53 : ac_.tmps[53]? = some (.slice (some ⟨gr, 0, none⟩) 2 cr) := hr 53 (by decide)
                          have e364 : ac_.tmps[364]? = some (.bool false) := Rg.ev1 (hr 364 (by decide))
                          exact Rg.pure1 (Rg.wantedT (j := 2) (b := false) rfl (Rg.yld rfl e364)) (by first | (go_simp; done) | (go_simp; exact Rg.wr (by omega) (by omega)))
                        · intro ac_ w_ hB hr
                          have e364 : ac_.tmps[364]? = some (.bool false) := Rg.ev1 (hr 364 (by decide))
                          have e366 : ac_.tmps[366]? = some (.slice (some ⟨gr, 0, none⟩) 2 cr) := Rg.ev1 (hr 366 (by decide))
                          have ec : ∀ v, ac_.eval (.const v) = v := fun _ => rfl
                          exact Rg.pure1 (Rg.wantedT (j := 2) (b := false) rfl (Rg.yld rfl e364)) (by first | (go_simp; done) | (go_simp; exact Rg.wr (by omega) (by omega)))
                        · intro ac_ w_ hB hr
                          have e364 : ac_.tmps[364]? = some (.bool false) := Rg.ev1 (hr 364 (by decide))
                          have e367 : ac_.tmps[367]? = some (.pointer (some ⟨gr, 1, none⟩)) := Rg.ev1 (hr 367 (by decide))
                          have k_ := keepCell hB e4
                          exact Rg.pure1 (Rg.wantedT (j := 2) (b := false) rfl (Rg.yld rfl e364)) (by first | (go_simp; done) | (go_simp; exact Rg.wr (by omega) (by omega)))
                        · intro ac_ w_ hB hr
                          have e364 : ac_.tmps[364]? = some (.bool false) := Rg.ev1 (hr 364 (by decide))
                          have e365 : ac_.tmps[365]? = some (.int .i64 t_) := Rg.ev1 (hr 365 (by decide))
                          have e368 : ac_.tmps[368]? = some (.int .i64 t_) := Rg.ev1 (hr 368 (by decide))
                          exact Rg.pure1 (Rg.wantedT (j := 2) (b := false) rfl (Rg.yld rfl e364)) (by first | (go_simp; done) | (go_simp; exact Rg.wr (by omega) (by omega)))
                        · intro ac_ w_ hB hr
                          have e364 : ac_.tmps[364]? = some (.bool false) := Rg.ev1 (hr 364 (by decide))
                          have e369 : ac_.tmps[369]? = some (.bool false) := Rg.ev1 (hr 369 (by decide))
                          have ec : ∀ v, ac_.eval (.const v) = v := fun _ => rfl
                          exact Rg.pure1 rfl (by first | (go_simp; done) | (go_simp; exact Rg.wr (by omega) (by omega)))
                        · intro ac_ w_ hB hr
                          have e370 : ac_.tmps[370]? = some (.bool false) := Rg.ev1 (hr 370 (by decide))
                          exact Rg.pure1 rfl (by first | (go_simp; done) | (go_simp; exact Rg.wr (by omega) (by omega)))
                        · intro ac_ w_ hB hr
                          have e53 : ac_.tmps[53]? = some (.slice (some ⟨gr, 0, none⟩) 2 cr) := hr 53 (by decide)
                          have e371 : ac_.tmps[371]? = some (.bool false) := Rg.ev1 (hr 371 (by decide))
                          exact Rg.pure1 (Rg.wantedT (j := 9) (b := false) rfl (Rg.yld rfl e371)) (by first | (go_simp; done) | (go_simp; exact Rg.wr (by omega) (by omega)))
                        · intro ac_ w_ hB hr
                          have e371 : ac_.tmps[371]? = some (.bool false) := Rg.ev1 (hr 371 (by decide))
                          have e372 : ac_.tmps[372]? = some (.slice (some ⟨gr, 0, none⟩) 2 cr) := Rg.ev1 (hr 372 (by decide))
                          have ec : ∀ v, ac_.eval (.const v) = v := fun _ => rfl
                          exact Rg.pure1 (Rg.wantedT (j := 9) (b := false) rfl (Rg.yld rfl e371)) (by first | (go_simp; done) | (go_simp; exact Rg.wr (by omega) (by omega)))
                        · intro ac_ w_ hB hr
                          have e371 : ac_.tmps[371]? = some (.bool false) := Rg.ev1 (hr 371 (by decide))
                          have e373 : ac_.tmps[373]? = some (.pointer (some ⟨gr, 0, none⟩)) := Rg.ev1 (hr 373 (by decide))
                          have k_ := keepCell hB e3
                          exact Rg.pure1 (Rg.wantedT (j := 9) (b := false) rfl (Rg.yld rfl e371)) (by first | (go_simp; done) | (go_simp; exact Rg.wr (by omega) (by omega)))
                        · intro ac_ w_ hB hr
                          have e6 : ac_.tmps[6]? = some (.int .i64 lim) := hr 6 (by decide)
                          have e371 : ac_.tmps[371]? = some (.bool false) := Rg.ev1 (hr 371 (by decide))
                          exact Rg.pure1 (Rg.wantedT (j := 9) (b := false) rfl (Rg.yld rfl e371)) (by first | (go_simp; done) | (go_simp; exact Rg.wr (by omega) (by omega)))
                        · intro ac_ w_ hB hr
                          have e371 : ac_.tmps[371]? = some (.bool false) := Rg.ev1 (hr 371 (by decide))
                          have e374 : ac_.tmps[374]? = some (.int .i64 p_) := Rg.ev1 (hr 374 (by decide))
                          have e375 : ac_.tmps[375]? = some (.int .i64 lim) := Rg.ev1 (hr 375 (by decide))
                          exact Rg.pure1 (Rg.wantedT (j := 9) (b := false) rfl (Rg.yld rfl e371)) (by first | (go_simp; done) | (go_simp; exact Rg.wr (by omega) (by omega)))
                        · intro ac_ w_ hB hr
                          have e371 : ac_.tmps[371]? = some (.bool false) := Rg.ev1 (hr 371 (by decide))
                          have e376 : ac_.tmps[376]? = some (.bool false) := Rg.ev1 (hr 376 (by decide))
                          have ec : ∀ v, ac_.eval (.const v) = v := fun _ => rfl
                          exact Rg.pure1 rfl (by first | (go_simp; done) | (go_simp; exact Rg.wr (by omega) (by omega)))
                        · intro ac_ w_ hB hr
                          have e377 : ac_.tmps[377]? = some (.bool false) := Rg.ev1 (hr 377 (by decide))
                          exact Rg.pure1 rfl (by first | (go_simp; done) | (go_simp; exact Rg.wr (by omega) (by omega)))
                        · intro ac_ w_ hB hr
                          have e52 : ac_.tmps[52]? = some (.int .i64 (j : Int)) := hr 52 (by decide)
                          have e378 : ac_.tmps[378]? = some (.bool false) := Rg.ev1 (hr 378 (by decide))
                          exact Rg.pure1 (Rg.wantedT (j := 16) (b := false) rfl (Rg.yld rfl e378)) (by first | (go_simp; done) | (go_simp; exact Rg.wr (by omega) (by omega)))
                        · intro ac_ w_ hB hr
                          have e378 : ac_.tmps[378]? = some (.bool false) := Rg.ev1 (hr 378 (by decide))
                          have e379 : ac_.tmps[379]? = some (.int .i64 (j : Int)) := Rg.ev1 (hr 379 (by decide))
                          have ec : ∀ v, ac_.eval (.const v) = v := fun _ => rfl
                          exact Rg.pure1 (Rg.wantedT (j := 16) (b := false) rfl (Rg.yld rfl e378)) (by first | (go_simp; done) | (go_simp; exact Rg.wr (by omega) (by omega)))
                        · intro ac_ w_ hB hr
                          have e378 : ac_.tmps[378]? = some (.bool false) := Rg.ev1 (hr 378 (by decide))
                          have e380 : ac_.tmps[380]? = some (.bool true) := Rg.ev1 (hr 380 (by decide))
                          exact Rg.pure1 (Rg.wantedT (j := 16) (b := false) rfl (Rg.yld rfl e378)) (by first | (go_simp; done) | (go_simp; exact Rg.wr (by omega) (by omega)))
                        · intro ac_ w_ hB hr
                          have e9 : ac_.tmps[9]? = some (.slice (some ⟨g2, 0, none⟩) L.length c2_) := hr 9 (by decide)
                          have e381 : ac_.tmps[381]? = some (.bool true) := Rg.ev1 (hr 381 (by decide))
                          exact Rg.pure1 (Rg.wantedT (j := 19) (b := true) rfl (Rg.yld rfl e381)) (by first | (go_simp; done) | (go_simp; exact Rg.wr (by omega) (by omega)))
                        · intro ac_ w_ hB hr
                          have e52 : ac_.tmps[52]? = some (.int .i64 (j : Int)) := hr 52 (by decide)
                          have e381 : ac_.tmps[381]? = some (.bool true) := Rg.ev1 (hr 381 (by decide))
                          exact Rg.pure1 (Rg.wantedT (j := 19) (b := true) rfl (Rg.yld rfl e381)) (by first | (go_simp; done) | (go_simp; exact Rg.wr (by omega) (by omega)))
                        · intro ac_ w_ hB hr
                          have e381 : ac_.tmps[381]? = some (.bool true) := Rg.ev1 (hr 381 (by decide))
                          have e383 : ac_.tmps[383]? = some (.int .i64 (j : Int)) := Rg.ev1 (hr 383 (by decide))
                          have ec : ∀ v, ac_.eval (.const v) = v := fun _ => rfl
                          exact Rg.pure1 (Rg.wantedT (j := 19) (b := true) rfl (Rg.yld rfl e381)) (by first | (go_simp; done) | (go_simp; exact Rg.wr (by omega) (by omega)))
                        · intro ac_ w_ hB hr
                          have e381 : ac_.tmps[381]? = some (.bool true) := Rg.ev1 (hr 381 (by decide))
                          have e382 : ac_.tmps[382]? = some (.slice (some ⟨g2, 0, none⟩) L.length c2_) := Rg.ev1 (hr 382 (by decide))
                          have e384 : ac_.tmps[384]? = some (.int .i64 (i : Int)) := Rg.ev1 (hr 384 (by decide))
                          exact Rg.pure1 (Rg.wantedT (j := 19) (b := true) rfl (Rg.yld rfl e381)) (by first | (go_simp; done) | (go_simp; exact Rg.wr (by omega) (by omega)))
                        · intro ac_ w_ hB hr
                          have e381 : ac_.tmps[381]? = some (.bool true) := Rg.ev1 (hr 381 (by decide))
                          have e385 : ac_.tmps[385]? = some (.pointer (some ⟨g2, i, none⟩)) := Rg.ev1 (hr 385 (by decide))
                          have k_ := keepCell hB e5
                          exact Rg.pure1 (Rg.wantedT (j := 19) (b := true) rfl (Rg.yld rfl e381)) (by first | (go_simp; done) | (go_simp; exact Rg.wr (by omega) (by omega)))
                        · intro ac_ w_ hB hr
                          have e381 : ac_.tmps[381]? = some (.bool true) := Rg.ev1 (hr 381 (by decide))
                          have e386 : ac_.tmps[386]? = some (.slice (some ⟨gq, 0, none⟩) 2 cr_) := Rg.ev1 (hr 386 (by decide))
                          have ec : ∀ v, ac_.eval (.const v) = v := fun _ => rfl
                          exact Rg.pure1 (Rg.wantedT (j := 19) (b := true) rfl (Rg.yld rfl e381)) (by first | (go_simp; done) | (go_simp; exact Rg.wr (by omega) (by omega)))
                        · intro ac_ w_ hB hr
                          have e381 : ac_.tmps[381]? = some (.bool true) := Rg.ev1 (hr 381 (by decide))
                          have e387 : ac_.tmps[387]? = some (.pointer (some ⟨gq, 0, none⟩)) := Rg.ev1 (hr 387 (by decide))
                          have k_ := keepCell hB e6
                          exact Rg.pure1 (Rg.wantedT (j := 19) (b := true) rfl (Rg.yld rfl e381)) (by first | (go_simp; done) | (go_simp; exact Rg.wr (by omega) (by omega)))
                        · intro ac_ w_ hB hr
                          have e53 : ac_.tmps[53]? = some (.slice (some ⟨gr, 0, none⟩) 2 cr) := hr 53 (by decide)
                          have e381 : ac_.tmps[381]? = some (.bool true) := Rg.ev1 (hr 381 (by decide))
                          exact Rg.pure1 (Rg.wantedT (j := 19) (b := true) rfl (Rg.yld rfl e381)) (by first | (go_simp; done) | (go_simp; exact Rg.wr (by omega) (by omega)))
                        · intro ac_ w_ hB hr
                          have e381 : ac_.tmps[381]? = some (.bool true) := Rg.ev1 (hr 381 (by decide))
                          have e389 : ac_.tmps[389]? = some (.slice (some ⟨gr, 0, none⟩) 2 cr) := Rg.ev1 (hr 389 (by decide))
                          have ec : ∀ v, ac_.eval (.const v) = v := fun _ => rfl
                          exact Rg.pure1 (Rg.wantedT (j := 19) (b := true) rfl (Rg.yld rfl e381)) (by first | (go_simp; done) | (go_simp; exact Rg.wr (by omega) (by omega)))
                        · intro ac_ w_ hB hr
                          have e381 : ac_.tmps[381]? = some (.bool true) := Rg.ev1 (hr 381 (by decide))
                          have e390 : ac_.tmps[390]? = some (.pointer (some ⟨gr, 0, none⟩)) := Rg.ev1 (hr 390 (by decide))
                          have k_ := keepCell hB e3
                          exact Rg.pure1 (Rg.wantedT (j := 19) (b := true) rfl (Rg.yld rfl e381)) (by first | (go_simp; done) | (go_simp; exact Rg.wr (by omega) (by omega)))
                        · intro ac_ w_ hB hr
                          have e381 : ac_.tmps[381]? = some (.bool true) := Rg.ev1 (hr 381 (by decide))
                          have e388 : ac_.tmps[388]? = some (.int .i64 p2) := Rg.ev1 (hr 388 (by decide))
                          have e391 : ac_.tmps[391]? = some (.int .i64 p_) := Rg.ev1 (hr 391 (by decide))
                          exact Rg.pure1 (Rg.wantedT (j := 19) (b := true) rfl (Rg.yld rfl e381)) (by first | (go_simp; done) | (go_simp; exact Rg.wr (by omega) (by omega)))
                        · intro ac_ w_ hB hr
                          have e378 : ac_.tmps[378]? = some (.bool false) := Rg.ev1 (hr 378 (by decide))
                          have e381 : ac_.tmps[381]? = some (.bool true) := Rg.ev1 (hr 381 (by decide))
                          have e392 : ac_.tmps[392]? = some (.bool false) := Rg.ev1 (hr 392 (by decide))
                          have ec : ∀ v, ac_.eval (.const v) = v := fun _ => rfl
                          exact Rg.pure1 (Rg.wantedT (j := 16) (b := false) rfl (Rg.yld rfl e378)) (by first | (go_simp; done) | (go_simp; exact Rg.wr (by omega) (by omega)))
                        · intro ac_ w_ hB hr
                          have e378 : ac_.tmps[378]? = some (.bool false) := Rg.ev1 (hr 378 (by decide))
                          have e393 : ac_.tmps[393]? = some (.bool false) := Rg.ev1 (hr 393 (by decide))
                          have ec : ∀ v, ac_.eval (.const v) = v := fun _ => rfl
                          exact Rg.pure1 rfl (by first | (go_simp; done) | (go_simp; exact Rg.wr (by omega) (by omega)))
                        · intro ac_ w_ hB hr
                          have e394 : ac_.tmps[394]? = some (.bool false) := Rg.ev1 (hr 394 (by decide))
                          exact Rg.pure1 rfl (by first | (go_simp; done) | (go_simp; exact Rg.wr (by omega) (by omega)))
                        · intro ac_ w_ hB hr
                          have e57 : ac_.tmps[57]? = some (.bool true) := hr 57 (by decide)
                          have e395 : ac_.tmps[395]? = some (.bool false) := Rg.ev1 (hr 395 (by decide))
                          exact Rg.pure1 (Rg.wantedT (j := 33) (b := false) rfl (Rg.yld rfl e395)) (by first | (go_simp; done) | (go_simp; exact Rg.wr (by omega) (by omega)))
                        · intro ac_ w_ hB hr
                          have e395 : ac_.tmps[395]? = some (.bool false) := Rg.ev1 (hr 395 (by decide))
                          have e396 : ac_.tmps[396]? = some (.bool true) := Rg.ev1 (hr 396 (by decide))
                          exact Rg.pure1 (Rg.wantedT (j := 33) (b := false) rfl (Rg.yld rfl e395)) (by first | (go_simp; done) | (go_simp; exact Rg.wr (by omega) (by omega)))
                        · intro ac_ w_ hB hr
                          have e395 : ac_.tmps[395]? = some (.bool false) := Rg.ev1 (hr 395 (by decide))
                          have e397 : ac_.tmps[397]? = some (.bool false) := Rg.ev1 (hr 397 (by decide))
                          have ec : ∀ v, ac_.eval (.const v) = v := fun _ => rfl
                          exact Rg.pure1 rfl (by first | (go_simp; done) | (go_simp; exact Rg.wr (by omega) (by omega)))
                        · intro ac_ w_ hB hr
                          have e398 : ac_.tmps[398]? = some (.bool false) := Rg.ev1 (hr 398 (by decide))
                          exact Rg.pure1 rfl (by first | (go_simp; done) | (go_simp; exact Rg.wr (by omega) (by omega)))
                        · intro ac_ w_ hB hr
                          have e13 : ac_.tmps[13]? = some (v4) := hr 13 (by decide)
                          have e399 : ac_.tmps[399]? = some (.bool false) := Rg.ev1 (hr 399 (by decide))
                          exact Rg.pure1 (Rg.wantedT (j := 37) (b := false) rfl (Rg.yld rfl e399)) (by first | (go_simp; done) | (go_simp; exact Rg.wr (by omega) (by omega)))
                        · intro ac_ w_ hB hr
                          have e53 : ac_.tmps[53]? = some (.slice (some ⟨gr, 0, none⟩) 2 cr) := hr 53 (by decide)
                          have e399 : ac_.tmps[399]? = some (.bool false) := Rg.ev1 (hr 399 (by decide))
                          exact Rg.pure1 (Rg.wantedT (j := 37) (b := false) rfl (Rg.yld rfl e399)) (by first | (go_simp; done) | (go_simp; exact Rg.wr (by omega) (by omega)))
                        · intro ac_ w_ hB hr
                          have e399 : ac_.tmps[399]? = some (.bool false) := Rg.ev1 (hr 399 (by decide))
                          have e401 : ac_.tmps[401]? = some (.slice (some ⟨gr, 0, none⟩) 2 cr) := Rg.ev1 (hr 401 (by decide))
                          have ec : ∀ v, ac_.eval (.const v) = v := fun _ => rfl
                          exact Rg.pure1 (Rg.wantedT (j := 37) (b := false) rfl (Rg.yld rfl e399)) (by first | (go_simp; done) | (go_simp; exact Rg.wr (by omega) (by omega)))
                        · intro ac_ w_ hB hr
                          have e399 : ac_.tmps[399]? = some (.bool false) := Rg.ev1 (hr 399 (by decide))
                          have e402 : ac_.tmps[402]? = some (.pointer (some ⟨gr, 0, none⟩)) := Rg.ev1 (hr 402 (by decide))
                          have k_ := keepCell hB e3
                          exact Rg.pure1 (Rg.wantedT (j := 37) (b := false) rfl (Rg.yld rfl e399)) (by first | (go_simp; done) | (go_simp; exact Rg.wr (by omega) (by omega)))
                        · intro ac_ w_ hB hr
                          have e399 : ac_.tmps[399]? = some (.bool false) := Rg.ev1 (hr 399 (by decide))
                          have e400 : ac_.tmps[400]? = some (v4) := Rg.ev1 (hr 400 (by decide))
                          have e403 : ac_.tmps[403]? = some (.int .i64 p_) := Rg.ev1 (hr 403 (by decide))
                          have ef : ∀ f, ac_.eval (.func f) = .func (.func f) #[] #[] := fun _ => rfl
                          refine Rg.call1 (Rg.wantedT (j := 37) (b := false) rfl (Rg.yld rfl e399)) (by go_simp; exact ⟨rfl, rfl⟩) ?_
                          refine (A3.out _ (hbq.trans (hB.mono hbq.size))).mono ?_
                          rintro _ _ ⟨rfl, hb3⟩
                          exact ⟨_, rfl, rfl, hb3⟩
                        · intro ac_ w_ hB hr
                          have e53 : ac_.tmps[53]? = some (.slice (some ⟨gr, 0, none⟩) 2 cr) := hr 53 (by decide)
                          have e399 : ac_.tmps[399]? = some (.bool false) := Rg.ev1 (hr 399 (by decide))
                          exact Rg.pure1 (Rg.wantedT (j := 37) (b := false) rfl (Rg.yld rfl e399)) (by first | (go_simp; done) | (go_simp; exact Rg.wr (by omega) (by omega)))
                        · intro ac_ w_ hB hr
                          have e399 : ac_.tmps[399]? = some (.bool false) := Rg.ev1 (hr 399 (by decide))
                          have e405 : ac_.tmps[405]? = some (.slice (some ⟨gr, 0, none⟩) 2 cr) := Rg.ev1 (hr 405 (by decide))
                          have ec : ∀ v, ac_.eval (.const v) = v := fun _ => rfl
                          exact Rg.pure1 (Rg.wantedT (j := 37) (b := false) rfl (Rg.yld rfl e399)) (by first | (go_simp; done) | (go_simp; exact Rg.wr (by omega) (by omega)))
                        · intro ac_ w_ hB hr
                          have e399 : ac_.tmps[399]? = some (.bool false) := Rg.ev1 (hr 399 (by decide))
                          have e406 : ac_.tmps[406]? = some (.pointer (some ⟨gr, 1, none⟩)) := Rg.ev1 (hr 406 (by decide))
                          have k_ := keepCell hB e4
                          exact Rg.pure1 (Rg.wantedT (j := 37) (b := false) rfl (Rg.yld rfl e399)) (by first | (go_simp; done) | (go_simp; exact Rg.wr (by omega) (by omega)))
                        · intro ac_ w_ hB hr
                          have e399 : ac_.tmps[399]? = some (.bool false) := Rg.ev1 (hr 399 (by decide))
                          have e407 : ac_.tmps[407]? = some (.int .i64 t_) := Rg.ev1 (hr 407 (by decide))
                          have ef : ∀ f, ac_.eval (.func f) = .func (.func f) #[] #[] := fun _ => rfl
                          refine Rg.call1 (Rg.wantedT (j := 37) (b := false) rfl (Rg.yld rfl e399)) (by go_simp; exact ⟨rfl, rfl⟩) ?_
                          refine (A4.out _).mono ?_
                          rintro _ _ ⟨rfl, rfl⟩
                          exact ⟨_, rfl, rfl, Below.refl _ _⟩
                        · intro ac_ w_ hB hr
                          have e56 : ac_.tmps[56]? = some (.int .i64 bd) := hr 56 (by decide)
                          have e399 : ac_.tmps[399]? = some (.bool false) := Rg.ev1 (hr 399 (by decide))
                          exact Rg.pure1 (Rg.wantedT (j := 37) (b := false) rfl (Rg.yld rfl e399)) (by first | (go_simp; done) | (go_simp; exact Rg.wr (by omega) (by omega)))
                        · intro ac_ w_ hB hr
                          have e399 : ac_.tmps[399]? = some (.bool false) := Rg.ev1 (hr 399 (by decide))
                          have e408 : ac_.tmps[408]? = some (.int .i64 ta) := Rg.ev1 (hr 408 (by decide))
                          have e409 : ac_.tmps[409]? = some (.int .i64 bd) := Rg.ev1 (hr 409 (by decide))
                          exact Rg.pure1 (Rg.wantedT (j := 37) (b := false) rfl (Rg.yld rfl e399)) (by first | (go_simp; done) | (go_simp; exact Rg.wr (by omega) (by omega)))
                        · intro ac_ w_ hB hr
                          have e399 : ac_.tmps[399]? = some (.bool false) := Rg.ev1 (hr 399 (by decide))
                          have e404 : ac_.tmps[404]? = some (.bool (ta == bd)) := Rg.ev1 (hr 404 (by decide))
                          have e410 : ac_.tmps[410]? = some (.bool (ta == bd)) := Rg.ev1 (hr 410 (by decide))
                          exact Rg.pure1 (Rg.wantedT (j := 37) (b := false) rfl (Rg.yld rfl e399)) (by first | (go_simp; done) | (go_simp; exact Rg.wr (by omega) (by omega)))
                        · intro ac_ w_ hB hr
                          have e399 : ac_.tmps[399]? = some (.bool false) := Rg.ev1 (hr 399 (by decide))
                          have e411 : ac_.tmps[411]? = some (.bool false) := Rg.ev1 (hr 411 (by decide))
                          have ec : ∀ v, ac_.eval (.const v) = v := fun _ => rfl
                          exact Rg.pure1 rfl (by first | (go_simp; done) | (go_simp; exact Rg.wr (by omega) (by omega)))
                        · intro vals wz hB hv
                          have v_0 : vals 0 = .bool true := hv 0 (by decide)
                          have v_1 : vals 1 = .bool false := hv 1 (by decide)
                          have v_2 : vals 2 = .bool false := hv 2 (by decide)
                          have v_3 : vals 3 = .int .i64 t_ := hv 3 (by decide)
                          have v_4 : vals 4 = .slice (some ⟨gr, 0, none⟩) 2 cr := hv 4 (by decide)
                          have v_5 : vals 5 = .pointer (some ⟨gr, 1, none⟩) := hv 5 (by decide)
                          have v_6 : vals 6 = .int .i64 t_ := hv 6 (by decide)
                          have v_7 : vals 7 = .bool false := hv 7 (by decide)
                          have v_8 : vals 8 = .bool false := hv 8 (by decide)
                          have v_9 : vals 9 = .bool false := hv 9 (by decide)
                          have v_10 : vals 10 = .slice (some ⟨gr, 0, none⟩) 2 cr := hv 10 (by decide)
                          have v_11 : vals 11 = .pointer (some ⟨gr, 0, none⟩) := hv 11 (by decide)
                          have v_12 : vals 12 = .int .i64 p_ := hv 12 (by decide)
                          have v_13 : vals 13 = .int .i64 lim := hv 13 (by decide)
                          have v_14 : vals 14 = .bool false := hv 14 (by decide)
                          have v_15 : vals 15 = .bool false := hv 15 (by decide)
                          have v_16 : vals 16 = .bool false := hv 16 (by decide)
                          have v_17 : vals 17 = .int .i64 (j : Int) := hv 17 (by decide)
                          have v_18 : vals 18 = .bool true := hv 18 (by decide)
                          have v_19 : vals 19 = .bool true := hv 19 (by decide)
                          have v_20 : vals 20 = .slice (some ⟨g2, 0, none⟩) L.length c2_ := hv 20 (by decide)
                          have v_21 : vals 21 = .int .i64 (j : Int) := hv 21 (by decide)
                          have v_22 : vals 22 = .int .i64 (i : Int) := hv 22 (by decide)
                          have v_23 : vals 23 = .pointer (some ⟨g2, i, none⟩) := hv 23 (by decide)
                          have v_24 : vals 24 = .slice (some ⟨gq, 0, none⟩) 2 cr_ := hv 24 (by decide)
                          have v_25 : vals 25 = .pointer (some ⟨gq, 0, none⟩) := hv 25 (by decide)
                          have v_26 : vals 26 = .int .i64 p2 := hv 26 (by decide)
                          have v_27 : vals 27 = .slice (some ⟨gr, 0, none⟩) 2 cr := hv 27 (by decide)
                          have v_28 : vals 28 = .pointer (some ⟨gr, 0, none⟩) := hv 28 (by decide)
                          have v_29 : vals 29 = .int .i64 p_ := hv 29 (by decide)
                          have v_30 : vals 30 = .bool false := hv 30 (by decide)
                          have v_31 : vals 31 = .bool false := hv 31 (by decide)
                          have v_32 : vals 32 = .bool false := hv 32 (by decide)
                          have v_33 : vals 33 = .bool false := hv 33 (by decide)
                          have v_34 : vals 34 = .bool true := hv 34 (by decide)
                          have v_35 : vals 35 = .bool false := hv 35 (by decide)
                          have v_36 : vals 36 = .bool false := hv 36 (by decide)
                          have v_37 : vals 37 = .bool false := hv 37 (by decide)
                          have v_38 : vals 38 = v4 := hv 38 (by decide)
                          have v_39 : vals 39 = .slice (some ⟨gr, 0, none⟩) 2 cr := hv 39 (by decide)
                          have v_40 : vals 40 = .pointer (some ⟨gr, 0, none⟩) := hv 40 (by decide)
                          have v_41 : vals 41 = .int .i64 p_ := hv 41 (by decide)
                          have v_42 : vals 42 = .bool (ta == bd) := hv 42 (by decide)
                          have v_43 : vals 43 = .slice (some ⟨gr, 0, none⟩) 2 cr := hv 43 (by decide)
                          have v_44 : vals 44 = .pointer (some ⟨gr, 1, none⟩) := hv 44 (by decide)
                          have v_45 : vals 45 = .int .i64 t_ := hv 45 (by decide)
                          have v_46 : vals 46 = .int .i64 ta := hv 46 (by decide)
                          have v_47 : vals 47 = .int .i64 bd := hv 47 (by decide)
                          have v_48 : vals 48 = .bool (ta == bd) := hv 48 (by decide)
                          have v_49 : vals 49 = .bool false := hv 49 (by decide)
                          have v_50 : vals 50 = .bool false := hv 50 (by decide)
                          simp only [Rg.fill, if_true, Act.put, List.setIfInBounds_toArray, List.set_cons_zero, List.set_cons_succ, Nat.zero_add, Nat.reduceAdd, v_0, v_1, v_2, v_3, v_4, v_5, v_6, v_7, v_8, v_9, v_10, v_11, v_12, v_13, v_14, v_15, v_16, v_17, v_18, v_19, v_20, v_21, v_22, v_23, v_24, v_25, v_26, v_27, v_28, v_29, v_30, v_31, v_32, v_33, v_34, v_35, v_36, v_37, v_38, v_39, v_40, v_41, v_42, v_43, v_44, v_45, v_46, v_47, v_48, v_49, v_50]
                          clear hv v_0 v_1 v_2 v_3 v_4 v_5 v_6 v_7 v_8 v_9 v_10 v_11 v_12 v_13 v_14 v_15 v_16 v_17 v_18 v_19 v_20 v_21 v_22 v_23 v_24 v_25 v_26 v_27 v_28 v_29 v_30 v_31 v_32 v_33 v_34 v_35 v_36 v_37 v_38 v_39 v_40 v_41 v_42 v_43 v_44 v_45 v_46 v_47 v_48 v_49 v_50
                          go_wp2_with fail
                          go_meet
                          exact ⟨by simp, hbq.trans (hB.mono hbq.size)⟩
                    case rest =>
                      obtain ⟨rfl, hbz⟩ := hcut
                      clear A3 A4 k11 HvL hbq HROW
                      have e4 := keepCell hbz B4.out
                      have hk := K10.out
                      go_wp2
                      go_roundw
                      case rel => first | exact ⟨j + 1, by omega, by go_num, by rw [hk], hbz⟩ | ((repeat apply Exists.intro); exact ⟨⟨j + 1, by omega, by go_num, by rw [hk], hbz⟩, rfl⟩)
                      case measure => simp [intOf]; omega
                · skip
                  obtain rfl : j = L.length := by omega
                  clear HvL HROW hlt
                  clear q_t50 q_t51 q_t5s
                  clear t5
                  replace t17 := t17.keep hbr
                  replace se := se.keep hbr
                  replace BX := BX.trans (hbr.mono BX.size)
                  have q_t170 := t17.c0
                  have q_t171 := t17.c1
                  have q_t17s := t17.size
                  have hBX := BX
                  cases q
                  · skip
                    go_wp2
                    go_ret
                    exact ⟨by simp, hBX⟩
                  · skip
                    obtain ⟨hc, ⟨x1, x2⟩, y1, y2⟩ := HXX.out rfl
                    have hcr : (X * (L.length : Int) == S L.length * Y) = true := by simpa using hc
                    have b1 := M.mul_bd (x := X) (y := (L.length : Int)) (m := 1000000000) (n := 200) x1 x2 (by omega) (by omega)
                    have b2 := M.mul_bd (x := S L.length) (y := Y) (m := 200000) (n := 1000000000) (by omega) (by omega) (by omega) y2
                    clear HXX HQ
                    go_wp2
                    go_ret
                    exact ⟨by simp, hBX⟩
end Go.Proofs.YtodgfechhielaaaGreatDoor
