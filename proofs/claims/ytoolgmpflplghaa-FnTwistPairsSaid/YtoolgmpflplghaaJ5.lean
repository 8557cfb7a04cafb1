/-
  Contracts: draws of arguments for laws on twists.
-/
import Derived.Test.YtoolgmpflplghaaJ4
import Derived.Test.YtoolgmpflplghaaC7
import Derived.Deep.DeepCutAuto
namespace Go.Proofs.Ytoolgmpflplghaa
set_option linter.unusedSimpArgs false
set_option linter.unusedVariables false
open Go.RowKit

theorem Bytes.keepB {w w' : World} {B n : Nat} {v : Value} (h : Bytes w B v n) (hb : Below B w w') : Bytes w' B v n := by
  obtain ⟨A, cap, e, hn, hx⟩ := h
  refine ⟨A, cap, e, hn, fun j hj => ?_⟩
  obtain ⟨gb, ob, b, e, hgb, hc, h1, h2⟩ := hx j hj
  exact ⟨gb, ob, b, e, hgb, (hb.cell (p := ⟨gb, ob + j, none⟩) hgb).trans hc, h1, h2⟩
theorem Bytes.mono {w : World} {B B' n : Nat} {v : Value} (h : Bytes w B v n) (hB : B ≤ B') : Bytes w B' v n := by
  obtain ⟨A, cap, e, hn, hx⟩ := h
  refine ⟨A, cap, e, hn, fun j hj => ?_⟩
  obtain ⟨gb, ob, b, e, hgb, hc, h1, h2⟩ := hx j hj
  exact ⟨gb, ob, b, e, by omega, hc, h1, h2⟩
/-- a new reader of bytes -/
theorem St.new {w W : World} {v : Value} {n : Nat} (h : Bytes w w.heap.size v n) (hb : Below w.heap.size w W) (T : TypeId) :
    St w (W.alloc (.cells #[v, .int .i64 0, .int .u64 0] T)) W.heap.size w.heap.size v n 0 := by
  have hb2 : Below w.heap.size w (W.alloc (.cells #[v, .int .i64 0, .int .u64 0] T)) := hb.alloc hb.size _
  refine ⟨⟨0, Nat.le_refl _, ⟨h.keepB hb2, hb.size, ?_, ?_, ⟨0, ?_⟩, by simp [go_sem], by simp [go_sem], by rw [World.size_alloc]; omega⟩⟩, below_grown hb2 _, hb.size⟩
  all_goals (rw [World.cell?_alloc_at _ _ _ _ rfl]; rfl)
theorem St.below {w W : World} {g B n K : Nat} {v : Value} (h : St w W g B v n K) (hg : w.heap.size ≤ g) : Below w.heap.size w W := grown_below h.gr (Nat.le_refl _) fun k hk => by cases hk; exact hg
def DrawCI (w : World) (e : Ending) (w' : World) : Prop := ∃ a b d : Int, e = .returned (.tuple #[.agg #[.int .i64 a, .int .i64 b], .int .i64 d]) ∧ Below w.heap.size w w'
def DrawCII (w : World) (e : Ending) (w' : World) : Prop := ∃ a b d p : Int, e = .returned (.tuple #[.agg #[.int .i64 a, .int .i64 b], .int .i64 d, .int .i64 p]) ∧ Below w.heap.size w w'
def DrawII (w : World) (e : Ending) (w' : World) : Prop := ∃ a b : Int, e = .returned (.tuple #[.int .i64 a, .int .i64 b]) ∧ Below w.heap.size w w'

set_option maxHeartbeats 4000000 in
theorem drawTwistCurve_c (v : Value) (n : Nat) (w : World) (h : Bytes w w.heap.size v n) :
    Calls Try.prog 11 #[v] w (DrawCI w) := by
  obtain ⟨A, cap, rfl, hn, hb_⟩ := h
  have h : Bytes w w.heap.size (.slice A n cap) n := ⟨A, cap, rfl, hn, hb_⟩
  clear hb_ hn
  have st := St.new h (W := w.alloc (.cells #[.int .i64 0, .int .i64 0] 23)) (by exact (Below.refl _ _).alloc (Nat.le_refl _) _) 72
  rw [World.size_alloc] at st
  have zr := (Box.new w 0 0 23).alloc (.cells #[.slice A n cap, .int .i64 0, .int .u64 0] 72)
  have nzr : w.heap.size ≠ w.heap.size + 1 := by omega
  clear h
  go_enter Try.func11, Try.ntmps11
  go_wp2_with fail
  refine (twistable_c _ w.heap.size _ n _ _ st.cur (by omega)).mono ?_; rintro e w_c ⟨a, b, rfl, hc_, hg_⟩
  replace st := st.call hc_ hg_
  have sz_c := hg_.size
  replace zr := zr.keepG hg_ nzr
  clear hc_ hg_
  go_wp2_with fail
  refine (twistNumber_c _ w.heap.size _ n _ _ st.cur (by omega)).mono ?_; rintro e w_d ⟨d, rfl, hc_, hg_⟩
  replace st := st.call hc_ hg_
  have sz_d := hg_.size
  replace zr := zr.keepG hg_ nzr
  clear hc_ hg_
  have q_zr0 := zr.c0
  have q_zr1 := zr.c1
  have q_zrf := zr.f0
  have q_zrg := zr.f1
  have q_zrs := zr.size
  have hBL := st.below (Nat.le_succ _)
  go_wp2
  exact bodyPost_ret (v := .tuple #[.agg #[.int .i64 a, .int .i64 b], .int .i64 d]) (by simp [results, Try.results11, go_sem, *]) rfl (⟨a, b, d, rfl, (by repeat (first | exact Below.refl _ _ | refine below_alloc ?_ _ | refine below_step ?_ (by assumption) | refine Below.drew ?_ | refine Below.setCell ?_ (by first | exact Nat.le_refl _ | exact Nat.le_add_right _ _ | (simp <;> omega)) _ | refine below_drewN ?_ _))⟩)
set_option maxHeartbeats 4000000 in
theorem drawTwistCounts_c (v : Value) (n : Nat) (w : World) (h : Bytes w w.heap.size v n) :
    Calls Try.prog 23 #[v] w (DrawCII w) := by
  obtain ⟨A, cap, rfl, hn, hb_⟩ := h
  have h : Bytes w w.heap.size (.slice A n cap) n := ⟨A, cap, rfl, hn, hb_⟩
  clear hb_ hn
  have st := St.new h (W := w.alloc (.cells #[.int .i64 0, .int .i64 0] 23)) (by exact (Below.refl _ _).alloc (Nat.le_refl _) _) 72
  rw [World.size_alloc] at st
  have zr := (Box.new w 0 0 23).alloc (.cells #[.slice A n cap, .int .i64 0, .int .u64 0] 72)
  have nzr : w.heap.size ≠ w.heap.size + 1 := by omega
  clear h
  go_enter Try.func23, Try.ntmps23
  go_wp2_with fail
  refine (twistable_c _ w.heap.size _ n _ _ st.cur (by omega)).mono ?_; rintro e w_c ⟨a, b, rfl, hc_, hg_⟩
  replace st := st.call hc_ hg_
  have sz_c := hg_.size
  replace zr := zr.keepG hg_ nzr
  clear hc_ hg_
  go_wp2_with fail
  refine (twistNumber_c _ w.heap.size _ n _ _ st.cur (by omega)).mono ?_; rintro e w_d ⟨d, rfl, hc_, hg_⟩
  replace st := st.call hc_ hg_
  have sz_d := hg_.size
  replace zr := zr.keepG hg_ nzr
  clear hc_ hg_
  go_wp2_with fail
  refine (fieldPrime_c _ w.heap.size _ n _ _ st.cur (by omega)).mono ?_; rintro e w_p ⟨q, rfl, hc_, hg_⟩
  replace st := st.call hc_ hg_
  have sz_p := hg_.size
  replace zr := zr.keepG hg_ nzr
  clear hc_ hg_
  have q_zr0 := zr.c0
  have q_zr1 := zr.c1
  have q_zrf := zr.f0
  have q_zrg := zr.f1
  have q_zrs := zr.size
  have hBL := st.below (Nat.le_succ _)
  go_wp2
  exact bodyPost_ret (v := .tuple #[.agg #[.int .i64 a, .int .i64 b], .int .i64 d, .int .i64 q]) (by simp [results, Try.results23, go_sem, *]) rfl (⟨a, b, d, q, rfl, (by repeat (first | exact Below.refl _ _ | refine below_alloc ?_ _ | refine below_step ?_ (by assumption) | refine Below.drew ?_ | refine Below.setCell ?_ (by first | exact Nat.le_refl _ | exact Nat.le_add_right _ _ | (simp <;> omega)) _ | refine below_drewN ?_ _))⟩)
set_option maxHeartbeats 4000000 in
theorem drawTwistSymbol_c (v : Value) (n : Nat) (w : World) (h : Bytes w w.heap.size v n) :
    Calls Try.prog 30 #[v] w (DrawII w) := by
  obtain ⟨A, cap, rfl, hn, hb_⟩ := h
  have h : Bytes w w.heap.size (.slice A n cap) n := ⟨A, cap, rfl, hn, hb_⟩
  clear hb_ hn
  have st := St.new h (W := w) (Below.refl _ _) 72
  clear h
  go_enter Try.func30, Try.ntmps30
  go_wp2_with fail
  refine (twistNumber_c _ w.heap.size _ n _ _ st.cur (by omega)).mono ?_; rintro e w_d ⟨d, rfl, hc_, hg_⟩
  replace st := st.call hc_ hg_
  have sz_d := hg_.size
  clear hc_ hg_
  go_wp2_with fail
  refine (primeOf_c _ w.heap.size _ n _ _ st.cur (by omega)).mono ?_; rintro e w_p ⟨q, rfl, hc_, hg_⟩
  replace st := st.call hc_ hg_
  have sz_p := hg_.size
  clear hc_ hg_
  have hBL := st.below (Nat.le_refl _)
  go_wp2
  go_ret2
  exact ⟨d, q, rfl, hBL⟩
set_option maxHeartbeats 4000000 in
theorem drawUntwistCurve_c (v : Value) (n : Nat) (w : World) (h : Bytes w w.heap.size v n) :
    Calls Try.prog 28 #[v] w (DrawCI w) := by
  obtain ⟨A, cap, rfl, hn, hb_⟩ := h
  have h : Bytes w w.heap.size (.slice A n cap) n := ⟨A, cap, rfl, hn, hb_⟩
  clear hb_ hn
  have st := St.new h (W := w.alloc (.cells #[.int .i64 0, .int .i64 0] 23)) (by exact (Below.refl _ _).alloc (Nat.le_refl _) _) 72
  rw [World.size_alloc] at st
  have zr := (Box.new w 0 0 23).alloc (.cells #[.slice A n cap, .int .i64 0, .int .u64 0] 72)
  have nzr : w.heap.size ≠ w.heap.size + 1 := by omega
  clear h
  go_enter Try.func28, Try.ntmps28
  go_wp2_with fail
  refine (twistable_c _ w.heap.size _ n _ _ st.cur (by omega)).mono ?_; rintro e w_c ⟨a, b, rfl, hc_, hg_⟩
  replace st := st.call hc_ hg_
  have sz_c := hg_.size
  replace zr := zr.keepG hg_ nzr
  clear hc_ hg_
  go_wp2_with fail
  refine (twistNumber_c _ w.heap.size _ n _ _ st.cur (by omega)).mono ?_; rintro e w_d ⟨d, rfl, hc_, hg_⟩
  replace st := st.call hc_ hg_
  have sz_d := hg_.size
  replace zr := zr.keepG hg_ nzr
  clear hc_ hg_
  have se := st.size
  have sr := zr.size
  replace st := st.alloc (.cells #[.int .i64 a, .int .i64 b] 23)
  replace zr := zr.alloc (.cells #[.int .i64 a, .int .i64 b] 23)
  have ex := Box.new w_d a b 23
  have nex : w_d.heap.size ≠ w.heap.size + 1 := by omega
  have nrx : w.heap.size ≠ w_d.heap.size := by omega
  have nxr := nrx.symm
  have HG := fun w => ecGood_c a b w
  have HT := fun w => twGood_c d w
  cases hg : M.good a b <;> simp only [hg] at HG <;> have HG := Lib.hid HG
  case false =>
    clear hg
    go_wp2_with fail
    refine (HG.out _).mono ?_; rintro e w9 ⟨rfl, hb9⟩
    replace st := st.keep hb9
    replace zr := zr.keep hb9
    replace ex := ex.keep hb9
    clear hb9
    have q_ex0 := ex.c0
    have q_ex1 := ex.c1
    have q_exf := ex.f0
    have q_exg := ex.f1
    have q_exs := ex.size
    have q_zr0 := zr.c0
    have q_zr1 := zr.c1
    have q_zrf := zr.f0
    have q_zrg := zr.f1
    have q_zrs := zr.size
    have hBL := st.below (Nat.le_succ _)
    go_wp2
    exact bodyPost_ret (v := .tuple #[.agg #[.int .i64 a, .int .i64 b], .int .i64 d]) (by simp [results, Try.results28, go_sem, *]) rfl (⟨a, b, d, rfl, (by repeat (first | exact Below.refl _ _ | refine below_alloc ?_ _ | refine below_step ?_ (by assumption) | refine Below.drew ?_ | refine Below.setCell ?_ (by first | exact Nat.le_refl _ | exact Nat.le_add_right _ _ | (simp <;> omega)) _ | refine below_drewN ?_ _))⟩)
  case true =>
    have hin := M.good_in hg
    clear hg
    cases ht : M.tw d <;> simp only [ht] at HT <;> have HT := Lib.hid HT
    case false =>
      clear ht hin
      go_wp2_with fail
      refine (HG.out _).mono ?_; rintro e w9 ⟨rfl, hb9⟩
      replace st := st.keep hb9
      replace zr := zr.keep hb9
      replace ex := ex.keep hb9
      clear hb9
      go_wp2_with fail
      refine (HT.out _).mono ?_; rintro e w10 ⟨rfl, rfl⟩
      have q_ex0 := ex.c0
      have q_ex1 := ex.c1
      have q_exf := ex.f0
      have q_exg := ex.f1
      have q_exs := ex.size
      have q_zr0 := zr.c0
      have q_zr1 := zr.c1
      have q_zrf := zr.f0
      have q_zrg := zr.f1
      have q_zrs := zr.size
      have hBL := st.below (Nat.le_succ _)
      go_wp2
      exact bodyPost_ret (v := .tuple #[.agg #[.int .i64 a, .int .i64 b], .int .i64 d]) (by simp [results, Try.results28, go_sem, *]) rfl (⟨a, b, d, rfl, (by repeat (first | exact Below.refl _ _ | refine below_alloc ?_ _ | refine below_step ?_ (by assumption) | refine Below.drew ?_ | refine Below.setCell ?_ (by first | exact Nat.le_refl _ | exact Nat.le_add_right _ _ | (simp <;> omega)) _ | refine below_drewN ?_ _))⟩)
    case true =>
      obtain ⟨-, d1, d2, -⟩ := M.tw_iff.1 ht
      clear ht
      go_wp2_with fail
      refine (HG.out _).mono ?_; rintro e w9 ⟨rfl, hb9⟩
      replace st := st.keep hb9
      replace zr := zr.keep hb9
      replace ex := ex.keep hb9
      clear hb9
      go_wp2_with fail
      refine (HT.out _).mono ?_; rintro e w10 ⟨rfl, rfl⟩
      go_wp2_with fail
      refine (one_c _ w.heap.size _ n _ 4 _ st.cur (by omega) (by omega) (by omega)).mono ?_; rintro e w11 ⟨t1, rfl, hc_, hg_⟩
      replace st := st.call hc_ hg_
      replace zr := zr.keepG hg_ nzr
      replace ex := ex.keepG hg_ nex
      have s11 := hg_.size
      clear hc_ hg_
      cases t1
      case true =>
        have q_ex0 := ex.c0
        have q_ex1 := ex.c1
        have q_exf := ex.f0
        have q_exg := ex.f1
        have q_exs := ex.size
        have q_zr0 := zr.c0
        have q_zr1 := zr.c1
        have q_zrf := zr.f0
        have q_zrg := zr.f1
        have q_zrs := zr.size
        have hBL := st.below (Nat.le_succ _)
        go_wp2
        exact bodyPost_ret (v := .tuple #[.agg #[.int .i64 a, .int .i64 b], .int .i64 d]) (by simp [results, Try.results28, go_sem, *]) rfl (⟨a, b, d, rfl, (by repeat (first | exact Below.refl _ _ | refine below_alloc ?_ _ | refine below_step ?_ (by assumption) | refine Below.drew ?_ | refine Below.setCell ?_ (by first | exact Nat.le_refl _ | exact Nat.le_add_right _ _ | (simp <;> omega)) _ | refine below_drewN ?_ _))⟩)
      case false =>
        have q_ex0 := ex.c0
        have q_ex1 := ex.c1
        have q_exf := ex.f0
        have q_exg := ex.f1
        have q_exs := ex.size
        cases hG : M.good (a * d * d) (b * d * d * d)
        case false =>
          have HTW := Lib.hid fun w => twOf_f a b d w hin d1 d2 hG
          go_wp2_with fail
          refine (HTW.out _).mono ?_; rintro e w12 ⟨rfl, hb12⟩
          replace st := st.keep hb12
          replace zr := zr.keep hb12
          replace ex := ex.keep hb12
          clear hb12
          clear q_ex0 q_ex1 q_exf q_exg q_exs
          have hBL0 := st.below (Nat.le_succ _)
          replace st := st.alloc (.cells #[.int .i64 0, .int .i64 0] 23)
          replace zr := zr.alloc (.cells #[.int .i64 0, .int .i64 0] 23)
          replace ex := ex.alloc (.cells #[.int .i64 0, .int .i64 0] 23)
          have q_ex0 := ex.c0
          have q_ex1 := ex.c1
          have q_exf := ex.f0
          have q_exg := ex.f1
          have q_exs := ex.size
          have q_zr0 := zr.c0
          have q_zr1 := zr.c1
          have q_zrf := zr.f0
          have q_zrg := zr.f1
          have q_zrs := zr.size
          have hBL := st.below (Nat.le_succ _)
          go_wp2
          exact bodyPost_ret (v := .tuple #[.agg #[.int .i64 a, .int .i64 b], .int .i64 d]) (by simp [results, Try.results28, go_sem, *]) rfl (⟨a, b, d, rfl, (by repeat (first | exact Below.refl _ _ | refine below_alloc ?_ _ | refine below_step ?_ (by assumption) | refine Below.drew ?_ | refine Below.setCell ?_ (by first | exact Nat.le_refl _ | exact Nat.le_add_right _ _ | (simp <;> omega)) _ | refine below_drewN ?_ _))⟩)
        case true =>
          have HTW := Lib.hid fun w => twOf_t a b d w hin d1 d2 hG
          go_wp2_with fail
          refine (HTW.out _).mono ?_; rintro e w12 ⟨rfl, hb12⟩
          replace st := st.keep hb12
          replace zr := zr.keep hb12
          replace ex := ex.keep hb12
          clear hb12
          have s12 := zr.size
          have n12 : w.heap.size ≠ w12.heap.size := by omega
          have n12s := n12.symm
          clear q_ex0 q_ex1 q_exf q_exg q_exs
          have hBL0 := st.below (Nat.le_succ _)
          have p0_ := zr.c0
          have p1_ := zr.c1
          have p2_ := zr.f0
          have p3_ := zr.f1
          have p4_ := zr.size
          replace st := st.alloc (.cells #[.int .i64 (a * d * d), .int .i64 (b * d * d * d)] 23)
          replace zr := zr.alloc (.cells #[.int .i64 (a * d * d), .int .i64 (b * d * d * d)] 23)
          replace ex := ex.alloc (.cells #[.int .i64 (a * d * d), .int .i64 (b * d * d * d)] 23)
          have bx := Box.new w12 (a * d * d) (b * d * d * d) 23
          have q_bx0 := bx.c0
          have q_bx1 := bx.c1
          have q_bxf := bx.f0
          have q_bxg := bx.f1
          have q_bxs := bx.size
          have q_ex0 := ex.c0
          have q_ex1 := ex.c1
          have q_exf := ex.f0
          have q_exg := ex.f1
          have q_exs := ex.size
          have q_zr0 := zr.c0
          have q_zr1 := zr.c1
          have q_zrf := zr.f0
          have q_zrg := zr.f1
          have q_zrs := zr.size
          have hBL := st.below (Nat.le_succ _)
          go_wp2
          exact bodyPost_ret (v := .tuple #[.agg #[.int .i64 (a * d * d), .int .i64 (b * d * d * d)], .int .i64 d]) (by simp [results, Try.results28, go_sem, *]) rfl (⟨(a * d * d), (b * d * d * d), d, rfl, (by repeat (first | exact Below.refl _ _ | refine below_alloc ?_ _ | refine below_step ?_ (by assumption) | refine Below.drew ?_ | refine Below.setCell ?_ (by first | exact Nat.le_refl _ | exact Nat.le_add_right _ _ | (simp <;> omega)) _ | refine below_drewN ?_ _))⟩)
end Go.Proofs.Ytoolgmpflplghaa
