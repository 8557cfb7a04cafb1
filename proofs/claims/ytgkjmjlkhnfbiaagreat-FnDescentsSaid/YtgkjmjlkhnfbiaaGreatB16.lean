/-
  Joined texts: contracts and plain laws.
-/
import Derived.Test.YtgkjmjlkhnfbiaaGreatB14
import Derived.Test.YtgkjmjlkhnfbiaaGreatB15
import Derived.Test.YtgkjmjlkhnfbiaaGreatB4
namespace Go.Proofs.YtgkjmjlkhnfbiaaGreat
set_option linter.unusedSimpArgs false
set_option linter.unusedVariables false
open Go.RowKit
theorem indexInts_c (xs : List Int) (v : Value) (n : Int) (w : World) (base : Nat) (hown : OwnI w base v xs) :
    Calls Tryz.prog 99 #[v, .int .i64 n] w fun e w' => ∃ r : Int, e = .returned (.int .i64 r) ∧ decide (0 ≤ r) = decide (n ∈ xs) ∧ w = w' := by
  obtain ⟨a, cap, rfl, hm, hv⟩ := hown.view
  go_enter Tryz.func99, Tryz.ntmps99
  go_wp2
  go_loop [5, 8] (fun _ vi => ∃ k : Nat, k ≤ xs.length ∧ vi = .int .i64 k ∧ ∀ j : Nat, j < k → ¬ xs[j]? = some n) (fun _ vi => xs.length - (intOf vi).toNat)
  case atStart => exact ⟨0, by omega, rfl, fun j h => by omega⟩
  case round =>
    obtain ⟨k, hk, rfl, hall⟩ := hrel
    have Hall := Lib.hid hall
    clear hall
    by_cases hlt : k < xs.length
    · obtain ⟨g, x, rfl, hg, hx, hcell⟩ := hv k hlt
      have Hv := Lib.hid hv
      clear hv
      by_cases hxn : n = x
      · have hmem := Lib.hid (List.mem_of_getElem? hx.out)
        subst hxn
        go_wp2
        go_ret
        exact ⟨(k : Int), rfl, by simp [hmem.out], rfl⟩
      · go_wp2
        go_round
        case rel => exact ⟨k + 1, by omega, by go_num, fun j hj hc => if q : j = k then by rw [q, hx.out] at hc; exact hxn (Option.some.inj hc).symm else Hall.out j (by omega) hc⟩
        case measure => simp [intOf]; omega
    · obtain rfl : k = xs.length := by omega
      have Hv := Lib.hid hv
      clear hv
      have hno : Hid (¬ n ∈ xs) := Lib.hid fun hmem => by
        obtain ⟨j, hj, he⟩ := List.getElem_of_mem hmem
        exact Hall.out j hj (by rw [List.getElem?_eq_getElem hj, he])
      go_wp2
      go_ret
      exact ⟨-1, rfl, by simp [hno.out], rfl⟩
theorem containsInts_c (xs : List Int) (v : Value) (n : Int) (w : World) (base : Nat) (hown : OwnI w base v xs) :
    Calls Tryz.prog 52 #[v, .int .i64 n] w fun e w' => e = .returned (.bool (decide (n ∈ xs))) ∧ w = w' := by
  have PI := fun W h => indexInts_c xs v n W base h
  have PI := Lib.hid PI
  have hown := Lib.hid hown
  go_enter Tryz.func52, Tryz.ntmps52
  go_wp2_with (go_at_call 99; (with_reducible refine (PI.out _ hown.out).mono ?_); rintro e w1 ⟨r, rfl, hr, rfl⟩; (have hr := Lib.hid hr))
  go_ret
  exact ⟨ret_b (by rw [← hr.out]), rfl⟩
theorem fromOwn' {w : World} {base : Nat} {v : Value} {xs : List Int} (h : OwnI w base v xs) : ∃ A cap, v = .slice A xs.length cap ∧ ∀ w', Below w.heap.size w w' → ∀ j y, xs[j]? = some y → ∃ ad, A = some ad ∧ w'.cell? (ad.add j) = some (.int .i64 y) := by
  have hadd : ∀ b i : Nat, (⟨b, 0, none⟩ : Addr).add i = ⟨b, i, none⟩ := fun b i => by unfold Addr.add; split <;> simp_all
  obtain ⟨a, cap, rfl, hm, hv⟩ := h.seen
  refine ⟨a, cap, rfl, fun w' hb j y hy => ?_⟩
  obtain ⟨g, x, e1, e2, e3, e4⟩ := hv j (List.getElem?_eq_some_iff.1 hy).1
  obtain rfl := Option.some.inj (e3.out.symm.trans hy)
  exact ⟨_, e1, by rw [hadd]; exact (hb.cell (p := ⟨g, j, none⟩) e2).trans e4⟩
set_option maxRecDepth 100000 in
theorem cloneInts_c (xs : List Int) (v : Value) (w : World) (base : Nat) (hown : OwnI w base v xs) (hl : xs.length ≤ 1000000000) :
    Calls Tryz.prog 109 #[v] w fun e w' => ∃ v', e = .returned v' ∧ OwnI w' w.heap.size v' xs ∧ Below w.heap.size w w' := by
  rcases hown.forms with ⟨rfl, rfl⟩ | ⟨g, cap, rfl, hg⟩
  · have he : ∀ W : World, (binOp .eql 28 (.slice none 0 0) (.slice none 0 0)).run Tryz.prog W = .ok (.bool true) W := fun _ => rfl
    go_enter Tryz.func109, Tryz.ntmps109
    go_wp2
    go_ret
    exact ⟨_, rfl, OwnI.nil _ _, Below.refl _ _⟩
  · obtain ⟨A, cap', e, hf⟩ := fromOwn' hown
    injection e with e1 e2 e3
    subst e1 e3
    clear e2
    have hf := Lib.hid hf
    have he : ∀ W : World, (binOp .eql 28 (.slice (some ⟨g, 0, none⟩) xs.length cap) (.slice none 0 0)).run Tryz.prog W = .ok (.bool false) W := fun _ => rfl
    go_enter Tryz.func109, Tryz.ntmps109
    go_wp2_with (at_builtin; refine push_seg (W := w) w.heap.size xs [] _ (some ⟨g, 0, none⟩) _ _ (by rfl) (by rfl) (.tmp 5) (.tmp 6) (by rfl) (by rfl) (by rfl) (hf.out _ (by repeat (first | exact Below.refl _ _ | refine below_alloc ?_ _ | refine below_step ?_ (by assumption) | refine Below.drew ?_ | refine Below.setCell ?_ (by first | exact Nat.le_refl _ | exact Nat.le_add_right _ _ | (simp <;> omega)) _ | refine below_drewN ?_ _))) (OwnI.lit0 _ _ (Nat.le_refl _)) (by repeat (first | exact Below.refl _ _ | refine below_alloc ?_ _ | refine below_step ?_ (by assumption) | refine Below.drew ?_ | refine Below.setCell ?_ (by first | exact Nat.le_refl _ | exact Nat.le_add_right _ _ | (simp <;> omega)) _ | refine below_drewN ?_ _)) (by simp) (by simp; omega) ?_; rintro v1 w1 hown1 hb1)
    go_ret
    exact ⟨_, rfl, hown1, hb1⟩
end Go.Proofs.YtgkjmjlkhnfbiaaGreat

namespace Go.Proofs.YtgkjmjlkhnfbiaaGreat
set_option linter.unusedSimpArgs false
set_option linter.unusedVariables false
open Go.RowKit
namespace M
theorem primesOf_le {n p : Int} (hn : n ≠ 0) (h : p ∈ primesOf n) : 2 ≤ p ∧ p ≤ n.natAbs := by
  refine ⟨(mem_primesOf h).1, ?_⟩
  have hd := Int.dvd_of_emod_eq_zero ((primes_ok n).2 p h).2
  have := Nat.le_of_dvd (by omega) (Int.natAbs_dvd_natAbs.2 hd)
  omega
theorem dput_next {l : List Int} {k : Nat} {p : Int} (h : l[k]? = some p) : dput (l.take (k + 1)) = pstep (dput (l.take k)) p := by
  unfold dput
  rw [List.take_add_one, h, List.foldl_append]
  rfl
theorem dcat_next {l : List Int} {k : Nat} {p : Int} (h : l[k]? = some p) : dcat (l.take (k + 1)) = dstep (dcat (l.take k)) p := by
  unfold dcat
  rw [List.take_add_one, h, List.foldl_append]
  rfl
theorem dput_bd {b : Int} (hb : b ≠ 0) {k : Nat} (hk : k ≤ (primesOf b).length) {x : Int} (hx : x ∈ dput ((primesOf b).take k)) : x.natAbs ≤ b.natAbs :=
  (dcat_k hb hk).bd hb ((dput_inc _).2 x |>.1 hx)
theorem pstep_len (acc l : List Int) (p : Int) : (l.foldl (fun more d => put more (d * p)) acc).length ≤ acc.length + l.length := by
  have h := foldl_put_len (l.map (· * p)) acc
  rw [List.foldl_map, List.length_map] at h
  exact h
end M
theorem tcDual_c (A B : Int) (w : World) (h : M.tc A B) :
    Calls Tryz.prog 116 #[.agg #[.int .i64 A, .int .i64 B]] w fun r w' => r = .returned (.tuple #[.int .i64 (M.sA A true), .int .i64 (M.sB A B true)]) ∧ Below w.heap.size w w' := by
  have hs := h.side true
  obtain ⟨⟨a1, a2⟩, ⟨b1, b2⟩, h0, h1⟩ := h
  have x1 := M.mul_bd (x := A) (y := A) (m := 300) (n := 300) a1 a2 (by omega) (by omega)
  unfold M.sA M.sB at *
  simp only [if_true] at *
  go_enter Tryz.func116, Tryz.ntmps116
  go_wp2
  go_quiet (fail)
  go_wp2
  go_ret2
  exact ⟨rfl, (by repeat (first | exact Below.refl _ _ | refine below_alloc ?_ _ | refine below_step ?_ (by assumption) | refine Below.drew ?_ | refine Below.setCell ?_ (by first | exact Nat.le_refl _ | exact Nat.le_add_right _ _ | (simp <;> omega)) _ | refine below_drewN ?_ _))⟩
theorem dsSide_c (A B : Int) (dual : Bool) (w : World) (h : M.tc A B) :
    Calls Tryz.prog 76 #[.agg #[.int .i64 A, .int .i64 B], .bool dual] w fun r w' => r = .returned (.tuple #[.int .i64 (M.sA A dual), .int .i64 (M.sB A B dual)]) ∧ Below w.heap.size w w' := by
  have PD := fun W => tcDual_c A B W h
  have PD := Lib.hid PD
  cases dual
  · unfold M.sA M.sB
    simp only [Bool.false_eq_true, if_false]
    go_enter Tryz.func76, Tryz.ntmps76
    go_wp2
    go_quiet (fail)
    go_wp2
    go_ret2
    exact ⟨rfl, (by repeat (first | exact Below.refl _ _ | refine below_alloc ?_ _ | refine below_step ?_ (by assumption) | refine Below.drew ?_ | refine Below.setCell ?_ (by first | exact Nat.le_refl _ | exact Nat.le_add_right _ _ | (simp <;> omega)) _ | refine below_drewN ?_ _))⟩
  · go_enter Tryz.func76, Tryz.ntmps76
    go_wp2_with (go_at_call 116; (with_reducible refine (PD.out _).mono ?_); rintro e w1 ⟨rfl, hb⟩)
    go_ret2
    exact ⟨rfl, (by repeat (first | exact Below.refl _ _ | refine below_alloc ?_ _ | refine below_step ?_ (by assumption) | refine Below.drew ?_ | refine Below.setCell ?_ (by first | exact Nat.le_refl _ | exact Nat.le_add_right _ _ | (simp <;> omega)) _ | refine below_drewN ?_ _))⟩
theorem side_c (A B : Int) (dual : Bool) (w : World) (h : M.tc A B) :
    Calls Tryz.prog 75 #[.agg #[.int .i64 A, .int .i64 B], .bool dual] w fun r w' => r = .returned (.tuple #[.int .i64 (M.sA A dual), .int .i64 (M.sB A B dual)]) ∧ Below w.heap.size w w' := by
  have hs := h.side dual
  obtain ⟨⟨a1, a2⟩, ⟨b1, b2⟩, h0, h1⟩ := h
  have x1 := M.mul_bd (x := A) (y := A) (m := 300) (n := 300) a1 a2 (by omega) (by omega)
  unfold M.sA M.sB at *
  cases dual
  · simp only [Bool.false_eq_true, if_false] at *
    go_enter Tryz.func75, Tryz.ntmps75
    go_wp2
    go_quiet (fail)
    go_wp2
    go_ret2
    exact ⟨rfl, (by repeat (first | exact Below.refl _ _ | refine below_alloc ?_ _ | refine below_step ?_ (by assumption) | refine Below.drew ?_ | refine Below.setCell ?_ (by first | exact Nat.le_refl _ | exact Nat.le_add_right _ _ | (simp <;> omega)) _ | refine below_drewN ?_ _))⟩
  · simp only [if_true] at *
    go_enter Tryz.func75, Tryz.ntmps75
    go_wp2
    go_quiet (fail)
    go_wp2
    go_ret2
    exact ⟨rfl, (by repeat (first | exact Below.refl _ _ | refine below_alloc ?_ _ | refine below_step ?_ (by assumption) | refine Below.drew ?_ | refine Below.setCell ?_ (by first | exact Nat.le_refl _ | exact Nat.le_add_right _ _ | (simp <;> omega)) _ | refine below_drewN ?_ _))⟩
set_option maxRecDepth 100000 in
set_option maxHeartbeats 2000000 in
theorem tcDivisors_c (n : Int) (w : World) (h0 : n ≠ 0) (h1 : -100000 ≤ n) (h2 : n ≤ 100000) :
    Calls Tryz.prog 98 #[.int .i64 n] w fun e w' => ∃ v, e = .returned v ∧ OwnI w' w.heap.size v (M.dvs n) ∧ Below w.heap.size w w' := by
  have PF := fun W => mdFactors_c n.natAbs W (by omega) (by omega)
  rw [← M.primesOf_abs n] at PF
  have PA := fun W => l1Abs_c n W (by omega) (by omega)
  have PF := Lib.hid PF
  have PA := Lib.hid PA
  have hlen : (M.fac n.natAbs (M.primesOf n)).length = (M.primesOf n).length := by simp [M.fac]
  have hpr := Lib.hid fun p (hp : p ∈ M.primesOf n) => M.primesOf_le h0 hp
  have hdl := Lib.hid fun k (hk : k ≤ (M.primesOf n).length) => M.dput_len h0 hk
  have hdb := Lib.hid fun k (hk : k ≤ (M.primesOf n).length) x hx => M.dput_bd h0 hk (x := x) hx
  have hfin : Hid (M.dput ((M.primesOf n).take (M.primesOf n).length) = M.dvs n) := Lib.hid (by rw [List.take_length]; rfl)
  have hst0 : M.dput ((M.primesOf n).take 0) = [-1, 1] := rfl
  have hl2 := OwnI.lit2 w w.heap.size (-1) 1 (Nat.le_refl _)
  generalize M.dvs n = dvs at *
  go_enter Tryz.func98, Tryz.ntmps98
  go_wp2_with (first
    | (go_at_call 126; (with_reducible refine (PA.out _).mono ?_); rintro e w' ⟨rfl, rfl⟩)
    | (go_at_call 125; (with_reducible refine (PF.out _).mono ?_); rintro e w1 ⟨v, rfl, ⟨vs, hov⟩, hb⟩; obtain ⟨a, cap, rfl, hm, hv⟩ := hov.view))
  have hv := Lib.hid hv
  have hb0 : Below w.heap.size w w1 := (by repeat (first | exact Below.refl _ _ | refine below_alloc ?_ _ | refine below_step ?_ (by assumption) | refine Below.drew ?_ | refine Below.setCell ?_ (by first | exact Nat.le_refl _ | exact Nat.le_add_right _ _ | (simp <;> omega)) _ | refine below_drewN ?_ _))
  have hl3 := hl2.below hb
  have hz := hb0.size
  go_loopw [3, 5, 6, 8, 14] (fun vo _ _ _ vi wr => ∃ k : Nat, k ≤ (M.primesOf n).length ∧ vi = .int .i64 k ∧ OwnI wr w.heap.size vo (M.dput ((M.primesOf n).take k)) ∧ Below w1.heap.size w1 wr) (fun _ _ _ _ vi _ => (M.primesOf n).length - (intOf vi).toNat)
  case atStart => exact ⟨0, by omega, rfl, by rw [hst0]; exact hl3, Below.refl _ _⟩
  case round =>
    clear hl2 hl3
    obtain ⟨k, hk, rfl, hown, hbr⟩ := hrel
    have z2 := hbr.size
    by_cases hlt : k < (M.primesOf n).length
    · obtain ⟨g3, u, r, rfl, hg3, hr, -, hcell3, hown3⟩ := hv.out k (by rw [hlen]; exact hlt)
      obtain ⟨p, hp, rfl⟩ := M.fac_get hr.out
      obtain ⟨a2, cap2, rfl, hm2, hv2⟩ := hown3.view
      obtain ⟨g2, q0, rfl, hg2, hq0, hc0⟩ := hv2 0 (by simp)
      obtain rfl : p = q0 := by simpa using hq0.out
      have hc3 := keepCell hbr hcell3
      have hp' := hpr.out p (List.mem_of_getElem? hp)
      have hst := Lib.hid (M.dput_next hp)
      have hln := hdl.out k hk
      have hbd := Lib.hid (hdb.out k hk)
      clear hv2 hr hown3 hq0 hp hm2 hcell3
      generalize M.dput ((M.primesOf n).take k) = acc at *
      obtain ⟨acc2, hacc2⟩ : ∃ a, Hid (M.dput ((M.primesOf n).take (k + 1)) = a) := ⟨_, Lib.hid rfl⟩
      rw [hacc2.out] at hst
      obtain ⟨a4, cap4, rfl, hm4, hv4⟩ := hown.seen
      have hv4 := Lib.hid hv4
      have hlt2 : (k : Int) < (M.primesOf n).length := by omega
      go_wp2
      go_loopw [6, 8, 21] (fun vo _ vj wq => ∃ j : Nat, j ≤ acc.length ∧ vj = .int .i64 j ∧ OwnI wq w.heap.size vo ((acc.take j).foldl (fun more d => M.put more (d * p)) acc) ∧ Below wr.heap.size wr wq) (fun _ _ vj _ => acc.length - (intOf vj).toNat)
      case atStart => exact ⟨0, by omega, rfl, hown, Below.refl _ _⟩
      case round =>
        clear hown
        obtain ⟨j, hj, rfl, hown, hbq⟩ := hrel
        have z4 := hbq.size
        by_cases hjt : j < acc.length
        · obtain ⟨g5, d, rfl, hg5, hd, hcell5⟩ := hv4.out j hjt
          have hc5 := keepCell hbq hcell5
          have hc6 := keepCell hbr hc0
          have hc7 := keepCell hbq hc6
          have hd' := hbd.out d (List.mem_of_getElem? hd.out)
          have hf := Lib.hid (foldl_next (fun more d => M.put more (d * p)) acc hd.out)
          have hln2 := M.pstep_len acc (acc.take j) p
          have hln3 : (acc.take j).length ≤ acc.length := by rw [List.length_take]; omega
          have hml := M.mul_bd (x := d) (y := p) (m := 100000) (n := 100000) (by omega) (by omega) (by omega) (by omega)
          have PP := fun W v hw hz => l1Put_c ((acc.take j).foldl (fun more d => M.put more (d * p)) acc) v (d * p) W w.heap.size hw hz (by omega)
          have PP := Lib.hid PP
          clear hcell5 hc6
          go_wp2_with (go_at_call 115; (with_reducible refine (PP.out _ _ hown (by omega)).mono ?_); rintro e w3 ⟨v3, rfl, hown4, hb4⟩)
          go_roundw
          case rel => exact ⟨j + 1, by omega, by go_num, by rw [hf.out]; exact hown4, hbq.trans (hb4.mono z4)⟩
          case measure => simp [intOf]; omega
        · obtain rfl : j = acc.length := by omega
          rw [List.take_length] at hown
          go_wp2
          go_roundw
          case rel => exact ⟨k + 1, by omega, by go_num, by rw [hacc2.out, hst.out]; exact hown, hbr.trans (hbq.mono z2)⟩
          case measure => simp [intOf]; omega
    · obtain rfl : k = (M.primesOf n).length := by omega
      go_wp2
      go_ret
      exact ⟨_, rfl, by rw [← hfin.out]; exact hown, hb0.trans (hbr.mono (by omega))⟩
theorem apart_new {w w' : World} {b b' : Nat} {v u : Value} {xs ys : List Int} (h : OwnI w b v xs) (h' : OwnI w' b' u ys) (hb : w.heap.size ≤ b') : Apart v u := fun g e1 e2 => by
  have := (OwnI.lt h g e1).2
  have := (OwnI.lt h' g e2).1
  omega
theorem fromLit (x : Int) (w : World) : Rw.From EI (w.alloc (.cells #[.int .i64 x] 3)) (some ⟨w.heap.size, 0, none⟩) [x] := by
  have h := OwnI.litOne w w.heap.size x (Nat.le_refl _)
  have := Rw.Own.take_ rfl (ownI_iff.1 h) (hi := w.heap.size + 1) (by omega) (Below.refl _ _) [x].length
  rwa [List.take_length] at this
set_option maxRecDepth 100000 in
set_option maxHeartbeats 2000000 in
theorem squarefreeDivisors_c (n : Int) (w : World) (h0 : n ≠ 0) (h1 : -100000 ≤ n) (h2 : n ≤ 100000) :
    Calls Tryz.prog 97 #[.int .i64 n] w fun e w' => ∃ v, e = .returned v ∧ OwnI w' w.heap.size v (M.dvs n) ∧ Below w.heap.size w w' := by
  have PF := fun W => primesOf_c n W h0 (by omega) (by omega)
  have PF := Lib.hid PF
  have hpr := Lib.hid fun p (hp : p ∈ M.primesOf n) => M.primesOf_le h0 hp
  have hdl := Lib.hid fun k (hk : k ≤ (M.primesOf n).length) => (M.dcat_k h0 hk).len h0
  have hdb := Lib.hid fun k (hk : k ≤ (M.primesOf n).length) x hx => (M.dcat_k h0 hk).bd h0 (x := x) hx
  have hfin : Hid (M.srt (M.dcat ((M.primesOf n).take (M.primesOf n).length)) = M.dvs n) := Lib.hid (by rw [List.take_length]; exact M.dvs_srt h0)
  have hst0 : M.dcat ((M.primesOf n).take 0) = [-1, 1] := rfl
  have hl2 := OwnI.lit2 w w.heap.size (-1) 1 (Nat.le_refl _)
  generalize M.dvs n = dvs at *
  go_enter Tryz.func97, Tryz.ntmps97
  go_wp2_with (go_at_call 124; (with_reducible refine (PF.out _).mono ?_); rintro e w1 ⟨v, rfl, hno, hb⟩; obtain ⟨a, cap, rfl, hm, hv⟩ := hno.view)
  have hb0 : Below w.heap.size w w1 := (by repeat (first | exact Below.refl _ _ | refine below_alloc ?_ _ | refine below_step ?_ (by assumption) | refine Below.drew ?_ | refine Below.setCell ?_ (by first | exact Nat.le_refl _ | exact Nat.le_add_right _ _ | (simp <;> omega)) _ | refine below_drewN ?_ _))
  have hl3 := hl2.below hb
  have hz := hb.size
  have hap : Apart (.slice (some ⟨w.heap.size, 0, none⟩) 2 2) (.slice a (M.primesOf n).length cap) := fun g hg hg2 => by
    have h1 := (OwnI.lt hno g hg2).1
    simp only [Value.ownBlock, Option.some.injEq] at hg
    simp at h1
    omega
  replace hno := hno.base (base' := w.heap.size) (by simp)
  have hno := Lib.hid hno
  simp only [World.size_alloc] at hz
  clear hv
  go_loopw [3, 5, 7, 12] (fun vo _ _ vi wr => ∃ k : Nat, k ≤ (M.primesOf n).length ∧ vi = .int .i64 k ∧ OwnI wr w.heap.size vo (M.dcat ((M.primesOf n).take k)) ∧ Below w.heap.size w wr ∧ OwnI wr w.heap.size (.slice a (M.primesOf n).length cap) (M.primesOf n) ∧ Apart vo (.slice a (M.primesOf n).length cap) ∧ w.heap.size ≤ wr.heap.size) (fun _ _ _ vi _ => (M.primesOf n).length - (intOf vi).toNat)
  case atStart => exact ⟨0, by omega, rfl, by rw [hst0]; exact hl3, hb0, hno.out, hap, by omega⟩
  case round =>
    clear hl2 hl3 hno hap
    obtain ⟨k, hk, rfl, hown, hbr, hno, hap, z2⟩ := hrel
    by_cases hlt : k < (M.primesOf n).length
    · obtain ⟨a9, cap9, e9, hm9, hv9⟩ := hno.view
      injection e9 with e9 e10 e11
      subst e9
      obtain ⟨g3, p, rfl, hg3, hp, hc3⟩ := hv9 k hlt
      have hno := Lib.hid hno
      have hap := Lib.hid hap
      have hp' := hpr.out p (List.mem_of_getElem? hp.out)
      have hst := Lib.hid (M.dcat_next hp.out)
      have hln := hdl.out k hk
      have hbd := Lib.hid (hdb.out k hk)
      have hlt2 : (k : Int) < (M.primesOf n).length := by omega
      clear hv9 e10 e11 hm9 hp
      generalize M.dcat ((M.primesOf n).take k) = acc at *
      obtain ⟨acc2, hacc2⟩ : ∃ a, Hid (M.dcat ((M.primesOf n).take (k + 1)) = a) := ⟨_, Lib.hid rfl⟩
      rw [hacc2.out] at hst
      have PC := fun W v h => cloneInts_c acc v W w.heap.size h (by omega)
      have PC := Lib.hid PC
      have hown := Lib.hid hown
      go_wp2_with (go_at_call 109; (with_reducible refine (PC.out _ _ hown.out).mono ?_); rintro e w2 ⟨vc, rfl, hoc, hbc⟩; obtain ⟨a4, cap4, rfl, hm4, hv4⟩ := hoc.view)
      have hv4 := Lib.hid hv4
      have hown2 := hown.out.below hbc
      have hno2 := hno.out.below hbc
      have q2 := hbc.size
      have hbr2 := hbr.trans (hbc.mono z2)
      have hap2 := apart_new hown.out hoc (Nat.le_refl _)
      replace hoc := hoc.base (base' := w.heap.size) z2
      clear hno hown hbc hv4 hbr
      go_loopw [3, 7, 19] (fun vo _ vj wq => ∃ j : Nat, j ≤ acc.length ∧ vj = .int .i64 j ∧ OwnI wq w.heap.size vo (acc ++ (acc.take j).map (· * p)) ∧ Below w.heap.size w wq ∧ (OwnI wq w.heap.size (.slice (some ⟨g3, 0, none⟩) (M.primesOf n).length cap) (M.primesOf n) ∧ Apart vo (.slice (some ⟨g3, 0, none⟩) (M.primesOf n).length cap)) ∧ (OwnI wq w.heap.size (.slice a4 acc.length cap4) acc ∧ Apart vo (.slice a4 acc.length cap4)) ∧ w.heap.size ≤ wq.heap.size) (fun _ _ vj _ => acc.length - (intOf vj).toNat)
      case atStart => exact ⟨0, by omega, rfl, by simpa using hown2, hbr2, ⟨hno2, hap.out⟩, ⟨hoc, hap2⟩, by omega⟩
      case round =>
        clear hown2 hno2 hap hap2 hoc
        obtain ⟨j, hj, rfl, hown, hbq, ⟨hno, hap⟩, ⟨hoc, hac⟩, z4⟩ := hrel
        by_cases hjt : j < acc.length
        · obtain ⟨a9, cap9, e9, hm9, hv9⟩ := hoc.view
          injection e9 with e9 e10 e11
          subst e9
          obtain ⟨g5, d, rfl, hg5, hd, hc5⟩ := hv9 j hjt
          have hoc := Lib.hid hoc
          have hac := Lib.hid hac
          have hno := Lib.hid hno
          have hap := Lib.hid hap
          have hd' := hbd.out d (List.mem_of_getElem? hd.out)
          have hml := M.mul_bd (x := d) (y := p) (m := 100000) (n := 100000) (by omega) (by omega) (by omega) (by omega)
          have hf := Lib.hid (show acc ++ (acc.take (j + 1)).map (· * p) = (acc ++ (acc.take j).map (· * p)) ++ [d * p] by rw [take_next hd.out, List.map_append, List.append_assoc]; rfl)
          have hln3 : (acc ++ (acc.take j).map (· * p)).length ≤ acc.length + acc.length := by rw [List.length_append, List.length_map, List.length_take]; omega
          have hd := Lib.hid hd.out
          clear hv9 e10 e11 hm9
          go_wp2_with (at_builtin; refine pushI w.heap.size [d * p] _ _ (some ⟨_, 0, none⟩) 1 1 (by rfl) (by rfl) (.tmp 23) (.tmp 27) (by rfl) (by rfl) (by rfl) (fromLit (d * p) _) (hown.alloc _) (by simp; omega) (by simp at hln3 ⊢; omega) ?_; rintro v3 w3 hown3 hg3' hbl3 hb3)
          have q3 := hg3'.size
          have hno3 := (hno.out.alloc (.cells #[.int .i64 (d * p)] 3)).kept hg3' fun g e e' => hap.out g e e'
          have hoc3 := (hoc.out.alloc (.cells #[.int .i64 (d * p)] 3)).kept hg3' fun g e e' => hac.out g e e'
          have hap3 : Apart v3 (.slice (some ⟨g3, 0, none⟩) (M.primesOf n).length cap) := fun g e e' => by
            rcases hbl3 with q | q
            · exact hap.out g (by rw [← q]; exact e) e'
            · have := (OwnI.lt hno.out g e').2
              rw [q] at e
              injection e with e
              simp at e
              omega
          have hac3 : Apart v3 (.slice (some ⟨g5, 0, none⟩) acc.length cap4) := fun g e e' => by
            rcases hbl3 with q | q
            · exact hac.out g (by rw [← q]; exact e) e'
            · have := (OwnI.lt hoc.out g e').2
              rw [q] at e
              injection e with e
              simp at e
              omega
          go_roundw
          case rel => exact ⟨j + 1, by omega, by go_num, by rw [hf.out]; exact hown3, (hbq.alloc z4 _).trans hb3, ⟨hno3, hap3⟩, ⟨hoc3, hac3⟩, by simp at q3; omega⟩
          case measure => simp [intOf]; omega
        · obtain rfl : j = acc.length := by omega
          rw [List.take_length] at hown
          go_wp2
          go_roundw
          case rel => exact ⟨k + 1, by omega, by go_num, by rw [hacc2.out, hst.out]; exact hown, hbq, hno, hap, z4⟩
          case measure => simp [intOf]; omega
    · obtain rfl : k = (M.primesOf n).length := by omega
      have hln := hdl.out _ (Nat.le_refl _)
      have PS := fun W v hw hz => sortInts_c (M.dcat ((M.primesOf n).take (M.primesOf n).length)) v W w.heap.size hw hz (by omega)
      rw [hfin.out] at PS
      have PS := Lib.hid PS
      clear hno hap
      go_wp2_with (go_at_call 110; (with_reducible refine (PS.out _ _ hown (by omega)).mono ?_); rintro e w5 ⟨rfl, hown5, hb5⟩)
      go_ret
      exact ⟨_, rfl, hown5, hbr.trans hb5⟩
end Go.Proofs.YtgkjmjlkhnfbiaaGreat

namespace Go.Proofs.YtgkjmjlkhnfbiaaGreat
set_option linter.unusedSimpArgs false
set_option linter.unusedVariables false
open Go.RowKit
namespace M
noncomputable def rsOf (D A C : Int) : Int := if real D A C then (fl D A C).headD 0 else -1
noncomputable def rsn (A B : Int) (dual : Bool) (d : Int) : Int := if fok d (sA A dual) (dC A B dual d) then rsOf d (sA A dual) (dC A B dual d) else 0
noncomputable def rsk (A B : Int) (dual : Bool) (d : Int) : Bool := fok d (sA A dual) (dC A B dual d)
theorem dC_q {A B d : Int} {dual : Bool} (h : tc A B) (hd : d ∈ dvs (sB A B dual)) : (sB A B dual).tdiv d = dC A B dual d := by
  obtain ⟨d0, d1⟩ := mem_dvs (h.side dual).2.2.1 hd
  exact Int.tdiv_eq_ediv_of_dvd (Int.dvd_of_emod_eq_zero d1)
end M
/-- a box of three numbers -/
structure Box3 (w : World) (b : Nat) (x y z : Int) : Prop where
  c0 : w.cell? ⟨b, 0, none⟩ = some (.int .i64 x)
  c1 : w.cell? ⟨b, 1, none⟩ = some (.int .i64 y)
  c2 : w.cell? ⟨b, 2, none⟩ = some (.int .i64 z)
  f0 : w.frozen? ⟨b, 0, none⟩ = false
  f1 : w.frozen? ⟨b, 1, none⟩ = false
  f2 : w.frozen? ⟨b, 2, none⟩ = false
  size : b < w.heap.size
theorem Box3.new (w : World) (x y z : Int) (T : TypeId) : Box3 (w.alloc (.cells #[.int .i64 x, .int .i64 y, .int .i64 z] T)) w.heap.size x y z :=
  ⟨by rw [World.cell?_alloc_at _ _ _ _ rfl]; rfl, by rw [World.cell?_alloc_at _ _ _ _ rfl]; rfl, by rw [World.cell?_alloc_at _ _ _ _ rfl]; rfl, by simp [go_sem], by simp [go_sem], by simp [go_sem], by rw [World.size_alloc]; omega⟩
theorem Box3.keep {w w' : World} {b : Nat} {x y z : Int} (h : Box3 w b x y z) (hb : Below w.heap.size w w') : Box3 w' b x y z :=
  ⟨(hb.cell (p := ⟨b, 0, none⟩) h.size).trans h.c0, (hb.cell (p := ⟨b, 1, none⟩) h.size).trans h.c1, (hb.cell (p := ⟨b, 2, none⟩) h.size).trans h.c2, (hb.frozen (p := ⟨b, 0, none⟩) h.size).trans h.f0, (hb.frozen (p := ⟨b, 1, none⟩) h.size).trans h.f1, (hb.frozen (p := ⟨b, 2, none⟩) h.size).trans h.f2, Nat.lt_of_lt_of_le h.size hb.size⟩
theorem descentDivisors_c (A B : Int) (dual : Bool) (w : World) (h : M.tc A B) :
    Calls Tryz.prog 50 #[.agg #[.int .i64 A, .int .i64 B], .bool dual] w fun e w' => ∃ v, e = .returned v ∧ OwnI w' w.heap.size v (M.dvs (M.sB A B dual)) ∧ Below w.heap.size w w' := by
  obtain ⟨hsa, hsb, hs0, hs1⟩ := h.side dual
  have PS := fun W => side_c A B dual W h
  have PD := fun W => squarefreeDivisors_c (M.sB A B dual) W hs0 hsb.1 hsb.2
  have PS := Lib.hid PS
  have PD := Lib.hid PD
  go_enter Tryz.func50, Tryz.ntmps50
  go_wp2_with (first
    | (go_at_call 75; (with_reducible refine (PS.out _).mono ?_); rintro e w1 ⟨rfl, hb1⟩)
    | (go_at_call 97; (with_reducible refine (PD.out _).mono ?_); rintro e w2 ⟨v, rfl, hown, hb2⟩))
  go_ret
  have z := hb1.size
  simp only [World.size_alloc] at z
  exact ⟨_, rfl, hown.base (by omega), (by repeat (first | exact Below.refl _ _ | refine below_alloc ?_ _ | refine below_step ?_ (by assumption) | refine Below.drew ?_ | refine Below.setCell ?_ (by first | exact Nat.le_refl _ | exact Nat.le_add_right _ _ | (simp <;> omega)) _ | refine below_drewN ?_ _))⟩
set_option maxRecDepth 100000 in
theorem descentQuartic_c (A B d : Int) (dual : Bool) (w : World) (h : M.tc A B) (hd : d ∈ M.dvs (M.sB A B dual)) :
    Calls Tryz.prog 56 #[.agg #[.int .i64 A, .int .i64 B], .bool dual, .int .i64 d] w fun e w' => e = .returned (.agg #[.int .i64 d, .int .i64 (M.sA A dual), .int .i64 (M.dC A B dual d)]) ∧ Below w.heap.size w w' := by
  obtain ⟨hsa, hsb, hs0, hs1⟩ := h.side dual
  have hq := M.dC_q h hd
  obtain ⟨⟨⟨q1, q2⟩, q3, q4, q5⟩, -, hd0, hc0⟩ := (h.dsc hd).1
  have PS := fun W => side_c A B dual W h
  have PS := Lib.hid PS
  generalize M.sA A dual = sa at *
  generalize M.sB A B dual = sb at *
  generalize M.dC A B dual d = dc at *
  go_enter Tryz.func56, Tryz.ntmps56
  go_wp2_with (go_at_call 75; (with_reducible refine (PS.out _).mono ?_); rintro e w1 ⟨rfl, hb1⟩; obtain ⟨c0, c1, c2, f0, f1, f2, sz⟩ := (Box3.new (w.alloc (.cells #[.int .i64 A, .int .i64 B] 25)) 0 0 0 35).keep hb1; simp only [World.size_alloc] at c0 c1 c2 f0 f1 f2 sz)
  exact bodyPost_ret (v := .agg #[.int .i64 d, .int .i64 sa, .int .i64 dc]) (by simp [results, Tryz.results56, go_sem, *]) rfl (⟨rfl, (by repeat (first | exact Below.refl _ _ | refine below_alloc ?_ _ | refine below_step ?_ (by assumption) | refine Below.drew ?_ | refine Below.setCell ?_ (by first | exact Nat.le_refl _ | exact Nat.le_add_right _ _ | (simp <;> omega)) _ | refine below_drewN ?_ _))⟩)
set_option maxRecDepth 100000 in
theorem reasonAgainst_c (A B d : Int) (dual : Bool) (w : World) (h : M.tc A B) (hd : d ∈ M.dvs (M.sB A B dual)) :
    Calls Tryz.prog 53 #[.agg #[.int .i64 A, .int .i64 B], .bool dual, .int .i64 d] w fun e w' => e = .returned (.tuple #[.int .i64 (M.rsn A B dual d), .bool (M.rsk A B dual d)]) ∧ Below w.heap.size w w' := by
  obtain ⟨hdc, hdq⟩ := h.dsc hd
  have PQ := fun W => descentQuartic_c A B d dual W h hd
  have PF := fun W => failing_c d (M.sA A dual) (M.dC A B dual d) W hdc hdq
  have PR := fun W => isReal_c d (M.sA A dual) (M.dC A B dual d) W hdc.1
  unfold M.rsn M.rsk M.rsOf
  generalize M.sA A dual = sa at *
  generalize M.dC A B dual d = dc at *
  have PQ := Lib.hid PQ
  clear hdc hdq
  generalize hok : M.fok d sa dc = ok at *
  generalize M.fl d sa dc = l at *
  clear hok
  cases ok
  · rw [M.opt_f] at PF
    have PF := Lib.hid PF
    clear PR
    go_enter Tryz.func53, Tryz.ntmps53
    go_wp2_with (first
      | (go_at_call 56; (with_reducible refine (PQ.out _).mono ?_); rintro e w1 ⟨rfl, hb1⟩)
      | (go_at_call 59; (with_reducible refine (PF.out _).mono ?_); rintro e w2 ⟨v, rfl, hown, hb2⟩))
    go_ret2
    exact ⟨rfl, (by repeat (first | exact Below.refl _ _ | refine below_alloc ?_ _ | refine below_step ?_ (by assumption) | refine Below.drew ?_ | refine Below.setCell ?_ (by first | exact Nat.le_refl _ | exact Nat.le_add_right _ _ | (simp <;> omega)) _ | refine below_drewN ?_ _))⟩
  · rw [M.opt_t] at PF
    have PF := Lib.hid PF
    cases hreal : M.real d sa dc
    · simp only [hreal] at PR
      have PR := Lib.hid PR
      clear hreal
      go_enter Tryz.func53, Tryz.ntmps53
      go_wp2_with (first
        | (go_at_call 56; (with_reducible refine (PQ.out _).mono ?_); rintro e w1 ⟨rfl, hb1⟩)
        | (go_at_call 59; (with_reducible refine (PF.out _).mono ?_); rintro e w2 ⟨v, rfl, hown, hb2⟩; obtain ⟨c0, c1, c2, f0, f1, f2, sz⟩ := (Box3.new w1 d sa dc 35).keep hb2)
        | (go_at_call 60; (with_reducible refine (PR.out _).mono ?_); rintro e w3 ⟨rfl, hb3⟩))
      go_ret2
      exact ⟨rfl, (by repeat (first | exact Below.refl _ _ | refine below_alloc ?_ _ | refine below_step ?_ (by assumption) | refine Below.drew ?_ | refine Below.setCell ?_ (by first | exact Nat.le_refl _ | exact Nat.le_add_right _ _ | (simp <;> omega)) _ | refine below_drewN ?_ _))⟩
    · simp only [hreal] at PR
      have PR := Lib.hid PR
      clear hreal
      cases l with
      | nil =>
        go_enter Tryz.func53, Tryz.ntmps53
        go_wp2_with (first
          | (go_at_call 56; (with_reducible refine (PQ.out _).mono ?_); rintro e w1 ⟨rfl, hb1⟩)
          | (go_at_call 59; (with_reducible refine (PF.out _).mono ?_); rintro e w2 ⟨v, rfl, hown, hb2⟩; obtain ⟨a, cap, rfl, hm, hv⟩ := hown.view; obtain ⟨c0, c1, c2, f0, f1, f2, sz⟩ := (Box3.new w1 d sa dc 35).keep hb2)
          | (go_at_call 60; (with_reducible refine (PR.out _).mono ?_); rintro e w3 ⟨rfl, hb3⟩))
        go_ret2
        exact ⟨rfl, (by repeat (first | exact Below.refl _ _ | refine below_alloc ?_ _ | refine below_step ?_ (by assumption) | refine Below.drew ?_ | refine Below.setCell ?_ (by first | exact Nat.le_refl _ | exact Nat.le_add_right _ _ | (simp <;> omega)) _ | refine below_drewN ?_ _))⟩
      | cons x l =>
        go_enter Tryz.func53, Tryz.ntmps53
        go_wp2_with (first
          | (go_at_call 56; (with_reducible refine (PQ.out _).mono ?_); rintro e w1 ⟨rfl, hb1⟩)
          | (go_at_call 59; (with_reducible refine (PF.out _).mono ?_); rintro e w2 ⟨v, rfl, hown, hb2⟩; obtain ⟨a, cap, rfl, hm, hv⟩ := hown.view; obtain ⟨g0, x0, rfl, hg0, hx0, hc0⟩ := hv 0 (by simp); obtain ⟨c0, c1, c2, f0, f1, f2, sz⟩ := (Box3.new w1 d sa dc 35).keep hb2; (obtain rfl : x = x0 := by simpa using hx0.out); generalize hn : (x :: l).length = nn at *; (have hn0 : 0 < nn := by rw [← hn]; exact Nat.succ_pos _); clear hn hv hown hx0)
          | (go_at_call 60; (with_reducible refine (PR.out _).mono ?_); rintro e w3 ⟨rfl, hb3⟩; (have hc3 := keepCell hb3 hc0)))
        go_ret2
        exact ⟨rfl, (by repeat (first | exact Below.refl _ _ | refine below_alloc ?_ _ | refine below_step ?_ (by assumption) | refine Below.drew ?_ | refine Below.setCell ?_ (by first | exact Nat.le_refl _ | exact Nat.le_add_right _ _ | (simp <;> omega)) _ | refine below_drewN ?_ _))⟩
theorem dsDivisors_c (A B : Int) (dual : Bool) (w : World) (h : M.tc A B) :
    Calls Tryz.prog 51 #[.agg #[.int .i64 A, .int .i64 B], .bool dual] w fun e w' => ∃ v, e = .returned v ∧ OwnI w' w.heap.size v (M.dvs (M.sB A B dual)) ∧ Below w.heap.size w w' := by
  obtain ⟨hsa, hsb, hs0, hs1⟩ := h.side dual
  have PS := fun W => dsSide_c A B dual W h
  have PD := fun W => tcDivisors_c (M.sB A B dual) W hs0 hsb.1 hsb.2
  have PS := Lib.hid PS
  have PD := Lib.hid PD
  go_enter Tryz.func51, Tryz.ntmps51
  go_wp2_with (first
    | (go_at_call 76; (with_reducible refine (PS.out _).mono ?_); rintro e w1 ⟨rfl, hb1⟩)
    | (go_at_call 98; (with_reducible refine (PD.out _).mono ?_); rintro e w2 ⟨v, rfl, hown, hb2⟩))
  go_ret
  have z := hb1.size
  simp only [World.size_alloc] at z
  exact ⟨_, rfl, hown.base (by omega), (by repeat (first | exact Below.refl _ _ | refine below_alloc ?_ _ | refine below_step ?_ (by assumption) | refine Below.drew ?_ | refine Below.setCell ?_ (by first | exact Nat.le_refl _ | exact Nat.le_add_right _ _ | (simp <;> omega)) _ | refine below_drewN ?_ _))⟩
set_option maxRecDepth 100000 in
theorem dsQuartic_c (A B d : Int) (dual : Bool) (w : World) (h : M.tc A B) (hd : d ∈ M.dvs (M.sB A B dual)) :
    Calls Tryz.prog 57 #[.agg #[.int .i64 A, .int .i64 B], .bool dual, .int .i64 d] w fun e w' => e = .returned (.agg #[.int .i64 d, .int .i64 (M.sA A dual), .int .i64 (M.dC A B dual d)]) ∧ Below w.heap.size w w' := by
  obtain ⟨hsa, hsb, hs0, hs1⟩ := h.side dual
  have hq := M.dC_q h hd
  obtain ⟨⟨⟨q1, q2⟩, q3, q4, q5⟩, -, hd0, hc0⟩ := (h.dsc hd).1
  have PS := fun W => dsSide_c A B dual W h
  have PS := Lib.hid PS
  generalize M.sA A dual = sa at *
  generalize M.sB A B dual = sb at *
  generalize M.dC A B dual d = dc at *
  go_enter Tryz.func57, Tryz.ntmps57
  go_wp2_with (go_at_call 76; (with_reducible refine (PS.out _).mono ?_); rintro e w1 ⟨rfl, hb1⟩; obtain ⟨c0, c1, c2, f0, f1, f2, sz⟩ := (Box3.new (w.alloc (.cells #[.int .i64 A, .int .i64 B] 25)) 0 0 0 35).keep hb1; simp only [World.size_alloc] at c0 c1 c2 f0 f1 f2 sz)
  exact bodyPost_ret (v := .agg #[.int .i64 d, .int .i64 sa, .int .i64 dc]) (by simp [results, Tryz.results57, go_sem, *]) rfl (⟨rfl, (by repeat (first | exact Below.refl _ _ | refine below_alloc ?_ _ | refine below_step ?_ (by assumption) | refine Below.drew ?_ | refine Below.setCell ?_ (by first | exact Nat.le_refl _ | exact Nat.le_add_right _ _ | (simp <;> omega)) _ | refine below_drewN ?_ _))⟩)
set_option maxRecDepth 100000 in
theorem dsReason_c (A B d : Int) (dual : Bool) (w : World) (h : M.tc A B) (hd : d ∈ M.dvs (M.sB A B dual)) :
    Calls Tryz.prog 55 #[.agg #[.int .i64 A, .int .i64 B], .bool dual, .int .i64 d] w fun e w' => e = .returned (.tuple #[.int .i64 (M.rsn A B dual d), .bool (M.rsk A B dual d)]) ∧ Below w.heap.size w w' := by
  obtain ⟨hdc, hdq⟩ := h.dsc hd
  have PQ := fun W => dsQuartic_c A B d dual W h hd
  have PF := fun W => loFailing_c d (M.sA A dual) (M.dC A B dual d) W hdc hdq
  have PR := fun W => loReal_c d (M.sA A dual) (M.dC A B dual d) W hdc.1
  unfold M.rsn M.rsk M.rsOf
  generalize M.sA A dual = sa at *
  generalize M.dC A B dual d = dc at *
  have PQ := Lib.hid PQ
  clear hdc hdq
  generalize hok : M.fok d sa dc = ok at *
  generalize M.fl d sa dc = l at *
  clear hok
  cases ok
  · rw [M.opt_f] at PF
    have PF := Lib.hid PF
    clear PR
    go_enter Tryz.func55, Tryz.ntmps55
    go_wp2_with (first
      | (go_at_call 57; (with_reducible refine (PQ.out _).mono ?_); rintro e w1 ⟨rfl, hb1⟩)
      | (go_at_call 100; (with_reducible refine (PF.out _).mono ?_); rintro e w2 ⟨v, rfl, hown, hb2⟩))
    go_ret2
    exact ⟨rfl, (by repeat (first | exact Below.refl _ _ | refine below_alloc ?_ _ | refine below_step ?_ (by assumption) | refine Below.drew ?_ | refine Below.setCell ?_ (by first | exact Nat.le_refl _ | exact Nat.le_add_right _ _ | (simp <;> omega)) _ | refine below_drewN ?_ _))⟩
  · rw [M.opt_t] at PF
    have PF := Lib.hid PF
    cases hreal : M.real d sa dc
    · simp only [hreal] at PR
      have PR := Lib.hid PR
      clear hreal
      go_enter Tryz.func55, Tryz.ntmps55
      go_wp2_with (first
        | (go_at_call 57; (with_reducible refine (PQ.out _).mono ?_); rintro e w1 ⟨rfl, hb1⟩)
        | (go_at_call 100; (with_reducible refine (PF.out _).mono ?_); rintro e w2 ⟨v, rfl, hown, hb2⟩; obtain ⟨c0, c1, c2, f0, f1, f2, sz⟩ := (Box3.new w1 d sa dc 35).keep hb2)
        | (go_at_call 101; (with_reducible refine (PR.out _).mono ?_); rintro e w3 ⟨rfl, hb3⟩))
      go_ret2
      exact ⟨rfl, (by repeat (first | exact Below.refl _ _ | refine below_alloc ?_ _ | refine below_step ?_ (by assumption) | refine Below.drew ?_ | refine Below.setCell ?_ (by first | exact Nat.le_refl _ | exact Nat.le_add_right _ _ | (simp <;> omega)) _ | refine below_drewN ?_ _))⟩
    · simp only [hreal] at PR
      have PR := Lib.hid PR
      clear hreal
      cases l with
      | nil =>
        go_enter Tryz.func55, Tryz.ntmps55
        go_wp2_with (first
          | (go_at_call 57; (with_reducible refine (PQ.out _).mono ?_); rintro e w1 ⟨rfl, hb1⟩)
          | (go_at_call 100; (with_reducible refine (PF.out _).mono ?_); rintro e w2 ⟨v, rfl, hown, hb2⟩; obtain ⟨a, cap, rfl, hm, hv⟩ := hown.view; obtain ⟨c0, c1, c2, f0, f1, f2, sz⟩ := (Box3.new w1 d sa dc 35).keep hb2)
          | (go_at_call 101; (with_reducible refine (PR.out _).mono ?_); rintro e w3 ⟨rfl, hb3⟩))
        go_ret2
        exact ⟨rfl, (by repeat (first | exact Below.refl _ _ | refine below_alloc ?_ _ | refine below_step ?_ (by assumption) | refine Below.drew ?_ | refine Below.setCell ?_ (by first | exact Nat.le_refl _ | exact Nat.le_add_right _ _ | (simp <;> omega)) _ | refine below_drewN ?_ _))⟩
      | cons x l =>
        go_enter Tryz.func55, Tryz.ntmps55
        go_wp2_with (first
          | (go_at_call 57; (with_reducible refine (PQ.out _).mono ?_); rintro e w1 ⟨rfl, hb1⟩)
          | (go_at_call 100; (with_reducible refine (PF.out _).mono ?_); rintro e w2 ⟨v, rfl, hown, hb2⟩; obtain ⟨a, cap, rfl, hm, hv⟩ := hown.view; obtain ⟨g0, x0, rfl, hg0, hx0, hc0⟩ := hv 0 (by simp); obtain ⟨c0, c1, c2, f0, f1, f2, sz⟩ := (Box3.new w1 d sa dc 35).keep hb2; (obtain rfl : x = x0 := by simpa using hx0.out); generalize hn : (x :: l).length = nn at *; (have hn0 : 0 < nn := by rw [← hn]; exact Nat.succ_pos _); clear hn hv hown hx0)
          | (go_at_call 101; (with_reducible refine (PR.out _).mono ?_); rintro e w3 ⟨rfl, hb3⟩; (have hc3 := keepCell hb3 hc0)))
        go_ret2
        exact ⟨rfl, (by repeat (first | exact Below.refl _ _ | refine below_alloc ?_ _ | refine below_step ?_ (by assumption) | refine Below.drew ?_ | refine Below.setCell ?_ (by first | exact Nat.le_refl _ | exact Nat.le_add_right _ _ | (simp <;> omega)) _ | refine below_drewN ?_ _))⟩
end Go.Proofs.YtgkjmjlkhnfbiaaGreat
