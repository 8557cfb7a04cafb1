/-
  Joined texts: contracts and plain laws.
-/
import Derived.Test.YtgkjmjlkhnfbiaaGreatB16
import Derived.Test.YtgkjmjlkhnfbiaaGreatB2
namespace Go.Proofs.YtgkjmjlkhnfbiaaGreat
set_option linter.unusedSimpArgs false
set_option linter.unusedVariables false
open Go.RowKit
namespace M
noncomputable def slk (A B : Int) (dual : Bool) : Bool := (dvs (sB A B dual)).all (rsk A B dual)
noncomputable def rs0 (A B : Int) (dual : Bool) (d : Int) : Bool := rsn A B dual d == 0
noncomputable def slm (A B : Int) (dual : Bool) : List Int := (dvs (sB A B dual)).filter (rs0 A B dual)
noncomputable def hpt (A B : Int) (dual : Bool) (n : Nat) (d : Int) : Bool := pts d (sA A dual) (dC A B dual d) n
noncomputable def fnd (A B : Int) (dual : Bool) (n : Nat) : List Int := (dvs (sB A B dual)).filter (hpt A B dual n)
theorem dvs_side_len {A B : Int} (h : tc A B) (dual : Bool) : (dvs (sB A B dual)).length ≤ 200000 := by
  obtain ⟨-, h1, h2, -⟩ := h.side dual
  have := dvs_len h2
  omega
end M
set_option maxRecDepth 100000 in
set_option maxHeartbeats 2000000 in
theorem selmer_c (A B : Int) (dual : Bool) (w : World) (h : M.tc A B) :
    Calls Tryz.prog 47 #[.agg #[.int .i64 A, .int .i64 B], .bool dual] w fun e w' => ∃ v, e = .returned (.tuple #[v, .bool (M.slk A B dual)]) ∧ OwnI w' w.heap.size v (M.opt (M.slk A B dual) (M.slm A B dual)) ∧ Below w.heap.size w w' := by
  have PD := fun W => descentDivisors_c A B dual W h
  have PR := fun d (hd : d ∈ M.dvs (M.sB A B dual)) W => reasonAgainst_c A B d dual W h hd
  have hlen := M.dvs_side_len h dual
  unfold M.slk M.slm
  have PD := Lib.hid PD
  have PR := Lib.hid PR
  generalize M.dvs (M.sB A B dual) = L at *
  have bx := Box.new w A B 25
  go_enter Tryz.func47, Tryz.ntmps47
  go_wp2_with (go_at_call 50; (with_reducible refine (PD.out _).mono ?_); rintro e w1 ⟨v1, rfl, hown1, hb1⟩; obtain ⟨a, cap, rfl, hm, hv⟩ := hown1.view)
  have hb0 : Below w.heap.size w w1 := (by repeat (first | exact Below.refl _ _ | refine below_alloc ?_ _ | refine below_step ?_ (by assumption) | refine Below.drew ?_ | refine Below.setCell ?_ (by first | exact Nat.le_refl _ | exact Nat.le_add_right _ _ | (simp <;> omega)) _ | refine below_drewN ?_ _))
  replace bx := bx.keep hb1
  have hv := Lib.hid hv
  have z1 := hb0.size
  have bx := Lib.hid bx
  clear hm hown1 hb1
  go_loopw [6, 8, 9, 10, 15] (fun vo _ _ _ vi wr => ∃ k : Nat, k ≤ L.length ∧ vi = .int .i64 k ∧ OwnI wr w1.heap.size vo ((L.take k).filter (M.rs0 A B dual)) ∧ (L.take k).all (M.rsk A B dual) = true ∧ Below w1.heap.size w1 wr) (fun _ _ _ _ vi _ => L.length - (intOf vi).toNat)
  case atStart => exact ⟨0, by omega, rfl, OwnI.nil _ _, rfl, Below.refl _ _⟩
  case round =>
    obtain ⟨k, hk, rfl, hown, htd, hbr⟩ := hrel
    have z2 := hbr.size
    have htd := Lib.hid htd
    by_cases hlt : k < L.length
    · obtain ⟨g2, d, rfl, hg2, hx2, hcell2⟩ := hv.out k hlt
      have hmem := List.mem_of_getElem? hx2.out
      have P1 := fun W => PR.out d hmem W
      have hcell3 := keepCell hbr hcell2
      obtain ⟨c0, c1, f0, f1, sz⟩ := bx.out.keep hbr
      have hst := Lib.hid (M.filt_next (M.rs0 A B dual) L hx2.out)
      have hst2 : Hid ((L.take (k + 1)).all (M.rsk A B dual) = ((L.take k).all (M.rsk A B dual) && M.rsk A B dual d)) := Lib.hid (by rw [List.take_add_one, hx2.out, List.all_append]; simp)
      have hpk : Hid (M.rs0 A B dual d = (M.rsn A B dual d == 0)) := Lib.hid rfl
      have hfl := List.length_filter_le (M.rs0 A B dual) (L.take k)
      have hfl2 : (L.take k).length ≤ L.length := by rw [List.length_take]; omega
      have hmem := Lib.hid hmem
      have hx2 := Lib.hid hx2.out
      clear hcell2
      generalize hr : M.rsn A B dual d = r at *
      cases ht : M.rsk A B dual d
      · simp only [ht] at P1
        have P1 := Lib.hid P1
        have hf : Hid (L.all (M.rsk A B dual) = false) := Lib.hid (by
          rw [List.all_eq_false]
          exact ⟨d, hmem.out, by rw [ht]; simp⟩)
        clear hr ht
        go_wp2_with (go_at_call 53; (with_reducible refine (P1.out _).mono ?_); rintro e w5 ⟨rfl, hb5⟩)
        go_ret2
        exact ⟨.slice none 0 0, by rw [hf.out] <;> rfl, by rw [hf.out, M.opt_f]; exact OwnI.nil _ _, hb0.trans ((hbr.trans (hb5.mono z2)).mono z1)⟩
      · simp only [ht] at P1
        have P1 := Lib.hid P1
        clear hr
        have ht := Lib.hid ht
        by_cases h0 : r = 0
        · subst h0
          go_wp2_with (first
            | (go_at_call 53; (with_reducible refine (P1.out _).mono ?_); rintro e w5 ⟨rfl, hb5⟩; (have hown5 := hown.below hb5); (have q5 := hb5.size))
            | (at_builtin; refine push_int (W := w1) w1.heap.size d _ _ rfl (.tmp 30) (.tmp 32) rfl rfl rfl hown5 (hbr.trans (hb5.mono z2)) (by omega) (by omega) ?_; rintro v6 w6 hown6 hb6))
          go_roundw
          case rel => exact ⟨k + 1, by omega, by go_num, by rw [hst.out, hpk.out]; exact hown6, by rw [hst2.out, htd.out, ht.out]; rfl, hb6⟩
          case measure => simp [intOf]; omega
        · go_wp2_with (first
            | (go_at_call 53; (with_reducible refine (P1.out _).mono ?_); rintro e w5 ⟨rfl, hb5⟩; (have hown5 := hown.below hb5); (have q5 := hb5.size)))
          go_roundw
          case rel => exact ⟨k + 1, by omega, by go_num, by rw [hst.out, hpk.out]; simpa [h0] using hown5, by rw [hst2.out, htd.out, ht.out]; rfl, hbr.trans (hb5.mono z2)⟩
          case measure => simp [intOf]; omega
    · obtain rfl : k = L.length := by omega
      have hf : Hid (L.all (M.rsk A B dual) = true) := Lib.hid (by rw [← htd.out, List.take_length])
      rw [List.take_length] at hown
      go_wp2
      go_ret2
      exact ⟨_, by rw [hf.out] <;> rfl, by rw [hf.out, M.opt_t]; exact hown.base z1, hb0.trans (hbr.mono z1)⟩
set_option maxRecDepth 100000 in
set_option maxHeartbeats 2000000 in
theorem found_c (A B : Int) (dual : Bool) (n : Nat) (w : World) (h : M.tc A B) (hn : n ≤ 60) :
    Calls Tryz.prog 66 #[.agg #[.int .i64 A, .int .i64 B], .bool dual, .int .i64 n] w fun e w' => ∃ v, e = .returned v ∧ OwnI w' w.heap.size v (M.fnd A B dual n) ∧ Below w.heap.size w w' := by
  have PD := fun W => descentDivisors_c A B dual W h
  have PQ := fun d (hd : d ∈ M.dvs (M.sB A B dual)) W => descentQuartic_c A B d dual W h hd
  have PP := fun d (hd : d ∈ M.dvs (M.sB A B dual)) W => points_c d (M.sA A dual) (M.dC A B dual d) n W (by obtain ⟨⟨q1, q2, q3⟩, -⟩ := (h.dsc hd).1; exact ⟨q1, ⟨by omega, by omega⟩, q3⟩) hn
  have hlen := M.dvs_side_len h dual
  unfold M.fnd
  have PD := Lib.hid PD
  have PQ := Lib.hid PQ
  have PP := Lib.hid PP
  generalize M.dvs (M.sB A B dual) = L at *
  have bx := Box.new w A B 25
  go_enter Tryz.func66, Tryz.ntmps66
  go_wp2_with (go_at_call 50; (with_reducible refine (PD.out _).mono ?_); rintro e w1 ⟨v1, rfl, hown1, hb1⟩; obtain ⟨a, cap, rfl, hm, hv⟩ := hown1.view)
  have hb0 : Below w.heap.size w w1 := (by repeat (first | exact Below.refl _ _ | refine below_alloc ?_ _ | refine below_step ?_ (by assumption) | refine Below.drew ?_ | refine Below.setCell ?_ (by first | exact Nat.le_refl _ | exact Nat.le_add_right _ _ | (simp <;> omega)) _ | refine below_drewN ?_ _))
  replace bx := bx.keep hb1
  have hv := Lib.hid hv
  have z1 := hb0.size
  have bx := Lib.hid bx
  clear hm hown1 hb1
  go_loopw [7, 9, 14] (fun vo _ vi wr => ∃ k : Nat, k ≤ L.length ∧ vi = .int .i64 k ∧ OwnI wr w1.heap.size vo ((L.take k).filter (M.hpt A B dual n)) ∧ Below w1.heap.size w1 wr) (fun _ _ vi _ => L.length - (intOf vi).toNat)
  case atStart => exact ⟨0, by omega, rfl, OwnI.nil _ _, Below.refl _ _⟩
  case round =>
    obtain ⟨k, hk, rfl, hown, hbr⟩ := hrel
    have z2 := hbr.size
    by_cases hlt : k < L.length
    · obtain ⟨g2, d, rfl, hg2, hx2, hcell2⟩ := hv.out k hlt
      have hmem := List.mem_of_getElem? hx2.out
      have P1 := Lib.hid fun W => PQ.out d hmem W
      have P2 := fun W => PP.out d hmem W
      have hcell3 := keepCell hbr hcell2
      obtain ⟨c0, c1, f0, f1, sz⟩ := bx.out.keep hbr
      have hst := Lib.hid (M.filt_next (M.hpt A B dual n) L hx2.out)
      have hpk : Hid (M.hpt A B dual n d = M.pts d (M.sA A dual) (M.dC A B dual d) n) := Lib.hid rfl
      have hfl := List.length_filter_le (M.hpt A B dual n) (L.take k)
      have hfl2 : (L.take k).length ≤ L.length := by rw [List.length_take]; omega
      have hx2 := Lib.hid hx2.out
      clear hcell2 hmem
      generalize M.pts d (M.sA A dual) (M.dC A B dual d) n = b at *
      have P2 := Lib.hid P2
      go_wp2_with (first
        | (go_at_call 56; (with_reducible refine (P1.out _).mono ?_); rintro e w4 ⟨rfl, hb4⟩)
        | (go_at_call 106; (with_reducible refine (P2.out _).mono ?_); rintro e w5 ⟨v5, rfl, ⟨a5, m5, cap5, rfl, hm5, hd5⟩, hb5⟩; (have hb45 := hb4.trans (hb5.mono hb4.size)); (have hown5 := hown.below hb45); (have q5 := hb45.size); (have hd5 := Lib.hid hd5); by_cases h5 : 0 < m5)
        | (at_builtin; refine push_int (W := w1) w1.heap.size d _ _ rfl (.tmp 26) (.tmp 28) rfl rfl rfl hown5 (hbr.trans (hb45.mono z2)) (by omega) (by omega) ?_; rintro v6 w6 hown6 hb6))
      · go_roundw
        case rel => exact ⟨k + 1, by omega, by go_num, by rw [hst.out, hpk.out, ← hd5.out]; simpa [h5] using hown6, hb6⟩
        case measure => simp [intOf]; omega
      · go_roundw
        case rel => exact ⟨k + 1, by omega, by go_num, by rw [hst.out, hpk.out, ← hd5.out]; simpa [h5] using hown5, hbr.trans (hb45.mono z2)⟩
        case measure => simp [intOf]; omega
    · obtain rfl : k = L.length := by omega
      rw [List.take_length] at hown
      go_wp2
      go_ret
      exact ⟨_, rfl, hown.base z1, hb0.trans (hbr.mono z1)⟩
set_option maxRecDepth 100000 in
set_option maxHeartbeats 2000000 in
theorem dsSelmer_c (A B : Int) (dual : Bool) (w : World) (h : M.tc A B) :
    Calls Tryz.prog 49 #[.agg #[.int .i64 A, .int .i64 B], .bool dual] w fun e w' => ∃ v, e = .returned (.tuple #[v, .bool (M.slk A B dual)]) ∧ OwnI w' w.heap.size v (M.opt (M.slk A B dual) (M.slm A B dual)) ∧ Below w.heap.size w w' := by
  have PD := fun W => dsDivisors_c A B dual W h
  have PR := fun d (hd : d ∈ M.dvs (M.sB A B dual)) W => dsReason_c A B d dual W h hd
  have hlen := M.dvs_side_len h dual
  unfold M.slk M.slm
  have PD := Lib.hid PD
  have PR := Lib.hid PR
  generalize M.dvs (M.sB A B dual) = L at *
  have bx := Box.new w A B 25
  go_enter Tryz.func49, Tryz.ntmps49
  go_wp2_with (go_at_call 51; (with_reducible refine (PD.out _).mono ?_); rintro e w1 ⟨v1, rfl, hown1, hb1⟩; obtain ⟨a, cap, rfl, hm, hv⟩ := hown1.view)
  have hb0 : Below w.heap.size w w1 := (by repeat (first | exact Below.refl _ _ | refine below_alloc ?_ _ | refine below_step ?_ (by assumption) | refine Below.drew ?_ | refine Below.setCell ?_ (by first | exact Nat.le_refl _ | exact Nat.le_add_right _ _ | (simp <;> omega)) _ | refine below_drewN ?_ _))
  replace bx := bx.keep hb1
  have hv := Lib.hid hv
  have z1 := hb0.size
  have bx := Lib.hid bx
  clear hm hown1 hb1
  go_loopw [6, 8, 9, 10, 15] (fun vo _ _ _ vi wr => ∃ k : Nat, k ≤ L.length ∧ vi = .int .i64 k ∧ OwnI wr w1.heap.size vo ((L.take k).filter (M.rs0 A B dual)) ∧ (L.take k).all (M.rsk A B dual) = true ∧ Below w1.heap.size w1 wr) (fun _ _ _ _ vi _ => L.length - (intOf vi).toNat)
  case atStart => exact ⟨0, by omega, rfl, OwnI.nil _ _, rfl, Below.refl _ _⟩
  case round =>
    obtain ⟨k, hk, rfl, hown, htd, hbr⟩ := hrel
    have z2 := hbr.size
    have htd := Lib.hid htd
    by_cases hlt : k < L.length
    · obtain ⟨g2, d, rfl, hg2, hx2, hcell2⟩ := hv.out k hlt
      have hmem := List.mem_of_getElem? hx2.out
      have P1 := fun W => PR.out d hmem W
      have hcell3 := keepCell hbr hcell2
      obtain ⟨c0, c1, f0, f1, sz⟩ := bx.out.keep hbr
      have hst := Lib.hid (M.filt_next (M.rs0 A B dual) L hx2.out)
      have hst2 : Hid ((L.take (k + 1)).all (M.rsk A B dual) = ((L.take k).all (M.rsk A B dual) && M.rsk A B dual d)) := Lib.hid (by rw [List.take_add_one, hx2.out, List.all_append]; simp)
      have hpk : Hid (M.rs0 A B dual d = (M.rsn A B dual d == 0)) := Lib.hid rfl
      have hfl := List.length_filter_le (M.rs0 A B dual) (L.take k)
      have hfl2 : (L.take k).length ≤ L.length := by rw [List.length_take]; omega
      have hmem := Lib.hid hmem
      have hx2 := Lib.hid hx2.out
      clear hcell2
      generalize hr : M.rsn A B dual d = r at *
      cases ht : M.rsk A B dual d
      · simp only [ht] at P1
        have P1 := Lib.hid P1
        have hf : Hid (L.all (M.rsk A B dual) = false) := Lib.hid (by
          rw [List.all_eq_false]
          exact ⟨d, hmem.out, by rw [ht]; simp⟩)
        clear hr ht
        go_wp2_with (go_at_call 55; (with_reducible refine (P1.out _).mono ?_); rintro e w5 ⟨rfl, hb5⟩)
        go_ret2
        exact ⟨.slice none 0 0, by rw [hf.out] <;> rfl, by rw [hf.out, M.opt_f]; exact OwnI.nil _ _, hb0.trans ((hbr.trans (hb5.mono z2)).mono z1)⟩
      · simp only [ht] at P1
        have P1 := Lib.hid P1
        clear hr
        have ht := Lib.hid ht
        by_cases h0 : r = 0
        · subst h0
          go_wp2_with (first
            | (go_at_call 55; (with_reducible refine (P1.out _).mono ?_); rintro e w5 ⟨rfl, hb5⟩; (have hown5 := hown.below hb5); (have q5 := hb5.size))
            | (at_builtin; refine push_int (W := w1) w1.heap.size d _ _ rfl (.tmp 30) (.tmp 32) rfl rfl rfl hown5 (hbr.trans (hb5.mono z2)) (by omega) (by omega) ?_; rintro v6 w6 hown6 hb6))
          go_roundw
          case rel => exact ⟨k + 1, by omega, by go_num, by rw [hst.out, hpk.out]; exact hown6, by rw [hst2.out, htd.out, ht.out]; rfl, hb6⟩
          case measure => simp [intOf]; omega
        · go_wp2_with (first
            | (go_at_call 55; (with_reducible refine (P1.out _).mono ?_); rintro e w5 ⟨rfl, hb5⟩; (have hown5 := hown.below hb5); (have q5 := hb5.size)))
          go_roundw
          case rel => exact ⟨k + 1, by omega, by go_num, by rw [hst.out, hpk.out]; simpa [h0] using hown5, by rw [hst2.out, htd.out, ht.out]; rfl, hbr.trans (hb5.mono z2)⟩
          case measure => simp [intOf]; omega
    · obtain rfl : k = L.length := by omega
      have hf : Hid (L.all (M.rsk A B dual) = true) := Lib.hid (by rw [← htd.out, List.take_length])
      rw [List.take_length] at hown
      go_wp2
      go_ret2
      exact ⟨_, by rw [hf.out] <;> rfl, by rw [hf.out, M.opt_t]; exact hown.base z1, hb0.trans (hbr.mono z1)⟩
set_option maxRecDepth 100000 in
set_option maxHeartbeats 2000000 in
theorem dsFound_c (A B : Int) (dual : Bool) (n : Nat) (w : World) (h : M.tc A B) (hn : n ≤ 60) :
    Calls Tryz.prog 68 #[.agg #[.int .i64 A, .int .i64 B], .bool dual, .int .i64 n] w fun e w' => ∃ v, e = .returned v ∧ OwnI w' w.heap.size v (M.fnd A B dual n) ∧ Below w.heap.size w w' := by
  have PD := fun W => dsDivisors_c A B dual W h
  have PQ := fun d (hd : d ∈ M.dvs (M.sB A B dual)) W => dsQuartic_c A B d dual W h hd
  have PP := fun d (hd : d ∈ M.dvs (M.sB A B dual)) W => seOnQuartic_c d (M.sA A dual) (M.dC A B dual d) n W (by obtain ⟨⟨q1, q2, q3⟩, -⟩ := (h.dsc hd).1; exact ⟨q1, ⟨by omega, by omega⟩, q3⟩) hn
  have hlen := M.dvs_side_len h dual
  unfold M.fnd
  have PD := Lib.hid PD
  have PQ := Lib.hid PQ
  have PP := Lib.hid PP
  generalize M.dvs (M.sB A B dual) = L at *
  have bx := Box.new w A B 25
  go_enter Tryz.func68, Tryz.ntmps68
  go_wp2_with (go_at_call 51; (with_reducible refine (PD.out _).mono ?_); rintro e w1 ⟨v1, rfl, hown1, hb1⟩; obtain ⟨a, cap, rfl, hm, hv⟩ := hown1.view)
  have hb0 : Below w.heap.size w w1 := (by repeat (first | exact Below.refl _ _ | refine below_alloc ?_ _ | refine below_step ?_ (by assumption) | refine Below.drew ?_ | refine Below.setCell ?_ (by first | exact Nat.le_refl _ | exact Nat.le_add_right _ _ | (simp <;> omega)) _ | refine below_drewN ?_ _))
  replace bx := bx.keep hb1
  have hv := Lib.hid hv
  have z1 := hb0.size
  have bx := Lib.hid bx
  clear hm hown1 hb1
  go_loopw [7, 9, 14] (fun vo _ vi wr => ∃ k : Nat, k ≤ L.length ∧ vi = .int .i64 k ∧ OwnI wr w1.heap.size vo ((L.take k).filter (M.hpt A B dual n)) ∧ Below w1.heap.size w1 wr) (fun _ _ vi _ => L.length - (intOf vi).toNat)
  case atStart => exact ⟨0, by omega, rfl, OwnI.nil _ _, Below.refl _ _⟩
  case round =>
    obtain ⟨k, hk, rfl, hown, hbr⟩ := hrel
    have z2 := hbr.size
    by_cases hlt : k < L.length
    · obtain ⟨g2, d, rfl, hg2, hx2, hcell2⟩ := hv.out k hlt
      have hmem := List.mem_of_getElem? hx2.out
      have P1 := Lib.hid fun W => PQ.out d hmem W
      have P2 := fun W => PP.out d hmem W
      have hcell3 := keepCell hbr hcell2
      obtain ⟨c0, c1, f0, f1, sz⟩ := bx.out.keep hbr
      have hst := Lib.hid (M.filt_next (M.hpt A B dual n) L hx2.out)
      have hpk : Hid (M.hpt A B dual n d = M.pts d (M.sA A dual) (M.dC A B dual d) n) := Lib.hid rfl
      have hfl := List.length_filter_le (M.hpt A B dual n) (L.take k)
      have hfl2 : (L.take k).length ≤ L.length := by rw [List.length_take]; omega
      have hx2 := Lib.hid hx2.out
      clear hcell2 hmem
      generalize M.pts d (M.sA A dual) (M.dC A B dual d) n = b at *
      have P2 := Lib.hid P2
      go_wp2_with (first
        | (go_at_call 57; (with_reducible refine (P1.out _).mono ?_); rintro e w4 ⟨rfl, hb4⟩)
        | (go_at_call 107; (with_reducible refine (P2.out _).mono ?_); rintro e w5 ⟨v5, rfl, ⟨a5, m5, cap5, rfl, hm5, hd5⟩, hb5⟩; (have hb45 := hb4.trans (hb5.mono hb4.size)); (have hown5 := hown.below hb45); (have q5 := hb45.size); (have hd5 := Lib.hid hd5); by_cases h5 : 0 < m5)
        | (at_builtin; refine push_int (W := w1) w1.heap.size d _ _ rfl (.tmp 26) (.tmp 28) rfl rfl rfl hown5 (hbr.trans (hb45.mono z2)) (by omega) (by omega) ?_; rintro v6 w6 hown6 hb6))
      · go_roundw
        case rel => exact ⟨k + 1, by omega, by go_num, by rw [hst.out, hpk.out, ← hd5.out]; simpa [h5] using hown6, hb6⟩
        case measure => simp [intOf]; omega
      · go_roundw
        case rel => exact ⟨k + 1, by omega, by go_num, by rw [hst.out, hpk.out, ← hd5.out]; simpa [h5] using hown5, hbr.trans (hb45.mono z2)⟩
        case measure => simp [intOf]; omega
    · obtain rfl : k = L.length := by omega
      rw [List.take_length] at hown
      go_wp2
      go_ret
      exact ⟨_, rfl, hown.base z1, hb0.trans (hbr.mono z1)⟩
end Go.Proofs.YtgkjmjlkhnfbiaaGreat

namespace Go.Proofs.YtgkjmjlkhnfbiaaGreat
set_option linter.unusedSimpArgs false
set_option linter.unusedVariables false
open Go.RowKit
namespace M
theorem prime_factor : ∀ n : Nat, 2 ≤ n → ∃ p : Int, Prime p ∧ (n : Int) % p = 0 := by
  intro n
  induction n using Nat.strongRecOn with
  | _ n ih =>
    intro hn
    by_cases hp : Prime (n : Int)
    · exact ⟨n, hp, Int.emod_self⟩
    · have : ∃ d : Int, 2 ≤ d ∧ d * d ≤ n ∧ (n : Int) % d = 0 := by
        refine Classical.byContradiction fun hno => hp ⟨by omega, fun d h1 h2 h3 => hno ⟨d, h1, h2, h3⟩⟩
      obtain ⟨d, h1, h2, h3⟩ := this
      have hlt : d < n := by
        have := Int.mul_le_mul_of_nonneg_left h1 (show (0 : Int) ≤ d by omega)
        omega
      obtain ⟨p, hp, hz⟩ := ih d.toNat (by omega) (by omega)
      rw [Int.toNat_of_nonneg (by omega)] at hz
      exact ⟨p, hp, Int.emod_eq_zero_of_dvd (Int.dvd_trans (Int.dvd_of_emod_eq_zero hz) (Int.dvd_of_emod_eq_zero h3))⟩
theorem prime_factor_int {s : Int} (h0 : s ≠ 0) (h1 : s ≠ 1) (h2 : s ≠ -1) : ∃ p : Int, Prime p ∧ s % p = 0 := by
  obtain ⟨p, hp, hz⟩ := prime_factor s.natAbs (by omega)
  exact ⟨p, hp, Int.emod_eq_zero_of_dvd (Int.dvd_natAbs.1 (Int.dvd_of_emod_eq_zero hz))⟩
/-- no prime's square divides -/
def nosq (x : Int) : Prop := ∀ q : Int, Prime q → ¬ x % (q * q) = 0
/-- equal but for squares -/
def rel (a b : Int) : Prop := ∃ s t : Int, s ≠ 0 ∧ t ≠ 0 ∧ a * (s * s) = b * (t * t)
theorem rel.refl (a : Int) : rel a a := ⟨1, 1, by decide, by decide, rfl⟩
theorem rel.symm {a b : Int} (h : rel a b) : rel b a := by
  obtain ⟨s, t, h1, h2, h3⟩ := h
  exact ⟨t, s, h2, h1, h3.symm⟩
theorem rel.trans {a b c : Int} (h : rel a b) (h' : rel b c) : rel a c := by
  obtain ⟨s, t, h1, h2, h3⟩ := h
  obtain ⟨u, v, h4, h5, h6⟩ := h'
  refine ⟨s * u, v * t, Int.mul_ne_zero h1 h4, Int.mul_ne_zero h5 h2, ?_⟩
  grind
theorem rel.mul {a b c d : Int} (h : rel a b) (h' : rel c d) : rel (a * c) (b * d) := by
  obtain ⟨s, t, h1, h2, h3⟩ := h
  obtain ⟨u, v, h4, h5, h6⟩ := h'
  refine ⟨s * u, t * v, Int.mul_ne_zero h1 h4, Int.mul_ne_zero h2 h5, ?_⟩
  grind
theorem rel.sq {a : Int} (c : Int) (ha : a ≠ 0) : rel (a * (a * c)) c := ⟨1, a, by decide, ha, by grind⟩
theorem prime_dvd_sq {p t : Int} (hp : Prime p) (h : ¬ t % p = 0) {y : Int} (hy : y * (t * t) % (p * p) = 0) : y % (p * p) = 0 := by
  have hp2 := hp.1
  have hpp : p ≠ 0 := by omega
  obtain ⟨c, hc⟩ := Int.dvd_of_emod_eq_zero hy
  have h1 : y % p = 0 := by
    have : (t * t) * y % p = 0 := Int.emod_eq_zero_of_dvd ⟨p * c, by grind⟩
    refine prime_mul hp this fun hz => h ?_
    by_cases hq : t % p = 0
    · exact hq
    · exact prime_mul hp hz hq
  obtain ⟨z, rfl⟩ := Int.dvd_of_emod_eq_zero h1
  have hc' : z * (t * t) = p * c := Int.eq_of_mul_eq_mul_left hpp (by grind)
  have h2 : z % p = 0 := by
    have : (t * t) * z % p = 0 := Int.emod_eq_zero_of_dvd ⟨c, by grind⟩
    refine prime_mul hp this fun hz => h ?_
    by_cases hq : t % p = 0
    · exact hq
    · exact prime_mul hp hz hq
  obtain ⟨u, rfl⟩ := Int.dvd_of_emod_eq_zero h2
  exact Int.emod_eq_zero_of_dvd ⟨u, by grind⟩
theorem nosq_uniq : ∀ (n : Nat) (x y s t : Int), s.natAbs + t.natAbs ≤ n → nosq x → nosq y → s ≠ 0 → t ≠ 0 → x * (s * s) = y * (t * t) → x = y := by
  intro n
  induction n with
  | zero => intro x y s t h _ _ hs _ _; omega
  | succ n ih =>
    intro x y s t hn hx hy hs ht he
    by_cases h1 : s = 1 ∨ s = -1
    · by_cases h2 : t = 1 ∨ t = -1
      · have e1 : s * s = 1 := by rcases h1 with rfl | rfl <;> rfl
        have e2 : t * t = 1 := by rcases h2 with rfl | rfl <;> rfl
        rw [e1, e2] at he
        omega
      · obtain ⟨p, hp, hz⟩ := prime_factor_int ht (fun h => h2 (Or.inl h)) (fun h => h2 (Or.inr h))
        obtain ⟨u, rfl⟩ := Int.dvd_of_emod_eq_zero hz
        have e1 : s * s = 1 := by rcases h1 with rfl | rfl <;> rfl
        exact absurd (Int.emod_eq_zero_of_dvd ⟨y * (u * u), by rw [e1] at he; grind⟩) (hx p hp)
    · obtain ⟨p, hp, hz⟩ := prime_factor_int hs (fun h => h1 (Or.inl h)) (fun h => h1 (Or.inr h))
      have hp2 := hp.1
      obtain ⟨u, rfl⟩ := Int.dvd_of_emod_eq_zero hz
      by_cases hq : t % p = 0
      · obtain ⟨v, rfl⟩ := Int.dvd_of_emod_eq_zero hq
        have hu : u ≠ 0 := fun h => hs (by rw [h]; simp)
        have hv : v ≠ 0 := fun h => ht (by rw [h]; simp)
        refine ih x y u v ?_ hx hy hu hv (Int.eq_of_mul_eq_mul_left (show p * p ≠ 0 from Int.mul_ne_zero (by omega) (by omega)) (by grind))
        rw [Int.natAbs_mul, Int.natAbs_mul] at hn
        have a1 : 1 * u.natAbs < p.natAbs * u.natAbs := Nat.mul_lt_mul_of_pos_right (by omega) (by omega)
        have a2 : 1 * v.natAbs < p.natAbs * v.natAbs := Nat.mul_lt_mul_of_pos_right (by omega) (by omega)
        omega
      · exact absurd (prime_dvd_sq hp hq (Int.emod_eq_zero_of_dvd ⟨x * (u * u), by grind⟩)) (hy p hp)
theorem rel.eq {x y : Int} (h : rel x y) (hx : nosq x) (hy : nosq y) : x = y := by
  obtain ⟨s, t, h1, h2, h3⟩ := h
  exact nosq_uniq _ x y s t (Nat.le_refl _) hx hy h1 h2 h3
/-- the product of two classes -/
def prd (d e : Int) : Int := d / gcd d e * (e / gcd d e)
theorem gcd_pos {d e : Int} (h : d ≠ 0) : 1 ≤ gcd d e := by
  have : Int.gcd d e ≠ 0 := fun h' => h (Int.gcd_eq_zero_iff.1 h').1
  unfold gcd
  omega
theorem prd_rel {d e : Int} (hd : d ≠ 0) : rel (prd d e) (d * e) := by
  have hg := gcd_pos (e := e) hd
  obtain ⟨a, ha⟩ : gcd d e ∣ d := Int.gcd_dvd_left ..
  obtain ⟨b, hb⟩ : gcd d e ∣ e := Int.gcd_dvd_right ..
  refine ⟨gcd d e, 1, by omega, by decide, ?_⟩
  unfold prd
  generalize gcd d e = g at *
  rw [ha, hb, Int.mul_ediv_cancel_left a (by omega), Int.mul_ediv_cancel_left b (by omega)]
  grind
theorem prd_nz {d e : Int} (hd : d ≠ 0) (he : e ≠ 0) : prd d e ≠ 0 := by
  obtain ⟨s, t, h1, h2, h3⟩ := prd_rel (e := e) hd
  intro h
  rw [h, Int.zero_mul] at h3
  exact (Int.mul_ne_zero (Int.mul_ne_zero hd he) (Int.mul_ne_zero h2 h2)) h3.symm
theorem nosq_div {x g a : Int} (h : nosq x) (he : x = g * a) : nosq a := fun q hq hz => h q hq (Int.emod_eq_zero_of_dvd (Int.dvd_trans (Int.dvd_of_emod_eq_zero hz) ⟨g, by rw [he, Int.mul_comm]⟩))
theorem prd_nosq {d e : Int} (hd : d ≠ 0) (h1 : nosq d) (h2 : nosq e) : nosq (prd d e) := by
  have hg := gcd_pos (e := e) hd
  obtain ⟨a, ha⟩ : gcd d e ∣ d := Int.gcd_dvd_left ..
  obtain ⟨b, hb⟩ : gcd d e ∣ e := Int.gcd_dvd_right ..
  have hcop : ∀ q : Int, Prime q → a % q = 0 → ¬ b % q = 0 := fun q hq ha' hb' => by
    obtain ⟨a', rfl⟩ := Int.dvd_of_emod_eq_zero ha'
    obtain ⟨b', rfl⟩ := Int.dvd_of_emod_eq_zero hb'
    have h3 : gcd d e * q ∣ (Int.gcd d e : Int) := Int.dvd_coe_gcd ⟨a', by rw [Int.mul_assoc]; exact ha⟩ ⟨b', by rw [Int.mul_assoc]; exact hb⟩
    have h4 := Int.le_of_dvd (by unfold gcd at hg; omega) h3
    have h5 : gcd d e * 2 ≤ gcd d e * q := Int.mul_le_mul_of_nonneg_left hq.1 (by omega)
    have h6 : (Int.gcd d e : Int) = gcd d e := rfl
    omega
  unfold prd
  rw [show d / gcd d e = a from by rw [show d / gcd d e = gcd d e * a / gcd d e from by rw [← ha]]; exact Int.mul_ediv_cancel_left a (by omega),
    show e / gcd d e = b from by rw [show e / gcd d e = gcd d e * b / gcd d e from by rw [← hb]]; exact Int.mul_ediv_cancel_left b (by omega)]
  have ha2 := nosq_div h1 ha
  have hb2 := nosq_div h2 hb
  intro q hq hz
  have hq2 := hq.1
  obtain ⟨c, hc⟩ := Int.dvd_of_emod_eq_zero hz
  by_cases hqa : a % q = 0
  · have hqb := hcop q hq hqa
    obtain ⟨a', rfl⟩ := Int.dvd_of_emod_eq_zero hqa
    have h3 : a' * b = q * c := Int.eq_of_mul_eq_mul_left (show q ≠ 0 by omega) (by grind)
    have h4 : a' % q = 0 := prime_mul hq (x := b) (by rw [Int.mul_comm, h3]; exact Int.mul_emod_right q c) hqb
    obtain ⟨u, rfl⟩ := Int.dvd_of_emod_eq_zero h4
    exact ha2 q hq (Int.emod_eq_zero_of_dvd ⟨u, by grind⟩)
  · have h4 : b % q = 0 := prime_mul hq (x := a) (by rw [hc]; exact Int.emod_eq_zero_of_dvd ⟨q * c, by grind⟩) hqa
    obtain ⟨b', rfl⟩ := Int.dvd_of_emod_eq_zero h4
    have h3 : a * b' = q * c := Int.eq_of_mul_eq_mul_left (show q ≠ 0 by omega) (by grind)
    have h5 : b' % q = 0 := prime_mul hq (x := a) (by rw [h3]; exact Int.mul_emod_right q c) hqa
    obtain ⟨u, rfl⟩ := Int.dvd_of_emod_eq_zero h5
    exact hb2 q hq (Int.emod_eq_zero_of_dvd ⟨u, by grind⟩)
end M
end Go.Proofs.YtgkjmjlkhnfbiaaGreat

namespace Go.Proofs.YtgkjmjlkhnfbiaaGreat
set_option linter.unusedSimpArgs false
set_option linter.unusedVariables false
open Go.RowKit
namespace M
theorem nosq_unit {x : Int} (h : x = 1 ∨ x = -1) : nosq x := fun q hq hz => by
  have hq2 := hq.1
  have h4 : 2 * 2 ≤ q * q := Int.mul_le_mul hq2 hq2 (by decide) (by omega)
  have hd := Int.dvd_of_emod_eq_zero hz
  have h1 : q * q ∣ 1 := by rcases h with rfl | rfl; exact hd; exact Int.dvd_neg.1 hd
  have := Int.le_of_dvd (by decide) h1
  omega
theorem nosq_mul {x p : Int} (hp : Prime p) (hx : nosq x) (h : ¬ x % p = 0) : nosq (x * p) := fun q hq hz => by
  have hq2 := hq.1
  have hp2 := hp.1
  obtain ⟨c, hc⟩ := Int.dvd_of_emod_eq_zero hz
  by_cases hqp : p % q = 0
  · obtain rfl := prime_div hp hq2 hqp
    have h1 : x = q * c := Int.eq_of_mul_eq_mul_left (show q ≠ 0 by omega) (by grind)
    exact h (Int.emod_eq_zero_of_dvd ⟨c, h1⟩)
  · have h1 : x % q = 0 := prime_mul hq (x := p) (by rw [Int.mul_comm, hc]; exact Int.emod_eq_zero_of_dvd ⟨q * c, by grind⟩) hqp
    obtain ⟨x', rfl⟩ := Int.dvd_of_emod_eq_zero h1
    have h2 : p * x' = q * c := Int.eq_of_mul_eq_mul_left (show q ≠ 0 by omega) (by grind)
    have h3 : x' % q = 0 := prime_mul hq (x := p) (by rw [h2]; exact Int.mul_emod_right q c) hqp
    obtain ⟨u, rfl⟩ := Int.dvd_of_emod_eq_zero h3
    exact hx q hq (Int.emod_eq_zero_of_dvd ⟨u, by grind⟩)
/-- the squarefree part, on the way -/
structure SInv (n : Int) (done : List Int) (out : Int) : Prop where
  dvd : out ∣ n
  nz : out ≠ 0
  ns : nosq out
  cop : ∀ q, Prime q → q ∉ done → ¬ out % q = 0
theorem SInv.start {n : Int} : SInv n [] (sgn1 n) := by
  have h : sgn1 n = 1 ∨ sgn1 n = -1 := by unfold sgn1; split <;> simp
  refine ⟨?_, by omega, nosq_unit h, fun q hq _ hz => ?_⟩
  · rcases h with h | h <;> rw [h]
    · exact Int.one_dvd n
    · exact ⟨-n, by omega⟩
  · have hq2 := hq.1
    have hd := Int.dvd_of_emod_eq_zero hz
    have := Int.le_of_dvd (a := q) (b := 1) (by omega) (by rcases h with h | h <;> rw [h] at hd; exact hd; exact (Int.dvd_neg.1 hd))
    omega
theorem SInv.step {n p : Int} {done : List Int} {out : Int} (hn : n ≠ 0) (hb : n.natAbs ≤ 1000000000000000000) (h : SInv n done out) (hp : Prime p) (hpn : n % p = 0) (hpd : p ∉ done) : SInv n (done ++ [p]) (sfStep n out p) := by
  have hcp := h.cop p hp hpd
  by_cases ho : valn n p % 2 = 1
  · obtain ⟨c, hc⟩ := h.dvd
    have h1 : c % p = 0 := prime_mul hp (x := out) (by rw [← hc]; exact hpn) hcp
    obtain ⟨e, he⟩ := Int.dvd_of_emod_eq_zero h1
    have hd : out * p ∣ n := ⟨e, by rw [hc, he, Int.mul_assoc]⟩
    have hle := Nat.le_of_dvd (by omega) (Int.natAbs_dvd_natAbs.2 hd)
    have hw : wrap64 (out * p) = out * p := by unfold wrap64; omega
    rw [sfStep_odd ho, hw]
    refine ⟨hd, Int.mul_ne_zero h.nz (by have := hp.1; omega), nosq_mul hp h.ns hcp, fun q hq hqd hz => ?_⟩
    rw [List.mem_append, List.mem_singleton, not_or] at hqd
    have h1 := prime_mul hq hz (h.cop q hq hqd.1)
    exact hqd.2 (prime_div hp hq.1 h1)
  · rw [sfStep_even ho]
    refine ⟨h.dvd, h.nz, h.ns, fun q hq hqd => h.cop q hq fun hm => hqd (List.mem_append.2 (Or.inl hm))⟩
theorem sqfree_inv {n : Int} (hn : n ≠ 0) (hb : n.natAbs ≤ 1000000000000000000) : ∀ k, k ≤ (primesOf n).length → SInv n ((primesOf n).take k) (((primesOf n).take k).foldl (sfStep n) (sgn1 n))
  | 0, _ => SInv.start
  | k + 1, hk => by
    have ih := sqfree_inv hn hb k (by omega)
    have hx : (primesOf n)[k]? = some (primesOf n)[k] := List.getElem?_eq_getElem (by omega)
    obtain ⟨hi, hl⟩ := primes_ok n
    have hp := hl _ (List.mem_of_getElem? hx)
    rw [foldl_next _ _ hx, take_next hx]
    refine ih.step hn hb hp.1 hp.2 fun hm => ?_
    obtain ⟨j, hj, he⟩ := List.getElem_of_mem hm
    rw [List.length_take] at hj
    rw [List.getElem_take] at he
    have := List.pairwise_iff_getElem.1 hi j k (by omega) (by omega) (by omega)
    omega
theorem sqfree_ok {n : Int} (hn : n ≠ 0) (hb : n.natAbs ≤ 1000000000000000000) : nosq (sqfree n) ∧ sqfree n ≠ 0 ∧ sqfree n ∣ n := by
  have h := sqfree_inv hn hb _ (Nat.le_refl _)
  rw [List.take_length] at h
  exact ⟨h.ns, h.nz, h.dvd⟩
theorem dcat_nosq {b : Int} (hb : b ≠ 0) : ∀ k, k ≤ (primesOf b).length → ∀ x ∈ dcat ((primesOf b).take k), nosq x
  | 0, _, x, hx => nosq_unit (by simp [dcat] at hx; omega)
  | k + 1, hk, x, hx => by
    have ih := dcat_nosq hb k (by omega)
    have hd := dcat_k hb (k := k) (by omega)
    have hx' : (primesOf b)[k]? = some (primesOf b)[k] := List.getElem?_eq_getElem (by omega)
    obtain ⟨hi, hl⟩ := primes_ok b
    have hp := hl _ (List.mem_of_getElem? hx')
    rw [dcat_next hx'] at hx
    rcases List.mem_append.1 hx with q | q
    · exact ih x q
    · obtain ⟨z, hz, rfl⟩ := List.mem_map.1 q
      refine nosq_mul hp.1 (ih z hz) (hd.cop z hz _ hp.1 fun hm => ?_)
      obtain ⟨j, hj, he⟩ := List.getElem_of_mem hm
      rw [List.length_take] at hj
      rw [List.getElem_take] at he
      have := List.pairwise_iff_getElem.1 hi j k (by omega) (by omega) (by omega)
      omega
theorem dvs_nosq {b x : Int} (hb : b ≠ 0) (h : x ∈ dvs b) : nosq x := by
  rw [← dvs_srt hb, (srt_perm _).mem_iff] at h
  exact dcat_nosq hb (primesOf b).length (Nat.le_refl _) x (by rw [List.take_length]; exact h)
/-- whether a number is a class -/
noncomputable def isCl (x : Int) : Bool := decide (x ≠ 0) && (decide (-1000000 ≤ x) && decide (x ≤ 1000000)) && decide (sqfree x = x)
theorem isCl_iff {x : Int} : isCl x = true ↔ (x ≠ 0 ∧ -1000000 ≤ x ∧ x ≤ 1000000) ∧ sqfree x = x := by
  unfold isCl
  rw [Bool.and_eq_true, Bool.and_eq_true, Bool.and_eq_true, decide_eq_true_eq, decide_eq_true_eq, decide_eq_true_eq, decide_eq_true_eq]
theorem isCl_ns {x : Int} (h : isCl x = true) : nosq x := by
  obtain ⟨⟨h0, h1, h2⟩, h3⟩ := isCl_iff.1 h
  have := (sqfree_ok h0 (by omega)).1
  rwa [h3] at this
theorem isCl_nz {x : Int} (h : isCl x = true) : x ≠ 0 := (isCl_iff.1 h).1.1
theorem isCl_one : isCl 1 = true := isCl_iff.2 ⟨by decide, by rw [sqfree_small (by decide)]; rfl⟩
/-- a group of classes -/
structure Gp (acc : List Int) : Prop where
  one : 1 ∈ acc
  nodup : acc.Nodup
  cl : ∀ x ∈ acc, isCl x = true
  closed : ∀ x ∈ acc, ∀ y ∈ acc, prd x y ∈ acc
  len : acc.length ≤ 64
theorem Gp.start : Gp [1] where
  one := by simp
  nodup := by simp
  cl := fun x hx => by simp only [List.mem_singleton] at hx; rw [hx]; exact isCl_one
  closed := fun x hx y hy => by
    simp only [List.mem_singleton] at hx hy
    rw [hx, hy]
    simp [prd, gcd]
  len := by simp
theorem prd_inj {d e e' : Int} (hd : d ≠ 0) (he : nosq e) (he' : nosq e') (h : prd d e = prd d e') : e = e' := by
  have h1 : rel (d * e) (d * e') := (prd_rel hd).symm.trans (by rw [h]; exact prd_rel hd)
  have h2 := (rel.refl d).mul h1
  exact ((rel.sq e hd).symm.trans (h2.trans (rel.sq e' hd))).eq he he'
theorem Gp.grow {acc : List Int} {d : Int} (h : Gp acc) (hd : d ≠ 0) (hns : nosq d) (hn : d ∉ acc) (hcl : ∀ e ∈ acc, isCl (prd d e) = true) (hl : acc.length ≤ 32) : Gp (acc ++ acc.map (prd d)) := by
  have ns := fun x hx => isCl_ns (h.cl x hx)
  have nz := fun x hx => isCl_nz (h.cl x hx)
  refine ⟨List.mem_append.2 (Or.inl h.one), ?_, ?_, ?_, by rw [List.length_append, List.length_map]; omega⟩
  · rw [List.nodup_append]
    refine ⟨h.nodup, ?_, ?_⟩
    · unfold List.Nodup
      rw [List.pairwise_map]
      exact List.Pairwise.imp_of_mem (fun ha hb hne he => hne (prd_inj hd (ns _ ha) (ns _ hb) he)) h.nodup
    · intro x hx y hy he
      obtain ⟨e, he', rfl⟩ := List.mem_map.1 hy
      subst he
      refine hn ?_
      have h1 := h.closed _ hx e he'
      have e1 : prd (prd d e) e = d := by
        refine rel.eq ?_ (ns _ h1) hns
        refine (prd_rel (nz _ hx)).trans ((((prd_rel hd).mul (rel.refl e))).trans ?_)
        have := rel.sq d (nz e he')
        rwa [show d * e * e = e * (e * d) by grind]
      rwa [e1] at h1
  · intro x hx
    rcases List.mem_append.1 hx with q | q
    · exact h.cl x q
    · obtain ⟨e, he, rfl⟩ := List.mem_map.1 q
      exact hcl e he
  · have nzm := fun e he => isCl_nz (hcl e he)
    have nsm := fun e he => isCl_ns (hcl e he)
    intro x hx y hy
    rw [List.mem_append] at hx hy ⊢
    rcases hx with q | q <;> rcases hy with r | r
    · exact Or.inl (h.closed x q y r)
    · obtain ⟨e, he, rfl⟩ := List.mem_map.1 r
      have hm := h.closed x q e he
      refine Or.inr (List.mem_map.2 ⟨prd x e, hm, ?_⟩)
      refine rel.eq ?_ (nsm _ hm) (prd_nosq (nz x q) (ns x q) (nsm e he))
      refine (prd_rel hd).trans (((rel.refl d).mul (prd_rel (nz x q))).trans ?_)
      rw [show d * (x * e) = x * (d * e) by grind]
      exact ((prd_rel (nz x q)).trans ((rel.refl x).mul (prd_rel hd))).symm
    · obtain ⟨e, he, rfl⟩ := List.mem_map.1 q
      have hm := h.closed e he y r
      refine Or.inr (List.mem_map.2 ⟨prd e y, hm, ?_⟩)
      refine rel.eq ?_ (nsm _ hm) (prd_nosq (nzm e he) (nsm e he) (ns y r))
      refine (prd_rel hd).trans (((rel.refl d).mul (prd_rel (nz e he))).trans ?_)
      rw [show d * (e * y) = d * e * y by grind]
      exact ((prd_rel (nzm e he)).trans ((prd_rel hd).mul (rel.refl y))).symm
    · obtain ⟨e, he, rfl⟩ := List.mem_map.1 q
      obtain ⟨f, hf, rfl⟩ := List.mem_map.1 r
      have hm := h.closed e he f hf
      have e1 : prd (prd d e) (prd d f) = prd e f := by
        refine rel.eq ?_ (prd_nosq (nzm e he) (nsm e he) (nsm f hf)) (ns _ hm)
        refine (prd_rel (nzm e he)).trans (((prd_rel hd).mul (prd_rel hd)).trans ?_)
        rw [show d * e * (d * f) = d * (d * (e * f)) by grind]
        exact (rel.sq _ hd).trans (prd_rel (nz e he)).symm
      rw [e1]
      exact Or.inl hm
/-- one more class -/
noncomputable def gst (acc : List Int) (d : Int) : Option (List Int) :=
  if d ∈ acc then some acc else if acc.all (fun e => isCl (prd d e)) && decide (acc.length ≤ 32) then some (acc ++ acc.map (prd d)) else none
noncomputable def gfo (l : List Int) : Option (List Int) := l.foldl (fun o d => o.bind fun acc => gst acc d) (some [1])
noncomputable def gok (l : List Int) : Bool := (gfo l).isSome
noncomputable def grp (l : List Int) : List Int := srt ((gfo l).getD [])
theorem gfo_next {l : List Int} {k : Nat} {d : Int} {acc : List Int} (hx : l[k]? = some d) (h : gfo (l.take k) = some acc) : gfo (l.take (k + 1)) = gst acc d := by
  unfold gfo at *
  rw [take_next hx, List.foldl_append, h]
  rfl
theorem gfo_none (l : List Int) : l.foldl (fun o d => o.bind fun acc => gst acc d) (none : Option (List Int)) = none := by
  induction l with
  | nil => rfl
  | cons x l ih => exact ih
theorem gfo_fail {l : List Int} {k : Nat} (h : gfo (l.take k) = none) : gfo l = none := by
  have e : l = l.take k ++ l.drop k := (List.take_append_drop _ _).symm
  unfold gfo at *
  rw [e, List.foldl_append, h]
  exact gfo_none _
theorem gst_in {acc : List Int} {d : Int} (h : d ∈ acc) : gst acc d = some acc := if_pos h
theorem gst_out {acc : List Int} {d : Int} (h : d ∉ acc) (hc : ∀ e ∈ acc, isCl (prd d e) = true) (hl : acc.length ≤ 32) : gst acc d = some (acc ++ acc.map (prd d)) := by
  unfold gst
  rw [if_neg h, if_pos]
  rw [Bool.and_eq_true, List.all_eq_true, decide_eq_true_eq]
  exact ⟨hc, hl⟩
theorem gst_bad {acc : List Int} {d e : Int} (h : d ∉ acc) (he : e ∈ acc) (hc : isCl (prd d e) = false) : gst acc d = none := by
  unfold gst
  rw [if_neg h, if_neg]
  rw [Bool.and_eq_true, List.all_eq_true]
  intro hz
  have := hz.1 e he
  rw [hc] at this
  cases this
theorem gst_big {acc : List Int} {d : Int} (h : d ∉ acc) (hl : ¬ acc.length ≤ 32) : gst acc d = none := by
  unfold gst
  rw [if_neg h, if_neg]
  rw [Bool.and_eq_true, decide_eq_true_eq]
  exact fun hz => hl hz.2
theorem gfo_gp {l : List Int} (hl : ∀ x ∈ l, x ≠ 0 ∧ nosq x) : ∀ k, k ≤ l.length → ∀ acc, gfo (l.take k) = some acc → Gp acc
  | 0, _, acc, h => by
    obtain rfl := Option.some.inj h
    exact Gp.start
  | k + 1, hk, acc, h => by
    have hx : l[k]? = some l[k] := List.getElem?_eq_getElem (by omega)
    cases hg : gfo (l.take k) with
    | none =>
      have : gfo (l.take (k + 1)) = none := by
        unfold gfo at *
        rw [take_next hx, List.foldl_append, hg]
        rfl
      rw [this] at h
      cases h
    | some a0 =>
      have ih := gfo_gp hl k (by omega) a0 hg
      rw [gfo_next hx hg] at h
      obtain ⟨d0, d1⟩ := hl _ (List.mem_of_getElem? hx)
      unfold gst at h
      split at h
      · obtain rfl := Option.some.inj h
        exact ih
      · rename_i hno
        split at h
        · rename_i hc
          rw [Bool.and_eq_true, List.all_eq_true, decide_eq_true_eq] at hc
          obtain rfl := Option.some.inj h
          exact ih.grow d0 d1 hno hc.1 hc.2
        · cases h
theorem srt_grow {acc : List Int} {d : Int} (hn : (acc ++ acc.map (prd d)).Nodup) : (srt acc).foldl (fun m e => put m (prd d e)) (srt acc) = srt (acc ++ acc.map (prd d)) := by
  have h0 : Inc (srt acc) := srt_inc (List.nodup_append.1 hn).1
  have h1 := inc_fput ((srt acc).map (prd d)) (srt acc) h0
  rw [List.foldl_map] at h1
  refine Inc.ext h1.1 (srt_inc hn) fun x => ?_
  rw [h1.2, (srt_perm _).mem_iff, (srt_perm _).mem_iff, List.mem_append]
  constructor
  · rintro (q | q)
    · exact Or.inl q
    · obtain ⟨e, he, rfl⟩ := List.mem_map.1 q
      exact Or.inr (List.mem_map.2 ⟨e, (srt_perm _).mem_iff.1 he, rfl⟩)
  · rintro (q | q)
    · exact Or.inl q
    · obtain ⟨e, he, rfl⟩ := List.mem_map.1 q
      exact Or.inr (List.mem_map.2 ⟨e, (srt_perm _).mem_iff.2 he, rfl⟩)
end M
end Go.Proofs.YtgkjmjlkhnfbiaaGreat
