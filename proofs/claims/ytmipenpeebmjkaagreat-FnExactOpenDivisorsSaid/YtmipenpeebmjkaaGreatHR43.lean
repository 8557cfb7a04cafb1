/-
  Contracts: OpenCount (printed by genr43.py).
-/
import Derived.Test.YtmipenpeebmjkaaGreatB19
namespace Go.Proofs.YtmipenpeebmjkaaGreat
set_option linter.unusedSimpArgs false
set_option linter.unusedVariables false
open Go.RowKit
namespace M
def ncl (G : List Int) (d : Int) : Bool := !decide (d ∈ G)
noncomputable def oc1 (A B : Int) (dual : Bool) (n : Nat) : Nat := ((slm A B dual).filter (ncl (fg A B dual n))).length
noncomputable def opk (A B : Int) (dual : Bool) (n : Nat) : Bool := slk A B dual && fgk A B dual n
noncomputable def occ (A B : Int) (n : Nat) : Nat → Nat
  | 0 => 0
  | 1 => oc1 A B false n
  | _ => oc1 A B false n + oc1 A B true n
noncomputable def opi (A B : Int) (n : Nat) : Nat → Bool
  | 0 => true
  | 1 => opk A B false n
  | _ => opk A B false n && opk A B true n
noncomputable def ocO (A B n : Int) : Bool := (tcb A B && ins n 1 60) && opi A B n.toNat 2
theorem oc1_le {A B : Int} (h : tc A B) (dual : Bool) (n : Nat) : oc1 A B dual n ≤ 200000 :=
  Nat.le_trans (List.length_filter_le _ _) (Nat.le_trans (List.length_filter_le _ _) (dvs_side_len h dual))
theorem oc_step {A B : Int} (h : tc A B) (n i : Nat) (hi : i < 2) (Q : Bool → Nat → Prop) (q0 : Q false 0) (q1 : Q true 1) :
    ∃ dual, Q dual i ∧ occ A B n (i + 1) = occ A B n i + oc1 A B dual n ∧ opi A B n (i + 1) = (opi A B n i && opk A B dual n) ∧ (opk A B dual n = false → opi A B n 2 = false) ∧ occ A B n i ≤ 200000 := by
  obtain rfl | rfl : i = 0 ∨ i = 1 := by omega
  · exact ⟨false, q0, (Nat.zero_add _).symm, rfl, fun h => by show (opk A B false n && opk A B true n) = false; rw [h]; rfl, Nat.zero_le _⟩
  · exact ⟨true, q1, rfl, rfl, fun h => by show (opk A B false n && opk A B true n) = false; rw [h, Bool.and_false], oc1_le h false n⟩
theorem filt_len (f : Int → Bool) (L : List Int) (j : Nat) : ((L.take j).filter f).length ≤ L.length :=
  Nat.le_trans (List.length_filter_le _ _) (by rw [List.length_take]; omega)
end M
set_option maxRecDepth 100000 in
set_option maxHeartbeats 2000000 in
theorem implOpenCount_c (A B n : Int) (w : World) :
    Calls Tryz.prog 11 #[.agg #[.int .i64 A, .int .i64 B], .int .i64 n] w fun e w' => e = .returned (.tuple #[.int .i64 (M.pick (M.ocO A B n) (M.occ A B n.toNat 2 : Nat)), .bool (M.ocO A B n)]) ∧ Below w.heap.size w w' := by
  have PT := fun W => isTwoCurve_c A B W
  unfold M.ocO
  have bx := Box.new w A B 26
  cases h1 : M.tcb A B
  · simp only [h1, Bool.true_and, Bool.false_and, M.pick_f] at PT ⊢
    have PT := Lib.hid PT
    go_enter Tryz.func11, Tryz.ntmps11
    go_wp2_with (first | (go_at_call 29; (with_reducible refine (PT.out _).mono ?_); rintro e w1 ⟨rfl, hb1⟩; (have bx1 := Lib.hid (bx.keep hb1)); (have B1 : Below w.heap.size w w1 := (by repeat (first | exact Below.refl _ _ | refine below_alloc ?_ _ | refine below_step ?_ (by assumption) | refine Below.drew ?_ | refine Below.setCell ?_ (by first | exact Nat.le_refl _ | exact Nat.le_add_right _ _ | (simp <;> omega)) _ | refine below_drewN ?_ _)))) | (go_at_call 30; refine (inside_c _ _ _ _).mono ?_; rintro e w' ⟨rfl, rfl⟩))
    go_ret2
    exact ⟨rfl, B1⟩
  · cases h2 : M.ins n 1 60
    · simp only [h1, h2, Bool.true_and, Bool.false_and, M.pick_f] at PT ⊢
      have PT := Lib.hid PT
      go_enter Tryz.func11, Tryz.ntmps11
      go_wp2_with (first | (go_at_call 29; (with_reducible refine (PT.out _).mono ?_); rintro e w1 ⟨rfl, hb1⟩; (have bx1 := Lib.hid (bx.keep hb1)); (have B1 : Below w.heap.size w w1 := (by repeat (first | exact Below.refl _ _ | refine below_alloc ?_ _ | refine below_step ?_ (by assumption) | refine Below.drew ?_ | refine Below.setCell ?_ (by first | exact Nat.le_refl _ | exact Nat.le_add_right _ _ | (simp <;> omega)) _ | refine below_drewN ?_ _)))) | (go_at_call 30; refine (inside_c _ _ _ _).mono ?_; rintro e w' ⟨rfl, rfl⟩))
      go_ret2
      exact ⟨rfl, B1⟩
    · simp only [h1, h2, Bool.true_and] at PT ⊢
      have ht := Lib.hid (M.tcb_t h1)
      have hk := M.ins_t h2
      have PT := Lib.hid PT
      obtain ⟨N, rfl⟩ : ∃ N : Nat, n = N := ⟨n.toNat, by omega⟩
      have hN : Hid (N ≤ 60) := Lib.hid (by omega)
      simp only [Int.toNat_natCast]
      go_enter Tryz.func11, Tryz.ntmps11
      go_wp2_with (first | (go_at_call 29; (with_reducible refine (PT.out _).mono ?_); rintro e w1 ⟨rfl, hb1⟩; (have bx1 := Lib.hid (bx.keep hb1)); (have B1 : Below w.heap.size w w1 := (by repeat (first | exact Below.refl _ _ | refine below_alloc ?_ _ | refine below_step ?_ (by assumption) | refine Below.drew ?_ | refine Below.setCell ?_ (by first | exact Nat.le_refl _ | exact Nat.le_add_right _ _ | (simp <;> omega)) _ | refine below_drewN ?_ _)))) | (go_at_call 30; refine (inside_c _ _ _ _).mono ?_; rintro e w' ⟨rfl, rfl⟩))
      clear bx PT hb1 h1 h2
      go_loopw [6, 8, 9, 10, 11, 12, 14, 25] (fun vc _ _ _ _ _ _ vi wr => ∃ i : Nat, i ≤ 2 ∧ vi = .int .i64 i ∧ vc = .int .i64 (M.occ A B N i : Nat) ∧ M.opi A B N i = true ∧ Hid (Box wr w.heap.size A B) ∧ Hid (wr.cell? ⟨w1.heap.size, 0, none⟩ = some (.bool false) ∧ wr.cell? ⟨w1.heap.size, 1, none⟩ = some (.bool true)) ∧ Below w.heap.size w wr) (fun _ _ _ _ _ _ _ vi _ => 2 - (intOf vi).toNat)
      case atStart => exact ⟨0, by omega, rfl, rfl, rfl, Lib.hid (bx1.out.alloc _), Lib.hid ⟨by rw [World.cell?_alloc_at _ _ _ _ rfl]; rfl, by rw [World.cell?_alloc_at _ _ _ _ rfl]; rfl⟩, B1.alloc B1.size _⟩
      case round =>
        obtain ⟨i, i2, rfl, rfl, hok, bxr, lit, hbr⟩ := hrel
        clear bx1 B1
        have hok := Lib.hid hok
        by_cases hlt : i < 2
        · obtain ⟨dual, hcell, hst, hokn, hfail, hcb⟩ := M.oc_step ht.out N i hlt (fun dual i => wr.cell? ⟨w1.heap.size, i, none⟩ = some (.bool dual)) lit.out.1 lit.out.2
          have P1 := fun W => selmer_c A B dual W ht.out
          have P2 := fun W => foundGroup_c A B dual N W ht.out hN.out
          have hlen : (M.slm A B dual).length ≤ 200000 := Nat.le_trans (List.length_filter_le _ _) (M.dvs_side_len ht.out dual)
          have hop : M.opk A B dual N = (M.slk A B dual && M.fgk A B dual N) := rfl
          have hoc : M.oc1 A B dual N = ((M.slm A B dual).filter (M.ncl (M.fg A B dual N))).length := rfl
          rw [hoc] at hst
          rw [hop] at hokn hfail
          have hst := Lib.hid hst
          have hokn := Lib.hid hokn
          have hfail := Lib.hid hfail
          clear hop hoc
          generalize M.slm A B dual = L at *
          generalize M.fg A B dual N = G at *
          generalize M.slk A B dual = b1 at *
          generalize M.fgk A B dual N = b2 at *
          have c0 := bxr.out.c0
          have c1 := bxr.out.c1
          cases b1
          · have hno := Lib.hid (hfail.out rfl)
            have P1 := Lib.hid P1
            have P2 := Lib.hid P2
            clear hfail hokn hst
            go_wp2_with (first
              | (go_at_call 31; (with_reducible refine (P1.out _).mono ?_); rintro e w2 ⟨v1, rfl, ho1, hb2⟩; (have d0 := keepCell hb2 c0); (have d1 := keepCell hb2 c1); (have B2 := hbr.trans (hb2.mono hbr.size)))
              | (go_at_call 32; (with_reducible refine (P2.out _).mono ?_); rintro e w3 ⟨v2, rfl, ho2, hb3⟩; (have B3 := B2.trans (hb3.mono B2.size))))
            go_ret2
            exact ⟨by rw [hno.out] <;> first | rfl | trivial, B3⟩
          · cases b2
            · have hno := Lib.hid (hfail.out rfl)
              have P1 := Lib.hid P1
              have P2 := Lib.hid P2
              clear hfail hokn hst
              go_wp2_with (first
                | (go_at_call 31; (with_reducible refine (P1.out _).mono ?_); rintro e w2 ⟨v1, rfl, ho1, hb2⟩; (have d0 := keepCell hb2 c0); (have d1 := keepCell hb2 c1); (have B2 := hbr.trans (hb2.mono hbr.size)))
                | (go_at_call 32; (with_reducible refine (P2.out _).mono ?_); rintro e w3 ⟨v2, rfl, ho2, hb3⟩; (have B3 := B2.trans (hb3.mono B2.size))))
              go_ret2
              exact ⟨by rw [hno.out] <;> first | rfl | trivial, B3⟩
            · simp only [M.opt_t] at P1 P2
              have P1 := Lib.hid P1
              have P2 := Lib.hid P2
              go_wp2_with (first
                | (go_at_call 31; (with_reducible refine (P1.out _).mono ?_); rintro e w2 ⟨v1, rfl, ho1, hb2⟩; obtain ⟨a1, cap1, rfl, hm1, hv1⟩ := ho1.view; (have d0 := keepCell hb2 c0); (have d1 := keepCell hb2 c1); (have B2 := hbr.trans (hb2.mono hbr.size)))
                | (go_at_call 32; (with_reducible refine (P2.out _).mono ?_); rintro e w3 ⟨v2, rfl, ho2, hb3⟩; (have B3 := B2.trans (hb3.mono B2.size)); (have ho1' := ho1.below hb3); (have bx3 := Lib.hid ((bxr.out.keep hb2).keep hb3)); (have lit3 := Lib.hid (⟨keepCell hb3 (keepCell hb2 lit.out.1), keepCell hb3 (keepCell hb2 lit.out.2)⟩ : _ ∧ _))))
              obtain ⟨a4, cap4, e4, hm4, hv4⟩ := ho1'.view
              injection e4 with e4 e5 e6
              subst e4
              have hv4 := Lib.hid hv4
              have ho2 := Lib.hid ho2
              have hokn := Lib.hid (hokn.out.trans (by rw [hok.out] <;> first | rfl | trivial))
              clear hv1 hm1 hm4 ho1 ho1' e5 e6 d0 d1 c0 c1 bxr lit hbr hcell hfail
              generalize M.occ A B N i = ci at *
              go_loopw [6, 14, 50] (fun vc _ vj wq => ∃ j : Nat, j ≤ L.length ∧ vj = .int .i64 j ∧ vc = .int .i64 ((ci + ((L.take j).filter (M.ncl G)).length : Nat) : Int) ∧ Below w3.heap.size w3 wq) (fun _ _ vj _ => L.length - (intOf vj).toNat)
              case atStart => exact ⟨0, by omega, rfl, by simp, Below.refl _ _⟩
              case round =>
                obtain ⟨j, hj, rfl, rfl, hbq⟩ := hrel
                by_cases hjt : j < L.length
                · obtain ⟨g5, d, rfl, hg5, hd, hcell5⟩ := hv4.out j hjt
                  have hc5 := keepCell hbq hcell5
                  have hf := M.filt_next (M.ncl G) L hd.out
                  have hfl := M.filt_len (M.ncl G) L j
                  have PX := fun W v h => containsInts_c G v d W w2.heap.size h
                  clear hcell5
                  by_cases hx : d ∈ G
                  · have hnc : M.ncl G d = false := by unfold M.ncl; rw [decide_eq_true hx]; rfl
                    rw [hnc] at hf
                    simp only [Bool.false_eq_true, if_false, List.append_nil] at hf
                    rw [decide_eq_true hx] at PX
                    have PX := Lib.hid PX
                    have hf := Lib.hid hf
                    have hx := Lib.hid hx
                    clear hnc
                    generalize hcj : ((L.take j).filter (M.ncl G)).length = cj at *
                    have hcj := Lib.hid hcj
                    go_wp2_with (go_at_call 33; (with_reducible refine (PX.out _ _ (ho2.out.below hbq)).mono ?_); rintro e w5 ⟨rfl, rfl⟩)
                    go_roundw
                    case rel => exact ⟨j + 1, by omega, by go_num, by first | (rw [hf.out]; done) | (rw [hf.out, hcj.out]; done) | (rw [hf.out]; go_num), hbq⟩
                    case measure => simp [intOf]; omega
                  · have hnc : M.ncl G d = true := by unfold M.ncl; rw [decide_eq_false hx]; rfl
                    rw [hnc] at hf
                    simp only [if_true] at hf
                    rw [decide_eq_false hx] at PX
                    have PX := Lib.hid PX
                    have hf := Lib.hid (show ((L.take (j + 1)).filter (M.ncl G)).length = ((L.take j).filter (M.ncl G)).length + 1 by rw [hf, List.length_append]; rfl)
                    have hx := Lib.hid hx
                    clear hnc
                    generalize hcj : ((L.take j).filter (M.ncl G)).length = cj at *
                    have hcj := Lib.hid hcj
                    go_wp2_with (go_at_call 33; (with_reducible refine (PX.out _ _ (ho2.out.below hbq)).mono ?_); rintro e w5 ⟨rfl, rfl⟩)
                    go_roundw
                    case rel => exact ⟨j + 1, by omega, by go_num, by first | (rw [hf.out]; done) | (rw [hf.out, hcj.out]; done) | (rw [hf.out]; go_num), hbq⟩
                    case measure => simp [intOf]; omega
                · obtain rfl : j = L.length := by omega
                  rw [List.take_length]
                  have hst2 := hst.out
                  generalize hcj : (L.filter (M.ncl G)).length = cj at *
                  have hst3 := Lib.hid hst2
                  clear hst2 hst hcj
                  go_wp2
                  go_roundw
                  case rel => exact ⟨i + 1, by omega, by go_num, by first | (rw [hst3.out]; done) | (rw [hst3.out]; go_num), hokn.out, Lib.hid (bx3.out.keep hbq), Lib.hid ⟨keepCell hbq lit3.out.1, keepCell hbq lit3.out.2⟩, B3.trans (hbq.mono B3.size)⟩
                  case measure => simp [intOf]; omega
        · obtain rfl : i = 2 := by omega
          go_wp2
          go_ret2
          exact ⟨by rw [hok.out] <;> first | rfl | trivial, hbr⟩
set_option maxRecDepth 100000 in
set_option maxHeartbeats 2000000 in
theorem specOpenCount_c (A B n : Int) (w : World) :
    Calls Tryz.prog 9 #[.agg #[.int .i64 A, .int .i64 B], .int .i64 n] w fun e w' => e = .returned (.tuple #[.int .i64 (M.pick (M.ocO A B n) (M.occ A B n.toNat 2 : Nat)), .bool (M.ocO A B n)]) ∧ Below w.heap.size w w' := by
  have PT := fun W => rkAsked_c A B n W
  unfold M.ocO
  have bx := Box.new w A B 26
  cases h1 : (M.tcb A B && M.ins n 1 60)
  · simp only [h1, Bool.true_and, Bool.false_and, M.pick_f] at PT ⊢
    have PT := Lib.hid PT
    go_enter Tryz.func9, Tryz.ntmps9
    go_wp2_with (first | (go_at_call 25; (with_reducible refine (PT.out _).mono ?_); rintro e w1 ⟨rfl, hb1⟩; (have bx1 := Lib.hid (bx.keep hb1)); (have B1 : Below w.heap.size w w1 := (by repeat (first | exact Below.refl _ _ | refine below_alloc ?_ _ | refine below_step ?_ (by assumption) | refine Below.drew ?_ | refine Below.setCell ?_ (by first | exact Nat.le_refl _ | exact Nat.le_add_right _ _ | (simp <;> omega)) _ | refine below_drewN ?_ _)))))
    go_ret2
    exact ⟨rfl, B1⟩
  · simp only [h1, Bool.true_and] at PT ⊢
    rw [Bool.and_eq_true] at h1
    have ht := Lib.hid (M.tcb_t h1.1)
    have hk := M.ins_t h1.2
    clear h1
    have PT := Lib.hid PT
    obtain ⟨N, rfl⟩ : ∃ N : Nat, n = N := ⟨n.toNat, by omega⟩
    have hN : Hid (N ≤ 60) := Lib.hid (by omega)
    simp only [Int.toNat_natCast]
    go_enter Tryz.func9, Tryz.ntmps9
    go_wp2_with (first | (go_at_call 25; (with_reducible refine (PT.out _).mono ?_); rintro e w1 ⟨rfl, hb1⟩; (have bx1 := Lib.hid (bx.keep hb1)); (have B1 : Below w.heap.size w w1 := (by repeat (first | exact Below.refl _ _ | refine below_alloc ?_ _ | refine below_step ?_ (by assumption) | refine Below.drew ?_ | refine Below.setCell ?_ (by first | exact Nat.le_refl _ | exact Nat.le_add_right _ _ | (simp <;> omega)) _ | refine below_drewN ?_ _)))))
    clear bx PT hb1
    go_loopw [6, 8, 9, 10, 11, 12, 14, 21] (fun vc _ _ _ _ _ _ vi wr => ∃ i : Nat, i ≤ 2 ∧ vi = .int .i64 i ∧ vc = .int .i64 (M.occ A B N i : Nat) ∧ M.opi A B N i = true ∧ Hid (Box wr w.heap.size A B) ∧ Hid (wr.cell? ⟨w1.heap.size, 0, none⟩ = some (.bool false) ∧ wr.cell? ⟨w1.heap.size, 1, none⟩ = some (.bool true)) ∧ Below w.heap.size w wr) (fun _ _ _ _ _ _ _ vi _ => 2 - (intOf vi).toNat)
    case atStart => exact ⟨0, by omega, rfl, rfl, rfl, Lib.hid (bx1.out.alloc _), Lib.hid ⟨by rw [World.cell?_alloc_at _ _ _ _ rfl]; rfl, by rw [World.cell?_alloc_at _ _ _ _ rfl]; rfl⟩, B1.alloc B1.size _⟩
    case round =>
      obtain ⟨i, i2, rfl, rfl, hok, bxr, lit, hbr⟩ := hrel
      clear bx1 B1
      have hok := Lib.hid hok
      by_cases hlt : i < 2
      · obtain ⟨dual, hcell, hst, hokn, hfail, hcb⟩ := M.oc_step ht.out N i hlt (fun dual i => wr.cell? ⟨w1.heap.size, i, none⟩ = some (.bool dual)) lit.out.1 lit.out.2
        have P1 := fun W => dsSelmer_c A B dual W ht.out
        have P2 := fun W => rkGroup_c A B dual N W ht.out hN.out
        have hlen : (M.slm A B dual).length ≤ 200000 := Nat.le_trans (List.length_filter_le _ _) (M.dvs_side_len ht.out dual)
        have hop : M.opk A B dual N = (M.slk A B dual && M.fgk A B dual N) := rfl
        have hoc : M.oc1 A B dual N = ((M.slm A B dual).filter (M.ncl (M.fg A B dual N))).length := rfl
        rw [hoc] at hst
        rw [hop] at hokn hfail
        have hst := Lib.hid hst
        have hokn := Lib.hid hokn
        have hfail := Lib.hid hfail
        clear hop hoc
        generalize M.slm A B dual = L at *
        generalize M.fg A B dual N = G at *
        generalize M.slk A B dual = b1 at *
        generalize M.fgk A B dual N = b2 at *
        have c0 := bxr.out.c0
        have c1 := bxr.out.c1
        cases b1
        · have hno := Lib.hid (hfail.out rfl)
          have P1 := Lib.hid P1
          have P2 := Lib.hid P2
          clear hfail hokn hst
          go_wp2_with (first
            | (go_at_call 26; (with_reducible refine (P1.out _).mono ?_); rintro e w2 ⟨v1, rfl, ho1, hb2⟩; (have d0 := keepCell hb2 c0); (have d1 := keepCell hb2 c1); (have B2 := hbr.trans (hb2.mono hbr.size)))
            | (go_at_call 27; (with_reducible refine (P2.out _).mono ?_); rintro e w3 ⟨v2, rfl, ho2, hb3⟩; (have B3 := B2.trans (hb3.mono B2.size))))
          go_ret2
          exact ⟨by rw [hno.out] <;> first | rfl | trivial, B3⟩
        · cases b2
          · have hno := Lib.hid (hfail.out rfl)
            have P1 := Lib.hid P1
            have P2 := Lib.hid P2
            clear hfail hokn hst
            go_wp2_with (first
              | (go_at_call 26; (with_reducible refine (P1.out _).mono ?_); rintro e w2 ⟨v1, rfl, ho1, hb2⟩; (have d0 := keepCell hb2 c0); (have d1 := keepCell hb2 c1); (have B2 := hbr.trans (hb2.mono hbr.size)))
              | (go_at_call 27; (with_reducible refine (P2.out _).mono ?_); rintro e w3 ⟨v2, rfl, ho2, hb3⟩; (have B3 := B2.trans (hb3.mono B2.size))))
            go_ret2
            exact ⟨by rw [hno.out] <;> first | rfl | trivial, B3⟩
          · simp only [M.opt_t] at P1 P2
            have P1 := Lib.hid P1
            have P2 := Lib.hid P2
            go_wp2_with (first
              | (go_at_call 26; (with_reducible refine (P1.out _).mono ?_); rintro e w2 ⟨v1, rfl, ho1, hb2⟩; obtain ⟨a1, cap1, rfl, hm1, hv1⟩ := ho1.view; (have d0 := keepCell hb2 c0); (have d1 := keepCell hb2 c1); (have B2 := hbr.trans (hb2.mono hbr.size)))
              | (go_at_call 27; (with_reducible refine (P2.out _).mono ?_); rintro e w3 ⟨v2, rfl, ho2, hb3⟩; (have B3 := B2.trans (hb3.mono B2.size)); (have ho1' := ho1.below hb3); (have bx3 := Lib.hid ((bxr.out.keep hb2).keep hb3)); (have lit3 := Lib.hid (⟨keepCell hb3 (keepCell hb2 lit.out.1), keepCell hb3 (keepCell hb2 lit.out.2)⟩ : _ ∧ _))))
            obtain ⟨a4, cap4, e4, hm4, hv4⟩ := ho1'.view
            injection e4 with e4 e5 e6
            subst e4
            have hv4 := Lib.hid hv4
            have ho2 := Lib.hid ho2
            have hokn := Lib.hid (hokn.out.trans (by rw [hok.out] <;> first | rfl | trivial))
            clear hv1 hm1 hm4 ho1 ho1' e5 e6 d0 d1 c0 c1 bxr lit hbr hcell hfail
            generalize M.occ A B N i = ci at *
            go_loopw [6, 14, 46] (fun vc _ vj wq => ∃ j : Nat, j ≤ L.length ∧ vj = .int .i64 j ∧ vc = .int .i64 ((ci + ((L.take j).filter (M.ncl G)).length : Nat) : Int) ∧ Below w3.heap.size w3 wq) (fun _ _ vj _ => L.length - (intOf vj).toNat)
            case atStart => exact ⟨0, by omega, rfl, by simp, Below.refl _ _⟩
            case round =>
              obtain ⟨j, hj, rfl, rfl, hbq⟩ := hrel
              by_cases hjt : j < L.length
              · obtain ⟨g5, d, rfl, hg5, hd, hcell5⟩ := hv4.out j hjt
                have hc5 := keepCell hbq hcell5
                have hf := M.filt_next (M.ncl G) L hd.out
                have hfl := M.filt_len (M.ncl G) L j
                have PX := fun W v h => l1Has_c G v d W w2.heap.size h
                clear hcell5
                by_cases hx : d ∈ G
                · have hnc : M.ncl G d = false := by unfold M.ncl; rw [decide_eq_true hx]; rfl
                  rw [hnc] at hf
                  simp only [Bool.false_eq_true, if_false, List.append_nil] at hf
                  rw [decide_eq_true hx] at PX
                  have PX := Lib.hid PX
                  have hf := Lib.hid hf
                  have hx := Lib.hid hx
                  clear hnc
                  generalize hcj : ((L.take j).filter (M.ncl G)).length = cj at *
                  have hcj := Lib.hid hcj
                  go_wp2_with (go_at_call 28; (with_reducible refine (PX.out _ _ (ho2.out.below hbq)).mono ?_); rintro e w5 ⟨rfl, rfl⟩)
                  go_roundw
                  case rel => exact ⟨j + 1, by omega, by go_num, by first | (rw [hf.out]; done) | (rw [hf.out, hcj.out]; done) | (rw [hf.out]; go_num), hbq⟩
                  case measure => simp [intOf]; omega
                · have hnc : M.ncl G d = true := by unfold M.ncl; rw [decide_eq_false hx]; rfl
                  rw [hnc] at hf
                  simp only [if_true] at hf
                  rw [decide_eq_false hx] at PX
                  have PX := Lib.hid PX
                  have hf := Lib.hid (show ((L.take (j + 1)).filter (M.ncl G)).length = ((L.take j).filter (M.ncl G)).length + 1 by rw [hf, List.length_append]; rfl)
                  have hx := Lib.hid hx
                  clear hnc
                  generalize hcj : ((L.take j).filter (M.ncl G)).length = cj at *
                  have hcj := Lib.hid hcj
                  go_wp2_with (go_at_call 28; (with_reducible refine (PX.out _ _ (ho2.out.below hbq)).mono ?_); rintro e w5 ⟨rfl, rfl⟩)
                  go_roundw
                  case rel => exact ⟨j + 1, by omega, by go_num, by first | (rw [hf.out]; done) | (rw [hf.out, hcj.out]; done) | (rw [hf.out]; go_num), hbq⟩
                  case measure => simp [intOf]; omega
              · obtain rfl : j = L.length := by omega
                rw [List.take_length]
                have hst2 := hst.out
                generalize hcj : (L.filter (M.ncl G)).length = cj at *
                have hst3 := Lib.hid hst2
                clear hst2 hst hcj
                go_wp2
                go_roundw
                case rel => exact ⟨i + 1, by omega, by go_num, by first | (rw [hst3.out]; done) | (rw [hst3.out]; go_num), hokn.out, Lib.hid (bx3.out.keep hbq), Lib.hid ⟨keepCell hbq lit3.out.1, keepCell hbq lit3.out.2⟩, B3.trans (hbq.mono B3.size)⟩
                case measure => simp [intOf]; omega
      · obtain rfl : i = 2 := by omega
        go_wp2
        go_ret2
        exact ⟨by rw [hok.out] <;> first | rfl | trivial, hbr⟩
end Go.Proofs.YtmipenpeebmjkaaGreat
