/-
  The walk of the law on curves grouped by their models.
-/
import Derived.Test.YtpemckpnlemkfaaT4
import Derived.Test.YtpemckpnlemkfaaT5
namespace Go.Proofs.Ytpemckpnlemkfaa
set_option linter.unusedSimpArgs false
set_option linter.unusedVariables false
open Go.RowKit Go.Shelf

theorem OwnV.keptR {w w' : World} {base : Nat} {r : Option Nat} {v : Value} {vs : List Value} {rows : List (List Int)} (h : OwnV w base v vs rows) (hg : w.grownBy w' r) (hlt : ∀ k, r = some k → k < base) : OwnV w' base v vs rows := by
  obtain ⟨h1, h2, h3, h4⟩ := h
  refine ⟨World.ownsRow.kept h1 hg ?_, h2, fun i u q hu hq => (h3 i u q hu hq).kept hg (fun k hk hu' => ?_), h4⟩
  · cases hb : v.ownBlock with
    | none => exact Or.inl rfl
    | some k => exact Or.inr (fun he => by
        have h5 := (World.ownsRow.lt h1 k hb).1
        have := hlt k he.symm
        omega)
  · have h5 := (OwnI.lt (h3 i u q hu hq) k hu').1
    have := hlt k hk
    omega
theorem M.tot_addG (m : List Int → Bool) (i : Nat) (rs : List (List Int)) : M.tot (M.addG m i rs) = M.tot rs + 1 := by
  unfold M.addG
  split
  · rename_i h
    generalize rs.findIdx m = k at *
    unfold M.tot
    rw [List.getD_eq_getElem?_getD, List.getElem?_eq_getElem h]
    simp only [Option.getD_some]
    rw [List.map_set]
    have e : rs.map List.length = (rs.map List.length).take k ++ (rs[k].length :: (rs.map List.length).drop (k + 1)) := by
      have hk : k < (rs.map List.length).length := by rw [List.length_map]; exact h
      conv => lhs; rw [← List.take_append_drop k (rs.map List.length), List.drop_eq_getElem_cons hk]
      rw [List.getElem_map]
    rw [List.set_eq_take_append_cons_drop, if_pos (by rw [List.length_map]; exact h)]
    conv => rhs; rw [e]
    simp only [List.sum_append, List.sum_cons, List.length_append, List.length_singleton]
    omega
  · rw [M.tot_append]
    simp [M.tot]
theorem M.tot_grp (ms : List (Int × Int)) : ∀ i : Nat, M.tot (M.grp ms i) = i
  | 0 => rfl
  | i + 1 => by rw [M.grp, M.tot_addG, M.tot_grp ms i]
theorem M.sfV_tot (xs : List (Int × Int)) : M.tot (M.sfV xs) ≤ 1000000 := by
  by_cases hl : 20 < xs.length
  · rw [(M.sf_big hl).2]; simp [M.tot]
  · unfold M.sfV
    split
    · rw [M.tot_grp]; omega
    · simp [M.tot]

set_option maxHeartbeats 4000000 in
theorem law_SameForms (v : Value) (xs : List (Int × Int)) (w : World) (hx : CurvesAt w v xs) :
    Calls Try.prog 3 #[v] w fun e w' => e = .returned (.bool true) ∧ Below w.heap.size w w' := by
  have e1 := fun v w hi h hhi => specSameForms_c xs v w hi h hhi
  have e2 := fun v w hi h hhi => implSameForms_c xs v w hi h hhi
  have hl := M.sfV_tot xs
  generalize M.sfV xs = V at e1 e2 hl
  generalize M.sfOk xs = ok at e1 e2
  have E1 := Lib.hid e1
  have E2 := Lib.hid e2
  have Hx := Lib.hid hx
  have hsz := szCurveS_c v xs w hx
  clear e1 e2
  by_cases hn : xs.length ≤ 1048576
  · rw [if_pos hn] at hsz
    have Hsz := Lib.hid hsz
    clear hsz
    have hL : 0 ≤ (1048576 : Int) - xs.length := by omega
    obtain ⟨A, cap, rfl, -, -⟩ := hx
    have TC := fun w (h : CurvesAt w (.slice A xs.length cap) xs) => toCurveS_c (.slice A xs.length cap) xs w h hn
    have TC := Lib.hid TC
    go_enter Try.func3, Try.ntmps3
    go_wp2_with fail
    refine Hsz.out.mono ?_; rintro e w0 ⟨rfl, rfl⟩
    clear Hsz
    generalize hM : (1048576 : Int) - xs.length = M0 at *
    go_wp2_with fail
    refine (TC.out _ Hx.out).mono ?_; rintro e w1 ⟨v1, rfl, o1, b1⟩
    have z1 := b1.size
    have B1 := b1
    go_wp2_with fail
    refine (E1.out v1 w1 w1.heap.size o1.seen (Nat.le_refl _)).mono ?_; rintro e w2 ⟨u0, rfl, ho, b2⟩
    have z2 := b2.size
    have B2 := below_step B1 b2
    have s2 := ho.seen
    clear o1 ho
    go_wp2_with fail
    refine (TC.out _ (Hx.out.keep B2)).mono ?_; rintro e w3 ⟨v3, rfl, o3, b3⟩
    have z3 := b3.size
    have B3 := below_step B2 b3
    have s3 := s2.below b3
    have hlt3 : ∀ k, v3.ownBlock = some k → k < w3.heap.size := fun k hk => (o3.lt k hk).2
    go_wp2_with fail
    refine (E2.out v3 w3 w3.heap.size o3.seen (Nat.le_refl _)).mono ?_; rintro e w4 ⟨u1, rfl, ⟨vs, p4⟩, b4⟩
    have z4 := b4.size
    have B4 := below_step B3 b4
    have s4 := s3.below (b4.mono z3)
    have o4 := o3.below b4
    go_wp2_with fail
    refine (eqIntSS_c _ _ _ _ _ _ _ p4.seen s4 (Nat.le_refl _) (by omega)).mono ?_; rintro e w5 ⟨rfl, b5⟩
    have z5 := b5.size
    have B5 := below_step B4 b5
    have s5 := s4.below (b5.mono (by omega))
    have o5 := o4.below b5
    have p5 := p4.below b5
    have hd : decide (V = V) = true := by simp
    have hd2 : decide (xs = xs) = true := by simp
    go_wp2_with fail
    refine (TC.out _ (Hx.out.keep B5)).mono ?_; rintro e w6 ⟨v6, rfl, o6, b6⟩
    have z6 := b6.size
    have B6 := below_step B5 b6
    have s6 := s5.below (b6.mono (by omega))
    have o6' := o5.below b6
    have p6 := p5.below b6
    go_wp2_with fail
    refine (eqCurveS_c _ _ _ _ _ _ _ o6'.seen o6.seen (Nat.le_refl _) (Nat.le_refl _)).mono ?_; rintro e w7 ⟨rfl, b7⟩
    have z7 := b7.size
    have B7 := below_step B6 b7
    have s7 := s6.below (b7.mono (by omega))
    have o7 := o6'.below b7
    have p7 := p6.below b7
    clear o6 o3 o4 o5 o6' p4 p5 p6 s2 s3 s4 s5 s6
    go_wp2_with fail
    refine (markCurveS_c _ _ _ _ _ o7 (by omega) (by omega)).mono ?_; rintro e w8 ⟨rfl, o8, hg⟩
    have b8 : Below w2.heap.size w7 w8 := grown_below hg (by omega) (fun k hk => (o7.lt k hk).1)
    have z8 := hg.size
    have B8 : Below w.heap.size w w8 := B7.trans (b8.mono (by omega))
    have s8 := s7.below b8
    have p8 := p7.keptR hg hlt3
    clear o7 o8 p7 s7 hg hlt3
    have hn2 : (0 : Int) ≤ 1 + 2 * xs.length := by omega
    go_wp2_with fail
    refine (eqIntSS_c _ _ _ _ _ _ _ p8.seen s8 (Nat.le_refl _) (by omega)).mono ?_; rintro e w9 ⟨rfl, b9⟩
    have z9 := b9.size
    have B9 := below_step B8 b9
    have s9 := s8.below (b9.mono (by omega))
    have p9 := p8.below b9
    clear p8 s8
    go_wp2_with fail
    refine (markIntSS_c _ vs _ _ _ _ p9 (by omega) (by omega) (by omega)).mono ?_; rintro e w10 ⟨rfl, p10, b10⟩
    have z10 := b10.size
    have B10 : Below w.heap.size w w10 := B9.trans (b10.mono (by omega))
    have s10 := s9.below (b10.mono (by omega))
    have hn0 : (0 : Int) ≤ M.tot V := by omega
    clear p9 s9
    go_wp2_with fail
    refine (heldIntSS_c _ vs _ _ _ _ p10 (by omega) (by omega)).mono ?_; rintro e w11 ⟨rfl, b11⟩
    have z11 := b11.size
    have B11 := below_step B10 b11
    have s11 := s10.below (b11.mono (by omega))
    have p11 := p10.below b11
    clear p10 s10
    go_wp2_with fail
    refine (TC.out _ (Hx.out.keep B11)).mono ?_; rintro e w12 ⟨v12, rfl, o12, b12⟩
    have z12 := b12.size
    have B12 := below_step B11 b12
    have s12 := s11.below (b12.mono (by omega))
    have p12 := p11.below b12
    clear p11 s11
    go_wp2_with fail
    refine (E2.out v12 w12 w12.heap.size o12.seen (Nat.le_refl _)).mono ?_; rintro e w13 ⟨u2, rfl, hw, b13⟩
    have z13 := b13.size
    have B13 := below_step B12 b13
    have s13 := s12.below (b13.mono (by omega))
    have p13 := p12.below b13
    clear p12 s12 o12
    go_wp2_with fail
    refine (eqIntSS_c _ _ _ _ _ _ _ hw.seen s13 (Nat.le_refl _) (by omega)).mono ?_; rintro e w14 ⟨rfl, b14⟩
    have z14 := b14.size
    have B14 := below_step B13 b14
    have p14 := p13.below b14
    clear p13 s13 hw
    go_wp2_with fail
    refine (heldIntSS_c _ vs _ _ _ _ p14 (by omega) (by omega)).mono ?_; rintro e w15 ⟨rfl, b15⟩
    have B15 := below_step B14 b15
    clear p14
    go_wp2_with fail
    go_ret
    exact ⟨by simp, B15⟩
  · rw [if_neg hn] at hsz
    have Hsz := Lib.hid hsz
    clear hsz
    obtain ⟨A, cap, rfl, -, -⟩ := hx
    go_enter Try.func3, Try.ntmps3
    go_wp2_with fail
    refine Hsz.out.mono ?_; rintro e w0 ⟨rfl, rfl⟩
    go_wp2
    go_ret
    exact ⟨rfl, Below.refl _ _⟩
end Go.Proofs.Ytpemckpnlemkfaa
