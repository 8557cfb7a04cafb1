/-
  Contracts: OpenDivisors.
-/
import Derived.Test.YtgkjmjlkhnfbiaaGreatB22
namespace Go.Proofs.YtgkjmjlkhnfbiaaGreat
set_option linter.unusedSimpArgs false
set_option linter.unusedVariables false
open Go.RowKit Go.Shelf
namespace M
noncomputable def odG (A B : Int) (dual : Bool) (n : Nat) : List Int := grp (fnd A B dual n)
noncomputable def odk (A B : Int) (dual : Bool) (n : Nat) : Bool := slk A B dual && gok (fnd A B dual n)
noncomputable def odO (A B : Int) (dual : Bool) (n : Int) : Bool := (tcb A B && ins n 1 60) && odk A B dual n.toNat
noncomputable def odL (A B : Int) (dual : Bool) (n : Int) : List Int := opt (odO A B dual n) ((slm A B dual).filter (ncl (odG A B dual n.toNat)))
theorem odO_f {A B : Int} {dual : Bool} {n : Int} (h : (tcb A B && ins n 1 60) = false) : odO A B dual n = false := by unfold odO; rw [h]; rfl
theorem od_f {A B : Int} {dual : Bool} {n : Int} (h : odO A B dual n = false) : odL A B dual n = [] := by unfold odL; rw [h]; rfl
theorem od_t {A B : Int} {dual : Bool} {n : Nat} (h1 : tcb A B = true) (h2 : ins n 1 60 = true) (h : odk A B dual n = true) : odO A B dual n = true ∧ odL A B dual n = (slm A B dual).filter (ncl (odG A B dual n)) := by
  have e : odO A B dual n = true := by unfold odO; rw [h1, h2, Int.toNat_natCast, h]; rfl
  refine ⟨e, ?_⟩
  unfold odL
  rw [e, Int.toNat_natCast]
  rfl
theorem od_n {A B : Int} {dual : Bool} {n : Nat} (h : odk A B dual n = false) : odO A B dual n = false := by
  unfold odO
  rw [Int.toNat_natCast, h, Bool.and_false]
end M
theorem odClosure_c (G : List Int) (vg : Value) (x : Int) (b base : Nat) (W : World) (c0 : W.cell? ⟨b, 0, none⟩ = some vg) (ho : OwnI W base vg G) :
    Calls Tryz.prog 72 #[.int .i64 x, .pointer (some ⟨b, 0, none⟩)] W fun e w' => e = .returned (.bool (decide (x ∈ G))) ∧ Below W.heap.size W w' := by
  have PK := fun W v h => containsInts_c G v x W base h
  obtain ⟨a, cap, rfl, hm, hv⟩ := ho.view
  clear hm hv
  have PK := Lib.hid PK
  have ho := Lib.hid ho
  go_enter Tryz.func72, Tryz.ntmps72
  go_wp2_with (go_at_call 52; (with_reducible refine (PK.out _ _ ho.out).mono ?_); rintro e w2 ⟨rfl, rfl⟩)
  go_ret
  exact ⟨rfl, (by repeat (first | exact Below.refl _ _ | refine below_alloc ?_ _ | refine below_step ?_ (by assumption) | refine Below.drew ?_ | refine Below.setCell ?_ (by first | exact Nat.le_refl _ | exact Nat.le_add_right _ _ | (simp <;> omega)) _ | refine below_drewN ?_ _))⟩
set_option maxRecDepth 100000 in
set_option maxHeartbeats 2000000 in
theorem implOpenDivisors_c (A B : Int) (dual : Bool) (n : Int) (w : World) :
    Calls Tryz.prog 23 #[.agg #[.int .i64 A, .int .i64 B], .bool dual, .int .i64 n] w fun e w' => ∃ v, e = .returned (.tuple #[v, .bool (M.odO A B dual n)]) ∧ OwnI w' w.heap.size v (M.odL A B dual n) ∧ Below w.heap.size w w' := by
  have PT := fun W => isTwoCurve_c A B W
  have bx := Box.new w A B 25
  cases h1 : M.tcb A B
  · have hno : Hid (M.odO A B dual n = false) := Lib.hid (M.odO_f (by rw [h1]; rfl))
    simp only [h1] at PT
    have PT := Lib.hid PT
    go_enter Tryz.func23, Tryz.ntmps23
    go_wp2_with (first | (go_at_call 46; (with_reducible refine (PT.out _).mono ?_); rintro e w1 ⟨rfl, hb1⟩; (have bx1 := bx.keep hb1); (have c0 := bx1.c0); (have c1 := bx1.c1); (have B1 : Below w.heap.size w w1 := (by repeat (first | exact Below.refl _ _ | refine below_alloc ?_ _ | refine below_step ?_ (by assumption) | refine Below.drew ?_ | refine Below.setCell ?_ (by first | exact Nat.le_refl _ | exact Nat.le_add_right _ _ | (simp <;> omega)) _ | refine below_drewN ?_ _)))) | (go_at_call 61; refine (inside_c _ _ _ _).mono ?_; rintro e w' ⟨rfl, rfl⟩))
    go_ret2
    exact ⟨.slice none 0 0, by rw [hno.out] <;> rfl, by rw [M.od_f hno.out]; exact OwnI.nil _ _, B1⟩
  · simp only [h1] at PT
    have PT := Lib.hid PT
    cases h2 : M.ins n 1 60
    · have hno : Hid (M.odO A B dual n = false) := Lib.hid (M.odO_f (by rw [h1, h2]; rfl))
      go_enter Tryz.func23, Tryz.ntmps23
      go_wp2_with (first | (go_at_call 46; (with_reducible refine (PT.out _).mono ?_); rintro e w1 ⟨rfl, hb1⟩; (have bx1 := bx.keep hb1); (have c0 := bx1.c0); (have c1 := bx1.c1); (have B1 : Below w.heap.size w w1 := (by repeat (first | exact Below.refl _ _ | refine below_alloc ?_ _ | refine below_step ?_ (by assumption) | refine Below.drew ?_ | refine Below.setCell ?_ (by first | exact Nat.le_refl _ | exact Nat.le_add_right _ _ | (simp <;> omega)) _ | refine below_drewN ?_ _)))) | (go_at_call 61; refine (inside_c _ _ _ _).mono ?_; rintro e w' ⟨rfl, rfl⟩))
      go_ret2
      exact ⟨.slice none 0 0, by rw [hno.out] <;> rfl, by rw [M.od_f hno.out]; exact OwnI.nil _ _, B1⟩
    · have ht := M.tcb_t h1
      have hk := M.ins_t h2
      obtain ⟨N, rfl⟩ : ∃ N : Nat, n = N := ⟨n.toNat, by omega⟩
      have P1 := fun W => selmer_c A B dual W ht
      have P2 := fun W => found_c A B dual N W ht (by omega)
      have P3 := fun W v b ho => classGroup_c (M.fnd A B dual N) v W b ho (M.fnd_bd ht dual N) (Nat.le_trans (M.fnd_len ht dual N) (by omega))
      have hop : M.odk A B dual N = (M.slk A B dual && M.gok (M.fnd A B dual N)) := rfl
      have hyes := Lib.hid fun h => M.od_t (dual := dual) h1 h2 h
      have hnot := Lib.hid fun h => M.od_n (A := A) (B := B) (dual := dual) (n := N) h
      have hgd : M.odG A B dual N = M.grp (M.fnd A B dual N) := rfl
      rw [hgd] at hyes
      rw [hop] at hyes hnot
      clear hop hgd h1 ht
      generalize M.slm A B dual = L at *
      generalize M.grp (M.fnd A B dual N) = G at *
      generalize M.slk A B dual = b1 at *
      generalize M.gok (M.fnd A B dual N) = b2 at *
      generalize M.fnd A B dual N = F at *
      cases b1
      · have hno := Lib.hid (hnot.out rfl)
        have P1 := Lib.hid P1
        clear hyes hnot P2 P3
        go_enter Tryz.func23, Tryz.ntmps23
        go_wp2_with (first | (go_at_call 46; (with_reducible refine (PT.out _).mono ?_); rintro e w1 ⟨rfl, hb1⟩; (have bx1 := bx.keep hb1); (have c0 := bx1.c0); (have c1 := bx1.c1); (have B1 : Below w.heap.size w w1 := (by repeat (first | exact Below.refl _ _ | refine below_alloc ?_ _ | refine below_step ?_ (by assumption) | refine Below.drew ?_ | refine Below.setCell ?_ (by first | exact Nat.le_refl _ | exact Nat.le_add_right _ _ | (simp <;> omega)) _ | refine below_drewN ?_ _)))) | (go_at_call 61; refine (inside_c _ _ _ _).mono ?_; rintro e w' ⟨rfl, rfl⟩) | (go_at_call 47; (with_reducible refine (P1.out _).mono ?_); rintro e w3 ⟨v1, rfl, ho1, hb3⟩; (have d0 := keepCell hb3 c0); (have d1 := keepCell hb3 c1); (have B3 := B1.trans (hb3.mono B1.size))))
        go_ret2
        exact ⟨.slice none 0 0, by rw [hno.out] <;> first | rfl | trivial, by rw [M.od_f hno.out]; exact OwnI.nil _ _, B3⟩
      · cases b2
        · have hno := Lib.hid (hnot.out rfl)
          have P1 := Lib.hid P1
          have P2 := Lib.hid P2
          have P3 := Lib.hid P3
          clear hyes hnot
          go_enter Tryz.func23, Tryz.ntmps23
          go_wp2_with (first | (go_at_call 46; (with_reducible refine (PT.out _).mono ?_); rintro e w1 ⟨rfl, hb1⟩; (have bx1 := bx.keep hb1); (have c0 := bx1.c0); (have c1 := bx1.c1); (have B1 : Below w.heap.size w w1 := (by repeat (first | exact Below.refl _ _ | refine below_alloc ?_ _ | refine below_step ?_ (by assumption) | refine Below.drew ?_ | refine Below.setCell ?_ (by first | exact Nat.le_refl _ | exact Nat.le_add_right _ _ | (simp <;> omega)) _ | refine below_drewN ?_ _)))) | (go_at_call 61; refine (inside_c _ _ _ _).mono ?_; rintro e w' ⟨rfl, rfl⟩) | (go_at_call 47; (with_reducible refine (P1.out _).mono ?_); rintro e w3 ⟨v1, rfl, ho1, hb3⟩; (have d0 := keepCell hb3 c0); (have d1 := keepCell hb3 c1); (have B3 := B1.trans (hb3.mono B1.size))) | (go_at_call 66; (with_reducible refine (P2.out _).mono ?_); rintro e w4 ⟨v2, rfl, ho2, hb4⟩; (have B4 := B3.trans (hb4.mono B3.size))) | (go_at_call 70; (with_reducible refine (P3.out _ _ _ ho2).mono ?_); rintro e w5 ⟨v3, rfl, ho3, hb5⟩; obtain ⟨a3, cap3, rfl, hm3, hv3⟩ := ho3.view; (have B5 := B4.trans (hb5.mono B4.size))))
          go_ret2
          exact ⟨.slice none 0 0, by rw [hno.out] <;> first | rfl | trivial, by rw [M.od_f hno.out]; exact OwnI.nil _ _, (by repeat (first | exact Below.refl _ _ | refine below_alloc ?_ _ | refine below_step ?_ (by assumption) | refine Below.drew ?_ | refine Below.setCell ?_ (by first | exact Nat.le_refl _ | exact Nat.le_add_right _ _ | (simp <;> omega)) _ | refine below_drewN ?_ _))⟩
        · have hy1 := Lib.hid (hyes.out rfl).1
          have hy2 := Lib.hid (hyes.out rfl).2
          simp only [M.opt_t] at P1 P3
          have P1 := Lib.hid P1
          have P2 := Lib.hid P2
          have P3 := Lib.hid P3
          clear hyes hnot
          go_enter Tryz.func23, Tryz.ntmps23
          go_wp2_with (first | (go_at_call 46; (with_reducible refine (PT.out _).mono ?_); rintro e w1 ⟨rfl, hb1⟩; (have bx1 := bx.keep hb1); (have c0 := bx1.c0); (have c1 := bx1.c1); (have B1 : Below w.heap.size w w1 := (by repeat (first | exact Below.refl _ _ | refine below_alloc ?_ _ | refine below_step ?_ (by assumption) | refine Below.drew ?_ | refine Below.setCell ?_ (by first | exact Nat.le_refl _ | exact Nat.le_add_right _ _ | (simp <;> omega)) _ | refine below_drewN ?_ _)))) | (go_at_call 61; refine (inside_c _ _ _ _).mono ?_; rintro e w' ⟨rfl, rfl⟩) | (go_at_call 47; (with_reducible refine (P1.out _).mono ?_); rintro e w3 ⟨v1, rfl, ho1, hb3⟩; (have d0 := keepCell hb3 c0); (have d1 := keepCell hb3 c1); (have B3 := B1.trans (hb3.mono B1.size))) | (go_at_call 66; (with_reducible refine (P2.out _).mono ?_); rintro e w4 ⟨v2, rfl, ho2, hb4⟩; (have B4 := B3.trans (hb4.mono B3.size))) | (go_at_call 70; (with_reducible refine (P3.out _ _ _ ho2).mono ?_); rintro e w5 ⟨v3, rfl, ho3, hb5⟩; obtain ⟨a3, cap3, rfl, hm3, hv3⟩ := ho3.view; (have B5 := B4.trans (hb5.mono B4.size))))
          have z1 := B1.size
          have z3 := B3.size
          have z4 := B4.size
          have z5 := B5.size
          have q3 := hb3.size
          have q4 := hb4.size
          have q5 := hb5.size
          have c3 : (w5.alloc (.cells #[.slice a3 G.length cap3] 28)).cell? ⟨w5.heap.size, 0, none⟩ = some (.slice a3 G.length cap3) := by rw [World.cell?_alloc_at _ _ _ _ rfl]; rfl
          have hown := ((ho1.below hb4).below hb5).alloc (.cells #[.slice a3 G.length cap3] 28)
          have hown3 := ho3.alloc (.cells #[.slice a3 G.length cap3] 28)
          have hbk : ∀ k, v1.ownBlock = some k → k < w3.heap.size := fun k hk => (OwnI.lt ho1 k hk).2
          have eg : ∀ args w, (callFunc 72 args).run Tryz.prog w = .ok (.enter 72 args) w := enters_of Tryz.func72 (by kernel_rfl) rfl
          have hT : TestG 72 #[.pointer (some ⟨w5.heap.size, 0, none⟩)] (fun x => decide (x ∈ G)) L v1.ownBlock (w5.alloc (.cells #[.slice a3 G.length cap3] 28)) := fun x hx W hW => by
            have hn1 : some w5.heap.size ≠ v1.ownBlock := fun e => by have := hbk _ e.symm; omega
            refine odClosure_c G _ x w5.heap.size w4.heap.size W (hW.cell c3 hn1) ?_
            exact hown3.kept hW fun g e e' => by
              have h1 := hbk g e
              have h2 := (OwnI.lt ho3 g e').1
              omega
          have hD := deleteFuncG_c _ _ eg _ v1 L _ w1.heap.size hown (by simp; omega) hT
          refine hD.mono ?_; rintro e w6 ⟨v6, rfl, hown6, hb6⟩
          go_wp2
          go_ret2
          exact ⟨_, by rw [hy1.out] <;> first | rfl | trivial, by rw [hy2.out]; exact hown6.base z1, (B5.alloc z5 _).trans (hb6.mono z1)⟩
set_option maxRecDepth 100000 in
set_option maxHeartbeats 2000000 in
theorem specOpenDivisors_c (A B : Int) (dual : Bool) (n : Int) (w : World) :
    Calls Tryz.prog 24 #[.agg #[.int .i64 A, .int .i64 B], .bool dual, .int .i64 n] w fun e w' => ∃ v, e = .returned (.tuple #[v, .bool (M.odO A B dual n)]) ∧ OwnI w' w.heap.size v (M.odL A B dual n) ∧ Below w.heap.size w w' := by
  have PT := fun W => tcGood_c A B W
  have bx := Box.new w A B 25
  cases h1 : M.tcb A B
  · have hno : Hid (M.odO A B dual n = false) := Lib.hid (M.odO_f (by rw [h1]; rfl))
    simp only [h1] at PT
    have PT := Lib.hid PT
    go_enter Tryz.func24, Tryz.ntmps24
    go_wp2_with (go_at_call 48; (with_reducible refine (PT.out _).mono ?_); rintro e w1 ⟨rfl, hb1⟩; (have B1 : Below w.heap.size w w1 := (by repeat (first | exact Below.refl _ _ | refine below_alloc ?_ _ | refine below_step ?_ (by assumption) | refine Below.drew ?_ | refine Below.setCell ?_ (by first | exact Nat.le_refl _ | exact Nat.le_add_right _ _ | (simp <;> omega)) _ | refine below_drewN ?_ _))))
    go_ret2
    exact ⟨.slice none 0 0, by rw [hno.out] <;> rfl, by rw [M.od_f hno.out]; exact OwnI.nil _ _, B1⟩
  · have PM := fun W => dsMost_c n W
    simp only [h1] at PT
    have PT := Lib.hid PT
    cases h2 : M.ins n 1 60
    · have hno : Hid (M.odO A B dual n = false) := Lib.hid (M.odO_f (by rw [h1, h2]; rfl))
      simp only [h2] at PM
      have PM := Lib.hid PM
      go_enter Tryz.func24, Tryz.ntmps24
      go_wp2_with (first
        | (go_at_call 48; (with_reducible refine (PT.out _).mono ?_); rintro e w1 ⟨rfl, hb1⟩; (have B1 : Below w.heap.size w w1 := (by repeat (first | exact Below.refl _ _ | refine below_alloc ?_ _ | refine below_step ?_ (by assumption) | refine Below.drew ?_ | refine Below.setCell ?_ (by first | exact Nat.le_refl _ | exact Nat.le_add_right _ _ | (simp <;> omega)) _ | refine below_drewN ?_ _))))
        | (go_at_call 67; (with_reducible refine (PM.out _).mono ?_); rintro e w2 ⟨rfl, hb2⟩; (have B2 := B1.trans (hb2.mono B1.size))))
      go_ret2
      exact ⟨.slice none 0 0, by rw [hno.out] <;> rfl, by rw [M.od_f hno.out]; exact OwnI.nil _ _, B2⟩
    · simp only [h2] at PM
      have PM := Lib.hid PM
      have ht := M.tcb_t h1
      have hk := M.ins_t h2
      obtain ⟨N, rfl⟩ : ∃ N : Nat, n = N := ⟨n.toNat, by omega⟩
      have P1 := fun W => dsSelmer_c A B dual W ht
      have P2 := fun W => dsFound_c A B dual N W ht (by omega)
      have P3 := fun W v b ho => dsGroup_c (M.fnd A B dual N) v W b ho (M.fnd_bd ht dual N) (Nat.le_trans (M.fnd_len ht dual N) (by omega))
      have hlen : (M.slm A B dual).length ≤ 200000 := Nat.le_trans (List.length_filter_le _ _) (M.dvs_side_len ht dual)
      have hop : M.odk A B dual N = (M.slk A B dual && M.gok (M.fnd A B dual N)) := rfl
      have hyes := Lib.hid fun h => M.od_t (dual := dual) h1 h2 h
      have hnot := Lib.hid fun h => M.od_n (A := A) (B := B) (dual := dual) (n := N) h
      have hgd : M.odG A B dual N = M.grp (M.fnd A B dual N) := rfl
      rw [hgd] at hyes
      rw [hop] at hyes hnot
      clear hop hgd h1 h2 ht
      generalize M.slm A B dual = L at *
      generalize M.grp (M.fnd A B dual N) = G at *
      generalize M.slk A B dual = b1 at *
      generalize M.gok (M.fnd A B dual N) = b2 at *
      generalize M.fnd A B dual N = F at *
      cases b1
      · have hno := Lib.hid (hnot.out rfl)
        have P1 := Lib.hid P1
        have P2 := Lib.hid P2
        have P3 := Lib.hid P3
        clear hyes hnot
        go_enter Tryz.func24, Tryz.ntmps24
        go_wp2_with (first
          | (go_at_call 48; (with_reducible refine (PT.out _).mono ?_); rintro e w1 ⟨rfl, hb1⟩; (have bx1 := bx.keep hb1); (have B1 : Below w.heap.size w w1 := (by repeat (first | exact Below.refl _ _ | refine below_alloc ?_ _ | refine below_step ?_ (by assumption) | refine Below.drew ?_ | refine Below.setCell ?_ (by first | exact Nat.le_refl _ | exact Nat.le_add_right _ _ | (simp <;> omega)) _ | refine below_drewN ?_ _))))
          | (go_at_call 67; (with_reducible refine (PM.out _).mono ?_); rintro e w2 ⟨rfl, hb2⟩; (have bx2 := bx1.keep hb2); (have c0 := bx2.c0); (have c1 := bx2.c1); (have B2 := B1.trans (hb2.mono B1.size)))
          | (go_at_call 49; (with_reducible refine (P1.out _).mono ?_); rintro e w3 ⟨v1, rfl, ho1, hb3⟩; (have d0 := keepCell hb3 c0); (have d1 := keepCell hb3 c1); (have B3 := B2.trans (hb3.mono B2.size)))
          | (go_at_call 68; (with_reducible refine (P2.out _).mono ?_); rintro e w4 ⟨v2, rfl, ho2, hb4⟩; (have B4 := B3.trans (hb4.mono B3.size)))
          | (go_at_call 73; (with_reducible refine (P3.out _ _ _ ho2).mono ?_); rintro e w5 ⟨v3, rfl, ho3, hb5⟩; (have B5 := B4.trans (hb5.mono B4.size))))
        go_ret2
        exact ⟨.slice none 0 0, by rw [hno.out] <;> first | rfl | trivial, by rw [M.od_f hno.out]; exact OwnI.nil _ _, B5⟩
      · cases b2
        · have hno := Lib.hid (hnot.out rfl)
          have P1 := Lib.hid P1
          have P2 := Lib.hid P2
          have P3 := Lib.hid P3
          clear hyes hnot
          go_enter Tryz.func24, Tryz.ntmps24
          go_wp2_with (first
            | (go_at_call 48; (with_reducible refine (PT.out _).mono ?_); rintro e w1 ⟨rfl, hb1⟩; (have bx1 := bx.keep hb1); (have B1 : Below w.heap.size w w1 := (by repeat (first | exact Below.refl _ _ | refine below_alloc ?_ _ | refine below_step ?_ (by assumption) | refine Below.drew ?_ | refine Below.setCell ?_ (by first | exact Nat.le_refl _ | exact Nat.le_add_right _ _ | (simp <;> omega)) _ | refine below_drewN ?_ _))))
            | (go_at_call 67; (with_reducible refine (PM.out _).mono ?_); rintro e w2 ⟨rfl, hb2⟩; (have bx2 := bx1.keep hb2); (have c0 := bx2.c0); (have c1 := bx2.c1); (have B2 := B1.trans (hb2.mono B1.size)))
            | (go_at_call 49; (with_reducible refine (P1.out _).mono ?_); rintro e w3 ⟨v1, rfl, ho1, hb3⟩; (have d0 := keepCell hb3 c0); (have d1 := keepCell hb3 c1); (have B3 := B2.trans (hb3.mono B2.size)))
            | (go_at_call 68; (with_reducible refine (P2.out _).mono ?_); rintro e w4 ⟨v2, rfl, ho2, hb4⟩; (have B4 := B3.trans (hb4.mono B3.size)))
            | (go_at_call 73; (with_reducible refine (P3.out _ _ _ ho2).mono ?_); rintro e w5 ⟨v3, rfl, ho3, hb5⟩; (have B5 := B4.trans (hb5.mono B4.size))))
          go_ret2
          exact ⟨.slice none 0 0, by rw [hno.out] <;> first | rfl | trivial, by rw [M.od_f hno.out]; exact OwnI.nil _ _, B5⟩
        · have hy1 := Lib.hid (hyes.out rfl).1
          have hy2 := Lib.hid (hyes.out rfl).2
          simp only [M.opt_t] at P1 P3
          have P1 := Lib.hid P1
          have P2 := Lib.hid P2
          have P3 := Lib.hid P3
          clear hyes hnot
          go_enter Tryz.func24, Tryz.ntmps24
          go_wp2_with (first
            | (go_at_call 48; (with_reducible refine (PT.out _).mono ?_); rintro e w1 ⟨rfl, hb1⟩; (have bx1 := bx.keep hb1); (have B1 : Below w.heap.size w w1 := (by repeat (first | exact Below.refl _ _ | refine below_alloc ?_ _ | refine below_step ?_ (by assumption) | refine Below.drew ?_ | refine Below.setCell ?_ (by first | exact Nat.le_refl _ | exact Nat.le_add_right _ _ | (simp <;> omega)) _ | refine below_drewN ?_ _))))
            | (go_at_call 67; (with_reducible refine (PM.out _).mono ?_); rintro e w2 ⟨rfl, hb2⟩; (have bx2 := bx1.keep hb2); (have c0 := bx2.c0); (have c1 := bx2.c1); (have B2 := B1.trans (hb2.mono B1.size)))
            | (go_at_call 49; (with_reducible refine (P1.out _).mono ?_); rintro e w3 ⟨v1, rfl, ho1, hb3⟩; obtain ⟨a1, cap1, rfl, hm1, hv1⟩ := ho1.view; (have d0 := keepCell hb3 c0); (have d1 := keepCell hb3 c1); (have B3 := B2.trans (hb3.mono B2.size)))
            | (go_at_call 68; (with_reducible refine (P2.out _).mono ?_); rintro e w4 ⟨v2, rfl, ho2, hb4⟩; (have B4 := B3.trans (hb4.mono B3.size)); (have ho1' := ho1.below hb4))
            | (go_at_call 73; (with_reducible refine (P3.out _ _ _ ho2).mono ?_); rintro e w5 ⟨v3, rfl, ho3, hb5⟩; (have B5 := B4.trans (hb5.mono B4.size)); (have ho1'' := ho1'.below hb5)))
          obtain ⟨a4, cap4, e4, hm4, hv4⟩ := ho1''.view
          injection e4 with e4 e5 e6
          subst e4
          have hv4 := Lib.hid hv4
          have ho3 := Lib.hid ho3
          have B5 := Lib.hid B5
          have hz5 := B5.out.size
          clear hv1 hm1 hm4 ho1 ho1' ho1'' e5 e6 d0 d1 c0 c1 bx bx1 bx2 hb1 hb2 hb3 hb4 hb5 B1 B2 B3 B4 PT PM P1 P2 P3 ho2
          go_loopw [12, 14, 45] (fun vo _ vj wq => ∃ j : Nat, j ≤ L.length ∧ vj = .int .i64 j ∧ OwnI wq w5.heap.size vo ((L.take j).filter (M.ncl G)) ∧ Below w5.heap.size w5 wq) (fun _ _ vj _ => L.length - (intOf vj).toNat)
          case atStart => exact ⟨0, by omega, rfl, OwnI.nil _ _, Below.refl _ _⟩
          case round =>
            obtain ⟨j, hj, rfl, hown, hbq⟩ := hrel
            have z6 := hbq.size
            by_cases hjt : j < L.length
            · obtain ⟨g5, d, rfl, hg5, hd, hcell5⟩ := hv4.out j hjt
              have hc5 := keepCell hbq hcell5
              have hf := M.filt_next (M.ncl G) L hd.out
              have hfl := M.filt_len (M.ncl G) L j
              have PX := fun W v base h => l1Has_c G v d W base h
              clear hcell5
              by_cases hx : d ∈ G
              · have hnc : M.ncl G d = false := by unfold M.ncl; rw [decide_eq_true hx]; rfl
                rw [hnc] at hf
                simp only [Bool.false_eq_true, if_false, List.append_nil] at hf
                rw [decide_eq_true hx] at PX
                have PX := Lib.hid PX
                have hf := Lib.hid hf
                have hx := Lib.hid hx
                have hown := Lib.hid hown
                clear hnc
                go_wp2_with (go_at_call 74; (with_reducible refine (PX.out _ _ _ (ho3.out.below hbq)).mono ?_); rintro e w6 ⟨rfl, rfl⟩)
                go_roundw
                case rel => exact ⟨j + 1, by omega, by go_num, by rw [hf.out]; exact hown.out, hbq⟩
                case measure => simp [intOf]; omega
              · have hnc : M.ncl G d = true := by unfold M.ncl; rw [decide_eq_false hx]; rfl
                rw [hnc] at hf
                simp only [if_true] at hf
                rw [decide_eq_false hx] at PX
                have PX := Lib.hid PX
                have hf := Lib.hid hf
                have hx := Lib.hid hx
                clear hnc
                generalize (L.take j).filter (M.ncl G) = cj at *
                have hown := Lib.hid hown
                go_wp2_with (first
                  | (go_at_call 74; (with_reducible refine (PX.out _ _ _ (ho3.out.below hbq)).mono ?_); rintro e w6 ⟨rfl, rfl⟩)
                  | (at_builtin; refine push_int (W := w5) w5.heap.size d _ _ rfl (.tmp 53) (.tmp 55) rfl rfl rfl hown.out hbq (by omega) (by omega) ?_; rintro v6 w6 hown6 hb6))
                go_roundw
                case rel => exact ⟨j + 1, by omega, by go_num, by rw [hf.out]; exact hown6, hb6⟩
                case measure => simp [intOf]; omega
            · obtain rfl : j = L.length := by omega
              rw [List.take_length] at hown
              have hown := Lib.hid hown
              go_wp2
              go_ret2
              exact ⟨_, by rw [hy1.out] <;> first | rfl | trivial, by rw [hy2.out]; exact hown.out.base hz5, B5.out.trans (hbq.mono hz5)⟩
end Go.Proofs.YtgkjmjlkhnfbiaaGreat
