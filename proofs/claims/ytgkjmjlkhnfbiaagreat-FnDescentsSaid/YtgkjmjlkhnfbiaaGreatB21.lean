/-
  Joined texts: contracts and plain laws.
-/
import Derived.Test.YtgkjmjlkhnfbiaaGreatB20
namespace Go.Proofs.YtgkjmjlkhnfbiaaGreat
set_option linter.unusedSimpArgs false
set_option linter.unusedVariables false
open Go.RowKit
namespace M
noncomputable def sOk (A B : Int) : Bool := (slk A B false && slk A B true) && (isg (slm A B false) && isg (slm A B true))
noncomputable def sR (A B : Int) (dual : Bool) : Int := rkc (slm A B dual)
noncomputable def fOk (A B : Int) (n : Nat) : Bool := fgk A B false n && fgk A B true n
noncomputable def fR (A B : Int) (dual : Bool) (n : Nat) : Int := rkc (fg A B dual n)
theorem rkc_bd (L : List Int) : 0 ≤ rkc L ∧ rkc L ≤ 64 := by
  unfold rkc
  cases h : isg L
  · simp
  · have hl := isg_len h
    have : Nat.log2 L.length < L.length := Nat.log2_lt (by omega) |>.2 Nat.lt_two_pow_self
    simp only [if_true]
    omega
theorem slm_bd {A B : Int} (h : tc A B) (dual : Bool) : ∀ x ∈ slm A B dual, x.natAbs ≤ 1000000 := fun x hx => (dvs_bd h dual x (List.mem_filter.1 hx).1).2
theorem slm_inc (A B : Int) (dual : Bool) : Inc (slm A B dual) := List.Pairwise.filter _ (dvs_inc _)
theorem slm_len {A B : Int} (h : tc A B) (dual : Bool) : (slm A B dual).length ≤ 1000000 := Nat.le_trans (Nat.le_trans (List.length_filter_le _ _) (dvs_side_len h dual)) (by omega)
theorem fg_bd {A B : Int} (h : tc A B) (dual : Bool) (n : Nat) : ∀ x ∈ fg A B dual n, x.natAbs ≤ 1000000 := fun x hx => by
  have := isCl_iff.1 (grp_cl (fun y hy => (fgl_bd h dual n y hy).1) x hx)
  omega
theorem fg_inc {A B : Int} (h : tc A B) (dual : Bool) (n : Nat) : Inc (fg A B dual n) := grp_inc fun y hy => (fgl_bd h dual n y hy).1
theorem fg_len {A B : Int} (h : tc A B) (dual : Bool) (n : Nat) : (fg A B dual n).length ≤ 1000000 := Nat.le_trans (grp_len fun y hy => (fgl_bd h dual n y hy).1) (by omega)
theorem fg_isg {A B : Int} (h : tc A B) (dual : Bool) (n : Nat) (hk : fgk A B dual n = true) : isg (fg A B dual n) = true := by
  unfold fgk at hk
  unfold fg
  cases hg : gfo (fgl A B dual n) with
  | none => rw [gok_f hg] at hk; cases hk
  | some acc => rw [(gok_t hg).2]; exact isg_gp (fun y hy => (fgl_bd h dual n y hy).1) hg
end M
set_option maxRecDepth 100000 in
set_option maxHeartbeats 1000000 in
theorem selmerRanks_c (A B : Int) (w : World) (h : M.tc A B) :
    Calls Tryz.prog 84 #[.agg #[.int .i64 A, .int .i64 B]] w fun e w' => e = .returned (.tuple #[.int .i64 (M.pick (M.sOk A B) (M.sR A B false)), .int .i64 (M.pick (M.sOk A B) (M.sR A B true)), .bool (M.sOk A B)]) ∧ Below w.heap.size w w' := by
  have P1 := fun W => selmer_c A B false W h
  have R1 := fun W v b ho => implRankOfClasses_c (M.slm A B false) v W b ho (M.slm_bd h false) (M.slm_inc A B false) (M.slm_len h false)
  have P2 := fun W => selmer_c A B true W h
  have R2 := fun W v b ho => implRankOfClasses_c (M.slm A B true) v W b ho (M.slm_bd h true) (M.slm_inc A B true) (M.slm_len h true)
  unfold M.sOk M.sR
  generalize M.rkc (M.slm A B false) = x1 at *
  generalize M.isg (M.slm A B false) = g1 at *
  generalize M.slm A B false = L1 at *
  generalize M.slk A B false = b1 at *
  generalize M.rkc (M.slm A B true) = x2 at *
  generalize M.isg (M.slm A B true) = g2 at *
  generalize M.slm A B true = L2 at *
  generalize M.slk A B true = b2 at *
  have bx := Box.new w A B 25
  cases b1
  · skip
    have P1 := Lib.hid P1
    have P2 := Lib.hid P2
    clear R1 R2
    go_enter Tryz.func84, Tryz.ntmps84
    go_wp2_with (first | (go_at_call 47; (with_reducible refine (P1.out _).mono ?_); rintro e w1 ⟨v1, rfl, ho1, hb1⟩; (have bx1 := bx.keep hb1); (have c0 := bx1.c0); (have c1 := bx1.c1); (have B1 : Below w.heap.size w w1 := (by repeat (first | exact Below.refl _ _ | refine below_alloc ?_ _ | refine below_step ?_ (by assumption) | refine Below.drew ?_ | refine Below.setCell ?_ (by first | exact Nat.le_refl _ | exact Nat.le_add_right _ _ | (simp <;> omega)) _ | refine below_drewN ?_ _)))) | (go_at_call 47; (with_reducible refine (P2.out _).mono ?_); rintro e w2 ⟨v2, rfl, ho2, hb2⟩; (have B2 := B1.trans (hb2.mono B1.size)); (have ho1' := ho1.below hb2)))
    exact bodyPost_ret (v := .tuple #[.int .i64 0, .int .i64 0, .bool false]) (by simp [results, Tryz.results84, go_sem, *]) rfl (⟨rfl, B2⟩)
  · cases b2
    · skip
      have P1 := Lib.hid P1
      have P2 := Lib.hid P2
      clear R1 R2
      go_enter Tryz.func84, Tryz.ntmps84
      go_wp2_with (first | (go_at_call 47; (with_reducible refine (P1.out _).mono ?_); rintro e w1 ⟨v1, rfl, ho1, hb1⟩; (have bx1 := bx.keep hb1); (have c0 := bx1.c0); (have c1 := bx1.c1); (have B1 : Below w.heap.size w w1 := (by repeat (first | exact Below.refl _ _ | refine below_alloc ?_ _ | refine below_step ?_ (by assumption) | refine Below.drew ?_ | refine Below.setCell ?_ (by first | exact Nat.le_refl _ | exact Nat.le_add_right _ _ | (simp <;> omega)) _ | refine below_drewN ?_ _)))) | (go_at_call 47; (with_reducible refine (P2.out _).mono ?_); rintro e w2 ⟨v2, rfl, ho2, hb2⟩; (have B2 := B1.trans (hb2.mono B1.size)); (have ho1' := ho1.below hb2)))
      exact bodyPost_ret (v := .tuple #[.int .i64 0, .int .i64 0, .bool false]) (by simp [results, Tryz.results84, go_sem, *]) rfl (⟨rfl, B2⟩)
    · simp only [M.opt_t] at P1 P2
      have P1 := Lib.hid P1
      have P2 := Lib.hid P2
      cases g1
      · skip
        have R1 := Lib.hid R1
        have R2 := Lib.hid R2
        go_enter Tryz.func84, Tryz.ntmps84
        go_wp2_with (first | (go_at_call 47; (with_reducible refine (P1.out _).mono ?_); rintro e w1 ⟨v1, rfl, ho1, hb1⟩; (have bx1 := bx.keep hb1); (have c0 := bx1.c0); (have c1 := bx1.c1); (have B1 : Below w.heap.size w w1 := (by repeat (first | exact Below.refl _ _ | refine below_alloc ?_ _ | refine below_step ?_ (by assumption) | refine Below.drew ?_ | refine Below.setCell ?_ (by first | exact Nat.le_refl _ | exact Nat.le_add_right _ _ | (simp <;> omega)) _ | refine below_drewN ?_ _)))) | (go_at_call 47; (with_reducible refine (P2.out _).mono ?_); rintro e w2 ⟨v2, rfl, ho2, hb2⟩; (have B2 := B1.trans (hb2.mono B1.size)); (have ho1' := ho1.below hb2)) | (go_at_call 42; (with_reducible refine (R1.out _ _ _ ho1').mono ?_); rintro e w3 ⟨rfl, hb3⟩; (have B3 := B2.trans (hb3.mono B2.size)); (have ho2' := ho2.below hb3)) | (go_at_call 42; (with_reducible refine (R2.out _ _ _ ho2').mono ?_); rintro e w4 ⟨rfl, hb4⟩; (have B4 := B3.trans (hb4.mono B3.size))))
        exact bodyPost_ret (v := .tuple #[.int .i64 0, .int .i64 0, .bool false]) (by simp [results, Tryz.results84, go_sem, *]) rfl (⟨rfl, B4⟩)
      · cases g2
        · skip
          have R1 := Lib.hid R1
          have R2 := Lib.hid R2
          go_enter Tryz.func84, Tryz.ntmps84
          go_wp2_with (first | (go_at_call 47; (with_reducible refine (P1.out _).mono ?_); rintro e w1 ⟨v1, rfl, ho1, hb1⟩; (have bx1 := bx.keep hb1); (have c0 := bx1.c0); (have c1 := bx1.c1); (have B1 : Below w.heap.size w w1 := (by repeat (first | exact Below.refl _ _ | refine below_alloc ?_ _ | refine below_step ?_ (by assumption) | refine Below.drew ?_ | refine Below.setCell ?_ (by first | exact Nat.le_refl _ | exact Nat.le_add_right _ _ | (simp <;> omega)) _ | refine below_drewN ?_ _)))) | (go_at_call 47; (with_reducible refine (P2.out _).mono ?_); rintro e w2 ⟨v2, rfl, ho2, hb2⟩; (have B2 := B1.trans (hb2.mono B1.size)); (have ho1' := ho1.below hb2)) | (go_at_call 42; (with_reducible refine (R1.out _ _ _ ho1').mono ?_); rintro e w3 ⟨rfl, hb3⟩; (have B3 := B2.trans (hb3.mono B2.size)); (have ho2' := ho2.below hb3)) | (go_at_call 42; (with_reducible refine (R2.out _ _ _ ho2').mono ?_); rintro e w4 ⟨rfl, hb4⟩; (have B4 := B3.trans (hb4.mono B3.size))))
          exact bodyPost_ret (v := .tuple #[.int .i64 0, .int .i64 0, .bool false]) (by simp [results, Tryz.results84, go_sem, *]) rfl (⟨rfl, B4⟩)
        · skip
          have R1 := Lib.hid R1
          have R2 := Lib.hid R2
          go_enter Tryz.func84, Tryz.ntmps84
          go_wp2_with (first | (go_at_call 47; (with_reducible refine (P1.out _).mono ?_); rintro e w1 ⟨v1, rfl, ho1, hb1⟩; (have bx1 := bx.keep hb1); (have c0 := bx1.c0); (have c1 := bx1.c1); (have B1 : Below w.heap.size w w1 := (by repeat (first | exact Below.refl _ _ | refine below_alloc ?_ _ | refine below_step ?_ (by assumption) | refine Below.drew ?_ | refine Below.setCell ?_ (by first | exact Nat.le_refl _ | exact Nat.le_add_right _ _ | (simp <;> omega)) _ | refine below_drewN ?_ _)))) | (go_at_call 47; (with_reducible refine (P2.out _).mono ?_); rintro e w2 ⟨v2, rfl, ho2, hb2⟩; (have B2 := B1.trans (hb2.mono B1.size)); (have ho1' := ho1.below hb2)) | (go_at_call 42; (with_reducible refine (R1.out _ _ _ ho1').mono ?_); rintro e w3 ⟨rfl, hb3⟩; (have B3 := B2.trans (hb3.mono B2.size)); (have ho2' := ho2.below hb3)) | (go_at_call 42; (with_reducible refine (R2.out _ _ _ ho2').mono ?_); rintro e w4 ⟨rfl, hb4⟩; (have B4 := B3.trans (hb4.mono B3.size))))
          exact bodyPost_ret (v := .tuple #[.int .i64 x1, .int .i64 x2, .bool true]) (by simp [results, Tryz.results84, go_sem, *]) rfl (⟨rfl, B4⟩)
set_option maxRecDepth 100000 in
set_option maxHeartbeats 1000000 in
theorem rkSelmer_c (A B : Int) (w : World) (h : M.tc A B) :
    Calls Tryz.prog 86 #[.agg #[.int .i64 A, .int .i64 B]] w fun e w' => e = .returned (.tuple #[.int .i64 (M.pick (M.sOk A B) (M.sR A B false)), .int .i64 (M.pick (M.sOk A B) (M.sR A B true)), .bool (M.sOk A B)]) ∧ Below w.heap.size w w' := by
  have P1 := fun W => dsSelmer_c A B false W h
  have R1 := fun W v b ho => specRankOfClasses_c (M.slm A B false) v W b ho (M.slm_bd h false) (M.slm_inc A B false) (M.slm_len h false)
  have P2 := fun W => dsSelmer_c A B true W h
  have R2 := fun W v b ho => specRankOfClasses_c (M.slm A B true) v W b ho (M.slm_bd h true) (M.slm_inc A B true) (M.slm_len h true)
  unfold M.sOk M.sR
  generalize M.rkc (M.slm A B false) = x1 at *
  generalize M.isg (M.slm A B false) = g1 at *
  generalize M.slm A B false = L1 at *
  generalize M.slk A B false = b1 at *
  generalize M.rkc (M.slm A B true) = x2 at *
  generalize M.isg (M.slm A B true) = g2 at *
  generalize M.slm A B true = L2 at *
  generalize M.slk A B true = b2 at *
  have bx := Box.new w A B 25
  cases b1
  · skip
    have P1 := Lib.hid P1
    have P2 := Lib.hid P2
    clear R1 R2
    go_enter Tryz.func86, Tryz.ntmps86
    go_wp2_with (first | (go_at_call 49; (with_reducible refine (P1.out _).mono ?_); rintro e w1 ⟨v1, rfl, ho1, hb1⟩; (have bx1 := bx.keep hb1); (have c0 := bx1.c0); (have c1 := bx1.c1); (have B1 : Below w.heap.size w w1 := (by repeat (first | exact Below.refl _ _ | refine below_alloc ?_ _ | refine below_step ?_ (by assumption) | refine Below.drew ?_ | refine Below.setCell ?_ (by first | exact Nat.le_refl _ | exact Nat.le_add_right _ _ | (simp <;> omega)) _ | refine below_drewN ?_ _)))) | (go_at_call 49; (with_reducible refine (P2.out _).mono ?_); rintro e w2 ⟨v2, rfl, ho2, hb2⟩; (have B2 := B1.trans (hb2.mono B1.size)); (have ho1' := ho1.below hb2)))
    exact bodyPost_ret (v := .tuple #[.int .i64 0, .int .i64 0, .bool false]) (by simp [results, Tryz.results86, go_sem, *]) rfl (⟨rfl, B2⟩)
  · cases b2
    · skip
      have P1 := Lib.hid P1
      have P2 := Lib.hid P2
      clear R1 R2
      go_enter Tryz.func86, Tryz.ntmps86
      go_wp2_with (first | (go_at_call 49; (with_reducible refine (P1.out _).mono ?_); rintro e w1 ⟨v1, rfl, ho1, hb1⟩; (have bx1 := bx.keep hb1); (have c0 := bx1.c0); (have c1 := bx1.c1); (have B1 : Below w.heap.size w w1 := (by repeat (first | exact Below.refl _ _ | refine below_alloc ?_ _ | refine below_step ?_ (by assumption) | refine Below.drew ?_ | refine Below.setCell ?_ (by first | exact Nat.le_refl _ | exact Nat.le_add_right _ _ | (simp <;> omega)) _ | refine below_drewN ?_ _)))) | (go_at_call 49; (with_reducible refine (P2.out _).mono ?_); rintro e w2 ⟨v2, rfl, ho2, hb2⟩; (have B2 := B1.trans (hb2.mono B1.size)); (have ho1' := ho1.below hb2)))
      exact bodyPost_ret (v := .tuple #[.int .i64 0, .int .i64 0, .bool false]) (by simp [results, Tryz.results86, go_sem, *]) rfl (⟨rfl, B2⟩)
    · simp only [M.opt_t] at P1 P2
      have P1 := Lib.hid P1
      have P2 := Lib.hid P2
      cases g1
      · skip
        have R1 := Lib.hid R1
        have R2 := Lib.hid R2
        go_enter Tryz.func86, Tryz.ntmps86
        go_wp2_with (first | (go_at_call 49; (with_reducible refine (P1.out _).mono ?_); rintro e w1 ⟨v1, rfl, ho1, hb1⟩; (have bx1 := bx.keep hb1); (have c0 := bx1.c0); (have c1 := bx1.c1); (have B1 : Below w.heap.size w w1 := (by repeat (first | exact Below.refl _ _ | refine below_alloc ?_ _ | refine below_step ?_ (by assumption) | refine Below.drew ?_ | refine Below.setCell ?_ (by first | exact Nat.le_refl _ | exact Nat.le_add_right _ _ | (simp <;> omega)) _ | refine below_drewN ?_ _)))) | (go_at_call 49; (with_reducible refine (P2.out _).mono ?_); rintro e w2 ⟨v2, rfl, ho2, hb2⟩; (have B2 := B1.trans (hb2.mono B1.size)); (have ho1' := ho1.below hb2)) | (go_at_call 117; (with_reducible refine (R1.out _ _ _ ho1').mono ?_); rintro e w3 ⟨rfl, hb3⟩; (have B3 := B2.trans (hb3.mono B2.size)); (have ho2' := ho2.below hb3)) | (go_at_call 117; (with_reducible refine (R2.out _ _ _ ho2').mono ?_); rintro e w4 ⟨rfl, hb4⟩; (have B4 := B3.trans (hb4.mono B3.size))))
        exact bodyPost_ret (v := .tuple #[.int .i64 0, .int .i64 0, .bool false]) (by simp [results, Tryz.results86, go_sem, *]) rfl (⟨rfl, B4⟩)
      · cases g2
        · skip
          have R1 := Lib.hid R1
          have R2 := Lib.hid R2
          go_enter Tryz.func86, Tryz.ntmps86
          go_wp2_with (first | (go_at_call 49; (with_reducible refine (P1.out _).mono ?_); rintro e w1 ⟨v1, rfl, ho1, hb1⟩; (have bx1 := bx.keep hb1); (have c0 := bx1.c0); (have c1 := bx1.c1); (have B1 : Below w.heap.size w w1 := (by repeat (first | exact Below.refl _ _ | refine below_alloc ?_ _ | refine below_step ?_ (by assumption) | refine Below.drew ?_ | refine Below.setCell ?_ (by first | exact Nat.le_refl _ | exact Nat.le_add_right _ _ | (simp <;> omega)) _ | refine below_drewN ?_ _)))) | (go_at_call 49; (with_reducible refine (P2.out _).mono ?_); rintro e w2 ⟨v2, rfl, ho2, hb2⟩; (have B2 := B1.trans (hb2.mono B1.size)); (have ho1' := ho1.below hb2)) | (go_at_call 117; (with_reducible refine (R1.out _ _ _ ho1').mono ?_); rintro e w3 ⟨rfl, hb3⟩; (have B3 := B2.trans (hb3.mono B2.size)); (have ho2' := ho2.below hb3)) | (go_at_call 117; (with_reducible refine (R2.out _ _ _ ho2').mono ?_); rintro e w4 ⟨rfl, hb4⟩; (have B4 := B3.trans (hb4.mono B3.size))))
          exact bodyPost_ret (v := .tuple #[.int .i64 0, .int .i64 0, .bool false]) (by simp [results, Tryz.results86, go_sem, *]) rfl (⟨rfl, B4⟩)
        · skip
          have R1 := Lib.hid R1
          have R2 := Lib.hid R2
          go_enter Tryz.func86, Tryz.ntmps86
          go_wp2_with (first | (go_at_call 49; (with_reducible refine (P1.out _).mono ?_); rintro e w1 ⟨v1, rfl, ho1, hb1⟩; (have bx1 := bx.keep hb1); (have c0 := bx1.c0); (have c1 := bx1.c1); (have B1 : Below w.heap.size w w1 := (by repeat (first | exact Below.refl _ _ | refine below_alloc ?_ _ | refine below_step ?_ (by assumption) | refine Below.drew ?_ | refine Below.setCell ?_ (by first | exact Nat.le_refl _ | exact Nat.le_add_right _ _ | (simp <;> omega)) _ | refine below_drewN ?_ _)))) | (go_at_call 49; (with_reducible refine (P2.out _).mono ?_); rintro e w2 ⟨v2, rfl, ho2, hb2⟩; (have B2 := B1.trans (hb2.mono B1.size)); (have ho1' := ho1.below hb2)) | (go_at_call 117; (with_reducible refine (R1.out _ _ _ ho1').mono ?_); rintro e w3 ⟨rfl, hb3⟩; (have B3 := B2.trans (hb3.mono B2.size)); (have ho2' := ho2.below hb3)) | (go_at_call 117; (with_reducible refine (R2.out _ _ _ ho2').mono ?_); rintro e w4 ⟨rfl, hb4⟩; (have B4 := B3.trans (hb4.mono B3.size))))
          exact bodyPost_ret (v := .tuple #[.int .i64 x1, .int .i64 x2, .bool true]) (by simp [results, Tryz.results86, go_sem, *]) rfl (⟨rfl, B4⟩)
set_option maxRecDepth 100000 in
set_option maxHeartbeats 1000000 in
theorem foundRanks_c (A B : Int) (n : Nat) (w : World) (h : M.tc A B) (hn : n ≤ 60) :
    Calls Tryz.prog 87 #[.agg #[.int .i64 A, .int .i64 B], .int .i64 n] w fun e w' => e = .returned (.tuple #[.int .i64 (M.pick (M.fOk A B n) (M.fR A B false n)), .int .i64 (M.pick (M.fOk A B n) (M.fR A B true n)), .bool (M.fOk A B n)]) ∧ Below w.heap.size w w' := by
  have P1 := fun W => foundGroup_c A B false n W h hn
  have R1 := fun W v b ho => implRankOfClasses_c (M.fg A B false n) v W b ho (M.fg_bd h false n) (M.fg_inc h false n) (M.fg_len h false n)
  have I1 := M.fg_isg h false n
  have P2 := fun W => foundGroup_c A B true n W h hn
  have R2 := fun W v b ho => implRankOfClasses_c (M.fg A B true n) v W b ho (M.fg_bd h true n) (M.fg_inc h true n) (M.fg_len h true n)
  have I2 := M.fg_isg h true n
  unfold M.fOk M.fR
  generalize M.rkc (M.fg A B false n) = x1 at *
  generalize M.isg (M.fg A B false n) = g1 at *
  generalize M.fg A B false n = L1 at *
  generalize M.fgk A B false n = b1 at *
  generalize M.rkc (M.fg A B true n) = x2 at *
  generalize M.isg (M.fg A B true n) = g2 at *
  generalize M.fg A B true n = L2 at *
  generalize M.fgk A B true n = b2 at *
  have bx := Box.new w A B 25
  cases b1
  · skip
    have P1 := Lib.hid P1
    have P2 := Lib.hid P2
    clear R1 R2 I1 I2
    go_enter Tryz.func87, Tryz.ntmps87
    go_wp2_with (first | (go_at_call 91; (with_reducible refine (P1.out _).mono ?_); rintro e w1 ⟨v1, rfl, ho1, hb1⟩; (have bx1 := bx.keep hb1); (have c0 := bx1.c0); (have c1 := bx1.c1); (have B1 : Below w.heap.size w w1 := (by repeat (first | exact Below.refl _ _ | refine below_alloc ?_ _ | refine below_step ?_ (by assumption) | refine Below.drew ?_ | refine Below.setCell ?_ (by first | exact Nat.le_refl _ | exact Nat.le_add_right _ _ | (simp <;> omega)) _ | refine below_drewN ?_ _)))) | (go_at_call 91; (with_reducible refine (P2.out _).mono ?_); rintro e w2 ⟨v2, rfl, ho2, hb2⟩; (have B2 := B1.trans (hb2.mono B1.size)); (have ho1' := ho1.below hb2)))
    exact bodyPost_ret (v := .tuple #[.int .i64 0, .int .i64 0, .bool false]) (by simp [results, Tryz.results87, go_sem, *]) rfl (⟨rfl, B2⟩)
  · cases b2
    · skip
      have P1 := Lib.hid P1
      have P2 := Lib.hid P2
      clear R1 R2 I1 I2
      go_enter Tryz.func87, Tryz.ntmps87
      go_wp2_with (first | (go_at_call 91; (with_reducible refine (P1.out _).mono ?_); rintro e w1 ⟨v1, rfl, ho1, hb1⟩; (have bx1 := bx.keep hb1); (have c0 := bx1.c0); (have c1 := bx1.c1); (have B1 : Below w.heap.size w w1 := (by repeat (first | exact Below.refl _ _ | refine below_alloc ?_ _ | refine below_step ?_ (by assumption) | refine Below.drew ?_ | refine Below.setCell ?_ (by first | exact Nat.le_refl _ | exact Nat.le_add_right _ _ | (simp <;> omega)) _ | refine below_drewN ?_ _)))) | (go_at_call 91; (with_reducible refine (P2.out _).mono ?_); rintro e w2 ⟨v2, rfl, ho2, hb2⟩; (have B2 := B1.trans (hb2.mono B1.size)); (have ho1' := ho1.below hb2)))
      exact bodyPost_ret (v := .tuple #[.int .i64 0, .int .i64 0, .bool false]) (by simp [results, Tryz.results87, go_sem, *]) rfl (⟨rfl, B2⟩)
    · simp only [M.opt_t] at P1 P2
      rw [I1 rfl] at R1
      rw [I2 rfl] at R2
      clear I1 I2
      have P1 := Lib.hid P1
      have P2 := Lib.hid P2
      have R1 := Lib.hid R1
      have R2 := Lib.hid R2
      go_enter Tryz.func87, Tryz.ntmps87
      go_wp2_with (first | (go_at_call 91; (with_reducible refine (P1.out _).mono ?_); rintro e w1 ⟨v1, rfl, ho1, hb1⟩; (have bx1 := bx.keep hb1); (have c0 := bx1.c0); (have c1 := bx1.c1); (have B1 : Below w.heap.size w w1 := (by repeat (first | exact Below.refl _ _ | refine below_alloc ?_ _ | refine below_step ?_ (by assumption) | refine Below.drew ?_ | refine Below.setCell ?_ (by first | exact Nat.le_refl _ | exact Nat.le_add_right _ _ | (simp <;> omega)) _ | refine below_drewN ?_ _)))) | (go_at_call 91; (with_reducible refine (P2.out _).mono ?_); rintro e w2 ⟨v2, rfl, ho2, hb2⟩; (have B2 := B1.trans (hb2.mono B1.size)); (have ho1' := ho1.below hb2)) | (go_at_call 42; (with_reducible refine (R1.out _ _ _ ho1').mono ?_); rintro e w3 ⟨rfl, hb3⟩; (have B3 := B2.trans (hb3.mono B2.size)); (have ho2' := ho2.below hb3)) | (go_at_call 42; (with_reducible refine (R2.out _ _ _ ho2').mono ?_); rintro e w4 ⟨rfl, hb4⟩; (have B4 := B3.trans (hb4.mono B3.size))))
      exact bodyPost_ret (v := .tuple #[.int .i64 x1, .int .i64 x2, .bool true]) (by simp [results, Tryz.results87, go_sem, *]) rfl (⟨rfl, B4⟩)
set_option maxRecDepth 100000 in
set_option maxHeartbeats 1000000 in
theorem rkFound_c (A B : Int) (n : Nat) (w : World) (h : M.tc A B) (hn : n ≤ 60) :
    Calls Tryz.prog 82 #[.agg #[.int .i64 A, .int .i64 B], .int .i64 n] w fun e w' => e = .returned (.tuple #[.int .i64 (M.pick (M.fOk A B n) (M.fR A B false n)), .int .i64 (M.pick (M.fOk A B n) (M.fR A B true n)), .bool (M.fOk A B n)]) ∧ Below w.heap.size w w' := by
  have P1 := fun W => rkGroup_c A B false n W h hn
  have R1 := fun W v b ho => specRankOfClasses_c (M.fg A B false n) v W b ho (M.fg_bd h false n) (M.fg_inc h false n) (M.fg_len h false n)
  have I1 := M.fg_isg h false n
  have P2 := fun W => rkGroup_c A B true n W h hn
  have R2 := fun W v b ho => specRankOfClasses_c (M.fg A B true n) v W b ho (M.fg_bd h true n) (M.fg_inc h true n) (M.fg_len h true n)
  have I2 := M.fg_isg h true n
  unfold M.fOk M.fR
  generalize M.rkc (M.fg A B false n) = x1 at *
  generalize M.isg (M.fg A B false n) = g1 at *
  generalize M.fg A B false n = L1 at *
  generalize M.fgk A B false n = b1 at *
  generalize M.rkc (M.fg A B true n) = x2 at *
  generalize M.isg (M.fg A B true n) = g2 at *
  generalize M.fg A B true n = L2 at *
  generalize M.fgk A B true n = b2 at *
  have bx := Box.new w A B 25
  cases b1
  · skip
    have P1 := Lib.hid P1
    have P2 := Lib.hid P2
    clear R1 R2 I1 I2
    go_enter Tryz.func82, Tryz.ntmps82
    go_wp2_with (first | (go_at_call 92; (with_reducible refine (P1.out _).mono ?_); rintro e w1 ⟨v1, rfl, ho1, hb1⟩; (have bx1 := bx.keep hb1); (have c0 := bx1.c0); (have c1 := bx1.c1); (have B1 : Below w.heap.size w w1 := (by repeat (first | exact Below.refl _ _ | refine below_alloc ?_ _ | refine below_step ?_ (by assumption) | refine Below.drew ?_ | refine Below.setCell ?_ (by first | exact Nat.le_refl _ | exact Nat.le_add_right _ _ | (simp <;> omega)) _ | refine below_drewN ?_ _)))) | (go_at_call 92; (with_reducible refine (P2.out _).mono ?_); rintro e w2 ⟨v2, rfl, ho2, hb2⟩; (have B2 := B1.trans (hb2.mono B1.size)); (have ho1' := ho1.below hb2)))
    exact bodyPost_ret (v := .tuple #[.int .i64 0, .int .i64 0, .bool false]) (by simp [results, Tryz.results82, go_sem, *]) rfl (⟨rfl, B2⟩)
  · cases b2
    · skip
      have P1 := Lib.hid P1
      have P2 := Lib.hid P2
      clear R1 R2 I1 I2
      go_enter Tryz.func82, Tryz.ntmps82
      go_wp2_with (first | (go_at_call 92; (with_reducible refine (P1.out _).mono ?_); rintro e w1 ⟨v1, rfl, ho1, hb1⟩; (have bx1 := bx.keep hb1); (have c0 := bx1.c0); (have c1 := bx1.c1); (have B1 : Below w.heap.size w w1 := (by repeat (first | exact Below.refl _ _ | refine below_alloc ?_ _ | refine below_step ?_ (by assumption) | refine Below.drew ?_ | refine Below.setCell ?_ (by first | exact Nat.le_refl _ | exact Nat.le_add_right _ _ | (simp <;> omega)) _ | refine below_drewN ?_ _)))) | (go_at_call 92; (with_reducible refine (P2.out _).mono ?_); rintro e w2 ⟨v2, rfl, ho2, hb2⟩; (have B2 := B1.trans (hb2.mono B1.size)); (have ho1' := ho1.below hb2)))
      exact bodyPost_ret (v := .tuple #[.int .i64 0, .int .i64 0, .bool false]) (by simp [results, Tryz.results82, go_sem, *]) rfl (⟨rfl, B2⟩)
    · simp only [M.opt_t] at P1 P2
      rw [I1 rfl] at R1
      rw [I2 rfl] at R2
      clear I1 I2
      have P1 := Lib.hid P1
      have P2 := Lib.hid P2
      have R1 := Lib.hid R1
      have R2 := Lib.hid R2
      go_enter Tryz.func82, Tryz.ntmps82
      go_wp2_with (first | (go_at_call 92; (with_reducible refine (P1.out _).mono ?_); rintro e w1 ⟨v1, rfl, ho1, hb1⟩; (have bx1 := bx.keep hb1); (have c0 := bx1.c0); (have c1 := bx1.c1); (have B1 : Below w.heap.size w w1 := (by repeat (first | exact Below.refl _ _ | refine below_alloc ?_ _ | refine below_step ?_ (by assumption) | refine Below.drew ?_ | refine Below.setCell ?_ (by first | exact Nat.le_refl _ | exact Nat.le_add_right _ _ | (simp <;> omega)) _ | refine below_drewN ?_ _)))) | (go_at_call 92; (with_reducible refine (P2.out _).mono ?_); rintro e w2 ⟨v2, rfl, ho2, hb2⟩; (have B2 := B1.trans (hb2.mono B1.size)); (have ho1' := ho1.below hb2)) | (go_at_call 117; (with_reducible refine (R1.out _ _ _ ho1').mono ?_); rintro e w3 ⟨rfl, hb3⟩; (have B3 := B2.trans (hb3.mono B2.size)); (have ho2' := ho2.below hb3)) | (go_at_call 117; (with_reducible refine (R2.out _ _ _ ho2').mono ?_); rintro e w4 ⟨rfl, hb4⟩; (have B4 := B3.trans (hb4.mono B3.size))))
      exact bodyPost_ret (v := .tuple #[.int .i64 x1, .int .i64 x2, .bool true]) (by simp [results, Tryz.results82, go_sem, *]) rfl (⟨rfl, B4⟩)
end Go.Proofs.YtgkjmjlkhnfbiaaGreat

namespace Go.Proofs.YtgkjmjlkhnfbiaaGreat
set_option linter.unusedSimpArgs false
set_option linter.unusedVariables false
open Go.RowKit
namespace M
noncomputable def low (A B : Int) (n : Nat) : Int := max (fR A B false n + fR A B true n - 2) 0
noncomputable def up (A B : Int) : Int := sR A B false + sR A B true - 2
noncomputable def bOk (A B : Int) (n : Nat) : Bool := fOk A B n && sOk A B
end M
set_option maxRecDepth 100000 in
theorem lowerRank_c (A B : Int) (n : Nat) (w : World) (h : M.tc A B) (hn : n ≤ 60) :
    Calls Tryz.prog 81 #[.agg #[.int .i64 A, .int .i64 B], .int .i64 n] w fun e w' => e = .returned (.tuple #[.int .i64 (M.pick (M.fOk A B n) (M.low A B n)), .bool (M.fOk A B n)]) ∧ Below w.heap.size w w' := by
  have P := fun W => foundRanks_c A B n W h hn
  have q1 := M.rkc_bd (M.fg A B false n)
  have q2 := M.rkc_bd (M.fg A B true n)
  unfold M.low
  have e1 : M.fR A B false n = M.rkc (M.fg A B false n) := rfl
  have e2 : M.fR A B true n = M.rkc (M.fg A B true n) := rfl
  rw [← e1] at q1
  rw [← e2] at q2
  clear e1 e2
  generalize M.fR A B false n = x at *
  generalize M.fR A B true n = y at *
  generalize M.fOk A B n = b at *
  cases b
  · simp only [M.pick_f] at P
    have P := Lib.hid P
    go_enter Tryz.func81, Tryz.ntmps81
    go_wp2_with (go_at_call 87; (with_reducible refine (P.out _).mono ?_); rintro e w1 ⟨rfl, hb1⟩; (have B1 : Below w.heap.size w w1 := (by repeat (first | exact Below.refl _ _ | refine below_alloc ?_ _ | refine below_step ?_ (by assumption) | refine Below.drew ?_ | refine Below.setCell ?_ (by first | exact Nat.le_refl _ | exact Nat.le_add_right _ _ | (simp <;> omega)) _ | refine below_drewN ?_ _))))
    go_ret2
    exact ⟨rfl, B1⟩
  · simp only [M.pick_t] at P
    have P := Lib.hid P
    simp only [M.pick_t]
    by_cases hm : x + y - 2 ≤ 0
    · have hv : Hid (max (x + y - 2) 0 = 0) := Lib.hid (by omega)
      go_enter Tryz.func81, Tryz.ntmps81
      go_wp2_with (go_at_call 87; (with_reducible refine (P.out _).mono ?_); rintro e w1 ⟨rfl, hb1⟩; (have B1 : Below w.heap.size w w1 := (by repeat (first | exact Below.refl _ _ | refine below_alloc ?_ _ | refine below_step ?_ (by assumption) | refine Below.drew ?_ | refine Below.setCell ?_ (by first | exact Nat.le_refl _ | exact Nat.le_add_right _ _ | (simp <;> omega)) _ | refine below_drewN ?_ _))))
      go_ret2
      exact ⟨by rw [hv.out] <;> rfl, B1⟩
    · have hv : Hid (max (x + y - 2) 0 = x + y - 2) := Lib.hid (by omega)
      go_enter Tryz.func81, Tryz.ntmps81
      go_wp2_with (go_at_call 87; (with_reducible refine (P.out _).mono ?_); rintro e w1 ⟨rfl, hb1⟩; (have B1 : Below w.heap.size w w1 := (by repeat (first | exact Below.refl _ _ | refine below_alloc ?_ _ | refine below_step ?_ (by assumption) | refine Below.drew ?_ | refine Below.setCell ?_ (by first | exact Nat.le_refl _ | exact Nat.le_add_right _ _ | (simp <;> omega)) _ | refine below_drewN ?_ _))))
      go_ret2
      exact ⟨by rw [hv.out] <;> rfl, B1⟩
theorem rkLow_c (x y : Int) (w : World) (q1 : 0 ≤ x ∧ x ≤ 64) (q2 : 0 ≤ y ∧ y ≤ 64) :
    Calls Tryz.prog 83 #[.int .i64 x, .int .i64 y] w fun e w' => e = .returned (.int .i64 (max (x + y - 2) 0)) ∧ Below w.heap.size w w' := by
  have P := fun W => l1Most_c 0 (x + y - 2) W
  rw [show max 0 (x + y - 2) = max (x + y - 2) 0 by omega] at P
  generalize max (x + y - 2) 0 = z at *
  have P := Lib.hid P
  go_enter Tryz.func83, Tryz.ntmps83
  go_wp2_with (go_at_call 118; (with_reducible refine (P.out _).mono ?_); rintro e w1 ⟨rfl, rfl⟩)
  go_ret
  exact ⟨rfl, (by repeat (first | exact Below.refl _ _ | refine below_alloc ?_ _ | refine below_step ?_ (by assumption) | refine Below.drew ?_ | refine Below.setCell ?_ (by first | exact Nat.le_refl _ | exact Nat.le_add_right _ _ | (simp <;> omega)) _ | refine below_drewN ?_ _))⟩
set_option maxRecDepth 100000 in
theorem rkUpper_c (A B : Int) (w : World) (h : M.tc A B) :
    Calls Tryz.prog 85 #[.agg #[.int .i64 A, .int .i64 B]] w fun e w' => e = .returned (.tuple #[.int .i64 (M.pick (M.sOk A B) (M.up A B)), .bool (M.sOk A B)]) ∧ Below w.heap.size w w' := by
  have P := fun W => rkSelmer_c A B W h
  have q1 := M.rkc_bd (M.slm A B false)
  have q2 := M.rkc_bd (M.slm A B true)
  unfold M.up
  have e1 : M.sR A B false = M.rkc (M.slm A B false) := rfl
  have e2 : M.sR A B true = M.rkc (M.slm A B true) := rfl
  rw [← e1] at q1
  rw [← e2] at q2
  clear e1 e2
  generalize M.sR A B false = x at *
  generalize M.sR A B true = y at *
  generalize M.sOk A B = b at *
  cases b
  · simp only [M.pick_f] at P
    have P := Lib.hid P
    go_enter Tryz.func85, Tryz.ntmps85
    go_wp2_with (go_at_call 86; (with_reducible refine (P.out _).mono ?_); rintro e w1 ⟨rfl, hb1⟩; (have B1 : Below w.heap.size w w1 := (by repeat (first | exact Below.refl _ _ | refine below_alloc ?_ _ | refine below_step ?_ (by assumption) | refine Below.drew ?_ | refine Below.setCell ?_ (by first | exact Nat.le_refl _ | exact Nat.le_add_right _ _ | (simp <;> omega)) _ | refine below_drewN ?_ _))))
    go_ret2
    exact ⟨rfl, B1⟩
  · simp only [M.pick_t] at P
    have P := Lib.hid P
    simp only [M.pick_t]
    go_enter Tryz.func85, Tryz.ntmps85
    go_wp2_with (go_at_call 86; (with_reducible refine (P.out _).mono ?_); rintro e w1 ⟨rfl, hb1⟩; (have B1 : Below w.heap.size w w1 := (by repeat (first | exact Below.refl _ _ | refine below_alloc ?_ _ | refine below_step ?_ (by assumption) | refine Below.drew ?_ | refine Below.setCell ?_ (by first | exact Nat.le_refl _ | exact Nat.le_add_right _ _ | (simp <;> omega)) _ | refine below_drewN ?_ _))))
    go_ret2
    exact ⟨rfl, B1⟩
set_option maxRecDepth 100000 in
theorem rankBounds_c (A B : Int) (n : Nat) (w : World) (h : M.tc A B) (hn : n ≤ 60) :
    Calls Tryz.prog 78 #[.agg #[.int .i64 A, .int .i64 B], .int .i64 n] w fun e w' => e = .returned (.tuple #[.int .i64 (M.pick (M.bOk A B n) (M.low A B n)), .int .i64 (M.pick (M.bOk A B n) (M.up A B)), .bool (M.bOk A B n)]) ∧ Below w.heap.size w w' := by
  have P1 := fun W => lowerRank_c A B n W h hn
  have P2 := fun W => selmerRanks_c A B W h
  have q1 := M.rkc_bd (M.slm A B false)
  have q2 := M.rkc_bd (M.slm A B true)
  unfold M.up M.bOk
  have e1 : M.sR A B false = M.rkc (M.slm A B false) := rfl
  have e2 : M.sR A B true = M.rkc (M.slm A B true) := rfl
  rw [← e1] at q1
  rw [← e2] at q2
  clear e1 e2
  generalize M.sR A B false = x at *
  generalize M.sR A B true = y at *
  generalize M.sOk A B = b at *
  generalize M.fOk A B n = c at *
  generalize M.low A B n = z at *
  have bx := Box.new w A B 25
  cases c
  · have P1 := Lib.hid P1
    have P2 := Lib.hid P2
    go_enter Tryz.func78, Tryz.ntmps78
    go_wp2_with (first
      | (go_at_call 81; (with_reducible refine (P1.out _).mono ?_); rintro e w1 ⟨rfl, hb1⟩; (have bx1 := bx.keep hb1); (have c0 := bx1.c0); (have c1 := bx1.c1); (have B1 : Below w.heap.size w w1 := (by repeat (first | exact Below.refl _ _ | refine below_alloc ?_ _ | refine below_step ?_ (by assumption) | refine Below.drew ?_ | refine Below.setCell ?_ (by first | exact Nat.le_refl _ | exact Nat.le_add_right _ _ | (simp <;> omega)) _ | refine below_drewN ?_ _))))
      | (go_at_call 84; (with_reducible refine (P2.out _).mono ?_); rintro e w2 ⟨rfl, hb2⟩; (have B2 := B1.trans (hb2.mono B1.size))))
    exact bodyPost_ret (v := .tuple #[.int .i64 0, .int .i64 0, .bool false]) (by simp [results, Tryz.results78, go_sem, *]) rfl (⟨rfl, B2⟩)
  · cases b
    · simp only [M.pick_t] at P1
      simp only [M.pick_f] at P2
      have P1 := Lib.hid P1
      have P2 := Lib.hid P2
      go_enter Tryz.func78, Tryz.ntmps78
      go_wp2_with (first
        | (go_at_call 81; (with_reducible refine (P1.out _).mono ?_); rintro e w1 ⟨rfl, hb1⟩; (have bx1 := bx.keep hb1); (have c0 := bx1.c0); (have c1 := bx1.c1); (have B1 : Below w.heap.size w w1 := (by repeat (first | exact Below.refl _ _ | refine below_alloc ?_ _ | refine below_step ?_ (by assumption) | refine Below.drew ?_ | refine Below.setCell ?_ (by first | exact Nat.le_refl _ | exact Nat.le_add_right _ _ | (simp <;> omega)) _ | refine below_drewN ?_ _))))
        | (go_at_call 84; (with_reducible refine (P2.out _).mono ?_); rintro e w2 ⟨rfl, hb2⟩; (have B2 := B1.trans (hb2.mono B1.size))))
      exact bodyPost_ret (v := .tuple #[.int .i64 0, .int .i64 0, .bool false]) (by simp [results, Tryz.results78, go_sem, *]) rfl (⟨rfl, B2⟩)
    · simp only [M.pick_t] at P1
      simp only [M.pick_t] at P2
      have P1 := Lib.hid P1
      have P2 := Lib.hid P2
      go_enter Tryz.func78, Tryz.ntmps78
      go_wp2_with (first
        | (go_at_call 81; (with_reducible refine (P1.out _).mono ?_); rintro e w1 ⟨rfl, hb1⟩; (have bx1 := bx.keep hb1); (have c0 := bx1.c0); (have c1 := bx1.c1); (have B1 : Below w.heap.size w w1 := (by repeat (first | exact Below.refl _ _ | refine below_alloc ?_ _ | refine below_step ?_ (by assumption) | refine Below.drew ?_ | refine Below.setCell ?_ (by first | exact Nat.le_refl _ | exact Nat.le_add_right _ _ | (simp <;> omega)) _ | refine below_drewN ?_ _))))
        | (go_at_call 84; (with_reducible refine (P2.out _).mono ?_); rintro e w2 ⟨rfl, hb2⟩; (have B2 := B1.trans (hb2.mono B1.size))))
      exact bodyPost_ret (v := .tuple #[.int .i64 z, .int .i64 (x + y - 2), .bool true]) (by simp [results, Tryz.results78, go_sem, *]) rfl (⟨rfl, B2⟩)
set_option maxRecDepth 100000 in
theorem rkBounds_c (A B : Int) (n : Nat) (w : World) (h : M.tc A B) (hn : n ≤ 60) :
    Calls Tryz.prog 80 #[.agg #[.int .i64 A, .int .i64 B], .int .i64 n] w fun e w' => e = .returned (.tuple #[.int .i64 (M.pick (M.bOk A B n) (M.low A B n)), .int .i64 (M.pick (M.bOk A B n) (M.up A B)), .bool (M.bOk A B n)]) ∧ Below w.heap.size w w' := by
  have P1 := fun W => rkFound_c A B n W h hn
  have P2 := fun W => rkUpper_c A B W h
  have P3 := fun W => rkLow_c (M.fR A B false n) (M.fR A B true n) W (M.rkc_bd (M.fg A B false n)) (M.rkc_bd (M.fg A B true n))
  unfold M.low M.bOk
  generalize M.fR A B false n = x at *
  generalize M.fR A B true n = y at *
  generalize max (x + y - 2) 0 = z at *
  generalize M.sOk A B = b at *
  generalize M.fOk A B n = c at *
  generalize M.up A B = u at *
  have P3 := Lib.hid P3
  have bx := Box.new w A B 25
  cases c
  · have P1 := Lib.hid P1
    have P2 := Lib.hid P2
    go_enter Tryz.func80, Tryz.ntmps80
    go_wp2_with (first
      | (go_at_call 82; (with_reducible refine (P1.out _).mono ?_); rintro e w1 ⟨rfl, hb1⟩; (have bx1 := bx.keep hb1); (have c0 := bx1.c0); (have c1 := bx1.c1); (have B1 : Below w.heap.size w w1 := (by repeat (first | exact Below.refl _ _ | refine below_alloc ?_ _ | refine below_step ?_ (by assumption) | refine Below.drew ?_ | refine Below.setCell ?_ (by first | exact Nat.le_refl _ | exact Nat.le_add_right _ _ | (simp <;> omega)) _ | refine below_drewN ?_ _))))
      | (go_at_call 85; (with_reducible refine (P2.out _).mono ?_); rintro e w2 ⟨rfl, hb2⟩; (have B2 := B1.trans (hb2.mono B1.size))))
    exact bodyPost_ret (v := .tuple #[.int .i64 0, .int .i64 0, .bool false]) (by simp [results, Tryz.results80, go_sem, *]) rfl (⟨rfl, B2⟩)
  · cases b
    · simp only [M.pick_t] at P1
      simp only [M.pick_f] at P2
      have P1 := Lib.hid P1
      have P2 := Lib.hid P2
      go_enter Tryz.func80, Tryz.ntmps80
      go_wp2_with (first
        | (go_at_call 82; (with_reducible refine (P1.out _).mono ?_); rintro e w1 ⟨rfl, hb1⟩; (have bx1 := bx.keep hb1); (have c0 := bx1.c0); (have c1 := bx1.c1); (have B1 : Below w.heap.size w w1 := (by repeat (first | exact Below.refl _ _ | refine below_alloc ?_ _ | refine below_step ?_ (by assumption) | refine Below.drew ?_ | refine Below.setCell ?_ (by first | exact Nat.le_refl _ | exact Nat.le_add_right _ _ | (simp <;> omega)) _ | refine below_drewN ?_ _))))
        | (go_at_call 85; (with_reducible refine (P2.out _).mono ?_); rintro e w2 ⟨rfl, hb2⟩; (have B2 := B1.trans (hb2.mono B1.size))))
      exact bodyPost_ret (v := .tuple #[.int .i64 0, .int .i64 0, .bool false]) (by simp [results, Tryz.results80, go_sem, *]) rfl (⟨rfl, B2⟩)
    · simp only [M.pick_t] at P1
      simp only [M.pick_t] at P2
      have P1 := Lib.hid P1
      have P2 := Lib.hid P2
      go_enter Tryz.func80, Tryz.ntmps80
      go_wp2_with (first
        | (go_at_call 82; (with_reducible refine (P1.out _).mono ?_); rintro e w1 ⟨rfl, hb1⟩; (have bx1 := bx.keep hb1); (have c0 := bx1.c0); (have c1 := bx1.c1); (have B1 : Below w.heap.size w w1 := (by repeat (first | exact Below.refl _ _ | refine below_alloc ?_ _ | refine below_step ?_ (by assumption) | refine Below.drew ?_ | refine Below.setCell ?_ (by first | exact Nat.le_refl _ | exact Nat.le_add_right _ _ | (simp <;> omega)) _ | refine below_drewN ?_ _))))
        | (go_at_call 85; (with_reducible refine (P2.out _).mono ?_); rintro e w2 ⟨rfl, hb2⟩; (have B2 := B1.trans (hb2.mono B1.size)))
        | (go_at_call 83; (with_reducible refine (P3.out _).mono ?_); rintro e w3 ⟨rfl, hb3⟩; (have B3 := B2.trans (hb3.mono B2.size))))
      exact bodyPost_ret (v := .tuple #[.int .i64 z, .int .i64 u, .bool true]) (by simp [results, Tryz.results80, go_sem, *]) rfl (⟨rfl, B3⟩)
end Go.Proofs.YtgkjmjlkhnfbiaaGreat
