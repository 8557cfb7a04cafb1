/-
  Contracts: a point carried to a neighbour, by the program: the walk.
-/
import Derived.Test.YtpemckpnlemkfaaG3
import Derived.Test.YtpemckpnlemkfaaG5
import Derived.Deep.DeepCutAuto
namespace Go.Proofs.Ytpemckpnlemkfaa
set_option linter.unusedSimpArgs false
set_option linter.unusedVariables false
open Go.RowKit

theorem IsCalc.drew {w : World} {g : Nat} (h : IsCalc w g) : IsCalc w.drew g := ⟨h.cell, h.free, h.size⟩
theorem IsCalc.drewN {w : World} {g : Nat} (h : IsCalc w g) (n : Nat) : IsCalc (w.drewN n) g := by
  induction n with
  | zero => exact h
  | succ n ih => exact ih.drew
theorem celDN {W : World} {p : Addr} {v : Value} (h : W.cell? p = some v) (n : Nat) : (W.drewN n).cell? p = some v := by
  induction n with
  | zero => exact h
  | succ n ih => exact ih
theorem recell0D {W : World} {o : Obj} {p : Addr} {v : Value} (h : W.cell? p = some v) : ((W.alloc o).drew).cell? p = some v := Gr.recell0 h
theorem celD {W : World} {p : Addr} {v : Value} (h : W.cell? p = some v) : (W.drew).cell? p = some v := h
theorem okAt_drew (w : World) (g : Nat) : okAt w.drew g = okAt w g := rfl
def StepW (t t' : Bool) (n : Int) (r : Int × Int) (f : Int × Int → Option (Int × Int)) : Prop := ∃ (B : Int × Int) (t1 : Bool), Kp t t1 B.1 B.2 (some (n, 1)) ∧ Kp t1 t' r.1 r.2 (f B)
def StepV (t t' : Bool) (y ad fa r : Int × Int) : Prop := ∃ (B pt ls : Int × Int) (t1 t2 t3 : Bool), Kp t t1 B.1 B.2 (some (1, 1)) ∧ Kp t1 t2 pt.1 pt.2 (M.fdiv ad fa) ∧ Kp t2 t3 ls.1 ls.2 (M.fsub B pt) ∧ Kp t3 t' r.1 r.2 (M.fmul y ls)
theorem Kp.f {t : Bool} {n d : Int} {r : Option (Int × Int)} (h : Kp false t n d r) : t = false := by rw [h.mark]; rfl
theorem onR_no {t1 : Bool} {a b : Int} {x y l r : Int × Int} (h : Kp true t1 l.1 l.2 (M.fmul y y)) (hR : RightR t1 false a b x r) : M.onR a b x y = none := by
  unfold M.onR
  obtain ⟨s, A, m, q, B, u1, u2, u3, u4, u5, k1, k2, k3, k4, k5, k6⟩ := hR
  rcases h.cases with ⟨-, rfl, h1⟩ | ⟨rfl, h1 | h1⟩
  · rcases k1.cases with ⟨-, rfl, h2⟩ | ⟨-, h2 | h2⟩
    · rcases k2.cases with ⟨-, rfl, h3⟩ | ⟨-, h3 | h3⟩
      · rcases k3.cases with ⟨-, rfl, h4⟩ | ⟨-, h4 | h4⟩
        · rcases k4.cases with ⟨-, rfl, h5⟩ | ⟨-, h5 | h5⟩
          · rcases k5.cases with ⟨-, rfl, h6⟩ | ⟨-, h6 | h6⟩
            · rcases k6.cases with ⟨-, h7, -⟩ | ⟨-, h7 | h7⟩
              · cases h7
              · cases h7
              · obtain rfl : A = (a, 1) := (Option.some.inj h3).symm
                obtain rfl : B = (b, 1) := (Option.some.inj h6).symm
                simp [h1, h2, h4, h5, h7]
            · cases h6
            · cases h6
          · cases h5
          · obtain rfl : A = (a, 1) := (Option.some.inj h3).symm
            simp [h1, h2, h4, h5]
        · cases h4
        · obtain rfl : A = (a, 1) := (Option.some.inj h3).symm
          simp [h1, h2, h4]
      · cases h3
      · cases h3
    · cases h2
    · simp [h1, h2]
  · cases h1
  · simp [h1]
theorem onR_yes {t1 : Bool} {a b : Int} {x y l r : Int × Int} (h : Kp true t1 l.1 l.2 (M.fmul y y)) (hR : RightR t1 true a b x r) : M.onR a b x y = some (l.1 == r.1 && l.2 == r.2) := by
  unfold M.onR
  obtain ⟨s, A, m, q, B, u1, u2, u3, u4, u5, k1, k2, k3, k4, k5, k6⟩ := hR
  rcases k6.cases with ⟨rfl, -, h6⟩ | ⟨h, -⟩
  · rcases k5.cases with ⟨rfl, -, h5⟩ | ⟨h, -⟩
    · rcases k4.cases with ⟨rfl, -, h4⟩ | ⟨h, -⟩
      · rcases k3.cases with ⟨rfl, -, h3⟩ | ⟨h, -⟩
        · rcases k2.cases with ⟨rfl, -, h2⟩ | ⟨h, -⟩
          · rcases k1.cases with ⟨rfl, -, h1⟩ | ⟨h, -⟩
            · rcases h.cases with ⟨-, -, h0⟩ | ⟨h, -⟩
              · obtain rfl : A = (a, 1) := (Option.some.inj h2).symm
                obtain rfl : B = (b, 1) := (Option.some.inj h5).symm
                simp [h0, h1, h3, h4, h6]
              · cases h
            · cases h
          · cases h
        · cases h
      · cases h
    · cases h
  · cases h

theorem whole1_c (g : Nat) (n : Int) (w : World) (h1 : -1000000000 ≤ n) (h2 : n ≤ 1000000000) (hk : IsCalc w g) (ht : w.cell? ⟨g, 0, none⟩ = some (.bool true)) :
    Calls Try.prog 48 #[.pointer (some ⟨g, 0, none⟩), .int .i64 n] w fun e w' => e = .returned (.agg #[.int .i64 n, .int .i64 1]) ∧ w'.cell? ⟨g, 0, none⟩ = some (.bool true) ∧ IsCalc w' g ∧ w.grownBy w' (some g) := by
  refine (whole_c g n w h1 h2 hk).mono ?_
  rintro e w' ⟨⟨p1, p2⟩, rfl, hk', hc', hg'⟩
  rw [okAt_of ht] at hk'
  rcases hk'.cases with ⟨-, h3, h4⟩ | ⟨-, h4 | h4⟩
  · cases h4
    exact ⟨rfl, by rw [hc'.cell, h3], hc', hg'⟩
  · cases h4
  · cases h4

end Go.Proofs.Ytpemckpnlemkfaa
