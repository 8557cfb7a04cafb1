/-
  Contracts: numbers in decimal, by the reference.
-/
import Derived.Test.YtodgfechhielaaaGreatDoorC2
import Derived.Test.YtodgfechhielaaaGreatDoorS12
import Derived.Lib.ItoaNum
import Derived.Laws.BytesArg
import Derived.Laws.Concat
import Derived.Deep.RegionHeld3
import Derived.Deep.DeepCutAuto
namespace Go.Proofs.YtodgfechhielaaaGreatDoor
set_option linter.unusedSimpArgs false
set_option linter.unusedVariables false
open Go.RowKit

/-- a string of these bytes -/
def bs (l : List UInt8) : ByteArray := ⟨l.toArray⟩
theorem bs_size (l : List UInt8) : (bs l).size = l.length := by simp [bs, ByteArray.size]
theorem bs_append (l m : List UInt8) : bs l ++ bs m = bs (l ++ m) := by unfold bs; rw [ByteArray.mk_append_mk]
theorem conv1 (W : World) (b : Nat) (x : Int) (h : W.cell? ⟨b, 0, none⟩ = some (.int .u8 x)) :
    (convert 22 9 (.slice (some ⟨b, 0, none⟩) 1 1)).run Tryz.prog W = .ok (.string (bs [UInt8.ofNat x.toNat])) W := by
  rw [run_convert_bytes_arg (P := Tryz.prog) W 22 5 Tryz.underlying22 Tryz.underlying5 b 0 1 1 [x] rfl (fun i hi => by
    obtain rfl : i = 0 := by omega
    exact h) 9 Tryz.underlying9]
  rfl
theorem dec_small {n : Nat} (h : n < 10) : Lib.decDigits n = [UInt8.ofNat (48 + n)] := Lib.decDigits_one h
theorem dec_big {n : Nat} (h : ¬ n < 10) : Lib.decDigits n = Lib.decDigits (n / 10) ++ [UInt8.ofNat (48 + n % 10)] := by rw [Lib.decDigits, dif_neg h]
theorem dec_len {n : Nat} (h : n < 1000000) : (Lib.decDigits n).length ≤ 6 := by
  have go : ∀ (k m : Nat), m < 10 ^ (k + 1) → (Lib.decDigits m).length ≤ k + 1 := by
    intro k
    induction k with
    | zero => intro m hm; rw [dec_small (by omega)]; simp
    | succ k ih =>
      intro m hm
      by_cases h10 : m < 10
      · rw [dec_small h10]; simp
      · rw [dec_big h10, List.length_append]
        have := ih (m / 10) (by rw [Nat.pow_succ] at hm; omega)
        simp only [List.length_singleton]
        omega
  exact go 5 n h

set_option maxRecDepth 20000 in
theorem l1Num_c (k : Nat) : ∀ (n : Nat) (w : World), n ≤ k → n < 1000000 →
    Calls Tryz.prog 45 #[.int .i64 n] w fun e w' => e = .returned (.string (bs (Lib.decDigits n))) ∧ Below w.heap.size w w' := by
  induction k with
  | zero =>
    intro n w hk hn
    obtain rfl : n = 0 := by omega
    have hc := conv1 (w.alloc (.cells #[.int .u8 48] 5)) w.heap.size 48 (box_cell _ _ _ _)
    rw [show Lib.decDigits 0 = [UInt8.ofNat (48 : Int).toNat] from dec_small (by omega)]
    generalize bs [UInt8.ofNat (48 : Int).toNat] = c at *
    go_enter Tryz.func45, Tryz.ntmps45
    go_wp2_with fail
    go_ret
    exact ⟨rfl, (by repeat (first | exact Below.refl _ _ | refine below_alloc ?_ _ | refine below_step ?_ (by assumption) | refine Below.drew ?_ | refine Below.setCell ?_ (by first | exact Nat.le_refl _ | exact Nat.le_add_right _ _ | (simp <;> omega)) _ | refine below_drewN ?_ _))⟩
  | succ k ih =>
    intro n w hk hn
    by_cases h10 : n < 10
    · have hc := conv1 (w.alloc (.cells #[.int .u8 (48 + (n : Int))] 5)) w.heap.size (48 + (n : Int)) (box_cell _ _ _ _)
      rw [show (48 + (n : Int)).toNat = 48 + n by omega] at hc
      rw [dec_small h10]
      generalize bs [UInt8.ofNat (48 + n)] = c at *
      go_enter Tryz.func45, Tryz.ntmps45
      go_wp2_with fail
      go_ret
      exact ⟨rfl, (by repeat (first | exact Below.refl _ _ | refine below_alloc ?_ _ | refine below_step ?_ (by assumption) | refine Below.drew ?_ | refine Below.setCell ?_ (by first | exact Nat.le_refl _ | exact Nat.le_add_right _ _ | (simp <;> omega)) _ | refine below_drewN ?_ _))⟩
    · have hc := fun W b => conv1 W b (48 + ((n % 10 : Nat) : Int))
      rw [show (48 + ((n % 10 : Nat) : Int)).toNat = 48 + n % 10 by omega] at hc
      have hcA := fun (W : World) => conv1 (W.alloc (.cells #[.int .u8 (48 + ((n % 10 : Nat) : Int))] 5)) W.heap.size (48 + ((n % 10 : Nat) : Int)) (box_cell _ _ _ _)
      rw [show (48 + ((n % 10 : Nat) : Int)).toNat = 48 + n % 10 by omega] at hcA
      have hI : ∀ (x : Int) (w : World), x = ((n / 10 : Nat) : Int) → Calls Tryz.prog 45 #[.int .i64 x] w fun e w' => e = .returned (.string (bs (Lib.decDigits (n / 10)))) ∧ Below w.heap.size w w' := fun x w hx => by subst hx; exact ih (n / 10) w (by omega) (by omega)
      have hI := Lib.hid hI
      have hl := dec_len (n := n / 10) (by omega)
      have hadd : ∀ W, (Op.stringOp .add (bs (Lib.decDigits (n / 10))) (bs [UInt8.ofNat (48 + n % 10)])).run Tryz.prog W = .ok (.string (bs (Lib.decDigits n))) W := fun W => by
        rw [run_string_add_sum _ _ _ (by rw [bs_size, bs_size]; simp; omega), bs_append, ← dec_big h10]
      have hm1 : ((n : Int) % 10) = ((n % 10 : Nat) : Int) := by omega
      have hm2 : ((n : Int) / 10) = ((n / 10 : Nat) : Int) := by omega
      generalize hq : n / 10 = q at *
      generalize hr : n % 10 = r at *
      generalize bs (Lib.decDigits q) = s at *
      generalize bs (Lib.decDigits n) = t at *
      generalize bs [UInt8.ofNat (48 + r)] = c at *
      have hr10 : r < 10 := by omega
      have ht : (n : Int).tmod 10 = (r : Int) := by rw [Int.tmod_eq_emod_of_nonneg (by omega)]; exact hm1
      have hw1 : IntKind.i64.wrap (q : Int) = q := IntWalk.i64_in _ (by omega)
      have hw2 : IntKind.i64.wrap (48 + (r : Int)) = 48 + r := IntWalk.i64_in _ (by omega)
      have hw3 : IntKind.u8.wrap (48 + (r : Int)) = 48 + r := by rw [IntKind.wrap_u8]; omega
      go_enter Tryz.func45, Tryz.ntmps45
      go_wp2_with fail
      go_region_with (first | (go_at_call 45; refine (hI.out _ _ (by first | rfl | exact hw1 | omega)).mono ?_; rintro e w' ⟨rfl, hb⟩; have hz_ := hb.size; (try simp only [World.size_alloc, heap_drew] at hz_); (first | have hk_ := hc _ _ (keepCell hb (box_cell _ _ _ 0)) | skip)))
      all_goals
        go_wp2_with fail
        go_ret
        exact ⟨rfl, (by repeat (first | exact Below.refl _ _ | refine below_alloc ?_ _ | refine below_step ?_ (by assumption) | refine Below.drew ?_ | refine Below.setCell ?_ (by first | exact Nat.le_refl _ | exact Nat.le_add_right _ _ | (simp <;> omega)) _ | refine below_drewN ?_ _))⟩
end Go.Proofs.YtodgfechhielaaaGreatDoor
