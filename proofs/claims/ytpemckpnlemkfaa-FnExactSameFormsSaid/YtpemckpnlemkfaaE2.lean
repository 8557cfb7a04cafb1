/-
  Contracts: lists of curves.
-/
import Derived.Test.YtpemckpnlemkfaaPlain7
import Derived.Test.YtpemckpnlemkfaaS7
import Derived.Test.YtpemckpnlemkfaaC8
import Derived.BigQuiet
import Derived.Outline
namespace Go.Proofs.Ytpemckpnlemkfaa
set_option linter.unusedSimpArgs false
set_option linter.unusedVariables false
open Go.RowKit

/-- a curve's cells -/
def EC : Rw.Enc (Int × Int) where
  t := 41
  k := 2
  cells := fun c => [.int .i64 c.1, .int .i64 c.2]
  len := fun _ => rfl
  one := fun x u hu => by simp only [List.mem_cons, List.not_mem_nil, or_false] at hu; rcases hu with rfl | rfl <;> rfl
  pos := by decide
theorem infoC : (Try.prog.info? 41).map (fun i => (i.zero, i.size, i.bytes)) = some (some (.agg #[.int .i64 0, .int .i64 0]), 2, 16) := by kernel_rfl
theorem fitsC : Rw.Fits Try.prog EC 27 := ⟨Try.underlying27, by
  obtain ⟨i0, hi, hz0, hz1, hz2⟩ := info_parts infoC
  exact ⟨i0, _, hi, hz0, hz1, by omega, rfl⟩⟩

/-- the first place of a curve, or -1 -/
def M.cidx (c : Int × Int) : List (Int × Int) → Int
  | [] => -1
  | x :: xs => if x = c then 0 else if M.cidx c xs < 0 then -1 else M.cidx c xs + 1
theorem M.cidx_lo (c : Int × Int) : ∀ xs : List (Int × Int), -1 ≤ M.cidx c xs ∧ M.cidx c xs < xs.length
  | [] => by simp [M.cidx]
  | x :: xs => by
    have := M.cidx_lo c xs
    simp only [M.cidx, List.length_cons]
    repeat' split
    all_goals omega
theorem M.cidx_hit {c : Int × Int} : ∀ {xs : List (Int × Int)} {k : Nat}, xs[k]? = some c → (∀ j : Nat, j < k → xs[j]? ≠ some c) → M.cidx c xs = k
  | [], k, h, _ => by simp at h
  | x :: xs, 0, h, _ => by
    simp only [List.getElem?_cons_zero, Option.some.injEq] at h
    simp [M.cidx, h]
  | x :: xs, k + 1, h, hn => by
    have h0 := hn 0 (by omega)
    simp only [List.getElem?_cons_zero, ne_eq, Option.some.injEq] at h0
    have ih := M.cidx_hit (xs := xs) (k := k) (by simpa using h) (fun j hj => by have := hn (j + 1) (by omega); simpa using this)
    rw [M.cidx, if_neg h0, if_neg (by omega), ih]
    push_cast
    rfl
theorem M.cidx_miss {c : Int × Int} : ∀ {xs : List (Int × Int)}, (∀ j : Nat, j < xs.length → xs[j]? ≠ some c) → M.cidx c xs = -1
  | [], _ => rfl
  | x :: xs, hn => by
    have h0 := hn 0 (by simp)
    simp only [List.getElem?_cons_zero, ne_eq, Option.some.injEq] at h0
    have ih := M.cidx_miss (xs := xs) (fun j hj => by have := hn (j + 1) (by simp; omega); simpa using this)
    rw [M.cidx, if_neg h0, if_pos (by omega)]
theorem M.cidx_mem {c : Int × Int} : ∀ {xs : List (Int × Int)}, 0 ≤ M.cidx c xs ↔ c ∈ xs
  | [] => by simp [M.cidx]
  | x :: xs => by
    have ih := M.cidx_mem (c := c) (xs := xs)
    rw [M.cidx, List.mem_cons]
    split
    · rename_i h; simp [h]
    · rename_i h
      have h' : ¬ c = x := fun e => h e.symm
      split
      · rename_i h2
        constructor
        · intro h3; omega
        · rintro (h3 | h3)
          · exact absurd h3 h'
          · have := ih.2 h3; omega
      · rename_i h2
        exact ⟨fun _ => Or.inr (ih.1 (by omega)), fun _ => by omega⟩

set_option maxHeartbeats 400000 in
theorem indexC_c (xs : List (Int × Int)) (v : Value) (c : Int × Int) (w : World) (hi : Nat) (hx : Rw.Seen EC w hi v xs) (hhi : hi ≤ w.heap.size) :
    Calls Try.prog 30 #[v, .agg #[.int .i64 c.1, .int .i64 c.2]] w fun e w' => e = .returned (.int .i64 (M.cidx c xs)) ∧ Below w.heap.size w w' := by
  obtain ⟨a, cap, rfl, hm, hm2, hv⟩ := hx
  go_enter Try.func30, Try.ntmps30
  go_wp2
  go_loopw [5, 8] (fun _ vi wr => ∃ k n : Nat, k ≤ xs.length ∧ vi = .int .i64 k ∧ (∀ j : Nat, j < k → xs[j]? ≠ some c) ∧ wr = (w.alloc (.cells #[.int .i64 c.1, .int .i64 c.2] 41)).drewN n) (fun _ vi _ => xs.length - (intOf vi).toNat)
  case atStart => exact ⟨0, 0, by omega, rfl, fun j h => by omega, rfl⟩
  case round =>
    obtain ⟨k, n, hk, rfl, hall, rfl⟩ := hrel
    have Hall := Lib.hid hall
    clear hall
    have c0 : (w.alloc (.cells #[.int .i64 c.1, .int .i64 c.2] 41)).cell? ⟨w.heap.size, 0, none⟩ = some (.int .i64 c.1) := box_cell _ _ _ _
    have c1 : (w.alloc (.cells #[.int .i64 c.1, .int .i64 c.2] 41)).cell? ⟨w.heap.size, 1, none⟩ = some (.int .i64 c.2) := box_cell _ _ _ _
    by_cases hlt : k < xs.length
    · obtain ⟨g, x, rfl, hg, hx, hcell⟩ := hv k hlt
      have hbo : Below hi w (w.alloc (.cells #[.int .i64 c.1, .int .i64 c.2] 41)) := (Below.refl _ _).alloc hhi _
      have e0 : w.cell? ⟨g, k * 2, none⟩ = some (.int .i64 x.1) := hcell 0 _ rfl
      have e1 : w.cell? ⟨g, k * 2 + 1, none⟩ = some (.int .i64 x.2) := hcell 1 _ rfl
      have hgs : g < w.heap.size := by omega
      clear hv hcell hbo
      cases b1 : (c.1 == x.1) <;> cases b2 : (c.2 == x.2)
      case true.true =>
        have hh : Hid (M.cidx c xs = k) := Lib.hid (M.cidx_hit (by rw [hx.out]; congr 1; exact Prod.ext (eq_of_beq b1).symm (eq_of_beq b2).symm) Hall.out)
        go_wp2
        go_quiet (fail)
        go_wp2
        go_ret; exact ⟨by rw [hh.out]; rfl, (by repeat (first | exact Below.refl _ _ | refine below_alloc ?_ _ | refine below_step ?_ (by assumption) | refine Below.drew ?_ | refine Below.setCell ?_ (by first | exact Nat.le_refl _ | exact Nat.le_add_right _ _ | (simp <;> omega)) _ | refine below_drewN ?_ _))⟩
      all_goals
        have hn : Hid (∀ j : Nat, j < k + 1 → xs[j]? ≠ some c) := Lib.hid fun j hj => by
          rcases Nat.lt_or_ge j k with q | q
          · exact Hall.out j q
          · obtain rfl : j = k := by omega
            intro h
            rw [hx.out] at h
            obtain rfl := Option.some.inj h
            simp at b1 b2
        go_wp2
        go_quiet (fail)
        go_wp2
        go_roundw
        case rel => exact ⟨k + 1, _, by omega, by go_num, hn.out, rfl⟩
        case measure => simp [intOf]; omega
    · obtain rfl : k = xs.length := by omega
      have hh : Hid (M.cidx c xs = -1) := Lib.hid (M.cidx_miss Hall.out)
      clear hv
      go_wp2
      go_ret; exact ⟨by rw [hh.out]; rfl, (by repeat (first | exact Below.refl _ _ | refine below_alloc ?_ _ | refine below_step ?_ (by assumption) | refine Below.drew ?_ | refine Below.setCell ?_ (by first | exact Nat.le_refl _ | exact Nat.le_add_right _ _ | (simp <;> omega)) _ | refine below_drewN ?_ _))⟩

end Go.Proofs.Ytpemckpnlemkfaa
