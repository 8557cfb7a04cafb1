/-
  Slices of numbers, marked and held by a law.
-/
import Derived.Test.YtpemckpnlemkfaaS1
import Derived.Laws.OwnMore
namespace Go.Proofs.Ytpemckpnlemkfaa
set_option linter.unusedSimpArgs false
set_option linter.unusedVariables false
open Go.RowKit

theorem grown_tr {a b c : World} {r : Option Nat} (h : a.grownBy b r) (k : b.grownBy c r) : a.grownBy c r :=
  ⟨k.os.trans h.os, k.tape.trans h.tape, k.output.trans h.output, Nat.le_trans h.size k.size, fun i hi hne => (k.block i (Nat.lt_of_lt_of_le hi h.size) hne).trans (h.block i hi hne)⟩
theorem grown_rf (a : World) (r : Option Nat) : a.grownBy a r := ⟨rfl, rfl, rfl, Nat.le_refl _, fun _ _ _ => rfl⟩
theorem grown_dr {a b : World} {r : Option Nat} (h : a.grownBy b r) (n : Nat) : a.grownBy (b.drewN n) r := ⟨h.os, h.tape, h.output, h.size, h.block⟩
theorem grown_below {a b : World} {r : Option Nat} {base : Nat} (h : a.grownBy b r) (hb : base ≤ a.heap.size) (hr : ∀ k, r = some k → base ≤ k) : Below base a b :=
  ⟨h.os, h.tape, h.output, h.size, fun i hi => h.block i (by omega) (fun e => by have := hr i e.symm; omega)⟩
theorem below_grown {a b : World} (h : Below a.heap.size a b) (r : Option Nat) : a.grownBy b r := ⟨h.os, h.tape, h.output, h.size, fun i hi _ => h.block i hi⟩

/-- the numbers from k on -/
def M.marks (k : Int) (n : Nat) : List Int := M.upto k n
theorem M.marks_len (k : Int) (n : Nat) : (M.marks k n).length = n := by simp [M.marks, M.upto]
theorem M.marks_get {k : Int} {n j : Nat} (h : j < n) : (M.marks k n)[j]? = some (k + j) := by
  simp [M.marks, M.upto, h]
theorem M.marks_step {k : Int} {j : Nat} {xs : List Int} (h : j < xs.length) : (M.marks k j ++ xs.drop j).set j (k + j) = M.marks k (j + 1) ++ xs.drop (j + 1) := by
  have hl := M.marks_len k j
  rw [List.set_append_right _ _ (by omega)]
  rw [hl, Nat.sub_self, List.drop_eq_getElem_cons h, List.set_cons_zero]
  show _ = M.upto k (j + 1) ++ _
  rw [M.upto_succ]
  simp [M.marks]
theorem OwnI.set {w : World} {base g cap n j : Nat} {xs : List Int} (hn : n = xs.length) (h : OwnI w base (.slice (some ⟨g, 0, none⟩) n cap) xs) (x : Int) {ys : List Int} (he : ys = xs.set j x) :
    OwnI (w.setCell ⟨g, j, none⟩ (.int .i64 x)) base (.slice (some ⟨g, 0, none⟩) n cap) ys ∧ w.grownBy (w.setCell ⟨g, j, none⟩ (.int .i64 x)) (some g) := by
  subst he hn
  have := World.ownsRow.stored (g := g) (cap := cap) h j (.int .i64 x)
  refine ⟨?_, this.2⟩
  unfold OwnI
  rw [List.map_set, List.length_set]
  exact this.1
theorem OwnI.form {w : World} {base : Nat} {v : Value} {xs : List Int} (h : OwnI w base v xs) (hn : 0 < xs.length) : ∃ g cap, v = .slice (some ⟨g, 0, none⟩) xs.length cap ∧ base ≤ g ∧ g < w.heap.size := by
  rcases h.2 with ⟨rfl, h2⟩ | ⟨g, cap, cur, rfl, hg, hh, -⟩
  · omega
  · exact ⟨g, cap, rfl, hg, (Array.getElem?_eq_some_iff.1 hh).1⟩
theorem OwnI.nil_form {w : World} {base : Nat} {v : Value} {xs : List Int} (h : OwnI w base v xs) : ∃ a cap, v = .slice a xs.length cap := by
  obtain ⟨a, cap, h1, -⟩ := h.view
  exact ⟨a, cap, h1⟩

theorem markIntS_c (v : Value) (xs : List Int) (k : Int) (w : World) (base : Nat) (hx : OwnI w base v xs) (h1 : 0 ≤ k) (h2 : k + xs.length ≤ 4000000000000000000) :
    Calls Try.prog 34 #[v, .int .i64 k] w fun e w' => e = .returned (.int .i64 (k + xs.length)) ∧ OwnI w' base v (M.marks k xs.length) ∧ w.grownBy w' v.ownBlock := by
  by_cases hz : xs.length = 0
  · obtain ⟨a, cap, rfl⟩ := hx.nil_form
    have hx0 : xs = [] := List.eq_nil_of_length_eq_zero hz
    subst hx0
    go_enter Try.func34, Try.ntmps34
    go_wp2
    go_loop [1, 5] (fun vk vi => vk = .int .i64 k ∧ vi = .int .i64 0) (fun _ _ => 0)
    case atStart => exact ⟨rfl, rfl⟩
    case round =>
      obtain ⟨rfl, rfl⟩ := hrel
      go_wp2
      go_ret
      exact ⟨ret_i (by simp), hx, grown_rf _ _⟩
  · obtain ⟨g, cap, rfl, hg, hgs⟩ := hx.form (by omega)
    clear hz
    go_enter Try.func34, Try.ntmps34
    go_wp2
    go_loopw [1, 5] (fun vk vi wr => ∃ j : Nat, j ≤ xs.length ∧ vi = .int .i64 j ∧ vk = .int .i64 (k + j) ∧ OwnI wr base (.slice (some ⟨g, 0, none⟩) xs.length cap) (M.marks k j ++ xs.drop j) ∧ w.grownBy wr (some g)) (fun _ vi _ => xs.length - (intOf vi).toNat)
    case atStart => exact ⟨0, by omega, rfl, by simp, by simpa [M.marks, M.upto] using hx, grown_rf _ _⟩
    case round =>
      obtain ⟨j, hj, rfl, rfl, hown, hgr⟩ := hrel
      have hlen : (M.marks k j ++ xs.drop j).length = xs.length := by rw [List.length_append, M.marks_len, List.length_drop]; omega
      by_cases hlt : j < xs.length
      · have hcell : wr.cell? ⟨g, j, none⟩ = some (.int .i64 xs[j]) := by
          have := World.ownsRow.cellAt (g := g) (cap := cap) (n := xs.length) (by have := hown; unfold OwnI at this; rw [hlen] at this; exact this) j (by omega)
          rw [this, List.getElem?_map, List.getElem?_append_right (by rw [M.marks_len]; omega), M.marks_len, Nat.sub_self, List.getElem?_drop]
          simp [hlt]
        have hfz : wr.frozen? ⟨g, j, none⟩ = false := World.ownsRow.frozenAt (g := g) (cap := cap) (n := xs.length) (by have := hown; unfold OwnI at this; rw [hlen] at this; exact this) j
        have hst := OwnI.set (j := j) hlen.symm hown (k + j) (M.marks_step hlt).symm
        have Hst := Lib.hid hst
        have Hlen := Lib.hid hlen
        clear hst hlen
        go_wp2
        go_roundw
        case rel => exact ⟨j + 1, by omega, by go_num, by congr 1; omega, Hst.out.1, grown_tr hgr Hst.out.2⟩
        case measure => simp [intOf]; omega
      · obtain rfl : j = xs.length := by omega
        clear hlen
        go_wp2
        go_ret
        exact ⟨rfl, by simpa using hown, hgr⟩

theorem heldIntS_c (v : Value) (n : Nat) (k : Int) (w : World) (base : Nat) (hx : OwnI w base v (M.marks k n)) (h1 : 0 ≤ k) (h2 : k + n ≤ 4000000000000000000) :
    Calls Try.prog 35 #[v, .int .i64 k] w fun e w' => e = .returned (.int .i64 (k + n)) ∧ Below w.heap.size w w' := by
  obtain ⟨a, cap, rfl, hm, hv⟩ := hx.view
  rw [M.marks_len] at hm hv ⊢
  go_enter Try.func35, Try.ntmps35
  go_wp2
  go_loop [1, 5] (fun vk vi => ∃ j : Nat, j ≤ n ∧ vi = .int .i64 j ∧ vk = .int .i64 (k + j)) (fun _ vi => n - (intOf vi).toNat)
  case atStart => exact ⟨0, by omega, rfl, by simp⟩
  case round =>
    obtain ⟨j, hj, rfl, rfl⟩ := hrel
    by_cases hlt : j < n
    · obtain ⟨g, x, rfl, hg, hx', hcell⟩ := hv j hlt
      rw [M.marks_get hlt] at hx'
      obtain rfl := Option.some.inj hx'.out
      clear hv
      go_wp2
      go_round
      case rel => exact ⟨j + 1, by omega, by go_num, by congr 1; omega⟩
      case measure => simp [intOf]; omega
    · obtain rfl : j = n := by omega
      clear hv
      go_wp2
      go_ret
      exact ⟨rfl, (by repeat (first | exact Below.refl _ _ | refine below_alloc ?_ _ | refine below_step ?_ (by assumption) | refine Below.drew ?_ | refine Below.setCell ?_ (by first | exact Nat.le_refl _ | exact Nat.le_add_right _ _ | (simp <;> omega)) _ | refine below_drewN ?_ _))⟩
end Go.Proofs.Ytpemckpnlemkfaa
