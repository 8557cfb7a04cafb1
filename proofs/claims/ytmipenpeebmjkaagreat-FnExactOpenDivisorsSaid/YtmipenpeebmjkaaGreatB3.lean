/-
  Joined texts: contracts and plain laws.
-/
import Derived.Test.YtmipenpeebmjkaaGreatB2
import Derived.Test.YtmipenpeebmjkaaGreatB1
import Derived.BigQuiet
import Derived.Laws.OwnMore
import Derived.Maps.AppendAt
import Derived.OwnWalk
import Derived.Deep.RegionHeld3
import Derived.Outline
namespace Go.Proofs.YtmipenpeebmjkaaGreat
set_option linter.unusedSimpArgs false
set_option linter.unusedVariables false
open Go.RowKit

end Go.Proofs.YtmipenpeebmjkaaGreat

namespace Go.Proofs.YtmipenpeebmjkaaGreat
set_option linter.unusedSimpArgs false
set_option linter.unusedVariables false
open Go.RowKit

noncomputable def trOk (a b p : Int) : Bool := M.good a b && M.goodp a b p

end Go.Proofs.YtmipenpeebmjkaaGreat

namespace Go.Proofs.YtmipenpeebmjkaaGreat
set_option linter.unusedSimpArgs false
set_option linter.unusedVariables false
open Go.RowKit

theorem goodp_trace {a b p : Int} (hp : M.goodp a b p = true) : -1000 ≤ M.trace a b p ∧ M.trace a b p ≤ 1000 ∧ 0 ≤ p ∧ p ≤ 1000 := by
  obtain ⟨p1, p2, -⟩ := M.goodp_bd hp
  have := M.trace_bd a b (p := p) (by omega)
  omega

/-- the trace over the field with p^k elements, k from 1 on -/
def trp (t p k : Int) : Int := (M.tpw t p (k - 1).toNat).2

noncomputable def tfOk (a b p k : Int) : Bool := M.good a b && M.goodp a b p && M.ins k 1 4

end Go.Proofs.YtmipenpeebmjkaaGreat

namespace Go.Proofs.YtmipenpeebmjkaaGreat
set_option linter.unusedSimpArgs false
set_option linter.unusedVariables false
open Go.RowKit

/-- a slice of numbers that can be read; its cells lie below block hi -/
def SeenI (w : World) (hi : Nat) (v : Value) (xs : List Int) : Prop :=
  ∃ (a : Option Addr) (cap : Nat), v = .slice a xs.length cap ∧ (xs.length : Int) ≤ 9223372036854775807 ∧
    ∀ k, k < xs.length → ∃ g x, a = some ⟨g, 0, none⟩ ∧ g < hi ∧ Hid (xs[k]? = some x) ∧ w.cell? ⟨g, k, none⟩ = some (.int .i64 x)
theorem SeenI.below {w w' : World} {hi : Nat} {v : Value} {xs : List Int} (h : SeenI w hi v xs) (hb : Below hi w w') : SeenI w' hi v xs := by
  obtain ⟨a, cap, h1, h2, h3⟩ := h
  refine ⟨a, cap, h1, h2, fun k hk => ?_⟩
  obtain ⟨g, x, e1, e2, e3, e4⟩ := h3 k hk
  exact ⟨g, x, e1, e2, e3, (hb.cell (p := ⟨g, k, none⟩) e2).trans e4⟩
theorem SeenI.mono {w : World} {hi hi' : Nat} {v : Value} {xs : List Int} (h : SeenI w hi v xs) (hh : hi ≤ hi') : SeenI w hi' v xs := by
  obtain ⟨a, cap, h1, h2, h3⟩ := h
  refine ⟨a, cap, h1, h2, fun k hk => ?_⟩
  obtain ⟨g, x, e1, e2, e3, e4⟩ := h3 k hk
  exact ⟨g, x, e1, by omega, e3, e4⟩
theorem OwnI.seen {w : World} {base : Nat} {v : Value} {xs : List Int} (h : OwnI w base v xs) : SeenI w w.heap.size v xs := by
  obtain ⟨a, cap, h1, h2, h3⟩ := h.view
  refine ⟨a, cap, h1, h2, fun k hk => ?_⟩
  obtain ⟨g, x, e1, e2, e3, e4⟩ := h3 k hk
  exact ⟨g, x, e1, World.block_lt_of_cell? w _ e4, e3, e4⟩
theorem SeenI.len {w : World} {hi : Nat} {v : Value} {xs : List Int} (h : SeenI w hi v xs) : (xs.length : Int) ≤ 9223372036854775807 := by
  obtain ⟨a, cap, h1, h2, h3⟩ := h
  exact h2

theorem eqIntS_c (v u : Value) (xs ys : List Int) (w : World) (h1 h2 : Nat) (hx : SeenI w h1 v xs) (hy : SeenI w h2 u ys) :
    Calls Tryz.prog 14 #[v, u] w fun e w' => e = .returned (.bool (decide (xs = ys))) ∧ Below w.heap.size w w' := by
  obtain ⟨a, cap, rfl, hm, hv⟩ := hx
  obtain ⟨a', cap', rfl, hm', hv'⟩ := hy
  by_cases hl : xs.length = ys.length
  · have hl' := Lib.hid hl
    go_enter Tryz.func14, Tryz.ntmps14
    go_wp2
    go_loopw [5] (fun vi wr => ∃ k : Nat, k ≤ ys.length ∧ vi = .int .i64 k ∧ (∀ j : Nat, j < k → xs[j]? = ys[j]?) ∧ ∃ m, wr = w.drewN m) (fun vi _ => ys.length - (intOf vi).toNat)
    case atStart => exact ⟨0, by omega, rfl, fun j h => by omega, 0, rfl⟩
    case round =>
      obtain ⟨k, hk, rfl, hall, m, rfl⟩ := hrel
      have Hall := Lib.hid hall
      clear hall
      by_cases hlt : k < ys.length
      · obtain ⟨g, x, rfl, hg, hx, hcell⟩ := hv k (by omega)
        obtain ⟨g', y, rfl, hg', hy, hcell'⟩ := hv' k hlt
        clear hv hv'
        by_cases hxy : x = y
        · subst hxy
          go_wp2
          go_quiet (fail)
          go_wp2
          go_roundw
          case rel => exact ⟨k + 1, by omega, by go_num, fun j hj => if q : j = k then by rw [q, hx.out, hy.out] else Hall.out j (by omega), _, rfl⟩
          case measure => simp [intOf]; omega
        · have hne : (x != y) = true := by simpa using hxy
          go_wp2
          go_quiet (fail)
          go_wp2
          go_ret
          refine ⟨ret_b ?_, (by repeat (first | exact Below.refl _ _ | refine below_alloc ?_ _ | refine below_step ?_ (by assumption) | refine Below.drew ?_ | refine Below.setCell ?_ (by first | exact Nat.le_refl _ | exact Nat.le_add_right _ _ | (simp <;> omega)) _ | refine below_drewN ?_ _))⟩
          symm
          rw [decide_eq_false_iff_not]
          intro he
          have h1 := hx.out
          rw [he, hy.out] at h1
          exact hxy (Option.some.inj h1).symm
      · obtain rfl : k = ys.length := by omega
        clear hv hv'
        go_wp2
        go_ret
        refine ⟨ret_b ?_, (by repeat (first | exact Below.refl _ _ | refine below_alloc ?_ _ | refine below_step ?_ (by assumption) | refine Below.drew ?_ | refine Below.setCell ?_ (by first | exact Nat.le_refl _ | exact Nat.le_add_right _ _ | (simp <;> omega)) _ | refine below_drewN ?_ _))⟩
        symm
        rw [decide_eq_true_iff]
        refine List.ext_getElem? fun j => ?_
        rcases Nat.lt_or_ge j ys.length with q | q
        · exact Hall.out j q
        · rw [List.getElem?_eq_none (by rw [hl'.out]; exact q), List.getElem?_eq_none q]
  · clear hv hv'
    have hne : ((xs.length : Int) != (ys.length : Int)) = true := by simp; omega
    have hne2 : (xs.length != ys.length) = true := by simpa using hl
    have hd : xs ≠ ys := fun h => hl (by rw [h])
    go_enter Tryz.func14, Tryz.ntmps14
    go_wp2
    go_ret
    exact ⟨ret_b (by simp [hd]), (by repeat (first | exact Below.refl _ _ | refine below_alloc ?_ _ | refine below_step ?_ (by assumption) | refine Below.drew ?_ | refine Below.setCell ?_ (by first | exact Nat.le_refl _ | exact Nat.le_add_right _ _ | (simp <;> omega)) _ | refine below_drewN ?_ _))⟩
end Go.Proofs.YtmipenpeebmjkaaGreat

namespace Go.Proofs.YtmipenpeebmjkaaGreat
set_option linter.unusedSimpArgs false
set_option linter.unusedVariables false
open Go.RowKit

theorem intPower_c (p k : Int) (w : World) (p1 : 0 ≤ p) (p2 : p ≤ 1000) (k1 : 0 ≤ k) (k2 : k ≤ 5) :
    Calls Tryz.prog 139 #[.int .i64 p, .int .i64 k] w fun e w' => e = .returned (.int .i64 (M.ipow p k.toNat)) ∧ w = w' := by
  go_enter Tryz.func139, Tryz.ntmps139
  go_wp2
  go_loop [5, 7] (fun vo vi => ∃ j : Nat, (j : Int) ≤ k ∧ vi = .int .i64 j ∧ vo = .int .i64 (M.ipow p j)) (fun _ vi => (k - intOf vi).toNat)
  case atStart => exact ⟨0, by omega, rfl, rfl⟩
  case round =>
    obtain ⟨j, hj, rfl, rfl⟩ := hrel
    by_cases hlt : (j : Int) < k
    · have hb := M.ipow_bd4 p1 p2 (k := j) (by omega)
      have hm := M.mul_nn hb.1 hb.2 p1 p2
      go_wp2
      go_round
      case rel => exact ⟨j + 1, by omega, by go_num, rfl⟩
      case measure => simp [intOf]; omega
    · have hjk : k.toNat = j := by omega
      have hjk := Lib.hid hjk
      go_wp2
      go_ret
      exact ⟨ret_i (by first | rfl | rw [hjk.out]), rfl⟩

theorem loPower_c (p k : Int) (w : World) (p1 : 0 ≤ p) (p2 : p ≤ 1000) (k1 : 0 ≤ k) (k2 : k ≤ 5) :
    Calls Tryz.prog 137 #[.int .i64 p, .int .i64 k] w fun e w' => e = .returned (.int .i64 (M.ipow p k.toNat)) ∧ w = w' := by
  go_enter Tryz.func137, Tryz.ntmps137
  go_wp2
  go_loop [1, 5] (fun vi vo => ∃ j : Nat, (j : Int) ≤ k ∧ vi = .int .i64 (k - j) ∧ vo = .int .i64 (M.ipow p j)) (fun vi _ => (intOf vi).toNat)
  case atStart => exact ⟨0, by omega, by simp, rfl⟩
  case round =>
    obtain ⟨j, hj, rfl, rfl⟩ := hrel
    by_cases hlt : 0 < k - (j : Int)
    · have hb := M.ipow_bd4 p1 p2 (k := j) (by omega)
      have hm := M.mul_nn hb.1 hb.2 p1 p2
      go_wp2
      go_round
      case rel => exact ⟨j + 1, by omega, by congr 1; omega, rfl⟩
      case measure => simp [intOf]; omega
    · have hjk : k.toNat = j := by omega
      have hjk := Lib.hid hjk
      go_wp2
      go_ret
      exact ⟨ret_i (by first | rfl | rw [hjk.out]), rfl⟩

def cntOver (t p k : Int) : Int := M.ipow p k.toNat + 1 - trp t p k
theorem trp_bd {t p k : Int} (h1 : -1000 ≤ t) (h2 : t ≤ 1000) (h3 : 0 ≤ p) (h4 : p ≤ 1000) (k1 : 1 ≤ k) (k2 : k ≤ 4) : -8000000000000 ≤ trp t p k ∧ trp t p k ≤ 8000000000000 := by
  have := M.tpw_bd4 h1 h2 h3 h4 (k := (k - 1).toNat) (by omega)
  exact this.2.2

end Go.Proofs.YtmipenpeebmjkaaGreat

namespace Go.Proofs.YtmipenpeebmjkaaGreat
set_option linter.unusedSimpArgs false
set_option linter.unusedVariables false
open Go.RowKit

end Go.Proofs.YtmipenpeebmjkaaGreat

namespace Go.Proofs.YtmipenpeebmjkaaGreat
set_option linter.unusedSimpArgs false
set_option linter.unusedVariables false
open Go.RowKit

noncomputable def fitOk (a b p : Int) : Bool := (M.good a b && M.goodp a b p) && decide (p ≤ 199)

noncomputable def tcOk (a b d p : Int) : Bool := fitOk a b p && M.tw d && decide (¬ d.tmod p = 0) && M.good (a * d * d) (b * d * d * d)
noncomputable def tcVal (a b d p : Int) : Value := .tuple #[.int .i64 (M.pick (tcOk a b d p) (M.count a b p)), .int .i64 (M.pick (tcOk a b d p) (M.count (a * d * d) (b * d * d * d) p)), .bool (tcOk a b d p)]

end Go.Proofs.YtmipenpeebmjkaaGreat

namespace Go.Proofs.YtmipenpeebmjkaaGreat
set_option linter.unusedSimpArgs false
set_option linter.unusedVariables false
open Go.RowKit

noncomputable def frOk (n d : Int) : Bool := M.ins d 1 1000000000 && M.ins n (-1000000000) 1000000000 && (M.gcd n d == 1)

theorem quiet_l {P : Program} {f : FuncId} {args : Array Value} {w : World} {n : Nat} {v : Value} (h : Calls P f args (w.drewN n) fun e w' => e = .returned v ∧ w.drewN n = w') :
    Calls P f args (w.drewN n) fun e w'' => e = .returned v ∧ ∃ m, w'' = w.drewN m := h.mono fun _ _ ⟨he, hm⟩ => ⟨he, n, hm.symm⟩
theorem quiet_al {P : Program} {f : FuncId} {args : Array Value} {w : World} {a n : Nat} {v : Value} (h : Calls P f args (w.drewN (a + n)) fun e w' => e = .returned v ∧ w.drewN (a + n) = w') :
    Calls P f args (w.drewN (a + n)) fun e w'' => e = .returned v ∧ ∃ m, w'' = w.drewN (a + m) := h.mono fun _ _ ⟨he, hm⟩ => ⟨he, n, hm.symm⟩

end Go.Proofs.YtmipenpeebmjkaaGreat

namespace Go.Proofs.YtmipenpeebmjkaaGreat
set_option linter.unusedSimpArgs false
set_option linter.unusedVariables false
open Go.RowKit

/-- a quotient in lowest terms, or nothing -/
noncomputable def frq (n d : Int) : Bool := frOk (partN n d) (partD n d)

theorem bgCommonAbs_c (a b : Int) (w : World) (h1 : -4000000000000000000 ≤ a) (h2 : a ≤ 4000000000000000000) (h3 : -4000000000000000000 ≤ b) (h4 : b ≤ 4000000000000000000) :
    Calls Tryz.prog 86 #[.int .i64 (a.natAbs : Int), .int .i64 (b.natAbs : Int)] w fun e w' => e = .returned (.int .i64 (M.gcd a b)) ∧ w = w' := by
  rw [show M.gcd a b = M.gcd a.natAbs b.natAbs from by simp [M.gcd, Int.gcd]]
  exact bgCommon_c _ _ _ (by omega) (by omega) (by omega) (by omega)

end Go.Proofs.YtmipenpeebmjkaaGreat

namespace Go.Proofs.YtmipenpeebmjkaaGreat
set_option linter.unusedSimpArgs false
set_option linter.unusedVariables false
open Go.RowKit

theorem grown_tr {a b c : World} {r : Option Nat} (h : a.grownBy b r) (k : b.grownBy c r) : a.grownBy c r :=
  ⟨k.os.trans h.os, k.tape.trans h.tape, k.output.trans h.output, Nat.le_trans h.size k.size, fun i hi hne => (k.block i (Nat.lt_of_lt_of_le hi h.size) hne).trans (h.block i hi hne)⟩
theorem grown_rf (a : World) (r : Option Nat) : a.grownBy a r := ⟨rfl, rfl, rfl, Nat.le_refl _, fun _ _ _ => rfl⟩
theorem grown_dr {a b : World} {r : Option Nat} (h : a.grownBy b r) (n : Nat) : a.grownBy (b.drewN n) r := ⟨h.os, h.tape, h.output, h.size, h.block⟩
theorem grown_below {a b : World} {r : Option Nat} {base : Nat} (h : a.grownBy b r) (hb : base ≤ a.heap.size) (hr : ∀ k, r = some k → base ≤ k) : Below base a b :=
  ⟨h.os, h.tape, h.output, h.size, fun i hi => h.block i (by omega) (fun e => by have := hr i e.symm; omega)⟩
theorem below_grown {a b : World} (h : Below a.heap.size a b) (r : Option Nat) : a.grownBy b r := ⟨h.os, h.tape, h.output, h.size, fun i hi _ => h.block i hi⟩

/-- the numbers from k on -/
def M.marks (k : Int) (n : Nat) : List Int := M.upto k n
theorem M.marks_len (k : Int) (n : Nat) : (M.marks k n).length = n := by simp [M.marks, M.upto]
theorem M.marks_get {k : Int} {n j : Nat} (h : j < n) : (M.marks k n)[j]? = some (k + j) := by
  simp [M.marks, M.upto, h]
theorem M.marks_step {k : Int} {j : Nat} {xs : List Int} (h : j < xs.length) : (M.marks k j ++ xs.drop j).set j (k + j) = M.marks k (j + 1) ++ xs.drop (j + 1) := by
  have hl := M.marks_len k j
  rw [List.set_append_right _ _ (by omega)]
  rw [hl, Nat.sub_self, List.drop_eq_getElem_cons h, List.set_cons_zero]
  show _ = M.upto k (j + 1) ++ _
  rw [M.upto_succ]
  simp [M.marks]
theorem OwnI.set {w : World} {base g cap n j : Nat} {xs : List Int} (hn : n = xs.length) (h : OwnI w base (.slice (some ⟨g, 0, none⟩) n cap) xs) (x : Int) {ys : List Int} (he : ys = xs.set j x) :
    OwnI (w.setCell ⟨g, j, none⟩ (.int .i64 x)) base (.slice (some ⟨g, 0, none⟩) n cap) ys ∧ w.grownBy (w.setCell ⟨g, j, none⟩ (.int .i64 x)) (some g) := by
  subst he hn
  have := World.ownsRow.stored (g := g) (cap := cap) h j (.int .i64 x)
  refine ⟨?_, this.2⟩
  unfold OwnI
  rw [List.map_set, List.length_set]
  exact this.1
theorem OwnI.form {w : World} {base : Nat} {v : Value} {xs : List Int} (h : OwnI w base v xs) (hn : 0 < xs.length) : ∃ g cap, v = .slice (some ⟨g, 0, none⟩) xs.length cap ∧ base ≤ g ∧ g < w.heap.size := by
  rcases h.2 with ⟨rfl, h2⟩ | ⟨g, cap, cur, rfl, hg, hh, -⟩
  · omega
  · exact ⟨g, cap, rfl, hg, (Array.getElem?_eq_some_iff.1 hh).1⟩
theorem OwnI.nil_form {w : World} {base : Nat} {v : Value} {xs : List Int} (h : OwnI w base v xs) : ∃ a cap, v = .slice a xs.length cap := by
  obtain ⟨a, cap, h1, -⟩ := h.view
  exact ⟨a, cap, h1⟩

theorem markIntS_c (v : Value) (xs : List Int) (k : Int) (w : World) (base : Nat) (hx : OwnI w base v xs) (h1 : 0 ≤ k) (h2 : k + xs.length ≤ 4000000000000000000) :
    Calls Tryz.prog 15 #[v, .int .i64 k] w fun e w' => e = .returned (.int .i64 (k + xs.length)) ∧ OwnI w' base v (M.marks k xs.length) ∧ w.grownBy w' v.ownBlock := by
  by_cases hz : xs.length = 0
  · obtain ⟨a, cap, rfl⟩ := hx.nil_form
    have hx0 : xs = [] := List.eq_nil_of_length_eq_zero hz
    subst hx0
    go_enter Tryz.func15, Tryz.ntmps15
    go_wp2
    go_loop [1, 5] (fun vk vi => vk = .int .i64 k ∧ vi = .int .i64 0) (fun _ _ => 0)
    case atStart => exact ⟨rfl, rfl⟩
    case round =>
      obtain ⟨rfl, rfl⟩ := hrel
      go_wp2
      go_ret
      exact ⟨ret_i (by simp), hx, grown_rf _ _⟩
  · obtain ⟨g, cap, rfl, hg, hgs⟩ := hx.form (by omega)
    clear hz
    go_enter Tryz.func15, Tryz.ntmps15
    go_wp2
    go_loopw [1, 5] (fun vk vi wr => ∃ j : Nat, j ≤ xs.length ∧ vi = .int .i64 j ∧ vk = .int .i64 (k + j) ∧ OwnI wr base (.slice (some ⟨g, 0, none⟩) xs.length cap) (M.marks k j ++ xs.drop j) ∧ w.grownBy wr (some g)) (fun _ vi _ => xs.length - (intOf vi).toNat)
    case atStart => exact ⟨0, by omega, rfl, by simp, by simpa [M.marks, M.upto] using hx, grown_rf _ _⟩
    case round =>
      obtain ⟨j, hj, rfl, rfl, hown, hgr⟩ := hrel
      have hlen : (M.marks k j ++ xs.drop j).length = xs.length := by rw [List.length_append, M.marks_len, List.length_drop]; omega
      by_cases hlt : j < xs.length
      · have hcell : wr.cell? ⟨g, j, none⟩ = some (.int .i64 xs[j]) := by
          have := World.ownsRow.cellAt (g := g) (cap := cap) (n := xs.length) (by have := hown; unfold OwnI at this; rw [hlen] at this; exact this) j (by omega)
          rw [this, List.getElem?_map, List.getElem?_append_right (by rw [M.marks_len]; omega), M.marks_len, Nat.sub_self, List.getElem?_drop]
          simp [hlt]
        have hfz : wr.frozen? ⟨g, j, none⟩ = false := World.ownsRow.frozenAt (g := g) (cap := cap) (n := xs.length) (by have := hown; unfold OwnI at this; rw [hlen] at this; exact this) j
        have hst := OwnI.set (j := j) hlen.symm hown (k + j) (M.marks_step hlt).symm
        have Hst := Lib.hid hst
        have Hlen := Lib.hid hlen
        clear hst hlen
        go_wp2
        go_roundw
        case rel => exact ⟨j + 1, by omega, by go_num, by congr 1; omega, Hst.out.1, grown_tr hgr Hst.out.2⟩
        case measure => simp [intOf]; omega
      · obtain rfl : j = xs.length := by omega
        clear hlen
        go_wp2
        go_ret
        exact ⟨rfl, by simpa using hown, hgr⟩

theorem heldIntS_c (v : Value) (n : Nat) (k : Int) (w : World) (base : Nat) (hx : OwnI w base v (M.marks k n)) (h1 : 0 ≤ k) (h2 : k + n ≤ 4000000000000000000) :
    Calls Tryz.prog 16 #[v, .int .i64 k] w fun e w' => e = .returned (.int .i64 (k + n)) ∧ Below w.heap.size w w' := by
  obtain ⟨a, cap, rfl, hm, hv⟩ := hx.view
  rw [M.marks_len] at hm hv ⊢
  go_enter Tryz.func16, Tryz.ntmps16
  go_wp2
  go_loop [1, 5] (fun vk vi => ∃ j : Nat, j ≤ n ∧ vi = .int .i64 j ∧ vk = .int .i64 (k + j)) (fun _ vi => n - (intOf vi).toNat)
  case atStart => exact ⟨0, by omega, rfl, by simp⟩
  case round =>
    obtain ⟨j, hj, rfl, rfl⟩ := hrel
    by_cases hlt : j < n
    · obtain ⟨g, x, rfl, hg, hx', hcell⟩ := hv j hlt
      rw [M.marks_get hlt] at hx'
      obtain rfl := Option.some.inj hx'.out
      clear hv
      go_wp2
      go_round
      case rel => exact ⟨j + 1, by omega, by go_num, by congr 1; omega⟩
      case measure => simp [intOf]; omega
    · obtain rfl : j = n := by omega
      clear hv
      go_wp2
      go_ret
      exact ⟨rfl, (by repeat (first | exact Below.refl _ _ | refine below_alloc ?_ _ | refine below_step ?_ (by assumption) | refine Below.drew ?_ | refine Below.setCell ?_ (by first | exact Nat.le_refl _ | exact Nat.le_add_right _ _ | (simp <;> omega)) _ | refine below_drewN ?_ _))⟩
end Go.Proofs.YtmipenpeebmjkaaGreat

namespace Go.Proofs.YtmipenpeebmjkaaGreat
set_option linter.unusedSimpArgs false
set_option linter.unusedVariables false
open Go.RowKit

theorem OwnI.lit0 (w : World) (base : Nat) (hb : base ≤ w.heap.size) : OwnI (w.alloc (.cells #[] 3)) base (.slice (some ⟨w.heap.size, 0, none⟩) 0 0) [] :=
  World.ownsRow_made w #[] 0 hb (by unfold maxLen; omega) rfl

theorem OwnI.lt {w : World} {base : Nat} {v : Value} {xs : List Int} (h : OwnI w base v xs) : ∀ k, v.ownBlock = some k → base ≤ k ∧ k < w.heap.size := World.ownsRow.lt h
theorem OwnI.alloc {w : World} {base : Nat} {v : Value} {xs : List Int} (h : OwnI w base v xs) (o : Obj) : OwnI (w.alloc o) base v xs := World.ownsRow.alloc h o
theorem OwnI.forms {w : World} {base : Nat} {v : Value} {xs : List Int} (h : OwnI w base v xs) : (v = .slice none 0 0 ∧ xs = []) ∨ ∃ g cap, v = .slice (some ⟨g, 0, none⟩) xs.length cap ∧ base ≤ g := by
  rcases h.2 with ⟨e, h2⟩ | ⟨g, cap', cur, e, hg, -⟩
  · exact Or.inl ⟨e, List.eq_nil_of_length_eq_zero h2⟩
  · exact Or.inr ⟨g, cap', e, hg⟩
theorem OwnI.cap {w : World} {base : Nat} {a : Option Addr} {n cap : Nat} {xs : List Int} (h : OwnI w base (.slice a n cap) xs) : xs.length ≤ cap ∧ cap ≤ 9223372036854775807 := by
  rcases h.2 with ⟨e, h2⟩ | ⟨g, cap', cur, e, -, -, h3, h4, -⟩
  · injection e with e1 e2 e3
    exact ⟨by omega, by omega⟩
  · injection e with e1 e2 e3
    unfold maxLen at h4
    exact ⟨by omega, by omega⟩

theorem run_append_of_nil {P : Program} (w : World) (base : Nat) (t ty e : TypeId) (i : TypeInfo) (size : Nat) (ht : P.underlying t = some (.slice e)) (hi : P.info? e = some i)
    (v : Value) (n : Nat) (xs : List Value) (hown : w.ownsRow base e size v n xs) (c : Nat) : (Builtin.append_ #[t, t] ty #[v, .slice none 0 c]).run P w = .ok v w := by
  rcases hown.2 with ⟨rfl, rfl⟩ | ⟨g, cap, cur, rfl, _, _, hnc, _⟩
  · simp [Builtin.append_, run_underlying ht, sizeOf, typeInfo, hi, Builtin.lenOf, Builtin.firstCells]
  · simp [Builtin.append_, run_underlying ht, sizeOf, typeInfo, hi, Builtin.lenOf, Builtin.firstCells, hnc, storeCells]

/-- 'append(out, src...)': some numbers that are read from A on -/
theorem run_push_seg {w W : World} (base : Nat) (ty : TypeId) (ys xs : List Int) (v : Value) (A : Option Addr) (c : Nat)
    (hr : ∀ j y, ys[j]? = some y → ∃ ad, A = some ad ∧ w.cell? (ad.add j) = some (.int .i64 y)) (hown : OwnI w base v xs) (hW : Below base W w) (hB : base ≤ w.heap.size) (hl : xs.length + ys.length ≤ 10000000000) :
    ∃ v' w', (Builtin.append_ #[29, 29] ty #[v, .slice A ys.length c]).run Tryz.prog w = .ok v' w' ∧ OwnI w' base v' (xs ++ ys) ∧ Below base W w' := by
  obtain ⟨i0, hi, hz0, hz1, hz2⟩ := info_parts info_int
  cases A with
  | none =>
    have he : ys = [] := by
      cases ys with
      | nil => rfl
      | cons y ys => obtain ⟨ad, h, -⟩ := hr 0 y rfl; cases h
    subst he
    exact ⟨v, w, run_append_of_nil w base _ _ _ i0 1 Tryz.underlying29 hi _ _ _ hown c, by simpa using hown, hW⟩
  | some ad =>
    obtain ⟨v', w', h1, h2, h3, -, -⟩ := run_append_own_at (P := Tryz.prog) w base 29 ty 3 i0 (.int .i64 0) 1 8 Tryz.underlying29 hi hz0 hz1 hz2 rfl (by decide) v xs.length (xs.map (Value.int .i64)) hown ad ys.length c (ys.map (Value.int .i64))
      (by simp) (fun j u hu => by
        rw [List.getElem?_map] at hu
        cases hy : ys[j]? with
        | none => rw [hy] at hu; cases hu
        | some y =>
          rw [hy] at hu
          obtain ⟨ad', h1, h2⟩ := hr j y hy
          obtain rfl := Option.some.inj h1
          obtain rfl := Option.some.inj hu
          exact h2) (fun u hu => by
        obtain ⟨y, -, rfl⟩ := List.mem_map.1 hu
        rfl) (by unfold maxLen; omega) (by omega) hB
    refine ⟨v', w', h1, ?_, hW.grown h3 hB fun k hk => (hown.lt k hk).1⟩
    unfold OwnI
    rw [List.map_append, List.length_append]
    exact h2

theorem push_seg {ops : Array Oper} {rest : List Oper} {o : Oper} {a : Act} {Q : Exit → Act → World → Prop} {w W : World} (base : Nat) (ys xs : List Int) (v : Value) (A : Option Addr) (m c : Nat) (hm : ys.length = m) (hgd : o.guard = none) (s x : Operand)
    (ho : o.op = .call { callee := .builtin .append, args := #[s, x], argTypes := #[29, 29] }) (hs : a.eval s = v) (hx : a.eval x = .slice A m c)
    (hr : ∀ j y, ys[j]? = some y → ∃ ad, A = some ad ∧ w.cell? (ad.add j) = some (.int .i64 y)) (hown : OwnI w base v xs) (hW : Below base W w) (hB : base ≤ w.heap.size) (hl : xs.length + ys.length ≤ 10000000000)
    (h : ∀ v' w', OwnI w' base v' (xs ++ ys) → Below base W w' → wpList Tryz.prog ops Q rest (a.put o.dst v') w') :
    wpList Tryz.prog ops Q (o :: rest) a w := by
  subst hm
  refine wpList_plain hgd fun _ hK => ?_
  obtain ⟨v', w', h1, h2, h3⟩ := run_push_seg (w := w) (W := W) base o.type ys xs v A c hr hown hW hB hl
  unfold Oper.wp execOp
  simp only [ho, resolve, invoke, builtin, Sem.run_bind, Sem.run_pure, Result.andThen_ok, List.map_toArray, List.map_cons, List.map_nil, hs, hx, h1]
  exact hK _ _ (h v' w' h2 h3)

/-- 'out = append(out, y)' behind other new blocks -/
theorem push_intH {ops : Array Oper} {rest : List Oper} {o : Oper} {a : Act} {Q : Exit → Act → World → Prop} {w W : World} (base : Nat) (y : Int) (xs : List Int) (v : Value) (H : Nat) (hH : w.heap.size = H) (hgd : o.guard = none) (s x : Operand)
    (ho : o.op = .call { callee := .builtin .append, args := #[s, x], argTypes := #[29, 29] }) (hs : a.eval s = v) (hx : a.eval x = .slice (some ⟨H, 0, none⟩) 1 1)
    (hown : OwnI w base v xs) (hW : Below base W w) (hB : base ≤ w.heap.size) (hl : xs.length ≤ 10000000000)
    (h : ∀ v' w', OwnI w' base v' (xs ++ [y]) → Below base W w' → wpList Tryz.prog ops Q rest (a.put o.dst v') w') :
    wpList Tryz.prog ops Q (o :: rest) a (w.alloc (.cells #[.int .i64 y] 3)) := by
  subst hH
  exact push_int base y xs v hgd s x ho hs hx hown hW hB hl h
end Go.Proofs.YtmipenpeebmjkaaGreat

namespace Go.Proofs.YtmipenpeebmjkaaGreat
set_option linter.unusedSimpArgs false
set_option linter.unusedVariables false
open Go.RowKit

theorem info_ints : (Tryz.prog.info? 29).map (fun i => (i.zero, i.size, i.bytes)) = some (some (.slice none 0 0), 1, 24) := by kernel_rfl
theorem ints_ne_int : (29 : TypeId) ≠ 3 := by decide

theorem OwnI.kept {w w' : World} {base : Nat} {v : Value} {xs : List Int} {r : Option Nat} (h : OwnI w base v xs) (hg : w.grownBy w' r) (hr : ∀ g, r = some g → v.ownBlock ≠ some g) : OwnI w' base v xs := by
  refine World.ownsRow.kept h hg ?_
  cases r with
  | none =>
    cases hv : v.ownBlock
    · exact Or.inl rfl
    · exact Or.inr (by simp)
  | some g => exact Or.inr (hr g rfl)
theorem own_ne {w : World} {b1 b2 n1 n2 s1 s2 : Nat} {t1 t2 : TypeId} {v1 v2 : Value} {x1 x2 : List Value} (h1 : w.ownsRow b1 t1 s1 v1 n1 x1) (h2 : w.ownsRow b2 t2 s2 v2 n2 x2) (ht : t1 ≠ t2) : ∀ g, v2.ownBlock = some g → v1.ownBlock ≠ some g := by
  intro g hg hg'
  rcases h1.2 with ⟨rfl, -⟩ | ⟨g1, c1, cur1, rfl, -, hh1, -⟩
  · cases hg'
  · rcases h2.2 with ⟨rfl, -⟩ | ⟨g2, c2, cur2, rfl, -, hh2, -⟩
    · cases hg
    · simp only [Value.ownBlock, Option.some.injEq] at hg hg'
      subst hg hg'
      rw [hh1] at hh2
      injection hh2 with hh2
      injection hh2 with _ ht' _
      exact ht ht'

/-- a slice of slices of numbers, its elements vs: all its blocks lie from base on, no two are one -/
def OwnV (w : World) (base : Nat) (v : Value) (vs : List Value) (rows : List (List Int)) : Prop :=
  w.ownsRow base 29 1 v rows.length vs ∧ vs.length = rows.length ∧ (∀ (i : Nat) (u : Value) (r : List Int), vs[i]? = some u → rows[i]? = some r → OwnI w base u r) ∧
    vs.Pairwise (fun u u' => ∀ g, u.ownBlock = some g → u'.ownBlock ≠ some g)
theorem OwnV.nil (w : World) (base : Nat) : OwnV w base (.slice none 0 0) [] [] := ⟨World.ownsRow_nil w base _ 1, rfl, fun i u r h => by simp at h, List.Pairwise.nil⟩
theorem OwnV.base {w : World} {base base' : Nat} {v : Value} {vs : List Value} {rows : List (List Int)} (h : OwnV w base v vs rows) (hb : base' ≤ base) : OwnV w base' v vs rows := by
  obtain ⟨h1, h2, h3, h4⟩ := h
  refine ⟨?_, h2, fun i u r hu hr => (h3 i u r hu hr).base hb, h4⟩
  obtain ⟨a1, a2⟩ := h1
  refine ⟨a1, ?_⟩
  rcases a2 with a2 | ⟨g, cap, cur, hv, hg, hh, r⟩
  · exact Or.inl a2
  · exact Or.inr ⟨g, cap, cur, hv, Nat.le_trans hb hg, hh, r⟩
theorem OwnV.below {w w' : World} {base : Nat} {v : Value} {vs : List Value} {rows : List (List Int)} (h : OwnV w base v vs rows) (hb : Below w.heap.size w w') : OwnV w' base v vs rows := by
  obtain ⟨h1, h2, h3, h4⟩ := h
  exact ⟨World.ownsRow.kept h1 (below_grown hb none) (by cases v.ownBlock <;> simp), h2, fun i u r hu hr => (h3 i u r hu hr).below hb, h4⟩
theorem OwnV.alloc {w : World} {base : Nat} {v : Value} {vs : List Value} {rows : List (List Int)} (h : OwnV w base v vs rows) (o : Obj) : OwnV (w.alloc o) base v vs rows :=
  h.below ((Below.refl _ _).alloc (Nat.le_refl _) _)
theorem OwnV.lt {w : World} {base : Nat} {v : Value} {vs : List Value} {rows : List (List Int)} (h : OwnV w base v vs rows) : ∀ z ∈ vs, ∀ g, z.ownBlock = some g → base ≤ g ∧ g < w.heap.size := by
  obtain ⟨h1, h2, h3, h4⟩ := h
  intro z hz g hg
  obtain ⟨i, hi⟩ := List.getElem?_of_mem hz
  have hil := (List.getElem?_eq_some_iff.1 hi).1
  exact World.ownsRow.lt (h3 i z _ hi (List.getElem?_eq_getElem (by omega))) g hg

theorem one_cell_slice {v : Value} {w : World} {base : Nat} {xs : List Int} (h : OwnI w base v xs) : v.oneCell' = true := by
  rcases h.2 with ⟨rfl, -⟩ | ⟨g, cap, cur, rfl, -⟩ <;> rfl

/-- 'out = append(out, row)', the row in a block of its own -/
theorem push_row {ops : Array Oper} {rest : List Oper} {o : Oper} {a : Act} {Q : Exit → Act → World → Prop} {w W : World} (base : Nat) (u : Value) (r : List Int) (vs : List Value) (rows : List (List Int)) (v : Value) (H : Nat) (hH : w.heap.size = H) (hgd : o.guard = none) (s x : Operand)
    (ho : o.op = .call { callee := .builtin .append, args := #[s, x], argTypes := #[60, 60] }) (hs : a.eval s = v) (hx : a.eval x = .slice (some ⟨H, 0, none⟩) 1 1)
    (hown : OwnV w base v vs rows) (hu : OwnI w base u r) (hnew : ∀ g, u.ownBlock = some g → ∀ z ∈ vs, z.ownBlock ≠ some g)
    (hW : Below base W w) (hB : base ≤ w.heap.size) (hl : rows.length ≤ 1000000000)
    (h : ∀ v' w', OwnV w' base v' (vs ++ [u]) (rows ++ [r]) → Below base W w' → wpList Tryz.prog ops Q rest (a.put o.dst v') w') :
    wpList Tryz.prog ops Q (o :: rest) a (w.alloc (.cells #[u] 29)) := by
  subst hH
  obtain ⟨i0, hi, hz0, hz1, hz2⟩ := info_parts info_ints
  obtain ⟨h1, h2, h3, h4⟩ := hown
  refine wpList_append_own _ hgd s x 60 ho base 29 i0 (.slice none 0 0) 1 24 Tryz.underlying60 hi hz0 hz1 hz2 rfl (by decide) v rows.length vs hs (h1.alloc _) ⟨w.heap.size, 0, none⟩ 1 1 [u] hx rfl (fun j z hz => by
    have hadd : (⟨w.heap.size, 0, none⟩ : Addr).add j = ⟨w.heap.size, j, none⟩ := by unfold Addr.add; split <;> simp_all
    rw [hadd, World.cell?_alloc_at _ _ _ _ rfl]
    simpa using hz) (fun z hz => by simp only [List.mem_singleton] at hz; subst hz; exact one_cell_slice hu) ?_ ?_ ?_ ?_
  · unfold maxLen; omega
  · omega
  · simp; omega
  · intro v' w' k1 k2 _
    refine h v' w' ⟨by rw [List.length_append]; exact k1, by rw [List.length_append, List.length_append, h2]; rfl, ?_, ?_⟩ ((hW.alloc hB _).grown k2 (by simp; omega) fun k hk => (h1.lt k hk).1)
    · have hal : ∀ {z : Value} {q : List Int}, OwnI w base z q → OwnI w' base z q := by
        intro z q hz
        have hz' : OwnI (w.alloc (.cells #[u] 29)) base z q := World.ownsRow.alloc hz _
        refine hz'.kept k2 fun g hg => ?_
        exact own_ne (t1 := 3) (t2 := 29) hz' (World.ownsRow.alloc h1 _) (Ne.symm ints_ne_int) g hg
      intro i z q hz hq
      by_cases hlt : i < vs.length
      · rw [List.getElem?_append_left hlt] at hz
        rw [List.getElem?_append_left (by omega)] at hq
        exact hal (h3 i z q hz hq)
      · rw [List.getElem?_append_right (by omega)] at hz
        rw [List.getElem?_append_right (by omega), ← h2] at hq
        have hi0 : i - vs.length = 0 := by
          rcases Nat.eq_zero_or_pos (i - vs.length) with e | e
          · exact e
          · rw [List.getElem?_eq_none (by simp; omega)] at hz; cases hz
        rw [hi0] at hz hq
        simp only [List.getElem?_cons_zero, Option.some.injEq] at hz hq
        subst hz hq
        exact hal hu
    · rw [List.pairwise_append]
      refine ⟨h4, by simp, fun z hz z' hz' g hg hg' => ?_⟩
      simp only [List.mem_singleton] at hz'
      subst hz'
      exact hnew g hg' z hz hg

/-- how such a slice is read -/
theorem OwnV.view {w : World} {base : Nat} {v : Value} {vs : List Value} {rows : List (List Int)} (h : OwnV w base v vs rows) : ∃ (a : Option Addr) (cap : Nat), v = .slice a rows.length cap ∧ (rows.length : Int) ≤ 9223372036854775807 ∧
    ∀ k, k < rows.length → ∃ g u r, a = some ⟨g, 0, none⟩ ∧ g < w.heap.size ∧ Hid (rows[k]? = some r) ∧ Hid (vs[k]? = some u) ∧ w.cell? ⟨g, k, none⟩ = some u ∧ OwnI w base u r := by
  obtain ⟨⟨h1, h2⟩, h3, h4, h5⟩ := h
  rcases h2 with ⟨rfl, hn⟩ | ⟨g, cap, cur, rfl, hg, hh, hc, hm, hs, ht⟩
  · exact ⟨none, 0, by rw [hn], by omega, fun k hk => by omega⟩
  · refine ⟨some ⟨g, 0, none⟩, cap, rfl, by unfold maxLen at hm; omega, fun k hk => ⟨g, vs[k]'(by omega), rows[k], rfl, (Array.getElem?_eq_some_iff.1 hh).1, List.getElem?_eq_getElem hk, List.getElem?_eq_getElem (by omega), ?_, h4 k _ _ (List.getElem?_eq_getElem (by omega)) (List.getElem?_eq_getElem hk)⟩⟩
    rw [cell_of_row w g k cur _ (0, 0) hh]
    have e : vs[k]? = some (vs[k]'(by omega)) := List.getElem?_eq_getElem (by omega)
    generalize vs[k]'(by omega) = q at e ⊢
    rw [← ht, List.getElem?_take] at e
    split at e
    · simpa using e
    · cases e
/-- a slice of slices that can be read -/
def SeenII (w : World) (hi : Nat) (v : Value) (rows : List (List Int)) : Prop :=
  ∃ (a : Option Addr) (cap : Nat), v = .slice a rows.length cap ∧ (rows.length : Int) ≤ 9223372036854775807 ∧
    ∀ k, k < rows.length → ∃ g u r, a = some ⟨g, 0, none⟩ ∧ g < hi ∧ Hid (rows[k]? = some r) ∧ w.cell? ⟨g, k, none⟩ = some u ∧ SeenI w hi u r
theorem SeenII.below {w w' : World} {hi : Nat} {v : Value} {rows : List (List Int)} (h : SeenII w hi v rows) (hb : Below hi w w') : SeenII w' hi v rows := by
  obtain ⟨a, cap, h1, h2, h3⟩ := h
  refine ⟨a, cap, h1, h2, fun k hk => ?_⟩
  obtain ⟨g, u, r, e1, e2, e3, e4, e5⟩ := h3 k hk
  exact ⟨g, u, r, e1, e2, e3, (hb.cell (p := ⟨g, k, none⟩) e2).trans e4, e5.below hb⟩
theorem OwnV.seen {w : World} {base : Nat} {v : Value} {vs : List Value} {rows : List (List Int)} (h : OwnV w base v vs rows) : SeenII w w.heap.size v rows := by
  obtain ⟨a, cap, h1, h2, h3⟩ := h.view
  refine ⟨a, cap, h1, h2, fun k hk => ?_⟩
  obtain ⟨g, u, r, e1, e2, e3, -, e4, e5⟩ := h3 k hk
  exact ⟨g, u, r, e1, e2, e3, e4, e5.seen⟩

end Go.Proofs.YtmipenpeebmjkaaGreat

namespace Go.Proofs.YtmipenpeebmjkaaGreat
set_option linter.unusedSimpArgs false
set_option linter.unusedVariables false
open Go.RowKit

/-- a slice of slices of numbers -/
def OwnII (w : World) (base : Nat) (v : Value) (rows : List (List Int)) : Prop := ∃ vs, OwnV w base v vs rows
theorem OwnII.nil (w : World) (base : Nat) : OwnII w base (.slice none 0 0) [] := ⟨[], OwnV.nil w base⟩
theorem OwnII.base {w : World} {base base' : Nat} {v : Value} {rows : List (List Int)} (h : OwnII w base v rows) (hb : base' ≤ base) : OwnII w base' v rows := h.elim fun vs k => ⟨vs, k.base hb⟩
theorem OwnII.below {w w' : World} {base : Nat} {v : Value} {rows : List (List Int)} (h : OwnII w base v rows) (hb : Below w.heap.size w w') : OwnII w' base v rows := h.elim fun vs k => ⟨vs, k.below hb⟩
theorem OwnII.seen {w : World} {base : Nat} {v : Value} {rows : List (List Int)} (h : OwnII w base v rows) : SeenII w w.heap.size v rows := h.elim fun _ k => k.seen

/-- the numbers from k on, through all rows -/
def M.tot (rows : List (List Int)) : Nat := (rows.map List.length).sum
def M.marksL (k : Int) : List (List Int) → List (List Int)
  | [] => []
  | r :: rs => M.marks k r.length :: M.marksL (k + r.length) rs
theorem M.tot_append (l m : List (List Int)) : M.tot (l ++ m) = M.tot l + M.tot m := by simp [M.tot]
theorem M.marksL_len (k : Int) : ∀ rows : List (List Int), (M.marksL k rows).length = rows.length
  | [] => rfl
  | r :: rs => by simp [M.marksL, M.marksL_len]
theorem M.marksL_snoc (k : Int) (r : List Int) : ∀ l : List (List Int), M.marksL k (l ++ [r]) = M.marksL k l ++ [M.marks (k + M.tot l) r.length]
  | [] => by simp [M.marksL, M.tot]
  | q :: l => by
    have e : k + (q.length : Int) + (M.tot l : Int) = k + (M.tot (q :: l) : Int) := by
      have : M.tot (q :: l) = q.length + M.tot l := by simp [M.tot]
      rw [this]
      push_cast
      omega
    simp only [List.cons_append, M.marksL, M.marksL_snoc _ r l]
    rw [e]
theorem M.take_snoc {rows : List (List Int)} {j : Nat} {r : List Int} (h : rows[j]? = some r) : rows.take (j + 1) = rows.take j ++ [r] := by
  obtain ⟨hk, e⟩ := List.getElem?_eq_some_iff.1 h
  rw [List.take_succ_eq_append_getElem hk, e]
theorem M.marksL_step {k : Int} {rows : List (List Int)} {j : Nat} {r : List Int} (h : rows[j]? = some r) :
    (M.marksL k (rows.take j) ++ rows.drop j).set j (M.marks (k + M.tot (rows.take j)) r.length) = M.marksL k (rows.take (j + 1)) ++ rows.drop (j + 1) := by
  obtain ⟨hk, e⟩ := List.getElem?_eq_some_iff.1 h
  have hl : (M.marksL k (rows.take j)).length = j := by rw [M.marksL_len, List.length_take]; omega
  rw [List.set_append_right _ _ (by omega), hl, Nat.sub_self, List.drop_eq_getElem_cons hk, List.set_cons_zero, M.take_snoc h, M.marksL_snoc]
  simp
theorem M.tot_le {rows : List (List Int)} {j : Nat} {r : List Int} (h : rows[j]? = some r) : M.tot (rows.take j) + r.length ≤ M.tot rows := by
  have e : rows = rows.take (j + 1) ++ rows.drop (j + 1) := (List.take_append_drop _ _).symm
  have h2 := congrArg M.tot e
  rw [M.tot_append, M.take_snoc h, M.tot_append] at h2
  have : M.tot [r] = r.length := by simp [M.tot]
  omega

theorem OwnV.mark {w w' : World} {base : Nat} {v : Value} {vs : List Value} {rows : List (List Int)} {j : Nat} {u : Value} {r : List Int} (h : OwnV w base v vs rows) (hj : vs[j]? = some u) (hu : OwnI w' base u r) (hg : w.grownBy w' u.ownBlock) : OwnV w' base v vs (rows.set j r) := by
  obtain ⟨h1, h2, h3, h4⟩ := h
  have hjl := (List.getElem?_eq_some_iff.1 hj).1
  have hur := h3 j u _ hj (List.getElem?_eq_getElem (by omega))
  refine ⟨by rw [List.length_set]; exact World.ownsRow.kept h1 hg (by
      cases hb : u.ownBlock with
      | none => cases hv : v.ownBlock <;> simp
      | some g => exact Or.inr (own_ne (t1 := 29) (t2 := 3) h1 hur ints_ne_int g hb)), by rw [List.length_set]; exact h2, fun i z q hz hq => ?_, h4⟩
  by_cases hij : j = i
  · subst hij
    rw [hj] at hz
    rw [List.getElem?_set_self (by omega)] at hq
    obtain rfl := Option.some.inj hz
    obtain rfl := Option.some.inj hq
    exact hu
  · rw [List.getElem?_set_ne hij] at hq
    refine (h3 i z q hz hq).kept hg fun g hb => ?_
    have hil := (List.getElem?_eq_some_iff.1 hz).1
    obtain ⟨_, ez⟩ := List.getElem?_eq_some_iff.1 hz
    obtain ⟨_, ej⟩ := List.getElem?_eq_some_iff.1 hj
    have hp := List.pairwise_iff_getElem.1 h4
    rcases Nat.lt_or_gt_of_ne hij with hlt | hlt
    · have := hp j i hjl hil hlt g (by rw [ej]; exact hb)
      rwa [ez] at this
    · intro hzb
      have := hp i j hil hjl hlt g (by rw [ez]; exact hzb)
      rw [ej] at this
      exact this hb

end Go.Proofs.YtmipenpeebmjkaaGreat

namespace Go.Proofs.YtmipenpeebmjkaaGreat
set_option linter.unusedSimpArgs false
set_option linter.unusedVariables false
open Go.RowKit

theorem box2_0 (w : World) (cs ds : Array Value) (T U : TypeId) (j : Nat) : ((w.alloc (.cells cs T)).alloc (.cells ds U)).cell? ⟨w.heap.size, j, none⟩ = cs[j]? := by
  rw [World.cell?_alloc_past _ _ _ (by rw [World.size_alloc]; omega), World.cell?_alloc_at _ _ _ _ rfl]
theorem box2_1 (w : World) (cs ds : Array Value) (T U : TypeId) (j : Nat) : ((w.alloc (.cells cs T)).alloc (.cells ds U)).cell? ⟨w.heap.size + 1, j, none⟩ = ds[j]? := by
  rw [World.cell?_alloc_at _ _ _ _ (by rw [World.size_alloc])]

theorem find_hit {f : Int → Bool} {xs : List Int} {k : Nat} {x : Int} (h0 : (xs.take k).find? f = none) (hx : xs[k]? = some x) (hf : f x = true) : xs.find? f = some x := by
  have h := take_next hx
  have e : xs = xs.take (k + 1) ++ xs.drop (k + 1) := (List.take_append_drop _ _).symm
  rw [e, List.find?_append, h, List.find?_append, h0]
  simp [hf]
theorem find_next {f : Int → Bool} {xs : List Int} {k : Nat} {x : Int} (h0 : (xs.take k).find? f = none) (hx : xs[k]? = some x) (hf : f x = false) : (xs.take (k + 1)).find? f = none := by
  rw [take_next hx, List.find?_append, h0]
  simp [hf]

noncomputable def fdV (a b c d n : Int) : Int := (M.firstD a b c d n).getD 0
noncomputable def fdB (a b c d n : Int) : Bool := (M.firstD a b c d n).isSome

end Go.Proofs.YtmipenpeebmjkaaGreat

namespace Go.Proofs.YtmipenpeebmjkaaGreat
set_option linter.unusedSimpArgs false
set_option linter.unusedVariables false
open Go.RowKit

/-- a table is asked for -/
def trAsk (a b n : Int) : Bool := M.good a b && M.ins n 5 200
theorem trAsk_t {a b n : Int} (h : trAsk a b n = true) : M.good a b = true ∧ 5 ≤ n ∧ n ≤ 200 := by
  simp only [trAsk, Bool.and_eq_true, M.ins_iff] at h
  exact ⟨h.1, h.2.1, h.2.2⟩

noncomputable def hsOk (a b c d n : Int) : Bool := trAsk a b n && M.good c d
theorem fdV_zero {a b c d n : Int} : (fdV a b c d n == 0) = !fdB a b c d n := by
  unfold fdV fdB M.firstD
  cases h : (M.goods a b n).find? (M.differ a b c d) with
  | none => rfl
  | some x =>
    have := (M.mem_goods (List.mem_of_find?_eq_some h)).2.1
    simp
    omega

noncomputable def fdOk (a b c d n : Int) : Bool := hsOk a b c d n && fdB a b c d n

end Go.Proofs.YtmipenpeebmjkaaGreat

namespace Go.Proofs.YtmipenpeebmjkaaGreat
set_option linter.unusedSimpArgs false
set_option linter.unusedVariables false
open Go.RowKit

/-- the sum of the traces at some primes -/
noncomputable def mtStep (a b : Int) (s p : Int) : Int := s + M.trace a b p
noncomputable def mtSum (a b n : Int) : Int := (M.goods a b n).foldl (mtStep a b) 0
theorem mt_bd (a b n : Int) : ∀ k : Nat, -(1000 * (k : Int)) ≤ ((M.goods a b n).take k).foldl (mtStep a b) 0 ∧ ((M.goods a b n).take k).foldl (mtStep a b) 0 ≤ 1000 * (k : Int)
  | 0 => by simp
  | k + 1 => by
    have ih := mt_bd a b n k
    cases hx : (M.goods a b n)[k]? with
    | none =>
      have hl := List.getElem?_eq_none_iff.1 hx
      rw [List.take_of_length_le (by omega)]
      rw [List.take_of_length_le hl] at ih
      omega
    | some p =>
      rw [foldl_next _ _ hx]
      have hp := (M.mem_goods (List.mem_of_getElem? hx)).1
      have := goodp_trace hp
      unfold mtStep at ih ⊢
      omega
theorem goods_le (a b n : Int) (n2 : n ≤ 1000) : (M.goods a b n).length ≤ 1000 := by
  have := M.sel_le (M.goodp a b) 5 (n - 4).toNat
  unfold M.goods
  omega
noncomputable def mtOk (a b n : Int) : Bool := trAsk a b n && !(M.goods a b n).isEmpty
noncomputable def mtq (a b n : Int) : Bool := mtOk a b n && frq (mtSum a b n) (M.goods a b n).length
noncomputable def mtX (a b n : Int) : Int := M.pick (mtq a b n) (partN (mtSum a b n) (M.goods a b n).length)
noncomputable def mtY (a b n : Int) : Int := M.pick (mtq a b n) (partD (mtSum a b n) (M.goods a b n).length)

end Go.Proofs.YtmipenpeebmjkaaGreat

namespace Go.Proofs.YtmipenpeebmjkaaGreat
set_option linter.unusedSimpArgs false
set_option linter.unusedVariables false
open Go.RowKit

noncomputable def trRow (a b p : Int) : List Int := [p, M.trace a b p]
noncomputable def trRows (a b n : Int) : List (List Int) := (M.goods a b n).map (trRow a b)
theorem trRows_take {a b n : Int} {k : Nat} {p : Int} (h : (M.goods a b n)[k]? = some p) : ((M.goods a b n).take (k + 1)).map (trRow a b) = ((M.goods a b n).take k).map (trRow a b) ++ [trRow a b p] := by
  rw [take_next h, List.map_append]
  rfl
theorem OwnI.lit2 (w : World) (base : Nat) (x y : Int) (hb : base ≤ w.heap.size) : OwnI (w.alloc (.cells #[.int .i64 x, .int .i64 y] 3)) base (.slice (some ⟨w.heap.size, 0, none⟩) 2 2) [x, y] :=
  World.ownsRow_lit w #[.int .i64 x, .int .i64 y] 2 hb (by unfold maxLen; omega) rfl

theorem row_new {w w' : World} {base : Nat} {v : Value} {vs : List Value} {rows : List (List Int)} {n m : Nat} (h : OwnV w base v vs rows) (hb : Below w.heap.size w w') (z : Value) (hz : z ∈ vs) (g : Nat) (hzg : z.ownBlock = some g) (hg : (Value.slice (some ⟨w'.heap.size, 0, none⟩) n m).ownBlock = some g) : False := by
  have := ((h.below hb).lt z hz g hzg).2
  simp only [Value.ownBlock, Option.some.injEq] at hg
  omega

end Go.Proofs.YtmipenpeebmjkaaGreat
