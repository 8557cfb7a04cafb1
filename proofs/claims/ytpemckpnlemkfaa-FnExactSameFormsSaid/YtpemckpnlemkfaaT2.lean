/-
  Contracts: the first row that a test takes.
-/
import Derived.Test.YtpemckpnlemkfaaS13
import Derived.Test.YtpemckpnlemkfaaT1
import Derived.Test.YtpemckpnlemkfaaD10
import Derived.Lib.SliceRun
import Derived.Shelf.Abstract
namespace Go.Proofs.Ytpemckpnlemkfaa
set_option linter.unusedSimpArgs false
set_option linter.unusedVariables false
open Go.RowKit Go.Shelf

theorem sf1_c (u : Value) (r : List Int) (f : Int) (b hi : Nat) (w : World) (hu : SeenI w hi u r) (hb : w.cell? ⟨b, 0, none⟩ = some (.int .i64 f)) :
    Calls Try.prog 32 #[u, .pointer (some ⟨b, 0, none⟩)] w fun e w' => e = .returned (.bool (M.prow f r)) ∧ Below w.heap.size w w' := by
  obtain ⟨a, cap, rfl, hm, hv⟩ := hu
  unfold M.prow
  cases r with
  | nil =>
    clear hv
    go_enter Try.func32, Try.ntmps32
    go_wp2
    go_quiet (fail)
    go_wp2
    go_ret
    exact ⟨rfl, (by repeat (first | exact Below.refl _ _ | refine below_alloc ?_ _ | refine below_step ?_ (by assumption) | refine Below.drew ?_ | refine Below.setCell ?_ (by first | exact Nat.le_refl _ | exact Nat.le_add_right _ _ | (simp <;> omega)) _ | refine below_drewN ?_ _))⟩
  | cons x t =>
    obtain ⟨g, x', rfl, hg, hx, hcell⟩ := hv 0 (by simp)
    obtain rfl : x = x' := by simpa using hx.out
    clear hv hx
    simp only [List.headD_cons]
    have hl : ((x :: t).length == 0) = false := by simp
    rw [hl, Bool.false_or]
    have h0 : 0 < (x :: t).length := by simp
    generalize (x :: t).length = n at *
    have hn : ((n : Int) == 0) = false := beq_eq_false_iff_ne.2 (by omega)
    clear hl
    cases hb1 : (x == f)
    all_goals
      go_enter Try.func32, Try.ntmps32
      go_wp2
      go_quiet (fail)
      go_wp2
      go_ret
      exact ⟨by simp [hb1], (by repeat (first | exact Below.refl _ _ | refine below_alloc ?_ _ | refine below_step ?_ (by assumption) | refine Below.drew ?_ | refine Below.setCell ?_ (by first | exact Nat.le_refl _ | exact Nat.le_add_right _ _ | (simp <;> omega)) _ | refine below_drewN ?_ _))⟩

/-- the place of the first row that passes, or -1 -/
def M.fidx (p : List Int → Bool) (rows : List (List Int)) : Int := if rows.findIdx p < rows.length then (rows.findIdx p : Int) else -1
theorem M.fidx_hit {p : List Int → Bool} {rows : List (List Int)} {k : Nat} {r : List Int} (hk : rows[k]? = some r) (h1 : p r = true) (h2 : ∀ q ∈ rows.take k, p q = false) : M.fidx p rows = k := by
  obtain ⟨e, -⟩ := M.addG_find (i := 0) hk h1 h2
  have hl := (List.getElem?_eq_some_iff.1 hk).1
  unfold M.fidx
  rw [e, if_pos hl]
theorem M.fidx_miss {p : List Int → Bool} {rows : List (List Int)} (h : ∀ q ∈ rows, p q = false) : M.fidx p rows = -1 := by
  have e : rows.findIdx p = rows.length := List.findIdx_eq_length.2 h
  unfold M.fidx
  rw [e, if_neg (by omega)]
theorem take_memL {xs : List (List Int)} {k : Nat} {x : List Int} {q : List Int → Prop} (hx : xs[k]? = some x) (h : ∀ y ∈ xs.take k, q y) (h' : q x) : ∀ y ∈ xs.take (k + 1), q y := by
  intro y hy
  rw [M.take_snoc hx, List.mem_append] at hy
  rcases hy with hy | hy
  · exact h y hy
  · simp only [List.mem_singleton] at hy
    rw [hy]
    exact h'

set_option maxHeartbeats 2000000 in
theorem idxRow_c (f : Int) (b : Nat) (v : Value) (vs : List Value) (rows : List (List Int)) (w : World) (base : Nat) (hx : OwnV w base v vs rows) (hb : w.cell? ⟨b, 0, none⟩ = some (.int .i64 f)) (hbs : b < w.heap.size) :
    Calls Try.prog 31 #[v, .func (.func 32) #[] #[.pointer (some ⟨b, 0, none⟩)]] w fun e w' => e = .returned (.int .i64 (M.fidx (M.prow f) rows)) ∧ Below w.heap.size w w' := by
  have eg : ∀ args w, (callFunc 32 args).run Try.prog w = .ok (.enter 32 args) w := enters_of Try.func32 (by kernel_rfl) rfl
  obtain ⟨a, cap, rfl, hm, hv⟩ := hx.view
  clear hx
  go_enter Try.func31, Try.ntmps31
  go_wp2
  go_loopw [5, 8] (fun _ vi wr => ∃ k : Nat, k ≤ rows.length ∧ vi = .int .i64 k ∧ (∀ x ∈ rows.take k, M.prow f x = false) ∧ Below w.heap.size w wr) (fun _ vi _ => rows.length - (intOf vi).toNat)
  case atStart => exact ⟨0, by omega, rfl, by simp, Below.refl _ _⟩
  case round =>
    obtain ⟨k, hk, rfl, hall, hbr⟩ := hrel
    have Hall := Lib.hid hall
    clear hall
    by_cases hlt : k < rows.length
    · obtain ⟨g, u, r, rfl, hg, hr, hu, hcell, hown⟩ := hv k hlt
      have e1 := (hbr.cell (p := ⟨g, k, none⟩) hg).trans hcell
      have eb := (hbr.cell (p := ⟨b, 0, none⟩) hbs).trans hb
      have hcall := sf1_c u r f b _ wr (OwnI.seen (OwnI.below hown hbr)) eb
      clear hv hcell hown hu eb
      cases hq : M.prow f r
      · rw [hq] at hcall
        have hcall := Lib.hid hcall
        have hnx := Lib.hid (take_memL (q := fun y => M.prow f y = false) hr.out Hall.out hq)
        go_wp2_with (go_at_fn 32; refine (hcall.out).mono ?_; rintro e w2 ⟨rfl, hb2⟩)
        go_roundw
        case rel => exact ⟨k + 1, by omega, by go_num, hnx.out, below_step hbr hb2⟩
        case measure => simp [intOf]; omega
      · rw [hq] at hcall
        have hcall := Lib.hid hcall
        have hf : Hid (M.fidx (M.prow f) rows = k) := Lib.hid (M.fidx_hit hr.out hq Hall.out)
        go_wp2_with (go_at_fn 32; refine (hcall.out).mono ?_; rintro e w2 ⟨rfl, hb2⟩)
        go_ret
        exact ⟨by rw [hf.out]; rfl, below_step hbr hb2⟩
    · obtain rfl : k = rows.length := by omega
      have hf : Hid (M.fidx (M.prow f) rows = -1) := Lib.hid (M.fidx_miss (by have := Hall.out; rwa [List.take_length] at this))
      clear hv
      go_wp2
      go_ret
      exact ⟨by rw [hf.out]; rfl, hbr⟩
end Go.Proofs.Ytpemckpnlemkfaa
