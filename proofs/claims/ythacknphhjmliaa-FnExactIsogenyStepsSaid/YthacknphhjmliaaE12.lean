/-
  Contracts: steps within a class, the class in order.
-/
import Derived.Test.YthacknphhjmliaaE11
namespace Go.Proofs.Ythacknphhjmliaa
set_option linter.unusedSimpArgs false
set_option linter.unusedVariables false
open Go.RowKit Go.Shelf

namespace M
theorem bfs_inv {ok : Int × Int → Bool} {nb : Int × Int → List (Int × Int)} (P : List (Int × Int) × List Int → Prop) (h1 : ∀ p s n, P p → P (addOne s p n)) : ∀ (f i : Nat) (p : List (Int × Int) × List Int), P p → p.1.length ≤ 8 → ∀ r, bfs ok nb f i p = some r → P r ∧ r.1.length ≤ 8
  | 0, _, _, _, _, _, h => by cases h
  | f + 1, i, p, hp, h8, r, h => by
    rw [bfs] at h
    split at h
    · obtain rfl := Option.some.inj h
      exact ⟨hp, h8⟩
    · split at h
      · split at h
        · cases h
        · refine bfs_inv P h1 f (i + 1) _ ?_ (by omega) r h
          have : ∀ (ns : List (Int × Int)) (p : List (Int × Int) × List Int) (s : Int), P p → P (addAll s p ns) := by
            intro ns
            induction ns with
            | nil => intro p s h; exact h
            | cons n ns ih => intro p s h; exact ih _ s (h1 _ _ _ h)
          exact this _ _ _ hp
      · cases h
theorem clsL_props (a b : Int) : (clsL a b).2.length = (clsL a b).1.length ∧ (clsL a b).1.Nodup ∧ (clsL a b).1.length ≤ 8 := by
  unfold clsL
  cases h : cls a b with
  | none => simp
  | some r =>
    have := bfs_inv (fun p => p.2.length = p.1.length ∧ p.1.Nodup) (fun p s n hp => by
      unfold addOne
      split
      · rename_i hc
        refine ⟨by simp [hp.1], ?_⟩
        rw [List.nodup_append]
        refine ⟨hp.2, by simp, fun x hx y hy => ?_⟩
        rw [List.mem_singleton.1 hy]
        intro e
        exact cidx_neg.1 hc (e ▸ hx)
      · exact hp) 10 0 ([(smA a b, smB a b)], [0]) ⟨rfl, by simp⟩ (by simp) r h
    exact ⟨this.1.1, this.1.2, this.2⟩
theorem sorted_cputs {xs ys : List (Int × Int)} (hn : xs.Nodup) (hp : ys.Perm xs) (hs : ys.Pairwise (fun a b => clt b a = false)) : ys = cputs xs := by
  have hy : ys.Nodup := hp.nodup_iff.2 hn
  have h1 : CInc ys := by
    refine (List.Pairwise.and hs hy).imp ?_
    intro a b h
    cases hc : clt a b
    · exact absurd (clt_tot hc h.1) h.2
    · rfl
  have h2 := inc_cputs xs [] List.Pairwise.nil
  refine CInc.ext h1 h2.1 fun x => ?_
  rw [hp.mem_iff]
  refine Iff.trans ?_ (h2.2 x).symm
  simp
def clsOk (a b : Int) : Bool := (cls a b).isSome
theorem clsL_none {a b : Int} (h : clsOk a b = false) : clsL a b = ([], []) := by
  unfold clsOk at h
  unfold clsL
  cases hc : cls a b with
  | none => rfl
  | some r => rw [hc] at h; cases h
def clsAsked (a b : Int) : List (Int × Int) := if good a b then cputs (clsL a b).1 else []
theorem clsAsked_le (a b : Int) : (clsAsked a b).length ≤ 8 := by
  unfold clsAsked
  split
  · have h1 := cputs_le (clsL a b).1 []
    have h2 := (clsL_props a b).2.2
    rw [List.length_nil] at h1
    unfold cputs
    omega
  · simp
theorem cputs_step {xs : List (Int × Int)} {k : Nat} {x : Int × Int} (h : xs[k]? = some x) : cputs (xs.take (k + 1)) = cput (cputs (xs.take k)) x := by
  obtain ⟨hk, e⟩ := List.getElem?_eq_some_iff.1 h
  unfold cputs
  rw [List.take_succ_eq_append_getElem hk, e, List.foldl_append]
  rfl
end M

theorem implIsogenyClass_c (a b : Int) (w : World) :
    Calls Try.prog 18 #[.agg #[.int .i64 a, .int .i64 b]] w fun e w' => ∃ v, e = .returned (.tuple #[v, .bool (M.good a b && M.clsOk a b)]) ∧ Rw.Own EC w' w.heap.size v (M.clsAsked a b) ∧ Below w.heap.size w w' := by
  unfold M.clsAsked
  have HG := fun w => isCurve_c a b w
  cases hg : M.good a b <;> simp only [hg] at HG <;> have HG := Lib.hid HG
  · go_enter Try.func18, Try.ntmps18
    go_wp2_with (go_at_call 21; refine (HG.out _).mono ?_; rintro e w' ⟨rfl, hb0⟩; have hz_ := hb0.size; (try simp only [World.size_alloc, heap_drew, World.heap_drewN, size_setCell] at hz_); have hs0_ : w.heap.size < w'.heap.size := (by omega); have hk0_ := fun o => (bcell hb0).1 (w.heap.size) o (by (try simp only [World.size_alloc, heap_drew, World.heap_drewN, size_setCell]); omega); have hl0_ := fun o => (bcell hb0).2.1 (w.heap.size) o (by (try simp only [World.size_alloc, heap_drew, World.heap_drewN, size_setCell]); omega))
    go_ret2
    exact ⟨.slice none 0 0, rfl, Rw.Own.nil _ _ _, (by repeat (first | exact Below.refl _ _ | refine below_alloc ?_ _ | refine below_step ?_ (by assumption) | refine Below.drew ?_ | refine Below.setCell ?_ (by first | exact Nat.le_refl _ | exact Nat.le_add_right _ _ | (simp <;> omega)) _ | refine below_drewN ?_ _))⟩
  · have HT := fun w => isogenyClass_c a b w hg
    change ∀ w, Calls Try.prog 29 _ w (fun e w' => ∃ q : Value × Value, e = .returned (.tuple #[q.1, q.2, .bool (M.clsOk a b)]) ∧ _) at HT
    have hcp := Lib.hid (M.clsL_props a b)
    cases hn : M.clsOk a b <;> simp only [hn] at HT <;> have HT := Lib.hid HT
    all_goals
      go_enter Try.func18, Try.ntmps18
      go_wp2_with (go_at_call 21; refine (HG.out _).mono ?_; rintro e w' ⟨rfl, hb0⟩; have hz_ := hb0.size; (try simp only [World.size_alloc, heap_drew, World.heap_drewN, size_setCell] at hz_); have hs0_ : w.heap.size < w'.heap.size := (by omega); have hk0_ := fun o => (bcell hb0).1 (w.heap.size) o (by (try simp only [World.size_alloc, heap_drew, World.heap_drewN, size_setCell]); omega); have hl0_ := fun o => (bcell hb0).2.1 (w.heap.size) o (by (try simp only [World.size_alloc, heap_drew, World.heap_drewN, size_setCell]); omega))
      refine (HT.out _).mono ?_; rintro e w2 ⟨⟨v2, v3⟩, rfl, hown2, hown3, hb2⟩
      have hz0 := hb0.size
      simp at hz0
    · have hcl := Lib.hid (M.clsL_none hn)
      go_wp2
      go_ret2
      exact ⟨.slice none 0 0, rfl, by rw [hcl.out]; exact Rw.Own.nil _ _ _, (by repeat (first | exact Below.refl _ _ | refine below_alloc ?_ _ | refine below_step ?_ (by assumption) | refine Below.drew ?_ | refine Below.setCell ?_ (by first | exact Nat.le_refl _ | exact Nat.le_add_right _ _ | (simp <;> omega)) _ | refine below_drewN ?_ _))⟩
    · go_wp2_with fail
      refine (sortC_c _ _ _ _ hown2 hb2.size (by have := hcp.out.2.2; omega)).mono ?_; rintro e w4 ⟨rfl, ys, hys, hown4, hb4⟩
      go_wp2
      go_ret2
      exact ⟨v2, rfl, by (have h := M.sorted_cputs hcp.out.2.1 hys.1 hys.2); rw [h] at hown4; first | exact hown4.down (by omega) | simpa using hown4.down (by omega), (show Below w.heap.size w _ from (by repeat (first | exact Below.refl _ _ | refine below_alloc ?_ _ | refine below_step ?_ (by assumption) | refine Below.drew ?_ | refine Below.setCell ?_ (by first | exact Nat.le_refl _ | exact Nat.le_add_right _ _ | (simp <;> omega)) _ | refine below_drewN ?_ _))).trans (hb4.mono (by omega))⟩

theorem specIsogenyClass_c (a b : Int) (w : World) :
    Calls Try.prog 17 #[.agg #[.int .i64 a, .int .i64 b]] w fun e w' => ∃ v, e = .returned (.tuple #[v, .bool (M.good a b && M.clsOk a b)]) ∧ Rw.Own EC w' w.heap.size v (M.clsAsked a b) ∧ Below w.heap.size w w' := by
  unfold M.clsAsked
  have HG := fun w => ecGood_c a b w
  cases hg : M.good a b <;> simp only [hg] at HG <;> have HG := Lib.hid HG
  · go_enter Try.func17, Try.ntmps17
    go_wp2_with (go_at_call 19; refine (HG.out _).mono ?_; rintro e w' ⟨rfl, hb0⟩; have hz_ := hb0.size; (try simp only [World.size_alloc, heap_drew, World.heap_drewN, size_setCell] at hz_); have hs0_ : w.heap.size < w'.heap.size := (by omega); have hk0_ := fun o => (bcell hb0).1 (w.heap.size) o (by (try simp only [World.size_alloc, heap_drew, World.heap_drewN, size_setCell]); omega); have hl0_ := fun o => (bcell hb0).2.1 (w.heap.size) o (by (try simp only [World.size_alloc, heap_drew, World.heap_drewN, size_setCell]); omega))
    go_ret2
    exact ⟨.slice none 0 0, rfl, Rw.Own.nil _ _ _, (by repeat (first | exact Below.refl _ _ | refine below_alloc ?_ _ | refine below_step ?_ (by assumption) | refine Below.drew ?_ | refine Below.setCell ?_ (by first | exact Nat.le_refl _ | exact Nat.le_add_right _ _ | (simp <;> omega)) _ | refine below_drewN ?_ _))⟩
  · have HT := fun w => icClass_c a b w hg
    change ∀ w, Calls Try.prog 28 _ w (fun e w' => ∃ q : Value × Value, e = .returned (.tuple #[q.1, q.2, .bool (M.clsOk a b)]) ∧ _) at HT
    have hcp := Lib.hid (M.clsL_props a b)
    cases hn : M.clsOk a b <;> simp only [hn] at HT <;> have HT := Lib.hid HT
    all_goals
      go_enter Try.func17, Try.ntmps17
      go_wp2_with (go_at_call 19; refine (HG.out _).mono ?_; rintro e w' ⟨rfl, hb0⟩; have hz_ := hb0.size; (try simp only [World.size_alloc, heap_drew, World.heap_drewN, size_setCell] at hz_); have hs0_ : w.heap.size < w'.heap.size := (by omega); have hk0_ := fun o => (bcell hb0).1 (w.heap.size) o (by (try simp only [World.size_alloc, heap_drew, World.heap_drewN, size_setCell]); omega); have hl0_ := fun o => (bcell hb0).2.1 (w.heap.size) o (by (try simp only [World.size_alloc, heap_drew, World.heap_drewN, size_setCell]); omega))
      refine (HT.out _).mono ?_; rintro e w2 ⟨⟨v2, v3⟩, rfl, hown2, hown3, hb2⟩
      have hz0 := hb0.size
      simp at hz0
    · have hcl := Lib.hid (M.clsL_none hn)
      go_wp2
      go_ret2
      exact ⟨.slice none 0 0, rfl, by rw [hcl.out]; exact Rw.Own.nil _ _ _, (by repeat (first | exact Below.refl _ _ | refine below_alloc ?_ _ | refine below_step ?_ (by assumption) | refine Below.drew ?_ | refine Below.setCell ?_ (by first | exact Nat.le_refl _ | exact Nat.le_add_right _ _ | (simp <;> omega)) _ | refine below_drewN ?_ _))⟩
    · have B2 : Below w.heap.size w w2 := (by repeat (first | exact Below.refl _ _ | refine below_alloc ?_ _ | refine below_step ?_ (by assumption) | refine Below.drew ?_ | refine Below.setCell ?_ (by first | exact Nat.le_refl _ | exact Nat.le_add_right _ _ | (simp <;> omega)) _ | refine below_drewN ?_ _))
      have z2 := B2.size
      obtain ⟨A, cap, rfl, hm, hm2, hv⟩ := hown2.seen
      have hl8 := hcp.out.2.2
      go_wp2
      go_loopw [7, 23] (fun v vi wr => ∃ k : Nat, k ≤ (M.clsL a b).1.length ∧ vi = .int .i64 k ∧ Rw.Own EC wr w2.heap.size v (M.cputs ((M.clsL a b).1.take k)) ∧ Below w2.heap.size w2 wr) (fun _ vi _ => (M.clsL a b).1.length - (intOf vi).toNat)
      case atStart => exact ⟨0, by omega, rfl, Rw.Own.nil _ _ _, Below.refl _ _⟩
      case round =>
        obtain ⟨k, hk, rfl, hown, hbr⟩ := hrel
        have hzr := hbr.size
        have hlk : Hid ((M.cputs ((M.clsL a b).1.take k)).length ≤ 1000000) := Lib.hid (by
          have h1 := cputs_le ((M.clsL a b).1.take k) []
          rw [List.length_take, List.length_nil] at h1
          unfold M.cputs
          omega)
        by_cases hlt : k < (M.clsL a b).1.length
        · obtain ⟨g, x, rfl, hgl, hx, hcell⟩ := hv k hlt
          have e0 : wr.cell? ⟨g, k * 2, none⟩ = some (.int .i64 x.1) := (hbr.cell (p := ⟨g, k * 2, none⟩) hgl).trans (hcell 0 _ rfl)
          have e1 : wr.cell? ⟨g, k * 2 + 1, none⟩ = some (.int .i64 x.2) := (hbr.cell (p := ⟨g, k * 2 + 1, none⟩) hgl).trans (hcell 1 _ rfl)
          clear hv hcell
          have hst := Lib.hid (M.cputs_step hx.out)
          go_wp2_with (go_at_call 31; (with_reducible refine (icPut_c _ _ x _ w2.heap.size (hown.alloc _) (by simp; omega) hlk.out).mono ?_); rintro e w3 ⟨v3, rfl, hown3, hb3⟩)
          go_roundw
          case rel => exact ⟨k + 1, by omega, by go_num, by rw [hst.out]; exact hown3, (below_alloc hbr _).trans (hb3.mono (by simp; omega))⟩
          case measure => simp [intOf]; omega
        · obtain rfl : k = (M.clsL a b).1.length := by omega
          rw [List.take_length] at hown
          go_wp2
          go_ret2
          exact ⟨_, rfl, by simpa using hown.down (by omega), B2.trans (hbr.mono (by omega))⟩
end Go.Proofs.Ythacknphhjmliaa
