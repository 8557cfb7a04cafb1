/-
  Slices of slices of numbers, marked and held by a law.
-/
import Derived.Test.YtpemckpnlemkfaaS4
namespace Go.Proofs.Ytpemckpnlemkfaa
set_option linter.unusedSimpArgs false
set_option linter.unusedVariables false
open Go.RowKit

/-- a slice of slices of numbers -/
def OwnII (w : World) (base : Nat) (v : Value) (rows : List (List Int)) : Prop := ∃ vs, OwnV w base v vs rows
theorem OwnII.nil (w : World) (base : Nat) : OwnII w base (.slice none 0 0) [] := ⟨[], OwnV.nil w base⟩
theorem OwnII.base {w : World} {base base' : Nat} {v : Value} {rows : List (List Int)} (h : OwnII w base v rows) (hb : base' ≤ base) : OwnII w base' v rows := h.elim fun vs k => ⟨vs, k.base hb⟩
theorem OwnII.below {w w' : World} {base : Nat} {v : Value} {rows : List (List Int)} (h : OwnII w base v rows) (hb : Below w.heap.size w w') : OwnII w' base v rows := h.elim fun vs k => ⟨vs, k.below hb⟩
theorem OwnII.seen {w : World} {base : Nat} {v : Value} {rows : List (List Int)} (h : OwnII w base v rows) : SeenII w w.heap.size v rows := h.elim fun _ k => k.seen

/-- the numbers from k on, through all rows -/
def M.tot (rows : List (List Int)) : Nat := (rows.map List.length).sum
def M.marksL (k : Int) : List (List Int) → List (List Int)
  | [] => []
  | r :: rs => M.marks k r.length :: M.marksL (k + r.length) rs
theorem M.tot_append (l m : List (List Int)) : M.tot (l ++ m) = M.tot l + M.tot m := by simp [M.tot]
theorem M.marksL_len (k : Int) : ∀ rows : List (List Int), (M.marksL k rows).length = rows.length
  | [] => rfl
  | r :: rs => by simp [M.marksL, M.marksL_len]
theorem M.marksL_snoc (k : Int) (r : List Int) : ∀ l : List (List Int), M.marksL k (l ++ [r]) = M.marksL k l ++ [M.marks (k + M.tot l) r.length]
  | [] => by simp [M.marksL, M.tot]
  | q :: l => by
    have e : k + (q.length : Int) + (M.tot l : Int) = k + (M.tot (q :: l) : Int) := by
      have : M.tot (q :: l) = q.length + M.tot l := by simp [M.tot]
      rw [this]
      push_cast
      omega
    simp only [List.cons_append, M.marksL, M.marksL_snoc _ r l]
    rw [e]
theorem M.take_snoc {rows : List (List Int)} {j : Nat} {r : List Int} (h : rows[j]? = some r) : rows.take (j + 1) = rows.take j ++ [r] := by
  obtain ⟨hk, e⟩ := List.getElem?_eq_some_iff.1 h
  rw [List.take_succ_eq_append_getElem hk, e]
theorem M.marksL_step {k : Int} {rows : List (List Int)} {j : Nat} {r : List Int} (h : rows[j]? = some r) :
    (M.marksL k (rows.take j) ++ rows.drop j).set j (M.marks (k + M.tot (rows.take j)) r.length) = M.marksL k (rows.take (j + 1)) ++ rows.drop (j + 1) := by
  obtain ⟨hk, e⟩ := List.getElem?_eq_some_iff.1 h
  have hl : (M.marksL k (rows.take j)).length = j := by rw [M.marksL_len, List.length_take]; omega
  rw [List.set_append_right _ _ (by omega), hl, Nat.sub_self, List.drop_eq_getElem_cons hk, List.set_cons_zero, M.take_snoc h, M.marksL_snoc]
  simp
theorem M.tot_le {rows : List (List Int)} {j : Nat} {r : List Int} (h : rows[j]? = some r) : M.tot (rows.take j) + r.length ≤ M.tot rows := by
  have e : rows = rows.take (j + 1) ++ rows.drop (j + 1) := (List.take_append_drop _ _).symm
  have h2 := congrArg M.tot e
  rw [M.tot_append, M.take_snoc h, M.tot_append] at h2
  have : M.tot [r] = r.length := by simp [M.tot]
  omega

theorem OwnV.mark {w w' : World} {base : Nat} {v : Value} {vs : List Value} {rows : List (List Int)} {j : Nat} {u : Value} {r : List Int} (h : OwnV w base v vs rows) (hj : vs[j]? = some u) (hu : OwnI w' base u r) (hg : w.grownBy w' u.ownBlock) : OwnV w' base v vs (rows.set j r) := by
  obtain ⟨h1, h2, h3, h4⟩ := h
  have hjl := (List.getElem?_eq_some_iff.1 hj).1
  have hur := h3 j u _ hj (List.getElem?_eq_getElem (by omega))
  refine ⟨by rw [List.length_set]; exact World.ownsRow.kept h1 hg (by
      cases hb : u.ownBlock with
      | none => cases hv : v.ownBlock <;> simp
      | some g => exact Or.inr (own_ne (t1 := 54) (t2 := 3) h1 hur ints_ne_int g hb)), by rw [List.length_set]; exact h2, fun i z q hz hq => ?_, h4⟩
  by_cases hij : j = i
  · subst hij
    rw [hj] at hz
    rw [List.getElem?_set_self (by omega)] at hq
    obtain rfl := Option.some.inj hz
    obtain rfl := Option.some.inj hq
    exact hu
  · rw [List.getElem?_set_ne hij] at hq
    refine (h3 i z q hz hq).kept hg fun g hb => ?_
    have hil := (List.getElem?_eq_some_iff.1 hz).1
    obtain ⟨_, ez⟩ := List.getElem?_eq_some_iff.1 hz
    obtain ⟨_, ej⟩ := List.getElem?_eq_some_iff.1 hj
    have hp := List.pairwise_iff_getElem.1 h4
    rcases Nat.lt_or_gt_of_ne hij with hlt | hlt
    · have := hp j i hjl hil hlt g (by rw [ej]; exact hb)
      rwa [ez] at this
    · intro hzb
      have := hp i j hil hjl hlt g (by rw [ez]; exact hzb)
      rw [ej] at this
      exact this hb

theorem markIntSS_c (v : Value) (vs : List Value) (rows : List (List Int)) (k : Int) (w : World) (base : Nat) (hx : OwnV w base v vs rows) (hB : base ≤ w.heap.size) (h1 : 0 ≤ k) (h2 : k + M.tot rows ≤ 4000000000000000000) :
    Calls Try.prog 14 #[v, .int .i64 k] w fun e w' => e = .returned (.int .i64 (k + M.tot rows)) ∧ OwnV w' base v vs (M.marksL k rows) ∧ Below base w w' := by
  obtain ⟨a, cap, rfl, hm, -⟩ := hx.view
  go_enter Try.func14, Try.ntmps14
  go_wp2
  go_loopw [1, 5] (fun vk vi wr => ∃ j : Nat, j ≤ rows.length ∧ vi = .int .i64 j ∧ vk = .int .i64 (k + M.tot (rows.take j)) ∧ OwnV wr base (.slice a rows.length cap) vs (M.marksL k (rows.take j) ++ rows.drop j) ∧ Below base w wr) (fun _ vi _ => rows.length - (intOf vi).toNat)
  case atStart => exact ⟨0, by omega, rfl, by simp [M.tot], by simpa [M.marksL] using hx, Below.refl _ _⟩
  case round =>
    obtain ⟨j, hj, rfl, rfl, hown, hbr⟩ := hrel
    have hlen : Hid ((M.marksL k (rows.take j) ++ rows.drop j).length = rows.length) := Lib.hid (by rw [List.length_append, M.marksL_len, List.length_take, List.length_drop]; omega)
    by_cases hlt : j < rows.length
    · obtain ⟨a', cap', he, hm', hv⟩ := hown.view
      rw [hlen.out] at he hv
      injection he with he1 he2 he3
      subst he1 he3
      clear he2
      obtain ⟨g, u, r, rfl, hg, hr, hu, hcell, hur⟩ := hv j hlt
      have hr' : Hid (rows[j]? = some r) := Lib.hid (by
        have := hr.out
        rw [List.getElem?_append_right (by rw [M.marksL_len, List.length_take]; omega), M.marksL_len, List.length_take, Nat.min_eq_left (by omega), List.getElem?_drop] at this
        simpa using this)
      have htl := M.tot_le hr'.out
      have hM := Lib.hid fun w => markIntS_c u r (k + M.tot (rows.take j)) wr base hur (by omega) (by omega)
      clear hv
      go_wp2_with (go_at_call 34; (with_reducible refine (markIntS_c u r _ _ base hur (by omega) (by omega)).mono ?_); rintro e w2 ⟨rfl, hu2, hg2⟩)
      go_roundw
      case rel =>
        refine ⟨j + 1, by omega, by go_num, ?_, ?_, hbr.grown hg2 (Nat.le_trans hB hbr.size) fun k hk => (World.ownsRow.lt hur k hk).1⟩
        · rw [M.take_snoc hr'.out, M.tot_append]
          have : M.tot [r] = r.length := by simp [M.tot]
          rw [this]
          congr 1
          push_cast
          omega
        · rw [← M.marksL_step hr'.out]
          exact hown.mark hu.out hu2 hg2
      case measure => simp [intOf]; omega
    · obtain rfl : j = rows.length := by omega
      have e1 : Hid (rows.take rows.length = rows) := Lib.hid (List.take_length)
      have e2 : Hid (rows.drop rows.length = []) := Lib.hid (by simp)
      go_wp2
      go_ret
      exact ⟨by rw [e1.out]; rfl, by have := hown; rw [e1.out, e2.out, List.append_nil] at this; exact this, hbr⟩

theorem heldIntSS_c (v : Value) (vs : List Value) (rows : List (List Int)) (k : Int) (w : World) (base : Nat) (hx : OwnV w base v vs (M.marksL k rows)) (h1 : 0 ≤ k) (h2 : k + M.tot rows ≤ 4000000000000000000) :
    Calls Try.prog 15 #[v, .int .i64 k] w fun e w' => e = .returned (.int .i64 (k + M.tot rows)) ∧ Below w.heap.size w w' := by
  obtain ⟨a, cap, rfl, hm, hv⟩ := hx.view
  rw [M.marksL_len] at hm hv ⊢
  go_enter Try.func15, Try.ntmps15
  go_wp2
  go_loopw [1, 5] (fun vk vi wr => ∃ j : Nat, j ≤ rows.length ∧ vi = .int .i64 j ∧ vk = .int .i64 (k + M.tot (rows.take j)) ∧ Below w.heap.size w wr) (fun _ vi _ => rows.length - (intOf vi).toNat)
  case atStart => exact ⟨0, by omega, rfl, by simp [M.tot], Below.refl _ _⟩
  case round =>
    obtain ⟨j, hj, rfl, rfl, hbr⟩ := hrel
    by_cases hlt : j < rows.length
    · obtain ⟨g, u, r, rfl, hg, hr, hu, hcell, hur⟩ := hv j hlt
      have hr' : rows[j]? = some rows[j] := List.getElem?_eq_getElem hlt
      have hmr : Hid (r = M.marks (k + M.tot (rows.take j)) rows[j].length) := Lib.hid (by
        have h1 := hr.out
        have e : M.marksL k rows = (M.marksL k (rows.take j) ++ [M.marks (k + M.tot (rows.take j)) rows[j].length]) ++ (M.marksL k rows).drop (j + 1) := by
          have h3 := M.marksL_snoc k rows[j] (rows.take j)
          rw [← M.take_snoc hr'] at h3
          rw [← h3]
          have h4 : ∀ (l : List (List Int)) (k : Int) (n : Nat), M.marksL k (l.take n) = (M.marksL k l).take n := by
            intro l
            induction l with
            | nil => intro k n; simp [M.marksL]
            | cons q l ih => intro k n; cases n with
              | zero => simp [M.marksL]
              | succ n => simp [M.marksL, ih]
          rw [h4]
          exact (List.take_append_drop _ _).symm
        rw [e, List.getElem?_append_left (by rw [List.length_append, M.marksL_len, List.length_take]; simp; omega), List.getElem?_append_right (by rw [M.marksL_len, List.length_take]; omega), M.marksL_len, List.length_take, Nat.min_eq_left (by omega), Nat.sub_self] at h1
        simpa using h1.symm)
      have htl := M.tot_le hr'
      have hur2 : OwnI wr base u (M.marks (k + M.tot (rows.take j)) rows[j].length) := by rw [← hmr.out]; exact hur.below hbr
      have e1 := keepCell hbr hcell
      have hr' := Lib.hid hr'
      clear hv hcell
      generalize rows[j] = q at *
      go_wp2_with (go_at_call 35; (with_reducible refine (heldIntS_c u _ _ _ base hur2 (by omega) (by omega)).mono ?_); rintro e w2 ⟨rfl, hb2⟩)
      go_roundw
      case rel =>
        refine ⟨j + 1, by omega, by go_num, ?_, below_step hbr hb2⟩
        rw [M.take_snoc hr'.out, M.tot_append]
        have : M.tot [q] = q.length := by simp [M.tot]
        rw [this]
        congr 1
        push_cast
        omega
      case measure => simp [intOf]; omega
    · obtain rfl : j = rows.length := by omega
      have e1 : Hid (rows.take rows.length = rows) := Lib.hid (List.take_length)
      clear hv
      go_wp2
      go_ret
      exact ⟨by rw [e1.out]; rfl, hbr⟩
end Go.Proofs.Ytpemckpnlemkfaa
