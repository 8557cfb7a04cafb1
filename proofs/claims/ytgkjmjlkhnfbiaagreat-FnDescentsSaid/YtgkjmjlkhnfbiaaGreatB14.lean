/-
  Joined texts: contracts and plain laws.
-/
import Derived.Test.YtgkjmjlkhnfbiaaGreatB3
import Derived.Lib.SliceRun
import Derived.Shelf.Abstract
import Derived.Test.YtgkjmjlkhnfbiaaGreatB13
import Derived.Test.YtgkjmjlkhnfbiaaGreatShM
import Derived.Test.YtgkjmjlkhnfbiaaGreatShD
import Derived.Lib.SlicesCompact
import Derived.Test.YtgkjmjlkhnfbiaaGreatB10
import Derived.BigQuiet
import Derived.Outline
namespace Go.Proofs.YtgkjmjlkhnfbiaaGreat
set_option linter.unusedSimpArgs false
set_option linter.unusedVariables false
open Go.RowKit Go.Shelf

/-- the place of the first number that passes, or -1 -/
def M.First (p : Int → Bool) (xs : List Int) (r : Int) : Prop :=
  (r = -1 ∧ ∀ x ∈ xs, p x = false) ∨ ∃ k : Nat, r = k ∧ k < xs.length ∧ (∀ x, xs[k]? = some x → p x = true) ∧ ∀ x ∈ xs.take k, p x = false

/-- a function value's contract: a test of a number, in every world in which what lies below base is as in w -/
def TestC (g : Nat) (lb : Array Value) (p : Int → Bool) (xs : List Int) (base : Nat) (w : World) : Prop :=
  ∀ (x : Int) (_ : x ∈ xs) (W : World), Below base w W → Calls Tryz.prog g (#[.int .i64 x] ++ lb) W fun e W' => e = .returned (.bool (p x)) ∧ Below W.heap.size W W'

theorem take_mem {xs : List Int} {k : Nat} {x : Int} {q : Int → Prop} (hx : xs[k]? = some x) (h : ∀ y ∈ xs.take k, q y) (h' : q x) : ∀ y ∈ xs.take (k + 1), q y := by
  intro y hy
  rw [take_next hx, List.mem_append] at hy
  rcases hy with hy | hy
  · exact h y hy
  · simp only [List.mem_singleton] at hy
    rw [hy]
    exact h'

theorem indexFunc_c (g : Nat) (lb : Array Value) (eg : ∀ args w, (callFunc g args).run Tryz.prog w = .ok (.enter g args) w) (p : Int → Bool) (v : Value) (xs : List Int) (w : World) (base hi : Nat) (hx : SeenI w hi v xs) (hhi : hi ≤ w.heap.size) (hb0 : base ≤ w.heap.size) (hp : TestC g lb p xs base w) :
    Calls Tryz.prog 111 #[v, .func (.func g) #[] lb] w fun e w' => ∃ r, e = .returned (.int .i64 r) ∧ M.First p xs r ∧ Below w.heap.size w w' := by
  obtain ⟨a, cap, rfl, hm, hv⟩ := hx
  have hp := Lib.hid hp
  go_enter Tryz.func111, Tryz.ntmps111
  go_wp2
  go_loopw [5, 8] (fun _ vi wr => ∃ k : Nat, k ≤ xs.length ∧ vi = .int .i64 k ∧ (∀ x ∈ xs.take k, p x = false) ∧ Below w.heap.size w wr) (fun _ vi _ => xs.length - (intOf vi).toNat)
  case atStart => exact ⟨0, by omega, rfl, by simp, Below.refl _ _⟩
  case round =>
    obtain ⟨k, hk, rfl, hall, hbr⟩ := hrel
    have Hall := Lib.hid hall
    clear hall
    by_cases hlt : k < xs.length
    · obtain ⟨b, x, rfl, hg, hx, hcell⟩ := hv k hlt
      have e1 := (hbr.cell (p := ⟨b, k, none⟩) (by show b < _; omega)).trans hcell
      have hcall := hp.out x (List.mem_of_getElem? hx.out) wr (hbr.mono hb0)
      clear hv hcell
      cases hq : p x
      · rw [hq] at hcall
        have hcall := Lib.hid hcall
        have hnx := Lib.hid (take_mem (q := fun y => p y = false) hx.out Hall.out hq)
        go_wp2_with (go_at_fn g; refine (hcall.out).mono ?_; rintro e w2 ⟨rfl, hb2⟩)
        go_roundw
        case rel => exact ⟨k + 1, by omega, by go_num, hnx.out, below_step hbr hb2⟩
        case measure => simp [intOf]; omega
      · rw [hq] at hcall
        have hcall := Lib.hid hcall
        have hf : Hid (M.First p xs k) := Lib.hid (Or.inr ⟨k, rfl, hlt, fun y hy => by rw [hx.out] at hy; rw [← Option.some.inj hy]; exact hq, Hall.out⟩)
        go_wp2_with (go_at_fn g; refine (hcall.out).mono ?_; rintro e w2 ⟨rfl, hb2⟩)
        go_ret
        exact ⟨_, rfl, hf.out, below_step hbr hb2⟩
    · obtain rfl : k = xs.length := by omega
      clear hv
      go_wp2
      go_ret
      exact ⟨_, rfl, Or.inl ⟨rfl, by have := Hall.out; rwa [List.take_length] at this⟩, hbr⟩

theorem OwnI.setCells (base g cap n : Nat) : ∀ (l : List Int) (o : Nat) (w : World) (xs : List Int), n = xs.length → OwnI w base (.slice (some ⟨g, 0, none⟩) n cap) xs →
    ∃ ys, OwnI (w.setCells g o (l.map (Value.int .i64))) base (.slice (some ⟨g, 0, none⟩) n cap) ys ∧ ys.take o = xs.take o ∧ ys.length = xs.length ∧ w.grownBy (w.setCells g o (l.map (Value.int .i64))) (some g)
  | [], o, w, xs, _, h => ⟨xs, h, rfl, rfl, grown_rf _ _⟩
  | x :: l, o, w, xs, hn, h => by
    have h1 := OwnI.set (j := o) hn h x rfl
    obtain ⟨ys, k1, k2, k3, k4⟩ := OwnI.setCells base g cap n l (o + 1) _ (xs.set o x) (by rw [List.length_set]; exact hn) h1.1
    refine ⟨ys, k1, ?_, by rw [k3, List.length_set], grown_tr h1.2 k4⟩
    have := congrArg (List.take o) k2
    rw [List.take_take, List.take_take, Nat.min_eq_left (by omega)] at this
    rw [this, List.take_set, List.set_eq_of_length_le (by rw [List.length_take]; omega)]
theorem OwnI.cut {w : World} {base g cap n : Nat} {xs : List Int} (hn : n = xs.length) (h : OwnI w base (.slice (some ⟨g, 0, none⟩) n cap) xs) {i : Nat} (hi : i ≤ n) {ys : List Int} (hy : ys = xs.take i) : OwnI w base (.slice (some ⟨g, 0, none⟩) i cap) ys := by
  subst hy hn
  obtain ⟨h1, h2⟩ := h
  have hl : (xs.take i).length = i := by rw [List.length_take]; omega
  rcases h2 with ⟨e, -⟩ | ⟨g', cap', cur, e, hg, hh, hc, hm, hs, ht⟩
  · cases e
  · injection e with e1 e2 e3
    simp only [Option.some.injEq, Addr.mk.injEq, and_true] at e1
    subst e1 e3
    refine ⟨by simp, Or.inr ⟨g, cap, cur, by rw [hl], hg, hh, by omega, hm, hs, ?_⟩⟩
    have := congrArg (List.take i) ht
    rw [List.take_take, Nat.min_eq_left (by omega)] at this
    rw [hl, Nat.mul_one, this, List.map_take]

set_option maxHeartbeats 400000 in
theorem deleteFunc_c (g : Nat) (lb : Array Value) (eg : ∀ args w, (callFunc g args).run Tryz.prog w = .ok (.enter g args) w) (p : Int → Bool) (v : Value) (xs : List Int) (w : World) (base : Nat) (hx : OwnI w base v xs) (hb0 : base ≤ w.heap.size) (hp : TestC g lb p xs base w) :
    Calls Tryz.prog 71 #[v, .func (.func g) #[] lb] w fun e w' => ∃ v', e = .returned v' ∧ OwnI w' base v' (xs.filter fun x => !p x) ∧ Below base w w' := by
  have hI := fun W (h : Below w.heap.size w W) => indexFunc_c g lb eg p v xs W base W.heap.size (hx.below h).seen (Nat.le_refl _) (Nat.le_trans hb0 h.size) (fun x hx W2 h2 => hp x hx W2 ((h.mono hb0).trans h2))
  have hI := Lib.hid (hI w (Below.refl _ _))
  have hp := Lib.hid hp
  obtain ⟨a, cap, rfl⟩ := hx.nil_form
  have hm := hx.cap
  go_enter Tryz.func71, Tryz.ntmps71
  go_wp2_with fail
  refine (hI.out).mono ?_; rintro e w1 ⟨r, rfl, hr, hb1⟩
  rcases hr with ⟨rfl, hall⟩ | ⟨i0, rfl, hi0, hpi, hall⟩
  · have hfl : Hid (xs.filter (fun x => !p x) = xs) := Lib.hid (List.filter_eq_self.2 fun x hx => by rw [hall x hx]; rfl)
    clear hall
    go_wp2
    go_ret
    exact ⟨_, rfl, by rw [hfl.out]; exact hx.below hb1, hb1.mono hb0⟩
  · obtain ⟨b, cap', e1, hbg, -⟩ := hx.form (by omega)
    injection e1 with e1 e2 e3
    subst e1 e3
    clear e2
    have hx1 := hx.below hb1
    have hnn : ((i0 : Int) == -1) = false := beq_eq_false_iff_ne.2 (by omega)
    have hpi := Lib.hid hpi
    have hst : Hid (∃ m0 mid, xs = xs.take i0 ++ (m0 :: mid) ++ xs.drop (i0 + 1) ∧ (xs.take i0 ++ (m0 :: mid)).length = i0 + 1 ∧ (xs.take (i0 + 1)).filter (fun x => !p x) = xs.take i0) := Lib.hid (by
      have hx := List.getElem?_eq_getElem hi0
      refine ⟨xs[i0], [], ?_, ?_, ?_⟩
      · have := (List.take_append_drop (i0 + 1) xs).symm
        rw [take_next hx] at this
        exact this
      · rw [List.length_append, List.length_take]; simp; omega
      · rw [take_next hx, List.filter_append, List.filter_eq_self.2 fun x hx => by rw [hall x hx]; rfl]
        simp [hpi.out _ hx])
    clear hall hx
    go_wp2
    go_loopw [5, 6, 7] (fun vi vj _ wr => ∃ (i j : Nat) (kept : List Int) (m0 : Int) (mid : List Int), vi = .int .i64 i ∧ vj = .int .i64 j ∧ i < j ∧ j ≤ xs.length ∧ kept.length = i ∧ kept.length + mid.length + 1 = j ∧ Hid ((xs.take j).filter (fun x => !p x) = kept) ∧ OwnI wr base (.slice (some ⟨b, 0, none⟩) xs.length cap) (kept ++ (m0 :: mid) ++ xs.drop j) ∧ Below base w wr) (fun _ vj _ _ => xs.length - (intOf vj).toNat)
    case atStart =>
      obtain ⟨m0, mid, h1, h2, h3⟩ := hst.out
      refine ⟨i0, i0 + 1, xs.take i0, m0, mid, rfl, by go_num, by omega, by omega, by rw [List.length_take]; omega, by simp at h2 ⊢; omega, Lib.hid h3, by rw [← h1]; exact hx1, hb1.mono hb0⟩
    case round =>
      obtain ⟨i, j, kept, m0, mid, rfl, rfl, hij, hj, hki, hkj, hfl, hown, hbr⟩ := hrel
      have hki' : Hid (kept.length = i) := Lib.hid hki
      have hlen : Hid ((kept ++ (m0 :: mid) ++ xs.drop j).length = xs.length) := Lib.hid (by simp only [List.length_append, List.length_cons, List.length_drop]; omega)
      have hcells : Hid (∀ q : Nat, q < xs.length → wr.cell? ⟨b, q, none⟩ = ((kept ++ (m0 :: mid) ++ xs.drop j)[q]?).map (Value.int .i64) ∧ wr.frozen? ⟨b, q, none⟩ = false) := Lib.hid fun q hq => by
        have h := hown
        unfold OwnI at h
        rw [hlen.out] at h
        refine ⟨?_, World.ownsRow.frozenAt h q⟩
        rw [World.ownsRow.cellAt h q (by omega), List.getElem?_map]
      have hci : wr.cell? ⟨b, i, none⟩ = some (.int .i64 m0) := by
        rw [(hcells.out i (by omega)).1, List.append_assoc, List.getElem?_append_right (by omega), hki, Nat.sub_self]
        rfl
      have hfi : wr.frozen? ⟨b, i, none⟩ = false := (hcells.out i (by omega)).2
      have hbs : b < wr.heap.size := World.block_lt_of_cell? wr _ hci
      clear hki
      by_cases hlt : j < xs.length
      · have hx : Hid (xs[j]? = some xs[j]) := Lib.hid (List.getElem?_eq_getElem hlt)
        generalize xs[j] = x at hx
        have hcj : wr.cell? ⟨b, j, none⟩ = some (.int .i64 x) := by
          rw [(hcells.out j hlt).1, List.getElem?_append_right (by simp only [List.length_append, List.length_cons]; omega)]
          have e : j - (kept ++ (m0 :: mid)).length = 0 := by simp only [List.length_append, List.length_cons]; omega
          rw [e, List.getElem?_drop, Nat.add_zero, hx.out]
          rfl
        have hcall := hp.out x (List.mem_of_getElem? hx.out) wr hbr
        have hdrop : Hid (xs.drop j = x :: xs.drop (j + 1)) := Lib.hid (by
          have h := hx.out
          obtain ⟨h1, h2⟩ := List.getElem?_eq_some_iff.1 h
          rw [List.drop_eq_getElem_cons h1, h2])
        cases hq : p x
        · rw [hq] at hcall
          have hcall := Lib.hid hcall
          have hset : Hid ((kept ++ (m0 :: mid) ++ xs.drop j).set i x = (kept ++ [x]) ++ (mid ++ [x]) ++ xs.drop (j + 1)) := Lib.hid (by
            rw [hdrop.out, List.append_assoc, List.set_append_right _ _ (by rw [hki'.out]; exact Nat.le_refl _), hki'.out, Nat.sub_self, List.cons_append, List.set_cons_zero]
            simp)
          have hfl2 : Hid ((xs.take (j + 1)).filter (fun x => !p x) = kept ++ [x]) := Lib.hid (by rw [take_next hx.out, List.filter_append, hfl.out]; simp [hq])
          have hw2 : Hid (∀ w2, Below wr.heap.size wr w2 → OwnI (w2.setCell ⟨b, i, none⟩ (.int .i64 x)) base (.slice (some ⟨b, 0, none⟩) xs.length cap) ((kept ++ [x]) ++ (mid ++ [x]) ++ xs.drop (j + 1)) ∧ Below base w (w2.setCell ⟨b, i, none⟩ (.int .i64 x))) := Lib.hid fun w2 hb2 => by
            have h1 := OwnI.set (j := i) hlen.out.symm (hown.below hb2) x hset.out.symm
            refine ⟨h1.1, ?_⟩
            exact (hbr.trans (hb2.mono (Nat.le_trans hb0 hbr.size))).setCell hbg _
          clear hcells
          go_wp2_with (go_at_fn g; refine (hcall.out).mono ?_; rintro e w2 ⟨rfl, hb2⟩; have e1 := keepCell hb2 hci; have e2 := keepFrz hb2 hbs hfi)
          go_roundw
          case rel =>
            have := hw2.out w2 hb2
            cases mid with
            | nil => exact ⟨i + 1, j + 1, kept ++ [x], x, [], by go_num, by go_num, by omega, by omega, by rw [List.length_append, hki'.out]; rfl, by have := hki'.out; simp only [List.length_append, List.length_cons, List.length_nil] at hkj ⊢; omega, hfl2, this.1, this.2⟩
            | cons m1 ms => exact ⟨i + 1, j + 1, kept ++ [x], m1, ms ++ [x], by go_num, by go_num, by omega, by omega, by rw [List.length_append, hki'.out]; rfl, by have := hki'.out; simp only [List.length_append, List.length_cons, List.length_nil] at hkj ⊢; omega, hfl2, this.1, this.2⟩
          case measure => simp [intOf]; omega
        · rw [hq] at hcall
          have hcall := Lib.hid hcall
          have hfl2 : Hid ((xs.take (j + 1)).filter (fun x => !p x) = kept) := Lib.hid (by rw [take_next hx.out, List.filter_append, hfl.out]; simp [hq])
          have hap : Hid (kept ++ (m0 :: mid) ++ xs.drop j = kept ++ (m0 :: (mid ++ [x])) ++ xs.drop (j + 1)) := Lib.hid (by rw [hdrop.out]; simp)
          clear hcells
          go_wp2_with (go_at_fn g; refine (hcall.out).mono ?_; rintro e w2 ⟨rfl, hb2⟩)
          go_roundw
          case rel => exact ⟨i, j + 1, kept, m0, mid ++ [x], rfl, by go_num, by omega, by omega, hki'.out, by rw [List.length_append]; simp; omega, hfl2, by rw [← hap.out]; exact hown.below hb2, hbr.trans (hb2.mono (Nat.le_trans hb0 hbr.size))⟩
          case measure => simp [intOf]; omega
      · obtain rfl : j = xs.length := by omega
        have hic : (i : Int) ≤ cap := by omega
        have hcl : ∀ ty, (Builtin.clear_ #[28] ty #[.slice (some ⟨b, i, none⟩) (xs.length - i) (cap - i)]).run Tryz.prog wr = .ok (.tuple #[]) (wr.setCells b i (List.replicate (xs.length - i) (.int .i64 0))) :=
          fun ty => Lib.run_clear_slice wr _ _ ty _ Tryz.underlying28 (fun w => by kernel_rfl) rfl rfl b i _ _ (by omega) (fun t ht => by rw [(hcells.out (i + t) (by omega)).1, List.getElem?_eq_getElem (by rw [hlen.out]; omega)]; rfl) (fun t ht => (hcells.out (i + t) (by omega)).2)
        have hend : Hid (OwnI (wr.setCells b i (List.replicate (xs.length - i) (.int .i64 0))) base (.slice (some ⟨b, 0, none⟩) i cap) (xs.filter (fun x => !p x)) ∧ Below base w (wr.setCells b i (List.replicate (xs.length - i) (.int .i64 0)))) := Lib.hid (by
          obtain ⟨ys, k1, k2, k3, k4⟩ := OwnI.setCells base b cap xs.length (List.replicate (xs.length - i) 0) i wr _ hlen.out.symm hown
          rw [List.map_replicate] at k1 k4
          refine ⟨k1.cut (by rw [k3, hlen.out]) (by omega) ?_, hbr.grown k4 (Nat.le_trans hb0 hbr.size) fun k hk => by injection hk with hk; omega⟩
          rw [k2]
          have := hfl.out
          rw [List.take_length] at this
          rw [this, List.append_assoc, List.take_append_of_le_length (by rw [hki'.out]; exact Nat.le_refl _), ← hki'.out, List.take_length])
        clear hcells
        go_wp2
        go_ret
        exact ⟨_, rfl, hend.out.1, hend.out.2⟩
end Go.Proofs.YtgkjmjlkhnfbiaaGreat

namespace Go.Proofs.YtgkjmjlkhnfbiaaGreat
set_option linter.unusedSimpArgs false
set_option linter.unusedVariables false
open Go.RowKit Go.Shelf Go.Sort
namespace M
/-- not decreasing -/
def srt (xs : List Int) : List Int := xs.mergeSort fun x y => decide (x ≤ y)
theorem srt_perm (xs : List Int) : (srt xs).Perm xs := List.mergeSort_perm xs _
theorem srt_le (xs : List Int) : (srt xs).Pairwise (· ≤ ·) := by
  have h := List.pairwise_mergeSort (le := fun x y : Int => decide (x ≤ y)) (fun a b c h1 h2 => by simp only [decide_eq_true_eq] at *; omega) (fun a b => by simp only [Bool.or_eq_true, decide_eq_true_eq]; omega) xs
  exact h.imp fun h => by simpa using h
/-- sorted, each once -/
def cpt (xs : List Int) : List Int := Lib.compactUpTo xs.toArray xs.length
theorem cpt_upto {xs : List Int} (h : xs.Pairwise (· ≤ ·)) : ∀ m, m ≤ xs.length → Inc (Lib.compactUpTo xs.toArray m) ∧ (∀ x, x ∈ Lib.compactUpTo xs.toArray m ↔ x ∈ xs.take m)
  | 0, _ => ⟨List.Pairwise.nil, fun x => by simp [Lib.compactUpTo]⟩
  | m + 1, hm => by
    obtain ⟨ih1, ih2⟩ := cpt_upto h m (by omega)
    have hx : xs[m]? = some xs[m] := List.getElem?_eq_getElem (by omega)
    have hget : xs.toArray[m]! = xs[m] := by simp [getElem!_pos, show m < xs.length by omega]
    have hmem : ∀ x, x ∈ xs.take (m + 1) ↔ x ∈ xs.take m ∨ x = xs[m] := fun x => by
      rw [List.take_add_one, hx]
      simp only [Option.toList, List.mem_append, List.mem_singleton]
    have hbnd : ∀ x ∈ xs.take m, x ≤ xs[m] := fun x hx' => by
      obtain ⟨j, hj, rfl⟩ := List.getElem_of_mem hx'
      rw [List.length_take] at hj
      rw [List.getElem_take]
      exact List.pairwise_iff_getElem.1 h j m (by omega) (by omega) (by omega)
    rw [Lib.compactUpTo_succ, hget]
    cases hk : Lib.keeps xs.toArray m
    · simp only [Bool.false_eq_true, if_false, List.append_nil]
      refine ⟨ih1, fun x => ?_⟩
      rw [ih2, hmem]
      constructor
      · exact Or.inl
      · rintro (q | rfl)
        · exact q
        · unfold Lib.keeps at hk
          have h0 : m ≠ 0 := fun e => by simp [e] at hk
          have h1 : xs.toArray[m]! = xs.toArray[m - 1]! := by
            simp only [decide_eq_false_iff_not, not_or, Decidable.not_not] at hk
            exact hk.2
          have h2 : xs.toArray[m - 1]! = xs[m - 1] := by simp [getElem!_pos, show m - 1 < xs.length by omega]
          rw [hget, h2] at h1
          rw [h1]
          refine List.mem_of_getElem? (i := m - 1) ?_
          rw [List.getElem?_take, if_pos (by omega)]
          exact List.getElem?_eq_getElem (by omega)
    · simp only [if_true]
      refine ⟨?_, fun x => by rw [List.mem_append, ih2, hmem, List.mem_singleton]⟩
      unfold Inc
      rw [List.pairwise_append]
      refine ⟨ih1, by simp, fun x hx' y hy => ?_⟩
      rw [List.mem_singleton] at hy
      subst hy
      have hx'' := (ih2 x).1 hx'
      have hle := hbnd x hx''
      rcases Int.lt_or_le x xs[m] with q | q
      · exact q
      · exfalso
        have e : x = xs[m] := by omega
        obtain ⟨j, hj, he⟩ := List.getElem_of_mem hx''
        rw [List.length_take] at hj
        rw [List.getElem_take] at he
        unfold Lib.keeps at hk
        have h1 : xs.toArray[m]! ≠ xs.toArray[m - 1]! := by
          simp only [decide_eq_true_eq] at hk
          rcases hk with k | k
          · omega
          · exact k
        have h2 : xs.toArray[m - 1]! = xs[m - 1] := by simp [getElem!_pos, show m - 1 < xs.length by omega]
        rw [hget, h2] at h1
        have h3 : xs[m - 1] ≤ xs[m] := List.pairwise_iff_getElem.1 h (m - 1) m (by omega) (by omega) (by omega)
        have h4 : xs[j] ≤ xs[m - 1] := by
          rcases Nat.lt_or_ge j (m - 1) with k | k
          · exact List.pairwise_iff_getElem.1 h j (m - 1) (by omega) (by omega) k
          · have : j = m - 1 := by omega
            subst this
            exact Int.le_refl _
        omega
theorem cpt_inc {xs : List Int} (h : xs.Pairwise (· ≤ ·)) : Inc (cpt xs) ∧ ∀ x, x ∈ cpt xs ↔ x ∈ xs := by
  have := cpt_upto h xs.length (Nat.le_refl _)
  rw [List.take_length] at this
  exact this
end M
theorem sortInts_c (xs : List Int) (v : Value) (w : World) (base : Nat) (hown : OwnI w base v xs) (hb : base ≤ w.heap.size) (hl : xs.length ≤ 100000000) :
    Calls Tryz.prog 110 #[v] w fun e w' => e = .returned (.tuple #[]) ∧ OwnI w' base v (M.srt xs) ∧ Below base w w' := by
  rcases hown.forms with ⟨rfl, rfl⟩ | ⟨g, cap, rfl, hg⟩
  · have h := AnyM.slices_Sort_int_none Tryz.sortM none 0 w
    refine h.mono fun e w' ⟨he, hw⟩ => ⟨he, ?_⟩
    rw [hw, show M.srt [] = [] from by simp [M.srt]]
    exact ⟨hown, Below.refl _ _⟩
  · have hgs := (OwnI.lt hown g rfl).2
    have hcon := AnyM.slices_Sort_int Tryz.sortM g 0 cap xs w (OwnI.holds (fun x : Int => x) xs.toArray (by simp) rfl hown) hgs (by omega)
    refine hcon.mono fun e w' ⟨he, n, os, hw⟩ => ⟨he, ?_⟩
    have h := OwnI.sorted (m := n) (os := os) (fun x : Int => x) rfl hown (d' := (M.srt xs).toArray) (by rw [List.size_toArray, (M.srt_perm xs).length_eq]) hb
    have hw' : w' = sortWorld (fun x : Int => Value.int .i64 x) w g 0 n (M.srt xs).toArray os := hw
    rw [hw']
    simpa using h
theorem compactInts_c (xs : List Int) (v : Value) (w : World) (base : Nat) (hown : OwnI w base v xs) (hb : base ≤ w.heap.size) (h0 : 0 < xs.length) (hl : xs.length ≤ 100000000) :
    Calls Tryz.prog 129 #[v] w fun e w' => ∃ v', e = .returned v' ∧ OwnI w' base v' (M.cpt xs) ∧ Below base w w' := by
  rcases hown.forms with ⟨rfl, rfl⟩ | ⟨g, cap, rfl, hg⟩
  · simp at h0
  · have hgs := (OwnI.lt hown g rfl).2
    have hcap := hown.cap
    have hcon := AnyE.slices_Compact Tryz.compI (Value.int .i64) (fun _ => rfl) (EqlAt.intD _ _ .i64) (NeqAt.intD _ _ .i64) 0 Tryz.zeroValue3 g 0 cap xs.toArray w (OwnI.holds (fun x : Int => x) xs.toArray (by simp) rfl hown) (by simp; omega) (by simp; omega)
    refine Calls.mono (show Calls Tryz.prog 129 #[.slice (some ⟨g, 0, none⟩) xs.length cap] w _ from hcon) fun e w' ⟨he, q, hw⟩ => ?_
    have hk : (M.cpt xs).length ≤ xs.length := by
      unfold M.cpt Lib.compactUpTo
      rw [List.length_map]
      have := List.length_filter_le (Lib.keeps xs.toArray) (List.range xs.length)
      simpa using this
    have h := OwnI.sorted (m := q) (os := #[]) (fun x : Int => x) rfl hown (d' := (M.cpt xs ++ List.replicate (xs.length - (M.cpt xs).length) 0).toArray) (by simp; omega) hb
    have hw' : w' = sortWorld (fun x : Int => Value.int .i64 x) w g 0 q (M.cpt xs ++ List.replicate (xs.length - (M.cpt xs).length) 0).toArray #[] := by
      unfold sortWorld
      rw [grow_empty]
      exact hw
    refine ⟨_, he, ?_⟩
    rw [hw']
    refine ⟨?_, h.2⟩
    have h1 := h.1
    refine OwnI.cut (n := xs.length) (i := (M.cpt xs).length) ?_ h1 hk ?_
    · simp; omega
    · simp
end Go.Proofs.YtgkjmjlkhnfbiaaGreat

namespace Go.Proofs.YtgkjmjlkhnfbiaaGreat
set_option linter.unusedSimpArgs false
set_option linter.unusedVariables false
namespace M
/-- u^4 divides a and u^6 divides b -/
def four (u : Int) : Int := u * u * u * u
def six (u : Int) : Int := u * u * u * u * u * u
def divU (a b u : Int) : Bool := decide (a % four u = 0) && decide (b % six u = 0)
theorem divU_iff {a b u : Int} : divU a b u = true ↔ a % four u = 0 ∧ b % six u = 0 := by simp [divU]
/-- the greatest such u from 1 to 5 -/
def sm (a b : Int) : Int := if divU a b 5 then 5 else if divU a b 4 then 4 else if divU a b 3 then 3 else if divU a b 2 then 2 else 1
theorem divU_one (a b : Int) : divU a b 1 = true := by simp [divU, four, six]
theorem sm_bd (a b : Int) : 1 ≤ sm a b ∧ sm a b ≤ 5 := by
  unfold sm
  repeat' split
  all_goals omega
theorem sm_div (a b : Int) : divU a b (sm a b) = true := by
  unfold sm
  split
  · assumption
  · split
    · assumption
    · split
      · assumption
      · split
        · assumption
        · exact divU_one a b
/-- from above: the first that divides -/
theorem sm_down {a b u : Int} (h1 : 1 ≤ u) (h5 : u ≤ 5) (hd : divU a b u = true) (hn : ∀ v : Int, u < v → v ≤ 5 → divU a b v = false) : sm a b = u := by
  unfold sm
  rcases (show u = 1 ∨ u = 2 ∨ u = 3 ∨ u = 4 ∨ u = 5 by omega) with rfl | rfl | rfl | rfl | rfl
  · rw [hn 5 (by omega) (by omega), hn 4 (by omega) (by omega), hn 3 (by omega) (by omega), hn 2 (by omega) (by omega)]; rfl
  · rw [hn 5 (by omega) (by omega), hn 4 (by omega) (by omega), hn 3 (by omega) (by omega), hd]; rfl
  · rw [hn 5 (by omega) (by omega), hn 4 (by omega) (by omega), hd]; rfl
  · rw [hn 5 (by omega) (by omega), hd]; rfl
  · rw [hd]; rfl
/-- greater ones divide no curve -/
theorem divU_big {a b u : Int} (h : good a b = true) (h6 : 6 ≤ u) (h10 : u ≤ 10) : divU a b u = false := by
  cases hd : divU a b u
  · rfl
  · exfalso
    obtain ⟨d1, d2⟩ := divU_iff.1 hd
    obtain ⟨b1, b2, b3, b4⟩ := inCurve_bd (good_in h)
    have hz : a = 0 ∧ b = 0 := by
      unfold four at d1
      unfold six at d2
      rcases (show u = 6 ∨ u = 7 ∨ u = 8 ∨ u = 9 ∨ u = 10 by omega) with rfl | rfl | rfl | rfl | rfl <;> simp only [Int.reduceMul] at d1 d2 <;> omega
    obtain ⟨rfl, rfl⟩ := hz
    exact good_disc h rfl
theorem four_pos {u : Int} (h : 1 ≤ u) (h5 : u ≤ 10) : 1 ≤ four u ∧ four u ≤ 10000 := by
  unfold four
  rcases (show u = 1 ∨ u = 2 ∨ u = 3 ∨ u = 4 ∨ u = 5 ∨ u = 6 ∨ u = 7 ∨ u = 8 ∨ u = 9 ∨ u = 10 by omega) with rfl | rfl | rfl | rfl | rfl | rfl | rfl | rfl | rfl | rfl <;> decide
theorem six_pos {u : Int} (h : 1 ≤ u) (h5 : u ≤ 10) : 1 ≤ six u ∧ six u ≤ 1000000 := by
  unfold six
  rcases (show u = 1 ∨ u = 2 ∨ u = 3 ∨ u = 4 ∨ u = 5 ∨ u = 6 ∨ u = 7 ∨ u = 8 ∨ u = 9 ∨ u = 10 by omega) with rfl | rfl | rfl | rfl | rfl | rfl | rfl | rfl | rfl | rfl <;> decide
/-- the smallest model -/
def smA (a b : Int) : Int := a / four (sm a b)
def smB (a b : Int) : Int := b / six (sm a b)
theorem div_bd {a d m : Int} (hd : 1 ≤ d) (h1 : -m ≤ a) (h2 : a ≤ m) (hz : a % d = 0) : -m ≤ a / d ∧ a / d ≤ m := by
  have he := exact_div hd hz
  have h3 : (a / d).natAbs ≤ a.natAbs := by
    have : a.natAbs = (a / d).natAbs * d.natAbs := by rw [← Int.natAbs_mul, he]
    rw [this]
    exact Nat.le_mul_of_pos_right _ (by omega)
  omega
theorem sm_good {a b : Int} (h : good a b = true) : good (smA a b) (smB a b) = true := by
  obtain ⟨b1, b2, b3, b4⟩ := inCurve_bd (good_in h)
  have hs := sm_bd a b
  obtain ⟨d1, d2⟩ := divU_iff.1 (sm_div a b)
  have f1 := four_pos (u := sm a b) (by omega) (by omega)
  have f2 := six_pos (u := sm a b) (by omega) (by omega)
  have e1 := exact_div (n := a) (p := four (sm a b)) (by omega) d1
  have e2 := exact_div (n := b) (p := six (sm a b)) (by omega) d2
  have t1 := div_bd (m := 1000) f1.1 (by omega) (by omega) d1
  have t2 := div_bd (m := 10000) f2.1 (by omega) (by omega) d2
  have hdisc := good_disc h
  unfold smA smB
  generalize hx : a / four (sm a b) = x at *
  generalize hy : b / six (sm a b) = y at *
  generalize sm a b = u at *
  have hk : four u * four u * four u = six u * six u := by
    unfold four six
    simp only [Int.mul_assoc]
  have : disc a b = (six u * six u) * disc x y := by
    unfold disc
    rw [← e1, ← e2, Int.mul_add, ← hk]
    congr 1
    · simp only [Int.mul_assoc, Int.mul_comm, Int.mul_left_comm]
    · rw [hk]; simp only [Int.mul_assoc, Int.mul_comm, Int.mul_left_comm]
  have hne : disc x y ≠ 0 := by
    intro hz
    rw [hz, Int.mul_zero] at this
    exact hdisc this
  simp only [good, inCurve, Bool.and_eq_true, ins_iff, bne_iff_ne]
  exact ⟨⟨t1, t2⟩, hne⟩

/-- A, then B -/
def clt (c d : Int × Int) : Bool := decide (c.1 < d.1) || (decide (c.1 = d.1) && decide (c.2 < d.2))
theorem clt_iff {c d : Int × Int} : clt c d = true ↔ c.1 < d.1 ∨ (c.1 = d.1 ∧ c.2 < d.2) := by simp [clt]
theorem clt_irr (c : Int × Int) : clt c c = false := by
  cases h : clt c c
  · rfl
  · rw [clt_iff] at h; omega
theorem clt_tr {a b c : Int × Int} (h1 : clt a b = true) (h2 : clt b c = true) : clt a c = true := by
  rw [clt_iff] at *; omega
theorem clt_tot {a b : Int × Int} (h1 : clt a b = false) (h2 : clt b a = false) : a = b := by
  have h1' : ¬ clt a b = true := by rw [h1]; decide
  have h2' : ¬ clt b a = true := by rw [h2]; decide
  rw [clt_iff] at h1' h2'
  exact Prod.ext (by omega) (by omega)
def CInc (l : List (Int × Int)) : Prop := l.Pairwise (fun a b => clt a b = true)
theorem CInc.ext : ∀ {l m : List (Int × Int)}, CInc l → CInc m → (∀ x, x ∈ l ↔ x ∈ m) → l = m
  | [], [], _, _, _ => rfl
  | [], y :: m, _, _, h => absurd ((h y).2 List.mem_cons_self) (by simp)
  | x :: l, [], _, _, h => absurd ((h x).1 List.mem_cons_self) (by simp)
  | x :: l, y :: m, h1, h2, h => by
    obtain ⟨a1, b1⟩ := List.pairwise_cons.1 h1
    obtain ⟨a2, b2⟩ := List.pairwise_cons.1 h2
    have hxy : x = y := by
      rcases List.mem_cons.1 ((h x).1 List.mem_cons_self) with e | e
      · exact e
      · rcases List.mem_cons.1 ((h y).2 List.mem_cons_self) with e' | e'
        · exact e'.symm
        · have := clt_tr (a1 y e') (a2 x e)
          rw [clt_irr] at this
          cases this
    subst hxy
    congr 1
    refine CInc.ext b1 b2 fun z => ⟨fun hz => ?_, fun hz => ?_⟩
    · rcases List.mem_cons.1 ((h z).1 (List.mem_cons_of_mem _ hz)) with e | e
      · have := a1 z hz; rw [e, clt_irr] at this; cases this
      · exact e
    · rcases List.mem_cons.1 ((h z).2 (List.mem_cons_of_mem _ hz)) with e | e
      · have := a2 z hz; rw [e, clt_irr] at this; cases this
      · exact e
/-- the place of a curve, and the list with it -/
def cplace (xs : List (Int × Int)) (c : Int × Int) : Nat := (xs.takeWhile (fun d => clt d c)).length
def cput (xs : List (Int × Int)) (c : Int × Int) : List (Int × Int) := if xs[cplace xs c]? = some c then xs else xs.take (cplace xs c) ++ [c] ++ xs.drop (cplace xs c)
theorem cplace_le (xs : List (Int × Int)) (c : Int × Int) : cplace xs c ≤ xs.length := (List.takeWhile_prefix (fun d => clt d c) (l := xs)).length_le
theorem cplace_eq : ∀ (xs : List (Int × Int)) (c : Int × Int) (k : Nat), k ≤ xs.length → (∀ j y, j < k → xs[j]? = some y → clt y c = true) → (∀ y, xs[k]? = some y → clt y c = false) → k = cplace xs c
  | [], c, k, hk, _, _ => by simp at hk; simp [cplace, hk]
  | x :: xs, c, 0, _, _, h => by
    have := h x rfl
    simp [cplace, List.takeWhile_cons, this]
  | x :: xs, c, k + 1, hk, h1, h2 => by
    have hx := h1 0 x (by omega) rfl
    have ih := cplace_eq xs c k (by simpa using hk) (fun j y hj hy => h1 (j + 1) y (by omega) (by simpa using hy)) (fun y hy => h2 y (by simpa using hy))
    simp only [cplace, List.takeWhile_cons, hx, if_true, List.length_cons]
    unfold cplace at ih
    omega
theorem inc_cput {xs : List (Int × Int)} {c : Int × Int} (h : CInc xs) : CInc (cput xs c) ∧ ∀ x, x ∈ cput xs c ↔ x ∈ xs ∨ x = c := by
  have hp := cplace_le xs c
  have h1 : ∀ y ∈ xs.take (cplace xs c), clt y c = true := by
    intro y hy
    have e : xs.take (cplace xs c) = xs.takeWhile (fun d => clt d c) := (List.prefix_iff_eq_take.1 (List.takeWhile_prefix (fun d => clt d c) (l := xs))).symm
    rw [e] at hy
    exact List.all_eq_true.1 (List.all_takeWhile (p := fun d => clt d c) (l := xs)) y hy
  have h2 : ∀ y, xs[cplace xs c]? = some y → clt y c = false := by
    intro y hy
    have hd : xs.dropWhile (fun d => clt d c) = xs.drop (cplace xs c) := by
      have e1 := List.takeWhile_append_dropWhile (p := fun d => clt d c) (l := xs)
      have e2 : (xs.takeWhile (fun d => clt d c) ++ xs.dropWhile (fun d => clt d c)).drop (cplace xs c) = xs.dropWhile (fun d => clt d c) := List.drop_left' rfl
      rw [e1] at e2
      exact e2.symm
    have hh := List.head?_dropWhile_not (p := fun d => clt d c) (l := xs)
    rw [hd, List.head?_drop, hy] at hh
    simpa using hh
  have hs : xs = xs.take (cplace xs c) ++ xs.drop (cplace xs c) := (List.take_append_drop _ _).symm
  unfold cput
  split
  · rename_i he
    refine ⟨h, fun x => ⟨Or.inl, fun hx => ?_⟩⟩
    rcases hx with hx | rfl
    · exact hx
    · exact List.mem_of_getElem? he
  · rename_i he
    have hgt : ∀ y ∈ xs.drop (cplace xs c), clt c y = true := by
      intro y hy
      cases hd : xs.drop (cplace xs c) with
      | nil => rw [hd] at hy; cases hy
      | cons z zs =>
        have hz : xs[cplace xs c]? = some z := by rw [← List.head?_drop, hd]; rfl
        have hzc : clt c z = true := by
          cases hc : clt c z
          · exact absurd (by rw [hz, clt_tot (h2 z hz) hc]) he
          · rfl
        have hinc : CInc (xs.drop (cplace xs c)) := List.Pairwise.sublist (List.drop_sublist _ _) h
        rw [hd] at hinc hy
        rcases List.mem_cons.1 hy with e | e
        · rw [e]; exact hzc
        · exact clt_tr hzc ((List.pairwise_cons.1 hinc).1 y e)
    refine ⟨?_, fun x => ?_⟩
    · unfold CInc
      rw [List.append_assoc, List.pairwise_append]
      refine ⟨List.Pairwise.sublist (List.take_sublist _ _) h, ?_, fun a ha b hb => ?_⟩
      · rw [List.pairwise_append]
        refine ⟨by simp, List.Pairwise.sublist (List.drop_sublist _ _) h, fun a ha b hb => ?_⟩
        simp only [List.mem_singleton] at ha
        subst ha
        exact hgt b hb
      · have ha' := h1 a ha
        rcases List.mem_append.1 hb with hb | hb
        · simp only [List.mem_singleton] at hb
          rw [hb]; exact ha'
        · exact clt_tr ha' (hgt b hb)
    · simp only [List.mem_append, List.mem_singleton]
      constructor
      · rintro ((hx | hx) | hx)
        · exact Or.inl (List.mem_of_mem_take hx)
        · exact Or.inr hx
        · exact Or.inl (List.mem_of_mem_drop hx)
      · rintro (hx | hx)
        · rw [hs, List.mem_append] at hx
          rcases hx with hx | hx
          · exact Or.inl (Or.inl hx)
          · exact Or.inr hx
        · exact Or.inl (Or.inr hx)
theorem cput_le (xs : List (Int × Int)) (c : Int × Int) : (cput xs c).length ≤ xs.length + 1 := by
  have hp := cplace_le xs c
  unfold cput
  split
  · omega
  · simp only [List.length_append, List.length_take, List.length_drop, List.length_singleton]
    omega
def cputs (l : List (Int × Int)) : List (Int × Int) := l.foldl cput []
theorem inc_cputs : ∀ (l acc : List (Int × Int)), CInc acc → CInc (l.foldl cput acc) ∧ ∀ x, x ∈ l.foldl cput acc ↔ x ∈ acc ∨ x ∈ l
  | [], acc, h => ⟨h, by simp⟩
  | d :: l, acc, h => by
    have hs := inc_cput (c := d) h
    have ih := inc_cputs l _ hs.1
    rw [List.foldl_cons]
    refine ⟨ih.1, fun x => ?_⟩
    rw [ih.2, hs.2, List.mem_cons, or_assoc]
/-- the first p elements without those that repeat the one before -/
def ddl (xs : List (Int × Int)) : Nat → List (Int × Int)
  | 0 => []
  | 1 => xs.take 1
  | p + 2 => if xs[p + 1]? = xs[p]? then ddl xs (p + 1) else ddl xs (p + 1) ++ (xs.drop (p + 1)).take 1
theorem ddl_le (xs : List (Int × Int)) : ∀ p, (ddl xs p).length ≤ p
  | 0 => by simp [ddl]
  | 1 => by rw [ddl, List.length_take]; omega
  | p + 2 => by
    have ih := ddl_le xs (p + 1)
    rw [ddl]
    split
    · omega
    · rw [List.length_append, List.length_take]; omega
theorem ddl_plain {xs : List (Int × Int)} : ∀ {p : Nat}, p ≤ xs.length → (∀ j, j + 1 < p → xs[j + 1]? ≠ xs[j]?) → ddl xs p = xs.take p
  | 0, _, _ => by simp [ddl]
  | 1, _, _ => rfl
  | p + 2, hp, h => by
    rw [ddl, if_neg (h p (by omega)), ddl_plain (by omega) (fun j hj => h j (by omega))]
    rw [show p + 2 = (p + 1) + 1 from rfl, List.take_add (i := p + 1) (j := 1)]
theorem ddl_snoc {xs : List (Int × Int)} {p : Nat} {x : Int × Int} (hx : xs[p + 1]? = some x) (h : xs[p + 1]? ≠ xs[p]?) : ddl xs (p + 2) = ddl xs (p + 1) ++ [x] := by
  rw [ddl, if_neg h]
  obtain ⟨h1, h2⟩ := List.getElem?_eq_some_iff.1 hx
  rw [List.drop_eq_getElem_cons h1, h2]
  simp
theorem ddl_skip {xs : List (Int × Int)} {p : Nat} (h : xs[p + 1]? = xs[p]?) : ddl xs (p + 2) = ddl xs (p + 1) := by
  rw [ddl, if_pos h]
/-- of a sorted list: strictly increasing, of the same elements -/
theorem ddl_sorted {xs : List (Int × Int)} (hs : xs.Pairwise (fun a b => clt b a = false)) : ∀ p, p ≤ xs.length → CInc (ddl xs p) ∧ (∀ x, x ∈ ddl xs p ↔ x ∈ xs.take p) ∧ ∀ x ∈ ddl xs p, ∀ y, xs[p - 1]? = some y → clt x y = true ∨ x = y
  | 0, _ => ⟨List.Pairwise.nil, fun x => by simp [ddl], fun x h => by simp [ddl] at h⟩
  | 1, h => by
    obtain ⟨x, l, rfl⟩ : ∃ x l, xs = x :: l := by cases xs with
      | nil => simp at h
      | cons x l => exact ⟨x, l, rfl⟩
    refine ⟨by simp [ddl, CInc], fun y => by simp [ddl], fun y hy z hz => ?_⟩
    simp [ddl] at hy
    simp at hz
    right; rw [hy, hz]
  | p + 2, h => by
    obtain ⟨i1, i2, i3⟩ := ddl_sorted hs (p + 1) (by omega)
    have hx : xs[p + 1]? = some xs[p + 1] := List.getElem?_eq_getElem (by omega)
    have hy : xs[p]? = some xs[p] := List.getElem?_eq_getElem (by omega)
    have hle : clt xs[p + 1] xs[p] = false := List.pairwise_iff_getElem.1 hs p (p + 1) (by omega) (by omega) (by omega)
    have htk : xs.take (p + 2) = xs.take (p + 1) ++ [xs[p + 1]] := List.take_succ_eq_append_getElem (by omega)
    have htk0 : xs[p] ∈ xs.take (p + 1) := by
      rw [List.take_succ_eq_append_getElem (show p < xs.length by omega)]
      exact List.mem_append.2 (Or.inr (List.mem_singleton.2 rfl))
    by_cases he : xs[p + 1]? = xs[p]?
    · have hee : xs[p + 1] = xs[p] := by
        rw [hx, hy] at he
        exact Option.some.inj he
      rw [ddl_skip he]
      refine ⟨i1, fun x => ?_, fun x hm y hz => i3 x hm y ?_⟩
      · rw [i2, htk, List.mem_append, List.mem_singleton, hee]
        constructor
        · exact Or.inl
        · rintro (h | rfl)
          · exact h
          · exact htk0
      · have : xs[p + 1]? = some y := hz
        rw [he] at this
        exact this
    · rw [ddl_snoc hx he]
      have hne : xs[p + 1] ≠ xs[p] := fun e => he (by rw [hx, hy, e])
      have hlt : clt xs[p] xs[p + 1] = true := by
        cases hc : clt xs[p] xs[p + 1]
        · exact absurd (clt_tot hle hc) hne
        · rfl
      have hall : ∀ x ∈ ddl xs (p + 1), clt x xs[p + 1] = true := fun x hm => by
        rcases i3 x hm xs[p] hy with h | h
        · exact clt_tr h hlt
        · rw [h]; exact hlt
      refine ⟨?_, fun x => ?_, fun x hm y hz => ?_⟩
      · unfold CInc
        rw [List.pairwise_append]
        refine ⟨i1, by simp, fun a ha b hb => ?_⟩
        simp only [List.mem_singleton] at hb
        rw [hb]
        exact hall a ha
      · rw [htk, List.mem_append, List.mem_append, i2]
      · have : xs[p + 1]? = some y := hz
        rw [hx] at this
        obtain rfl := Option.some.inj this
        rcases List.mem_append.1 hm with hm | hm
        · exact Or.inl (hall x hm)
        · simp only [List.mem_singleton] at hm
          exact Or.inr hm
/-- sorting and freeing of repetitions is putting one after the other -/
theorem ddl_cputs {xs ys : List (Int × Int)} (hp : ys.Perm xs) (hs : ys.Pairwise (fun a b => clt b a = false)) : ddl ys ys.length = cputs xs := by
  have h1 := ddl_sorted hs ys.length (Nat.le_refl _)
  have h2 := inc_cputs xs [] List.Pairwise.nil
  refine CInc.ext h1.1 h2.1 fun x => ?_
  rw [h1.2.1, List.take_length, hp.mem_iff]
  refine Iff.trans ?_ (h2.2 x).symm
  simp
end M
end Go.Proofs.YtgkjmjlkhnfbiaaGreat

namespace Go.Proofs.YtgkjmjlkhnfbiaaGreat
set_option linter.unusedSimpArgs false
set_option linter.unusedVariables false
open Go.RowKit

/-- the first place of a curve, or -1 -/
def M.cidx (c : Int × Int) : List (Int × Int) → Int
  | [] => -1
  | x :: xs => if x = c then 0 else if M.cidx c xs < 0 then -1 else M.cidx c xs + 1
theorem M.cidx_lo (c : Int × Int) : ∀ xs : List (Int × Int), -1 ≤ M.cidx c xs ∧ M.cidx c xs < xs.length
  | [] => by simp [M.cidx]
  | x :: xs => by
    have := M.cidx_lo c xs
    simp only [M.cidx, List.length_cons]
    repeat' split
    all_goals omega
theorem M.cidx_hit {c : Int × Int} : ∀ {xs : List (Int × Int)} {k : Nat}, xs[k]? = some c → (∀ j : Nat, j < k → xs[j]? ≠ some c) → M.cidx c xs = k
  | [], k, h, _ => by simp at h
  | x :: xs, 0, h, _ => by
    simp only [List.getElem?_cons_zero, Option.some.injEq] at h
    simp [M.cidx, h]
  | x :: xs, k + 1, h, hn => by
    have h0 := hn 0 (by omega)
    simp only [List.getElem?_cons_zero, ne_eq, Option.some.injEq] at h0
    have ih := M.cidx_hit (xs := xs) (k := k) (by simpa using h) (fun j hj => by have := hn (j + 1) (by omega); simpa using this)
    rw [M.cidx, if_neg h0, if_neg (by omega), ih]
    push_cast
    rfl
theorem M.cidx_miss {c : Int × Int} : ∀ {xs : List (Int × Int)}, (∀ j : Nat, j < xs.length → xs[j]? ≠ some c) → M.cidx c xs = -1
  | [], _ => rfl
  | x :: xs, hn => by
    have h0 := hn 0 (by simp)
    simp only [List.getElem?_cons_zero, ne_eq, Option.some.injEq] at h0
    have ih := M.cidx_miss (xs := xs) (fun j hj => by have := hn (j + 1) (by simp; omega); simpa using this)
    rw [M.cidx, if_neg h0, if_pos (by omega)]
theorem M.cidx_mem {c : Int × Int} : ∀ {xs : List (Int × Int)}, 0 ≤ M.cidx c xs ↔ c ∈ xs
  | [] => by simp [M.cidx]
  | x :: xs => by
    have ih := M.cidx_mem (c := c) (xs := xs)
    rw [M.cidx, List.mem_cons]
    split
    · rename_i h; simp [h]
    · rename_i h
      have h' : ¬ c = x := fun e => h e.symm
      split
      · rename_i h2
        constructor
        · intro h3; omega
        · rintro (h3 | h3)
          · exact absurd h3 h'
          · have := ih.2 h3; omega
      · rename_i h2
        exact ⟨fun _ => Or.inr (ih.1 (by omega)), fun _ => by omega⟩

end Go.Proofs.YtgkjmjlkhnfbiaaGreat

namespace Go.Proofs.YtgkjmjlkhnfbiaaGreat
set_option linter.unusedSimpArgs false
set_option linter.unusedVariables false
open Go.RowKit

def Apart (v u : Value) : Prop := ∀ g, v.ownBlock = some g → u.ownBlock ≠ some g
theorem own_apart {w : World} {b1 b2 n1 n2 s1 s2 : Nat} {t1 t2 : TypeId} {v1 v2 : Value} {x1 x2 : List Value} (h1 : w.ownsRow b1 t1 s1 v1 n1 x1) (h2 : w.ownsRow b2 t2 s2 v2 n2 x2) (ht : t1 ≠ t2) : ∀ g, v2.ownBlock = some g → v1.ownBlock ≠ some g := by
  intro g hg hg'
  rcases h1.2 with ⟨rfl, -⟩ | ⟨g1, c1, cur1, rfl, -, hh1, -⟩
  · cases hg'
  · rcases h2.2 with ⟨rfl, -⟩ | ⟨g2, c2, cur2, rfl, -, hh2, -⟩
    · cases hg
    · simp only [Value.ownBlock, Option.some.injEq] at hg hg'
      subst hg hg'
      rw [hh1] at hh2
      injection hh2 with hh2
      injection hh2 with _ ht' _
      exact ht ht'

namespace Rw
variable {α : Type} {E : Enc α} {w w' : World} {base : Nat} {v : Value} {xs : List α}
theorem Own.lit1 (E : Enc α) (x : α) (w : World) (base : Nat) (hb : base ≤ w.heap.size) : Own E (w.alloc (.cells (E.cells x).toArray E.t)) base (.slice (some ⟨w.heap.size, 0, none⟩) 1 1) [x] :=
  ⟨by simp [E.len], .inr ⟨w.heap.size, 1, (E.cells x).toArray, rfl, hb, heap_alloc_new w _, Nat.le_refl 1, by unfold maxLen; omega, by simp [E.len], by simp [E.len, List.take_of_length_le]⟩⟩
theorem run_push3 {P : Program} {ts : TypeId} (F : Fits P E ts) (ty : TypeId) (ys : List α) (ad : Addr) (c : Nat)
    (hr : From E w (some ad) ys) (hown : Own E w base v xs) (hB : base ≤ w.heap.size) (hl : xs.length + ys.length ≤ 100000000000) :
    ∃ v' w', (Builtin.append_ #[ts, ts] ty #[v, .slice (some ad) ys.length c]).run P w = .ok v' w' ∧ Own E w' base v' (xs ++ ys) ∧ w.grownBy w' v.ownBlock ∧ (v'.ownBlock = v.ownBlock ∨ v'.ownBlock = some w.heap.size) := by
  obtain ⟨i, z, hi, hz, hs, hby, hzc⟩ := F.info
  have hbb : (xs.length + ys.length) * i.bytes ≤ 140737488355328 := Nat.le_trans (Nat.mul_le_mul hl hby) (by omega)
  obtain ⟨v', w', h1, h2, h3, -, h5⟩ := run_append_own_at (P := P) w base ts ty E.t i z E.k i.bytes F.under hi hz hs rfl hzc E.pos v xs.length (xs.flatMap E.cells) hown ad ys.length c (ys.flatMap E.cells)
    (flat_len E ys) (fun j u hu => by
      obtain ⟨ad', h1, h2⟩ := hr j u hu
      obtain rfl := Option.some.inj h1
      exact h2) (cells_mem E ys) (by unfold maxLen; omega) hbb hB
  refine ⟨v', w', h1, ?_, h3, h5⟩
  unfold Own
  rw [List.flatMap_append, List.length_append]
  exact h2
theorem push3 {P : Program} {ts : TypeId} (F : Fits P E ts) {ops : Array Oper} {rest : List Oper} {o : Oper} {a : Act} {Q : Exit → Act → World → Prop} (base : Nat) (ys xs : List α) (v : Value) (ad : Addr) (m c : Nat) (hm : ys.length = m) (hgd : o.guard = none) (s x : Operand)
    (ho : o.op = .call { callee := .builtin .append, args := #[s, x], argTypes := #[ts, ts] }) (hs : a.eval s = v) (hx : a.eval x = .slice (some ad) m c)
    (hr : From E w (some ad) ys) (hown : Own E w base v xs) (hB : base ≤ w.heap.size) (hl : xs.length + ys.length ≤ 100000000000)
    (h : ∀ v' w', Own E w' base v' (xs ++ ys) → w.grownBy w' v.ownBlock → (v'.ownBlock = v.ownBlock ∨ v'.ownBlock = some w.heap.size) → wpList P ops Q rest (a.put o.dst v') w') :
    wpList P ops Q (o :: rest) a w := by
  subst hm
  refine wpList_plain hgd fun _ hK => ?_
  obtain ⟨v', w', h1, h2, h3, h4⟩ := run_push3 F (w := w) (base := base) o.type ys ad c hr hown hB hl
  unfold Oper.wp execOp
  simp only [ho, resolve, invoke, builtin, Sem.run_bind, Sem.run_pure, Result.andThen_ok, List.map_toArray, List.map_cons, List.map_nil, hs, hx, h1]
  exact hK _ _ (h v' w' h2 h3 h4)
end Rw
/-- a number's cells -/
def EI : Rw.Enc Int where
  t := 3
  k := 1
  cells := fun c => [.int .i64 c]
  len := fun _ => rfl
  one := fun x u hu => by simp only [List.mem_singleton] at hu; subst hu; rfl
  pos := by decide
theorem fitsI : Rw.Fits Tryz.prog EI 28 := ⟨Tryz.underlying28, by
  obtain ⟨i0, hi, hz0, hz1, hz2⟩ := info_parts info_int
  exact ⟨i0, _, hi, hz0, hz1, by omega, rfl⟩⟩
theorem flat_int (xs : List Int) : xs.flatMap EI.cells = xs.map (Value.int .i64) := by
  induction xs with
  | nil => rfl
  | cons x xs ih => rw [List.flatMap_cons, ih]; rfl
theorem ownI_iff {w : World} {base : Nat} {v : Value} {xs : List Int} : OwnI w base v xs ↔ Rw.Own EI w base v xs := by
  unfold OwnI Rw.Own
  rw [flat_int]
  rfl
theorem OwnI.cellAt {w : World} {base g n cap : Nat} {xs : List Int} (hn : n = xs.length) (h : OwnI w base (.slice (some ⟨g, 0, none⟩) n cap) xs) {i : Nat} {t : Int} (ht : xs[i]? = some t) : w.cell? ⟨g, i, none⟩ = some (.int .i64 t) := by
  have hi := (List.getElem?_eq_some_iff.1 ht).1
  subst hn
  have := World.ownsRow.cellAt (g := g) (cap := cap) (n := xs.length) h i (by omega)
  rw [this, List.getElem?_map, ht]
  rfl
end Go.Proofs.YtgkjmjlkhnfbiaaGreat
