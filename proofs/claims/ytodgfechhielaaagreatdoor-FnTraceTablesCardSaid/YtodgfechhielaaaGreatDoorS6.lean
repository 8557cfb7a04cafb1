/-
  slices.IndexFunc and slices.DeleteFunc at numbers, at whatever predicate.
-/
import Derived.Test.YtodgfechhielaaaGreatDoorS3
import Derived.Lib.SliceRun
import Derived.Shelf.Abstract
namespace Go.Proofs.YtodgfechhielaaaGreatDoor
set_option linter.unusedSimpArgs false
set_option linter.unusedVariables false
open Go.RowKit Go.Shelf

/-- the place of the first number that passes, or -1 -/
def M.First (p : Int → Bool) (xs : List Int) (r : Int) : Prop :=
  (r = -1 ∧ ∀ x ∈ xs, p x = false) ∨ ∃ k : Nat, r = k ∧ k < xs.length ∧ (∀ x, xs[k]? = some x → p x = true) ∧ ∀ x ∈ xs.take k, p x = false

/-- a function value's contract: a test of a number, in every world in which what lies below base is as in w -/
def TestC (g : Nat) (lb : Array Value) (p : Int → Bool) (xs : List Int) (base : Nat) (w : World) : Prop :=
  ∀ (x : Int) (_ : x ∈ xs) (W : World), Below base w W → Calls Tryz.prog g (#[.int .i64 x] ++ lb) W fun e W' => e = .returned (.bool (p x)) ∧ Below W.heap.size W W'

theorem take_mem {xs : List Int} {k : Nat} {x : Int} {q : Int → Prop} (hx : xs[k]? = some x) (h : ∀ y ∈ xs.take k, q y) (h' : q x) : ∀ y ∈ xs.take (k + 1), q y := by
  intro y hy
  rw [take_next hx, List.mem_append] at hy
  rcases hy with hy | hy
  · exact h y hy
  · simp only [List.mem_singleton] at hy
    rw [hy]
    exact h'

theorem indexFunc_c (g : Nat) (lb : Array Value) (eg : ∀ args w, (callFunc g args).run Tryz.prog w = .ok (.enter g args) w) (p : Int → Bool) (v : Value) (xs : List Int) (w : World) (base hi : Nat) (hx : SeenI w hi v xs) (hhi : hi ≤ w.heap.size) (hb0 : base ≤ w.heap.size) (hp : TestC g lb p xs base w) :
    Calls Tryz.prog 65 #[v, .func (.func g) #[] lb] w fun e w' => ∃ r, e = .returned (.int .i64 r) ∧ M.First p xs r ∧ Below w.heap.size w w' := by
  obtain ⟨a, cap, rfl, hm, hv⟩ := hx
  have hp := Lib.hid hp
  go_enter Tryz.func65, Tryz.ntmps65
  go_wp2
  go_loopw [5, 8] (fun _ vi wr => ∃ k : Nat, k ≤ xs.length ∧ vi = .int .i64 k ∧ (∀ x ∈ xs.take k, p x = false) ∧ Below w.heap.size w wr) (fun _ vi _ => xs.length - (intOf vi).toNat)
  case atStart => exact ⟨0, by omega, rfl, by simp, Below.refl _ _⟩
  case round =>
    obtain ⟨k, hk, rfl, hall, hbr⟩ := hrel
    have Hall := Lib.hid hall
    clear hall
    by_cases hlt : k < xs.length
    · obtain ⟨b, x, rfl, hg, hx, hcell⟩ := hv k hlt
      have e1 := (hbr.cell (p := ⟨b, k, none⟩) (by show b < _; omega)).trans hcell
      have hcall := hp.out x (List.mem_of_getElem? hx.out) wr (hbr.mono hb0)
      clear hv hcell
      cases hq : p x
      · rw [hq] at hcall
        have hcall := Lib.hid hcall
        have hnx := Lib.hid (take_mem (q := fun y => p y = false) hx.out Hall.out hq)
        go_wp2_with (go_at_fn g; refine (hcall.out).mono ?_; rintro e w2 ⟨rfl, hb2⟩)
        go_roundw
        case rel => exact ⟨k + 1, by omega, by go_num, hnx.out, below_step hbr hb2⟩
        case measure => simp [intOf]; omega
      · rw [hq] at hcall
        have hcall := Lib.hid hcall
        have hf : Hid (M.First p xs k) := Lib.hid (Or.inr ⟨k, rfl, hlt, fun y hy => by rw [hx.out] at hy; rw [← Option.some.inj hy]; exact hq, Hall.out⟩)
        go_wp2_with (go_at_fn g; refine (hcall.out).mono ?_; rintro e w2 ⟨rfl, hb2⟩)
        go_ret
        exact ⟨_, rfl, hf.out, below_step hbr hb2⟩
    · obtain rfl : k = xs.length := by omega
      clear hv
      go_wp2
      go_ret
      exact ⟨_, rfl, Or.inl ⟨rfl, by have := Hall.out; rwa [List.take_length] at this⟩, hbr⟩

theorem OwnI.setCells (base g cap n : Nat) : ∀ (l : List Int) (o : Nat) (w : World) (xs : List Int), n = xs.length → OwnI w base (.slice (some ⟨g, 0, none⟩) n cap) xs →
    ∃ ys, OwnI (w.setCells g o (l.map (Value.int .i64))) base (.slice (some ⟨g, 0, none⟩) n cap) ys ∧ ys.take o = xs.take o ∧ ys.length = xs.length ∧ w.grownBy (w.setCells g o (l.map (Value.int .i64))) (some g)
  | [], o, w, xs, _, h => ⟨xs, h, rfl, rfl, grown_rf _ _⟩
  | x :: l, o, w, xs, hn, h => by
    have h1 := OwnI.set (j := o) hn h x rfl
    obtain ⟨ys, k1, k2, k3, k4⟩ := OwnI.setCells base g cap n l (o + 1) _ (xs.set o x) (by rw [List.length_set]; exact hn) h1.1
    refine ⟨ys, k1, ?_, by rw [k3, List.length_set], grown_tr h1.2 k4⟩
    have := congrArg (List.take o) k2
    rw [List.take_take, List.take_take, Nat.min_eq_left (by omega)] at this
    rw [this, List.take_set, List.set_eq_of_length_le (by rw [List.length_take]; omega)]
theorem OwnI.cut {w : World} {base g cap n : Nat} {xs : List Int} (hn : n = xs.length) (h : OwnI w base (.slice (some ⟨g, 0, none⟩) n cap) xs) {i : Nat} (hi : i ≤ n) {ys : List Int} (hy : ys = xs.take i) : OwnI w base (.slice (some ⟨g, 0, none⟩) i cap) ys := by
  subst hy hn
  obtain ⟨h1, h2⟩ := h
  have hl : (xs.take i).length = i := by rw [List.length_take]; omega
  rcases h2 with ⟨e, -⟩ | ⟨g', cap', cur, e, hg, hh, hc, hm, hs, ht⟩
  · cases e
  · injection e with e1 e2 e3
    simp only [Option.some.injEq, Addr.mk.injEq, and_true] at e1
    subst e1 e3
    refine ⟨by simp, Or.inr ⟨g, cap, cur, by rw [hl], hg, hh, by omega, hm, hs, ?_⟩⟩
    have := congrArg (List.take i) ht
    rw [List.take_take, Nat.min_eq_left (by omega)] at this
    rw [hl, Nat.mul_one, this, List.map_take]

set_option maxHeartbeats 400000 in
theorem deleteFunc_c (g : Nat) (lb : Array Value) (eg : ∀ args w, (callFunc g args).run Tryz.prog w = .ok (.enter g args) w) (p : Int → Bool) (v : Value) (xs : List Int) (w : World) (base : Nat) (hx : OwnI w base v xs) (hb0 : base ≤ w.heap.size) (hp : TestC g lb p xs base w) :
    Calls Tryz.prog 36 #[v, .func (.func g) #[] lb] w fun e w' => ∃ v', e = .returned v' ∧ OwnI w' base v' (xs.filter fun x => !p x) ∧ Below base w w' := by
  have hI := fun W (h : Below w.heap.size w W) => indexFunc_c g lb eg p v xs W base W.heap.size (hx.below h).seen (Nat.le_refl _) (Nat.le_trans hb0 h.size) (fun x hx W2 h2 => hp x hx W2 ((h.mono hb0).trans h2))
  have hI := Lib.hid (hI w (Below.refl _ _))
  have hp := Lib.hid hp
  obtain ⟨a, cap, rfl⟩ := hx.nil_form
  have hm := hx.cap
  go_enter Tryz.func36, Tryz.ntmps36
  go_wp2_with fail
  refine (hI.out).mono ?_; rintro e w1 ⟨r, rfl, hr, hb1⟩
  rcases hr with ⟨rfl, hall⟩ | ⟨i0, rfl, hi0, hpi, hall⟩
  · have hfl : Hid (xs.filter (fun x => !p x) = xs) := Lib.hid (List.filter_eq_self.2 fun x hx => by rw [hall x hx]; rfl)
    clear hall
    go_wp2
    go_ret
    exact ⟨_, rfl, by rw [hfl.out]; exact hx.below hb1, hb1.mono hb0⟩
  · obtain ⟨b, cap', e1, hbg, -⟩ := hx.form (by omega)
    injection e1 with e1 e2 e3
    subst e1 e3
    clear e2
    have hx1 := hx.below hb1
    have hnn : ((i0 : Int) == -1) = false := beq_eq_false_iff_ne.2 (by omega)
    have hpi := Lib.hid hpi
    have hst : Hid (∃ m0 mid, xs = xs.take i0 ++ (m0 :: mid) ++ xs.drop (i0 + 1) ∧ (xs.take i0 ++ (m0 :: mid)).length = i0 + 1 ∧ (xs.take (i0 + 1)).filter (fun x => !p x) = xs.take i0) := Lib.hid (by
      have hx := List.getElem?_eq_getElem hi0
      refine ⟨xs[i0], [], ?_, ?_, ?_⟩
      · have := (List.take_append_drop (i0 + 1) xs).symm
        rw [take_next hx] at this
        exact this
      · rw [List.length_append, List.length_take]; simp; omega
      · rw [take_next hx, List.filter_append, List.filter_eq_self.2 fun x hx => by rw [hall x hx]; rfl]
        simp [hpi.out _ hx])
    clear hall hx
    go_wp2
    go_loopw [5, 6, 7] (fun vi vj _ wr => ∃ (i j : Nat) (kept : List Int) (m0 : Int) (mid : List Int), vi = .int .i64 i ∧ vj = .int .i64 j ∧ i < j ∧ j ≤ xs.length ∧ kept.length = i ∧ kept.length + mid.length + 1 = j ∧ Hid ((xs.take j).filter (fun x => !p x) = kept) ∧ OwnI wr base (.slice (some ⟨b, 0, none⟩) xs.length cap) (kept ++ (m0 :: mid) ++ xs.drop j) ∧ Below base w wr) (fun _ vj _ _ => xs.length - (intOf vj).toNat)
    case atStart =>
      obtain ⟨m0, mid, h1, h2, h3⟩ := hst.out
      refine ⟨i0, i0 + 1, xs.take i0, m0, mid, rfl, by go_num, by omega, by omega, by rw [List.length_take]; omega, by simp at h2 ⊢; omega, Lib.hid h3, by rw [← h1]; exact hx1, hb1.mono hb0⟩
    case round =>
      obtain ⟨i, j, kept, m0, mid, rfl, rfl, hij, hj, hki, hkj, hfl, hown, hbr⟩ := hrel
      have hki' : Hid (kept.length = i) := Lib.hid hki
      have hlen : Hid ((kept ++ (m0 :: mid) ++ xs.drop j).length = xs.length) := Lib.hid (by simp only [List.length_append, List.length_cons, List.length_drop]; omega)
      have hcells : Hid (∀ q : Nat, q < xs.length → wr.cell? ⟨b, q, none⟩ = ((kept ++ (m0 :: mid) ++ xs.drop j)[q]?).map (Value.int .i64) ∧ wr.frozen? ⟨b, q, none⟩ = false) := Lib.hid fun q hq => by
        have h := hown
        unfold OwnI at h
        rw [hlen.out] at h
        refine ⟨?_, World.ownsRow.frozenAt h q⟩
        rw [World.ownsRow.cellAt h q (by omega), List.getElem?_map]
      have hci : wr.cell? ⟨b, i, none⟩ = some (.int .i64 m0) := by
        rw [(hcells.out i (by omega)).1, List.append_assoc, List.getElem?_append_right (by omega), hki, Nat.sub_self]
        rfl
      have hfi : wr.frozen? ⟨b, i, none⟩ = false := (hcells.out i (by omega)).2
      have hbs : b < wr.heap.size := World.block_lt_of_cell? wr _ hci
      clear hki
      by_cases hlt : j < xs.length
      · have hx : Hid (xs[j]? = some xs[j]) := Lib.hid (List.getElem?_eq_getElem hlt)
        generalize xs[j] = x at hx
        have hcj : wr.cell? ⟨b, j, none⟩ = some (.int .i64 x) := by
          rw [(hcells.out j hlt).1, List.getElem?_append_right (by simp only [List.length_append, List.length_cons]; omega)]
          have e : j - (kept ++ (m0 :: mid)).length = 0 := by simp only [List.length_append, List.length_cons]; omega
          rw [e, List.getElem?_drop, Nat.add_zero, hx.out]
          rfl
        have hcall := hp.out x (List.mem_of_getElem? hx.out) wr hbr
        have hdrop : Hid (xs.drop j = x :: xs.drop (j + 1)) := Lib.hid (by
          have h := hx.out
          obtain ⟨h1, h2⟩ := List.getElem?_eq_some_iff.1 h
          rw [List.drop_eq_getElem_cons h1, h2])
        cases hq : p x
        · rw [hq] at hcall
          have hcall := Lib.hid hcall
          have hset : Hid ((kept ++ (m0 :: mid) ++ xs.drop j).set i x = (kept ++ [x]) ++ (mid ++ [x]) ++ xs.drop (j + 1)) := Lib.hid (by
            rw [hdrop.out, List.append_assoc, List.set_append_right _ _ (by rw [hki'.out]; exact Nat.le_refl _), hki'.out, Nat.sub_self, List.cons_append, List.set_cons_zero]
            simp)
          have hfl2 : Hid ((xs.take (j + 1)).filter (fun x => !p x) = kept ++ [x]) := Lib.hid (by rw [take_next hx.out, List.filter_append, hfl.out]; simp [hq])
          have hw2 : Hid (∀ w2, Below wr.heap.size wr w2 → OwnI (w2.setCell ⟨b, i, none⟩ (.int .i64 x)) base (.slice (some ⟨b, 0, none⟩) xs.length cap) ((kept ++ [x]) ++ (mid ++ [x]) ++ xs.drop (j + 1)) ∧ Below base w (w2.setCell ⟨b, i, none⟩ (.int .i64 x))) := Lib.hid fun w2 hb2 => by
            have h1 := OwnI.set (j := i) hlen.out.symm (hown.below hb2) x hset.out.symm
            refine ⟨h1.1, ?_⟩
            exact (hbr.trans (hb2.mono (Nat.le_trans hb0 hbr.size))).setCell hbg _
          clear hcells
          go_wp2_with (go_at_fn g; refine (hcall.out).mono ?_; rintro e w2 ⟨rfl, hb2⟩; have e1 := keepCell hb2 hci; have e2 := keepFrz hb2 hbs hfi)
          go_roundw
          case rel =>
            have := hw2.out w2 hb2
            cases mid with
            | nil => exact ⟨i + 1, j + 1, kept ++ [x], x, [], by go_num, by go_num, by omega, by omega, by rw [List.length_append, hki'.out]; rfl, by have := hki'.out; simp only [List.length_append, List.length_cons, List.length_nil] at hkj ⊢; omega, hfl2, this.1, this.2⟩
            | cons m1 ms => exact ⟨i + 1, j + 1, kept ++ [x], m1, ms ++ [x], by go_num, by go_num, by omega, by omega, by rw [List.length_append, hki'.out]; rfl, by have := hki'.out; simp only [List.length_append, List.length_cons, List.length_nil] at hkj ⊢; omega, hfl2, this.1, this.2⟩
          case measure => simp [intOf]; omega
        · rw [hq] at hcall
          have hcall := Lib.hid hcall
          have hfl2 : Hid ((xs.take (j + 1)).filter (fun x => !p x) = kept) := Lib.hid (by rw [take_next hx.out, List.filter_append, hfl.out]; simp [hq])
          have hap : Hid (kept ++ (m0 :: mid) ++ xs.drop j = kept ++ (m0 :: (mid ++ [x])) ++ xs.drop (j + 1)) := Lib.hid (by rw [hdrop.out]; simp)
          clear hcells
          go_wp2_with (go_at_fn g; refine (hcall.out).mono ?_; rintro e w2 ⟨rfl, hb2⟩)
          go_roundw
          case rel => exact ⟨i, j + 1, kept, m0, mid ++ [x], rfl, by go_num, by omega, by omega, hki'.out, by rw [List.length_append]; simp; omega, hfl2, by rw [← hap.out]; exact hown.below hb2, hbr.trans (hb2.mono (Nat.le_trans hb0 hbr.size))⟩
          case measure => simp [intOf]; omega
      · obtain rfl : j = xs.length := by omega
        have hic : (i : Int) ≤ cap := by omega
        have hcl : ∀ ty, (Builtin.clear_ #[30] ty #[.slice (some ⟨b, i, none⟩) (xs.length - i) (cap - i)]).run Tryz.prog wr = .ok (.tuple #[]) (wr.setCells b i (List.replicate (xs.length - i) (.int .i64 0))) :=
          fun ty => Lib.run_clear_slice wr _ _ ty _ Tryz.underlying30 (fun w => by kernel_rfl) rfl rfl b i _ _ (by omega) (fun t ht => by rw [(hcells.out (i + t) (by omega)).1, List.getElem?_eq_getElem (by rw [hlen.out]; omega)]; rfl) (fun t ht => (hcells.out (i + t) (by omega)).2)
        have hend : Hid (OwnI (wr.setCells b i (List.replicate (xs.length - i) (.int .i64 0))) base (.slice (some ⟨b, 0, none⟩) i cap) (xs.filter (fun x => !p x)) ∧ Below base w (wr.setCells b i (List.replicate (xs.length - i) (.int .i64 0)))) := Lib.hid (by
          obtain ⟨ys, k1, k2, k3, k4⟩ := OwnI.setCells base b cap xs.length (List.replicate (xs.length - i) 0) i wr _ hlen.out.symm hown
          rw [List.map_replicate] at k1 k4
          refine ⟨k1.cut (by rw [k3, hlen.out]) (by omega) ?_, hbr.grown k4 (Nat.le_trans hb0 hbr.size) fun k hk => by injection hk with hk; omega⟩
          rw [k2]
          have := hfl.out
          rw [List.take_length] at this
          rw [this, List.append_assoc, List.take_append_of_le_length (by rw [hki'.out]; exact Nat.le_refl _), ← hki'.out, List.take_length])
        clear hcells
        go_wp2
        go_ret
        exact ⟨_, rfl, hend.out.1, hend.out.2⟩
end Go.Proofs.YtodgfechhielaaaGreatDoor
