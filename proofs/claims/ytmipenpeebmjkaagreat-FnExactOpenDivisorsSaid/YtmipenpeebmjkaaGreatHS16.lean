/-
  slices.DeleteFunc at numbers, at a predicate that reads what the call does not write.
-/
import Derived.Test.YtmipenpeebmjkaaGreatB13
import Derived.Test.YtmipenpeebmjkaaGreatB5
namespace Go.Proofs.YtmipenpeebmjkaaGreat
set_option linter.unusedSimpArgs false
set_option linter.unusedVariables false
open Go.RowKit Go.Shelf
/-- a function value's contract: a test of a number, in every world that has grown at block r alone -/
def TestG (g : Nat) (lb : Array Value) (p : Int → Bool) (xs : List Int) (r : Option Nat) (w : World) : Prop :=
  ∀ (x : Int) (_ : x ∈ xs) (W : World), w.grownBy W r → Calls Tryz.prog g (#[.int .i64 x] ++ lb) W fun e W' => e = .returned (.bool (p x)) ∧ Below W.heap.size W W'
set_option maxHeartbeats 400000 in
theorem deleteFuncG_c (g : Nat) (lb : Array Value) (eg : ∀ args w, (callFunc g args).run Tryz.prog w = .ok (.enter g args) w) (p : Int → Bool) (v : Value) (xs : List Int) (w : World) (base : Nat) (hx : OwnI w base v xs) (hb0 : base ≤ w.heap.size) (hp : TestG g lb p xs v.ownBlock w) :
    Calls Tryz.prog 40 #[v, .func (.func g) #[] lb] w fun e w' => ∃ v', e = .returned v' ∧ OwnI w' base v' (xs.filter fun x => !p x) ∧ Below base w w' := by
  have hI := fun W (h : Below w.heap.size w W) => indexFunc_c g lb eg p v xs W W.heap.size W.heap.size (hx.below h).seen (Nat.le_refl _) (Nat.le_refl _) (fun x hx W2 h2 => hp x hx W2 (grown_tr (below_grown h _) (below_grown h2 _)))
  have hI := Lib.hid (hI w (Below.refl _ _))
  have hp := Lib.hid hp
  obtain ⟨a, cap, rfl⟩ := hx.nil_form
  have hm := hx.cap
  go_enter Tryz.func40, Tryz.ntmps40
  go_wp2_with fail
  refine (hI.out).mono ?_; rintro e w1 ⟨r, rfl, hr, hb1⟩
  rcases hr with ⟨rfl, hall⟩ | ⟨i0, rfl, hi0, hpi, hall⟩
  · have hfl : Hid (xs.filter (fun x => !p x) = xs) := Lib.hid (List.filter_eq_self.2 fun x hx => by rw [hall x hx]; rfl)
    clear hall
    go_wp2
    go_ret
    exact ⟨_, rfl, by rw [hfl.out]; exact hx.below hb1, hb1.mono hb0⟩
  · obtain ⟨b, cap', e1, hbg, -⟩ := hx.form (by omega)
    injection e1 with e1 e2 e3
    subst e1 e3
    clear e2
    have hx1 := hx.below hb1
    have hnn : ((i0 : Int) == -1) = false := beq_eq_false_iff_ne.2 (by omega)
    have hpi := Lib.hid hpi
    have hst : Hid (∃ m0 mid, xs = xs.take i0 ++ (m0 :: mid) ++ xs.drop (i0 + 1) ∧ (xs.take i0 ++ (m0 :: mid)).length = i0 + 1 ∧ (xs.take (i0 + 1)).filter (fun x => !p x) = xs.take i0) := Lib.hid (by
      have hx := List.getElem?_eq_getElem hi0
      refine ⟨xs[i0], [], ?_, ?_, ?_⟩
      · have := (List.take_append_drop (i0 + 1) xs).symm
        rw [take_next hx] at this
        exact this
      · rw [List.length_append, List.length_take]; simp; omega
      · rw [take_next hx, List.filter_append, List.filter_eq_self.2 fun x hx => by rw [hall x hx]; rfl]
        simp [hpi.out _ hx])
    clear hall hx
    go_wp2
    go_loopw [5, 6, 7] (fun vi vj _ wr => ∃ (i j : Nat) (kept : List Int) (m0 : Int) (mid : List Int), vi = .int .i64 i ∧ vj = .int .i64 j ∧ i < j ∧ j ≤ xs.length ∧ kept.length = i ∧ kept.length + mid.length + 1 = j ∧ Hid ((xs.take j).filter (fun x => !p x) = kept) ∧ OwnI wr base (.slice (some ⟨b, 0, none⟩) xs.length cap) (kept ++ (m0 :: mid) ++ xs.drop j) ∧ Below base w wr ∧ w.grownBy wr (some b)) (fun _ vj _ _ => xs.length - (intOf vj).toNat)
    case atStart =>
      obtain ⟨m0, mid, h1, h2, h3⟩ := hst.out
      refine ⟨i0, i0 + 1, xs.take i0, m0, mid, rfl, by go_num, by omega, by omega, by rw [List.length_take]; omega, by simp at h2 ⊢; omega, Lib.hid h3, by rw [← h1]; exact hx1, hb1.mono hb0, below_grown hb1 _⟩
    case round =>
      obtain ⟨i, j, kept, m0, mid, rfl, rfl, hij, hj, hki, hkj, hfl, hown, hbr, hgr⟩ := hrel
      have hki' : Hid (kept.length = i) := Lib.hid hki
      have hlen : Hid ((kept ++ (m0 :: mid) ++ xs.drop j).length = xs.length) := Lib.hid (by simp only [List.length_append, List.length_cons, List.length_drop]; omega)
      have hcells : Hid (∀ q : Nat, q < xs.length → wr.cell? ⟨b, q, none⟩ = ((kept ++ (m0 :: mid) ++ xs.drop j)[q]?).map (Value.int .i64) ∧ wr.frozen? ⟨b, q, none⟩ = false) := Lib.hid fun q hq => by
        have h := hown
        unfold OwnI at h
        rw [hlen.out] at h
        refine ⟨?_, World.ownsRow.frozenAt h q⟩
        rw [World.ownsRow.cellAt h q (by omega), List.getElem?_map]
      have hci : wr.cell? ⟨b, i, none⟩ = some (.int .i64 m0) := by
        rw [(hcells.out i (by omega)).1, List.append_assoc, List.getElem?_append_right (by omega), hki, Nat.sub_self]
        rfl
      have hfi : wr.frozen? ⟨b, i, none⟩ = false := (hcells.out i (by omega)).2
      have hbs : b < wr.heap.size := World.block_lt_of_cell? wr _ hci
      clear hki
      by_cases hlt : j < xs.length
      · have hx : Hid (xs[j]? = some xs[j]) := Lib.hid (List.getElem?_eq_getElem hlt)
        generalize xs[j] = x at hx
        have hcj : wr.cell? ⟨b, j, none⟩ = some (.int .i64 x) := by
          rw [(hcells.out j hlt).1, List.getElem?_append_right (by simp only [List.length_append, List.length_cons]; omega)]
          have e : j - (kept ++ (m0 :: mid)).length = 0 := by simp only [List.length_append, List.length_cons]; omega
          rw [e, List.getElem?_drop, Nat.add_zero, hx.out]
          rfl
        have hcall := hp.out x (List.mem_of_getElem? hx.out) wr hgr
        have hdrop : Hid (xs.drop j = x :: xs.drop (j + 1)) := Lib.hid (by
          have h := hx.out
          obtain ⟨h1, h2⟩ := List.getElem?_eq_some_iff.1 h
          rw [List.drop_eq_getElem_cons h1, h2])
        cases hq : p x
        · rw [hq] at hcall
          have hcall := Lib.hid hcall
          have hset : Hid ((kept ++ (m0 :: mid) ++ xs.drop j).set i x = (kept ++ [x]) ++ (mid ++ [x]) ++ xs.drop (j + 1)) := Lib.hid (by
            rw [hdrop.out, List.append_assoc, List.set_append_right _ _ (by rw [hki'.out]; exact Nat.le_refl _), hki'.out, Nat.sub_self, List.cons_append, List.set_cons_zero]
            simp)
          have hfl2 : Hid ((xs.take (j + 1)).filter (fun x => !p x) = kept ++ [x]) := Lib.hid (by rw [take_next hx.out, List.filter_append, hfl.out]; simp [hq])
          have hw2 : Hid (∀ w2, Below wr.heap.size wr w2 → OwnI (w2.setCell ⟨b, i, none⟩ (.int .i64 x)) base (.slice (some ⟨b, 0, none⟩) xs.length cap) ((kept ++ [x]) ++ (mid ++ [x]) ++ xs.drop (j + 1)) ∧ Below base w (w2.setCell ⟨b, i, none⟩ (.int .i64 x))) := Lib.hid fun w2 hb2 => by
            have h1 := OwnI.set (j := i) hlen.out.symm (hown.below hb2) x hset.out.symm
            refine ⟨h1.1, ?_⟩
            exact (hbr.trans (hb2.mono (Nat.le_trans hb0 hbr.size))).setCell hbg _
          clear hcells
          go_wp2_with (go_at_fn g; refine (hcall.out).mono ?_; rintro e w2 ⟨rfl, hb2⟩; have e1 := keepCell hb2 hci; have e2 := keepFrz hb2 hbs hfi)
          go_roundw
          case rel =>
            have := hw2.out w2 hb2
            cases mid with
            | nil => exact ⟨i + 1, j + 1, kept ++ [x], x, [], by go_num, by go_num, by omega, by omega, by rw [List.length_append, hki'.out]; rfl, by have := hki'.out; simp only [List.length_append, List.length_cons, List.length_nil] at hkj ⊢; omega, hfl2, this.1, this.2, Gr.set (grown_tr hgr (below_grown hb2 _)) i _⟩
            | cons m1 ms => exact ⟨i + 1, j + 1, kept ++ [x], m1, ms ++ [x], by go_num, by go_num, by omega, by omega, by rw [List.length_append, hki'.out]; rfl, by have := hki'.out; simp only [List.length_append, List.length_cons, List.length_nil] at hkj ⊢; omega, hfl2, this.1, this.2, Gr.set (grown_tr hgr (below_grown hb2 _)) i _⟩
          case measure => simp [intOf]; omega
        · rw [hq] at hcall
          have hcall := Lib.hid hcall
          have hfl2 : Hid ((xs.take (j + 1)).filter (fun x => !p x) = kept) := Lib.hid (by rw [take_next hx.out, List.filter_append, hfl.out]; simp [hq])
          have hap : Hid (kept ++ (m0 :: mid) ++ xs.drop j = kept ++ (m0 :: (mid ++ [x])) ++ xs.drop (j + 1)) := Lib.hid (by rw [hdrop.out]; simp)
          clear hcells
          go_wp2_with (go_at_fn g; refine (hcall.out).mono ?_; rintro e w2 ⟨rfl, hb2⟩)
          go_roundw
          case rel => exact ⟨i, j + 1, kept, m0, mid ++ [x], rfl, by go_num, by omega, by omega, hki'.out, by rw [List.length_append]; simp; omega, hfl2, by rw [← hap.out]; exact hown.below hb2, hbr.trans (hb2.mono (Nat.le_trans hb0 hbr.size)), grown_tr hgr (below_grown hb2 _)⟩
          case measure => simp [intOf]; omega
      · obtain rfl : j = xs.length := by omega
        have hic : (i : Int) ≤ cap := by omega
        have hcl : ∀ ty, (Builtin.clear_ #[29] ty #[.slice (some ⟨b, i, none⟩) (xs.length - i) (cap - i)]).run Tryz.prog wr = .ok (.tuple #[]) (wr.setCells b i (List.replicate (xs.length - i) (.int .i64 0))) :=
          fun ty => Lib.run_clear_slice wr _ _ ty _ Tryz.underlying29 (fun w => by kernel_rfl) rfl rfl b i _ _ (by omega) (fun t ht => by rw [(hcells.out (i + t) (by omega)).1, List.getElem?_eq_getElem (by rw [hlen.out]; omega)]; rfl) (fun t ht => (hcells.out (i + t) (by omega)).2)
        have hend : Hid (OwnI (wr.setCells b i (List.replicate (xs.length - i) (.int .i64 0))) base (.slice (some ⟨b, 0, none⟩) i cap) (xs.filter (fun x => !p x)) ∧ Below base w (wr.setCells b i (List.replicate (xs.length - i) (.int .i64 0)))) := Lib.hid (by
          obtain ⟨ys, k1, k2, k3, k4⟩ := OwnI.setCells base b cap xs.length (List.replicate (xs.length - i) 0) i wr _ hlen.out.symm hown
          rw [List.map_replicate] at k1 k4
          refine ⟨k1.cut (by rw [k3, hlen.out]) (by omega) ?_, hbr.grown k4 (Nat.le_trans hb0 hbr.size) fun k hk => by injection hk with hk; omega⟩
          rw [k2]
          have := hfl.out
          rw [List.take_length] at this
          rw [this, List.append_assoc, List.take_append_of_le_length (by rw [hki'.out]; exact Nat.le_refl _), ← hki'.out, List.take_length])
        clear hcells
        go_wp2
        go_ret
        exact ⟨_, rfl, hend.out.1, hend.out.2⟩
end Go.Proofs.YtmipenpeebmjkaaGreat
