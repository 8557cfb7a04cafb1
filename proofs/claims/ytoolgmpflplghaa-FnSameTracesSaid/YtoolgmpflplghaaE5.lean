/-
  Contracts: lists of curves freed of repetitions.
-/
import Derived.Test.YtoolgmpflplghaaE4
import Derived.Laws.IdiomCopy
namespace Go.Proofs.Ytoolgmpflplghaa
set_option linter.unusedSimpArgs false
set_option linter.unusedVariables false
open Go.RowKit Go.Shelf

theorem setC {w : World} {base g n cap j : Nat} {xs : List (Int × Int)} (hn : n = xs.length) (h : Rw.Own EC w base (.slice (some ⟨g, 0, none⟩) n cap) xs) (hj : j < n) (c : Int × Int) {ys : List (Int × Int)} (hy : ys = xs.set j c) :
    Rw.Own EC ((w.setCell ⟨g, j * 2, none⟩ (.int .i64 c.1)).setCell ⟨g, j * 2 + 1, none⟩ (.int .i64 c.2)) base (.slice (some ⟨g, 0, none⟩) n cap) ys ∧ w.grownBy ((w.setCell ⟨g, j * 2, none⟩ (.int .i64 c.1)).setCell ⟨g, j * 2 + 1, none⟩ (.int .i64 c.2)) (some g) := by
  subst hn hy
  have h1 := World.ownsRow.stored (g := g) (cap := cap) h (j * 2) (.int .i64 c.1)
  have h2 := World.ownsRow.stored (g := g) (cap := cap) h1.1 (j * 2 + 1) (.int .i64 c.2)
  refine ⟨?_, grown_tr h1.2 h2.2⟩
  have e : ((xs.flatMap EC.cells).set (j * 2) (.int .i64 c.1)).set (j * 2 + 1) (.int .i64 c.2) = (xs.set j c).flatMap EC.cells := by
    refine List.ext_getElem? fun t => ?_
    have hl : (xs.flatMap EC.cells).length = xs.length * 2 := Rw.flat_len EC xs
    rw [Rw.flat_set EC xs j c hj]
    have hk : EC.k = 2 := rfl
    rw [hk]
    by_cases h0 : t = j * 2
    · subst h0
      rw [List.getElem?_set_ne (by omega), List.getElem?_set_self (by omega), if_pos (by omega), Nat.sub_self]
      rfl
    · by_cases h1 : t = j * 2 + 1
      · subst h1
        rw [List.getElem?_set_self (by rw [List.length_set]; omega), if_pos (by omega), show j * 2 + 1 - j * 2 = 1 from by omega]
        rfl
      · rw [List.getElem?_set_ne (by omega), List.getElem?_set_ne (by omega), if_neg (by omega)]
  have h3 := h2.1
  rw [e] at h3
  unfold Rw.Own
  rw [List.length_set]
  exact h3
theorem cellC {w : World} {base g n cap j : Nat} {xs : List (Int × Int)} {c : Int × Int} (hn : n = xs.length) (h : Rw.Own EC w base (.slice (some ⟨g, 0, none⟩) n cap) xs) (hc : xs[j]? = some c) :
    w.cell? ⟨g, j * 2, none⟩ = some (.int .i64 c.1) ∧ w.cell? ⟨g, j * 2 + 1, none⟩ = some (.int .i64 c.2) ∧ w.frozen? ⟨g, j * 2, none⟩ = false ∧ w.frozen? ⟨g, j * 2 + 1, none⟩ = false := by
  have e0 := h.cellAt hn (j * 2) _ ((Rw.flat_get EC xs j 0 c hc (by decide)).trans rfl)
  have e1 := h.cellAt hn (j * 2 + 1) _ ((Rw.flat_get EC xs j 1 c hc (by decide)).trans rfl)
  exact ⟨e0.1, e1.1, e0.2, e1.2⟩

theorem run_clearC (w : World) (b o n c : Nat) (hn : 0 < n) (hc : ∀ j, j < n * 2 → (w.cell? ⟨b, o + j, none⟩).isSome = true) (hf : ∀ j, j < n * 2 → w.frozen? ⟨b, o + j, none⟩ = false) (ty : TypeId) :
    (Builtin.clear_ #[59] ty #[.slice (some ⟨b, o, none⟩) n c]).run Try.prog w = .ok (.tuple #[]) (w.setCells b o (List.replicate (n * 2) (.int .i64 0))) := by
  have hzc : (Builtin.zeroCells #[Value.int .i64 0, Value.int .i64 0] n).toList = List.replicate (n * 2) (.int .i64 0) := by
    simp [Builtin.zeroCells]
    apply List.ext_getElem
    · simp
    · intro i h1 h2
      simp
      rcases Nat.mod_two_eq_zero_or_one i with h | h <;> simp [h]
  have hst := run_storeCells_cells (P := Try.prog) b o (List.replicate (n * 2) (.int .i64 0)) 0 w (by simpa using hc) (by simpa using hf) (by intro v hv'; rw [List.eq_of_mem_replicate hv']; rfl)
  simp only [Nat.add_zero] at hst
  have hv : ∀ w, (zeroValue 23).run Try.prog w = .ok (.agg #[.int .i64 0, .int .i64 0]) w := fun w => by kernel_rfl
  obtain ⟨m, rfl⟩ : ∃ m, n = m + 1 := ⟨n - 1, by omega⟩
  simp [Builtin.clear_, run_underlying Try.underlying59, hv, Value.cells, hzc, hst]

theorem below_dN {B : Nat} {a w : World} (h : Below B a w) (n : Nat) : Below B a (w.drewN n) := ⟨h.os, h.tape, h.output, h.size, h.block⟩

set_option maxHeartbeats 1000000 in
theorem compactC_c (xs : List (Int × Int)) (v : Value) (w : World) (base : Nat) (hown : Rw.Own EC w base v xs) (hb : base ≤ w.heap.size) (hl : xs.length ≤ 100000000) :
    Calls Try.prog 93 #[v] w fun e w' => ∃ v', e = .returned v' ∧ Rw.Own EC w' base v' (M.ddl xs xs.length) ∧ Below base w w' := by
  by_cases h2 : xs.length < 2
  · have hd : Hid (M.ddl xs xs.length = xs) := Lib.hid (by
      rw [M.ddl_plain (Nat.le_refl _) (fun j hj => by omega), List.take_length])
    obtain ⟨a, cap, e, -⟩ := hown.seen
    subst e
    go_enter Try.func93, Try.ntmps93
    go_wp2
    go_ret
    exact ⟨_, rfl, by rw [hd.out]; exact hown, Below.refl _ _⟩
  · rcases hown.forms with ⟨-, rfl⟩ | ⟨g, cap, rfl, hg, hgs, hc, hc2⟩
    · simp at h2
    · go_enter Try.func93, Try.ntmps93
      go_wp2
      go_loopw [3, 4, 5] (fun vk _ _ wr => ∃ j n : Nat, j + 1 ≤ xs.length ∧ vk = .int .i64 ((j : Int) + 1) ∧ (∀ i : Nat, i + 1 < j + 1 → xs[i + 1]? ≠ xs[i]?) ∧ wr = w.drewN n) (fun vk _ _ _ => (xs.length + 1 - intOf vk).toNat)
      case atStart => exact ⟨0, 0, by omega, rfl, fun i h => by omega, rfl⟩
      case round =>
        obtain ⟨j, n, hj, rfl, hall, rfl⟩ := hrel
        have Hall := Lib.hid hall
        clear hall
        by_cases hlt : j + 1 < xs.length
        · have hx : Hid (xs[j]? = some xs[j]) := Lib.hid (List.getElem?_eq_getElem (by omega))
          have hy : Hid (xs[j + 1]? = some xs[j + 1]) := Lib.hid (List.getElem?_eq_getElem hlt)
          generalize xs[j] = x at hx
          generalize xs[j + 1] = y at hy
          obtain ⟨c0, c1, -, -⟩ := cellC rfl hown hx.out
          obtain ⟨c2, c3, -, -⟩ := cellC rfl hown hy.out
          cases b1 : (y.1 == x.1) <;> cases b2 : (y.2 == x.2)
          case true.true =>
            have hxy : Hid (y = x) := Lib.hid (Prod.ext (eq_of_beq b1) (eq_of_beq b2))
            go_wp2
            go_quiet (fail)
            go_wp2
            have hst : Hid (M.ddl xs (j + 0 + 2) = xs.take (j + 1)) := Lib.hid (by
              rw [Nat.add_zero, M.ddl_skip (by rw [hx.out, hy.out, hxy.out]), M.ddl_plain (by omega) (fun i hi => Hall.out i (by omega))])
            have hcut : Hid (xs = xs.take (j + 1) ++ [] ++ xs.drop (j + 1 + 0)) := Lib.hid (by simp)
            clear c0 c1 c2 c3
            go_loopw [3, 5] (fun vk vq wr => ∃ (k q : Nat) (mid : List (Int × Int)), vk = .int .i64 k ∧ vq = .int .i64 ((q : Int) + 1) ∧ j + 1 + q + 1 ≤ xs.length ∧ k = (M.ddl xs (j + q + 2)).length ∧ k + mid.length = j + 1 + q ∧ Rw.Own EC wr base (.slice (some ⟨g, 0, none⟩) xs.length cap) (M.ddl xs (j + q + 2) ++ mid ++ xs.drop (j + 1 + q)) ∧ Below base w wr) (fun _ vq _ => (xs.length - intOf vq).toNat)
            case atStart => exact ⟨j + 1, 0, [], by go_num, rfl, by omega, by rw [hst.out, List.length_take]; omega, by simp, by rw [hst.out, ← hcut.out]; exact hown, below_dN (Below.refl _ _) _⟩
            case round =>
              obtain ⟨k, q, mid, rfl, rfl, hq, hk, hkm, hcur, hbr⟩ := hrel
              have hk' := Lib.hid hk
              have hkle := M.ddl_le xs (j + q + 2)
              rw [← hk] at hkle
              have hpl : Hid ((M.ddl xs (j + q + 2) ++ mid).length = j + 1 + q) := Lib.hid (by rw [List.length_append]; omega)
              have hlen : Hid (xs.length = (M.ddl xs (j + q + 2) ++ mid ++ xs.drop (j + 1 + q)).length) := Lib.hid (by rw [List.length_append, hpl.out, List.length_drop]; omega)
              have hkl : k < xs.length := by omega
              clear hk
              have hx1 : Hid (xs[j + 1 + q]? = some xs[j + 1 + q]) := Lib.hid (List.getElem?_eq_getElem (by omega))
              generalize xs[j + 1 + q] = x1 at hx1
              have hc1 : Hid ((M.ddl xs (j + q + 2) ++ mid ++ xs.drop (j + 1 + q))[j + 1 + q]? = some x1) := Lib.hid (by
                rw [List.getElem?_append_right (by rw [hpl.out]; exact Nat.le_refl _), hpl.out, Nat.sub_self, List.getElem?_drop, Nat.add_zero, hx1.out])
              have hck : Hid (∃ c, (M.ddl xs (j + q + 2) ++ mid ++ xs.drop (j + 1 + q))[k]? = some c) := Lib.hid ⟨_, List.getElem?_eq_getElem (by rw [← hlen.out]; exact hkl)⟩
              obtain ⟨ck, hck⟩ := hck.out
              have d4 := cellC hlen.out hcur hck
              obtain ⟨k0, k1, f0, f1⟩ := d4
              have hck := Lib.hid hck
              have d1 := cellC hlen.out hcur hc1.out
              obtain ⟨c0, c1, -, -⟩ := d1
              rw [show (j + 1 + q) * 2 = (j + 1) * 2 + q * 2 from by omega] at c0 c1
              by_cases hlt2 : j + 1 + q + 1 < xs.length
              · have hy1 : Hid (xs[j + 1 + q + 1]? = some xs[j + 1 + q + 1]) := Lib.hid (List.getElem?_eq_getElem hlt2)
                generalize xs[j + 1 + q + 1] = y1 at hy1
                have hc2 : Hid ((M.ddl xs (j + q + 2) ++ mid ++ xs.drop (j + 1 + q))[j + 1 + q + 1]? = some y1) := Lib.hid (by
                  rw [List.getElem?_append_right (by rw [hpl.out]; omega), hpl.out, List.getElem?_drop, show j + 1 + q + (j + 1 + q + 1 - (j + 1 + q)) = j + 1 + q + 1 from by omega, hy1.out])
                have d2 := cellC hlen.out hcur hc2.out
                obtain ⟨c2, c3, -, -⟩ := d2
                rw [show (j + 1 + q + 1) * 2 = (j + 1) * 2 + (q + 1) * 2 from by omega] at c2 c3
                have hdr : Hid (xs.drop (j + 1 + q) = x1 :: xs.drop (j + 1 + (q + 1))) := Lib.hid (by
                  obtain ⟨h1, h2⟩ := List.getElem?_eq_some_iff.1 hx1.out
                  rw [List.drop_eq_getElem_cons h1, h2]
                  rfl)
                have hqz : (q : Int) + 1 < (xs.length : Int) - ((j : Int) + 1) := by omega
                have hqn : q + 1 < xs.length - (j + 1) := by omega
                cases b3 : (y1.1 == x1.1) <;> cases b4 : (y1.2 == x1.2)
                case true.true =>
                  have hxy1 : Hid (y1 = x1) := Lib.hid (Prod.ext (eq_of_beq b3) (eq_of_beq b4))
                  have hnx : Hid (M.ddl xs (j + (q + 1) + 2) = M.ddl xs (j + q + 2)) := Lib.hid (by
                    have := M.ddl_skip (xs := xs) (p := j + 1 + q) (by rw [hy1.out, hx1.out, hxy1.out])
                    rw [show j + (q + 1) + 2 = j + 1 + q + 2 from by omega, this, show j + 1 + q + 1 = j + q + 2 from by omega])
                  have hap : Hid (M.ddl xs (j + q + 2) ++ mid ++ xs.drop (j + 1 + q) = M.ddl xs (j + q + 2) ++ (mid ++ [x1]) ++ xs.drop (j + 1 + (q + 1))) := Lib.hid (by rw [hdr.out]; simp)
                  go_wp2
                  go_quiet (fail)
                  go_wp2
                  go_roundw
                  case rel => exact ⟨k, q + 1, mid ++ [x1], rfl, by go_num, by omega, by rw [hnx.out]; exact hk'.out, by rw [List.length_append]; simp; omega, by rw [hnx.out, ← hap.out]; exact hcur, below_dN hbr _⟩
                  case measure => simp [intOf]; omega
                all_goals
                  have hne1 : Hid (xs[j + 1 + q + 1]? ≠ xs[j + 1 + q]?) := Lib.hid fun h => by
                    rw [hy1.out, hx1.out] at h
                    obtain rfl := Option.some.inj h
                    simp at b3 b4
                  have hnx : Hid (M.ddl xs (j + (q + 1) + 2) = M.ddl xs (j + q + 2) ++ [y1]) := Lib.hid (by
                    have := M.ddl_snoc (xs := xs) (p := j + 1 + q) hy1.out hne1.out
                    rw [show j + (q + 1) + 2 = j + 1 + q + 2 from by omega, this, show j + 1 + q + 1 = j + q + 2 from by omega])
                  have hset : Hid (∃ mid' : List (Int × Int), mid'.length = mid.length ∧ (M.ddl xs (j + q + 2) ++ mid ++ xs.drop (j + 1 + q)).set k y1 = M.ddl xs (j + q + 2) ++ [y1] ++ mid' ++ xs.drop (j + 1 + (q + 1))) := Lib.hid (by
                    rw [hdr.out, List.append_assoc, List.set_append_right _ _ (by rw [← hk'.out]; exact Nat.le_refl _), ← hk'.out, Nat.sub_self]
                    cases mid with
                    | nil => exact ⟨[], rfl, by simp⟩
                    | cons m ms => exact ⟨ms ++ [x1], by simp, by simp⟩)
                  obtain ⟨mid', hm1, hm2⟩ := hset.out
                  have hm2 := Lib.hid hm2
                  have hst2 : Hid (∀ nq, Rw.Own EC (((wr.drewN nq).setCell ⟨g, k * 2, none⟩ (.int .i64 y1.1)).setCell ⟨g, k * 2 + 1, none⟩ (.int .i64 y1.2)) base (.slice (some ⟨g, 0, none⟩) xs.length cap) (M.ddl xs (j + (q + 1) + 2) ++ mid' ++ xs.drop (j + 1 + (q + 1))) ∧ Below base w (((wr.drewN nq).setCell ⟨g, k * 2, none⟩ (.int .i64 y1.1)).setCell ⟨g, k * 2 + 1, none⟩ (.int .i64 y1.2))) := Lib.hid fun nq => by
                    have h := setC (w := wr.drewN nq) hlen.out hcur hkl y1 rfl
                    rw [hm2.out] at h
                    rw [hnx.out]
                    exact ⟨h.1, ((below_dN hbr nq).setCell hg _).setCell hg _⟩
                  go_wp2
                  go_quiet (fail)
                  go_wp2
                  go_roundw
                  case rel => exact ⟨k + 1, q + 1, mid', by go_num, by go_num, by omega, by rw [hnx.out, List.length_append, ← hk'.out]; rfl, by omega, (hst2.out _).1, (hst2.out _).2⟩
                  case measure => simp [intOf]; omega
              · have hqe : Hid (j + q + 2 = xs.length) := Lib.hid (by omega)
                have hqn : ¬ q + 1 < xs.length - (j + 1) := by omega
                have htk : M.ddl xs xs.length = (M.ddl xs (j + q + 2) ++ mid ++ xs.drop (j + 1 + q)).take k := by
                  rw [List.append_assoc, List.take_append_of_le_length (by rw [← hk'.out]; exact Nat.le_refl _), List.take_of_length_le (by rw [← hk'.out]; exact Nat.le_refl _), hqe.out]
                have hfin : Hid (∀ l : List Value, Rw.Own EC (wr.setCells g (k * 2) l) base (.slice (some ⟨g, 0, none⟩) k cap) (M.ddl xs xs.length) ∧ Below base w (wr.setCells g (k * 2) l)) := Lib.hid fun l => by
                  have h := hcur.cut hlen.out (i := k) (by omega) l (ys := M.ddl xs xs.length) htk (k * 2) rfl
                  exact ⟨h.1, hbr.grown h.2 (Nat.le_trans hb hbr.size) fun b hb => by injection hb with hb; omega⟩
                have hcl : ∀ ty, (Builtin.clear_ #[59] ty #[.slice (some ⟨g, k * 2, none⟩) (xs.length - k) (cap - k)]).run Try.prog wr = .ok (.tuple #[]) (wr.setCells g (k * 2) (List.replicate ((xs.length - k) * 2) (.int .i64 0))) := by
                  have hcs : ∀ t, t < xs.length * 2 → (wr.cell? ⟨g, t, none⟩).isSome = true ∧ wr.frozen? ⟨g, t, none⟩ = false := fun t ht => by
                    have hft : t < ((M.ddl xs (j + q + 2) ++ mid ++ xs.drop (j + 1 + q)).flatMap EC.cells).length := by rw [Rw.flat_len, ← hlen.out]; exact ht
                    have := hcur.cellAt hlen.out t _ (List.getElem?_eq_getElem hft)
                    exact ⟨by rw [this.1]; rfl, this.2⟩
                  exact run_clearC wr g (k * 2) (xs.length - k) (cap - k) (by omega) (fun t ht => (hcs (k * 2 + t) (by omega)).1) (fun t ht => (hcs (k * 2 + t) (by omega)).2)
                have hkc : (k : Int) ≤ cap := by omega
                clear hcur c0 c1 k0 k1 f0 f1 htk
                go_wp2
                go_ret
                exact ⟨_, rfl, (hfin.out _).1, (hfin.out _).2⟩
          all_goals
            have hne : Hid (xs[j + 1]? ≠ xs[j]?) := Lib.hid fun h => by
              rw [hy.out, hx.out] at h
              obtain rfl := Option.some.inj h
              simp at b1 b2
            go_wp2
            go_quiet (fail)
            go_wp2
            go_roundw
            case rel => exact ⟨j + 1, _, by omega, by go_num, fun i hi => if q : i = j then by rw [q]; exact hne.out else Hall.out i (by omega), rfl⟩
            case measure => simp [intOf]; omega
        · have hjl : j + 1 = xs.length := by omega
          have hd : Hid (M.ddl xs xs.length = xs) := Lib.hid (by
            rw [M.ddl_plain (Nat.le_refl _) (fun i hi => Hall.out i (by omega)), List.take_length])
          clear hjl
          go_wp2
          go_ret
          exact ⟨_, rfl, by rw [hd.out]; exact hown, below_dN (Below.refl _ _) _⟩
end Go.Proofs.Ytoolgmpflplghaa
