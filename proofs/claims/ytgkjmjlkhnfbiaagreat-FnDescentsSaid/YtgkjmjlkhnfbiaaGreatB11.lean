/-
  Joined texts: contracts and plain laws.
-/
import Derived.RangeFuncNested
import Derived.RangeFuncBox
import Derived.RangeFuncLeaves
import Derived.Shelf.Abstract
import Derived.OwnWalkIn
import Derived.TacticsInMore
import Derived.LoopNIn
import Derived.LoopIn
import Derived.Test.YtgkjmjlkhnfbiaaGreatB10
import Derived.Test.YtgkjmjlkhnfbiaaGreatB6
namespace Go.Proofs.YtgkjmjlkhnfbiaaGreat
set_option linter.unusedSimpArgs false
set_option linter.unusedVariables false
open Go.RowKit
attribute [local go_sem] Oper.semAt_some
/-- a pair's cells -/
def EP : Rw.Enc (Int × Int) where
  t := 103
  k := 2
  cells := fun c => [.int .i64 c.1, .int .i64 c.2]
  len := fun _ => rfl
  one := fun x u hu => by simp only [List.mem_cons, List.not_mem_nil, or_false] at hu; rcases hu with rfl | rfl <;> rfl
  pos := by decide
theorem infoP : (Tryz.prog.info? 103).map (fun i => (i.zero, i.size, i.bytes)) = some (some (.agg #[.int .i64 0, .int .i64 0]), 2, 16) := by kernel_rfl
theorem fitsP : Rw.Fits Tryz.prog EP 100 := ⟨Tryz.underlying100, by
  obtain ⟨i0, hi, hz0, hz1, hz2⟩ := info_parts infoP
  exact ⟨i0, _, hi, hz0, hz1, by omega, rfl⟩⟩
/-- what a round that goes on keeps: blocks that are named, and blocks of truth values -/
def KpB (K : Nat → Prop) (W W' : World) : Prop := W.heap.size ≤ W'.heap.size ∧ (∀ (i : Nat) (o : Obj), K i → W.heap[i]? = some o → W'.heap[i]? = some o) ∧ ∀ (i : Nat) (cs : Array Value) (fr : Nat × Nat), W.heap[i]? = some (.cells cs 4 fr) → W'.heap[i]? = some (.cells cs 4 fr)
theorem KpB.refl (K : Nat → Prop) (W : World) : KpB K W W := ⟨Nat.le_refl _, fun _ _ _ h => h, fun _ _ _ h => h⟩
theorem KpB.trans {K : Nat → Prop} {A B C : World} (h : KpB K A B) (k : KpB K B C) : KpB K A C := ⟨Nat.le_trans h.1 k.1, fun i o hi ho => k.2.1 i o hi (h.2.1 i o hi ho), fun i cs fr hi => k.2.2 i cs fr (h.2.2 i cs fr hi)⟩
theorem KpB.below {K : Nat → Prop} {W W' : World} (h : Below W.heap.size W W') : KpB K W W' := by
  have hh : ∀ (i : Nat) (o : Obj), W.heap[i]? = some o → W'.heap[i]? = some o := fun i o ho => (h.block i (Array.getElem?_eq_some_iff.1 ho).1).trans ho
  exact ⟨h.size, fun i o _ ho => hh i o ho, fun i cs fr ho => hh i _ ho⟩
theorem KpB.alloc {K : Nat → Prop} {W W' : World} (h : KpB K W W') (o : Obj) : KpB K W (W'.alloc o) := h.trans (KpB.below ((Below.refl _ _).alloc (Nat.le_refl _) o))
theorem KpB.cell {K : Nat → Prop} {W W' : World} (h : KpB K W W') {b o : Nat} {v : Value} (hb : K b) (hc : W.cell? ⟨b, o, none⟩ = some v) : W'.cell? ⟨b, o, none⟩ = some v := by
  obtain ⟨ob, ho, -⟩ := cells_of_cell hc
  exact (World.cell?_of_block ((h.2.1 b ob hb ho).trans ho.symm)).trans hc
theorem KpB.other {K : Nat → Prop} (W : World) (l : Nat) (o o' : Obj) (h : W.heap[l]? = some o) (hc : o.isCells = false) (hK : ¬ K l) : KpB K W (W.putObj l o') := by
  have hg := grownBy_putObj' W l o'
  refine ⟨hg.size, fun i x hi hx => ?_, fun i cs fr hx => ?_⟩
  · exact (hg.block i (Array.getElem?_eq_some_iff.1 hx).1 (fun e => hK (by cases e; exact hi))).trans hx
  · refine (hg.block i (Array.getElem?_eq_some_iff.1 hx).1 (fun e => ?_)).trans hx
    cases e
    rw [h] at hx
    cases hx
    cases hc
/-- the world at a yield -/
theorem grown_new {w w' : World} (h : Below w.heap.size w w') : w.grownBy w' none := below_grown h none
def CandPost (S Sp : List (Int × Int) → Prop) (J Jx : List (Int × Int) → World → Prop) (e : Ending) (W' : World) : Prop := (∃ v, e = .returned v) ∧ ((∃ xs, S xs ∧ J xs W') ∨ (∃ pre, Sp pre ∧ Jx pre W'))
set_option maxRecDepth 100000 in
set_option maxHeartbeats 2000000 in
theorem cand_in (K : Nat → Prop) (n : Nat) (hn : 1 ≤ n) (lr Bp Bl Bs n₀ p i : Nat) (l : List (Int × Int)) (lv : Value) (hp : p ≤ 997) (hs : M.ipow p i ≤ 1000000000) (hs0 : 0 ≤ M.ipow p i) (hl : ∀ x ∈ l, (0 ≤ x.1 ∧ x.1 ≤ 1000000000) ∧ (0 ≤ x.2 ∧ x.2 ≤ 1000000000))
    (J Jx : List (Int × Int) → World → Prop) (W : World) (hJ : AbidesFrom W.heap.size J)
    (hY : ∀ pre x W1, J pre W1 → pre.length < (M.cands p l i).length → YieldAt Fence.wide (n - 1) Tryz.prog lr #[.agg #[.int .i64 x.1, .int .i64 x.2]] W1 fun e W' =>
      (e = .returned (.bool true) ∧ J (pre ++ [x]) W' ∧ KpB K W1 W') ∨ (e = .returned (.bool false) ∧ Jx (pre ++ [x]) W'))
    (cp : W.cell? ⟨Bp, 0, none⟩ = some (.int .i64 p)) (cl : W.cell? ⟨Bl, 0, none⟩ = some lv) (cs : W.cell? ⟨Bs, 0, none⟩ = some (.int .i64 (M.ipow p i))) (bp : K Bp) (bl : K Bl) (bs : K Bs) (bn : ∀ b, b < n₀ → K b)
    (hseen : Rw.Seen EP W n₀ lv l) (h0 : J [] W) :
    CallsIn Fence.wide n Tryz.prog 170 #[.func (.yield lr) #[] #[], .pointer (some ⟨Bp, 0, none⟩), .pointer (some ⟨Bl, 0, none⟩), .pointer (some ⟨Bs, 0, none⟩)] W
      (CandPost (fun xs => xs = M.cands p l i) (fun pre => pre <+: M.cands p l i) J Jx) := by
  obtain ⟨A, cap, rfl, hcap, hcap2, hv⟩ := hseen
  have hv := Lib.hid hv
  have hY := Lib.hid hY
  have hl := Lib.hid hl
  have hpre := fun t => M.come_pre p l i t
  have hall := fun t (h : 2 * (p * l.length) ≤ t) => M.come_all p l i h
  generalize hQ : M.ipow p i = Q at *
  clear hQ
  have hpre := Lib.hid hpre
  have hall := Lib.hid hall
  generalize M.cands p l i = C at *
  refine callsIn_of_wp Tryz.func170 rfl trivial ?_ rfl
  simp only [Tryz.ntmps170, List.size_toArray, List.length_cons, List.length_nil, Nat.reduceAdd, Nat.reduceSub, Array.replicate_succ, Array.replicate_zero, List.push_toArray, List.append_toArray, List.nil_append, List.cons_append]
  gi_wp2
  have hG1 : W.grownBy (W.alloc (.cells #[.bool true, .bool false] 4)) none := World.grownBy_alloc W _ none
  have gb : (W.alloc (.cells #[.bool true, .bool false] 4)).heap[W.heap.size]? = some (.cells #[.bool true, .bool false] 4 (0, 0)) := heap_alloc_new W _
  have hJ1 := hJ [] W _ none h0 hG1 (fun r e => by cases e)
  have hB1 : KpB K W (W.alloc (.cells #[.bool true, .bool false] 4)) := (KpB.refl K W).alloc _
  have hz1 : W.heap.size ≤ (W.alloc (.cells #[.bool true, .bool false] 4)).heap.size := by simp
  generalize hW1 : W.alloc (.cells #[.bool true, .bool false] 4) = W1 at *
  clear hW1 hG1
  gi_loopw [12] (fun va wr => ∃ a : Nat, a ≤ 2 ∧ va = .int .i64 a ∧ J (M.come p l Q (a * (p * l.length))) wr ∧ KpB K W wr ∧ wr.heap[W.heap.size]? = some (.cells #[.bool true, .bool false] 4 (0, 0)) ∧ W.heap.size ≤ wr.heap.size) (fun va _ => 2 - (intOf va).toNat)
  case atStart => exact ⟨0, by omega, rfl, by rw [Nat.zero_mul]; exact hJ1, hB1, gb, hz1⟩
  case round =>
    obtain ⟨a, ha, rfl, hJa, hBa, hga, hza⟩ := hrel
    have ea := hBa.cell bp cp
    by_cases hlt : a < 2
    · have hpl : wr.cell? ⟨W.heap.size, a, none⟩ = some (.bool (a == 0)) := by
        rw [cell_of_row wr W.heap.size a _ _ _ hga]
        rcases (show a = 0 ∨ a = 1 by omega) with rfl | rfl <;> rfl
      have hlt2 : (a : Int) < 2 := by omega
      gi_wp2
      generalize wr = wa at *
      gi_loopw [17] (fun vj wr => ∃ j : Nat, j ≤ p ∧ vj = .int .i64 j ∧ J (M.come p l Q (a * (p * l.length) + j * l.length)) wr ∧ KpB K W wr ∧ wr.heap[W.heap.size]? = some (.cells #[.bool true, .bool false] 4 (0, 0)) ∧ W.heap.size ≤ wr.heap.size) (fun vj _ => p - (intOf vj).toNat)
      case atStart => exact ⟨0, by omega, rfl, by rw [Nat.zero_mul]; exact hJa, hBa, hga, hza⟩
      case round =>
        clear hJa hBa hga hza ea hpl
        obtain ⟨j, hj, rfl, hJa, hBa, hga, hza⟩ := hrel
        have el := hBa.cell bl cl
        by_cases hjt : j < p
        · have hjt2 : (j : Int) < (p : Int) := by omega
          gi_wp2
          generalize wr = wb at *
          gi_loopw [22] (fun vi wr => ∃ q : Nat, q ≤ l.length ∧ vi = .int .i64 q ∧ J (M.come p l Q (a * (p * l.length) + (j * l.length + q))) wr ∧ KpB K W wr ∧ wr.heap[W.heap.size]? = some (.cells #[.bool true, .bool false] 4 (0, 0)) ∧ W.heap.size ≤ wr.heap.size) (fun vi _ => l.length - (intOf vi).toNat)
          case atStart => exact ⟨0, by omega, rfl, hJa, hBa, hga, hza⟩
          case round =>
            clear hJa hBa hga hza el
            obtain ⟨q, hq, rfl, hJa, hBa, hga, hza⟩ := hrel
            by_cases hqt : q < l.length
            · obtain ⟨g, x, rfl, hg, hx, hcell⟩ := hv.out q hqt
              have e0 : wr.cell? ⟨g, q * 2, none⟩ = some (.int .i64 x.1) := hBa.cell (bn g hg) (hcell 0 _ rfl)
              have e1 : wr.cell? ⟨g, q * 2 + 1, none⟩ = some (.int .i64 x.2) := hBa.cell (bn g hg) (hcell 1 _ rfl)
              have es : wr.cell? ⟨Bs, 0, none⟩ = some (.int .i64 Q) := hBa.cell bs cs
              have hxl := hl.out x (List.mem_of_getElem? hx.out)
              have hmul := M.mul_nn (x := (j : Int)) (y := Q) (m := 997) (n := 1000000000) (by omega) (by omega) hs0 hs
              have hlt9 : W.heap.size < wr.heap.size := (Array.getElem?_eq_some_iff.1 hga).1
              have hnext := M.come_next (s := Q) (M.tri_get (p := p) (l := l) hlt hjt hx.out)
              obtain ⟨u, v⟩ := x
              have hBn : ∀ o : Obj, Below wr.heap.size wr (wr.alloc o) := fun o => (Below.refl _ wr).alloc (Nat.le_refl _) o
              have es2 : ∀ o : Obj, (wr.alloc o).cell? ⟨Bs, 0, none⟩ = some (.int .i64 Q) := fun o => keepCell (hBn o) es
              have h00 : ((0 : Nat) == 0) = true := rfl
              have h10 : ((1 : Nat) == 0) = false := rfl
              simp only at e0 e1 hxl hnext
              rcases (show a = 0 ∨ a = 1 by omega) with rfl | rfl
              · by_cases hx2 : v = 1
                · subst hx2
                  have hn1 : M.come p l Q (0 * (p * l.length) + (j * l.length + q) + 1) = M.come p l Q (0 * (p * l.length) + (j * l.length + q)) ++ [(u + j * Q, 1)] := by rw [hnext]; simp [M.triF]
                  have hpr := hpre.out (0 * (p * l.length) + (j * l.length + q) + 1)
                  have hlen : (M.come p l Q (0 * (p * l.length) + (j * l.length + q))).length < C.length := by
                    have := hpr.length_le
                    rw [hn1, List.length_append, List.length_singleton] at this
                    exact this
                  obtain ⟨fn, tmps, assign, body, hy, hR⟩ := hY.out (M.come p l Q (0 * (p * l.length) + (j * l.length + q))) (u + j * Q, 1) (wr.alloc (.cells #[.int .i64 (u + j * Q), .int .i64 (1)] 103)) (hJ _ wr _ none hJa (World.grownBy_alloc wr _ none) (fun r e => by cases e)) hlen
                  dsimp only at hy
                  have hn2 := Lib.hid hn1
                  have hpr := Lib.hid hpr
                  clear hnext hn1 hlen
                  gi_wp2
                  refine hR.mono ?_
                  rintro e W3 (⟨rfl, hJ3, hk3⟩ | ⟨rfl, hJx3⟩)
                  · have hB3 := (hBa.alloc (.cells #[.int .i64 (u + j * Q), .int .i64 (1)] 103)).trans hk3
                    have hg3 := hk3.2.2 W.heap.size _ _ ((Below.heap_alloc _ _ _ hlt9).trans hga)
                    have hz3 : W.heap.size ≤ W3.heap.size := Nat.le_of_lt (Array.getElem?_eq_some_iff.1 hg3).1
                    gi_wp2
                    go_roundw
                    case rel => (repeat apply Exists.intro); exact ⟨⟨q + 1, by omega, by go_num, by rw [← hn2.out] at hJ3; exact hJ3, hB3, hg3, hz3⟩, rfl⟩
                    case measure => simp [intOf]; omega
                  · gi_wp2
                    refine bodyPost_ret (results_none rfl _ _ _) rfl ?_
                    exact ⟨⟨_, rfl⟩, .inr ⟨_, by rw [← hn2.out]; exact hpr.out, hJx3⟩⟩
                · have hx3 : (v == 1) = false := by simpa using hx2
                  have hn1 : M.come p l Q (0 * (p * l.length) + (j * l.length + q) + 1) = M.come p l Q (0 * (p * l.length) + (j * l.length + q)) := by rw [hnext]; simp [M.triF, hx2]
                  have hn2 := Lib.hid hn1
                  have hBn2 := Lib.hid hBn
                  clear hnext hn1 hBn
                  gi_wp2
                  go_roundw
                  case rel => exact ⟨q + 1, by omega, by go_num, by
                    have h_ := hJ _ wr _ none hJa (World.grownBy_alloc wr (.cells #[.int .i64 u, .int .i64 v] 103) none) (fun r e => by cases e)
                    rw [← hn2.out] at h_
                    exact h_, hBa.alloc _, (Below.heap_alloc _ _ _ hlt9).trans hga, by simp; omega⟩
                  case measure => simp [intOf]; omega
              · by_cases hx2 : v = 1
                · subst hx2
                  have hn1 : M.come p l Q (1 * (p * l.length) + (j * l.length + q) + 1) = M.come p l Q (1 * (p * l.length) + (j * l.length + q)) := by rw [hnext]; simp [M.triF]
                  have hn2 := Lib.hid hn1
                  have hBn2 := Lib.hid hBn
                  clear hnext hn1 hBn
                  gi_wp2
                  go_roundw
                  case rel => exact ⟨q + 1, by omega, by go_num, by
                    have h_ := hJ _ wr _ none hJa (World.grownBy_alloc wr (.cells #[.int .i64 u, .int .i64 1] 103) none) (fun r e => by cases e)
                    rw [← hn2.out] at h_
                    exact h_, hBa.alloc _, (Below.heap_alloc _ _ _ hlt9).trans hga, by simp; omega⟩
                  case measure => simp [intOf]; omega
                · have hx3 : (v == 1) = false := by simpa using hx2
                  have hn1 : M.come p l Q (1 * (p * l.length) + (j * l.length + q) + 1) = M.come p l Q (1 * (p * l.length) + (j * l.length + q)) ++ [(u, v + j * Q)] := by rw [hnext]; simp [M.triF, hx2]
                  have hpr := hpre.out (1 * (p * l.length) + (j * l.length + q) + 1)
                  have hlen : (M.come p l Q (1 * (p * l.length) + (j * l.length + q))).length < C.length := by
                    have := hpr.length_le
                    rw [hn1, List.length_append, List.length_singleton] at this
                    exact this
                  obtain ⟨fn, tmps, assign, body, hy, hR⟩ := hY.out (M.come p l Q (1 * (p * l.length) + (j * l.length + q))) (u, v + j * Q) (wr.alloc (.cells #[.int .i64 (u), .int .i64 (v + j * Q)] 103)) (hJ _ wr _ none hJa (World.grownBy_alloc wr _ none) (fun r e => by cases e)) hlen
                  dsimp only at hy
                  have hn2 := Lib.hid hn1
                  have hpr := Lib.hid hpr
                  clear hnext hn1 hlen
                  gi_wp2
                  refine hR.mono ?_
                  rintro e W3 (⟨rfl, hJ3, hk3⟩ | ⟨rfl, hJx3⟩)
                  · have hB3 := (hBa.alloc (.cells #[.int .i64 (u), .int .i64 (v + j * Q)] 103)).trans hk3
                    have hg3 := hk3.2.2 W.heap.size _ _ ((Below.heap_alloc _ _ _ hlt9).trans hga)
                    have hz3 : W.heap.size ≤ W3.heap.size := Nat.le_of_lt (Array.getElem?_eq_some_iff.1 hg3).1
                    gi_wp2
                    go_roundw
                    case rel => (repeat apply Exists.intro); exact ⟨⟨q + 1, by omega, by go_num, by rw [← hn2.out] at hJ3; exact hJ3, hB3, hg3, hz3⟩, rfl⟩
                    case measure => simp [intOf]; omega
                  · gi_wp2
                    refine bodyPost_ret (results_none rfl _ _ _) rfl ?_
                    exact ⟨⟨_, rfl⟩, .inr ⟨_, by rw [← hn2.out]; exact hpr.out, hJx3⟩⟩
            · obtain rfl : q = l.length := by omega
              have hjl : J (M.come p l Q (a * (p * l.length) + (j + 1) * l.length)) wr := by rw [Nat.add_mul, Nat.one_mul]; exact hJa
              have hqt2 : ¬ ((l.length : Int) < (l.length : Int)) := by omega
              gi_wp2
              go_roundw
              case rel => exact ⟨j + 1, by omega, by go_num, hjl, hBa, hga, hza⟩
              case measure => simp [intOf]; omega
        · obtain rfl : j = p := by omega
          have hjl : J (M.come j l Q ((a + 1) * (j * l.length))) wr := by rw [Nat.add_mul, Nat.one_mul]; exact hJa
          have hqt2 : ¬ ((j : Int) < (j : Int)) := by omega
          gi_wp2
          go_roundw
          case rel => exact ⟨a + 1, by omega, by go_num, hjl, hBa, hga, hza⟩
          case measure => simp [intOf]; omega
    · obtain rfl : a = 2 := by omega
      have hC := hall.out _ (Nat.le_refl _)
      rw [hC] at hJa
      gi_wp2
      go_end0
      exact ⟨⟨_, rfl⟩, .inl ⟨_, rfl, hJa⟩⟩
end Go.Proofs.YtgkjmjlkhnfbiaaGreat

namespace Go.Proofs.YtgkjmjlkhnfbiaaGreat
set_option linter.unusedSimpArgs false
set_option linter.unusedVariables false
open Go.RowKit
/-- the boxes behind the value -/
abbrev CandW (w : World) (D A C : Int) (lv : Value) (p : Nat) (s : Int) : World :=
  (((w.alloc (.cells #[.int .i64 D, .int .i64 A, .int .i64 C] 35)).alloc (.cells #[lv] 100)).alloc (.cells #[.int .i64 p] 3)).alloc (.cells #[.int .i64 s] 3)
theorem candidates_c (D A C : Int) (p i : Nat) (a : Option Addr) (ln cap : Nat) (w : World) (p1 : 1 ≤ p) (hb : M.ipow p i ≤ 1000000000) (hi : i ≤ 29) :
    Calls Tryz.prog 153 #[.agg #[.int .i64 D, .int .i64 A, .int .i64 C], .slice a ln cap, .int .i64 p, .int .i64 ((i : Int) + 1)] w fun e w' =>
      e = .returned (.func (.func 170) #[] #[.pointer (some ⟨w.heap.size + 2, 0, none⟩), .pointer (some ⟨w.heap.size + 1, 0, none⟩), .pointer (some ⟨w.heap.size + 3, 0, none⟩)]) ∧ CandW w D A C (.slice a ln cap) p (M.ipow p i) = w' := by
  have PW := fun W => intPowerB_c (p : Int) i W (by omega) (by omega) (by omega)
  have h1 : (i : Int) + 1 - 1 = (i : Int) := by omega
  have PW := Lib.hid PW
  go_enter Tryz.func153, Tryz.ntmps153
  go_wp2_with (go_at_call 149; (with_reducible refine (PW.out _).mono ?_); rintro e w' ⟨rfl, rfl⟩)
  go_ret
  exact ⟨by simp, rfl⟩
/-- which blocks a round keeps -/
def KeepC (n₀ B : Nat) (i : Nat) : Prop := i < n₀ ∨ i = B + 1 ∨ i = B + 2 ∨ i = B + 3
theorem cand_stops (n : Nat) (hn : 1 ≤ n) (n₀ B p i : Nat) (l : List (Int × Int)) (lv : Value) (hp : p ≤ 997) (hs : M.ipow p i ≤ 1000000000) (hs0 : 0 ≤ M.ipow p i) (hl : ∀ x ∈ l, (0 ≤ x.1 ∧ x.1 ≤ 1000000000) ∧ (0 ≤ x.2 ∧ x.2 ≤ 1000000000))
    (w : World) (hn₀ : n₀ ≤ w.heap.size) (hB : B + 3 < w.heap.size) (cl : w.cell? ⟨B + 1, 0, none⟩ = some lv) (cp : w.cell? ⟨B + 2, 0, none⟩ = some (.int .i64 p)) (cs : w.cell? ⟨B + 3, 0, none⟩ = some (.int .i64 (M.ipow p i)))
    (hseen : Rw.Seen EP w n₀ lv l) :
    SeqStopsK Fence.wide n Tryz.prog 170 #[.pointer (some ⟨B + 2, 0, none⟩), .pointer (some ⟨B + 1, 0, none⟩), .pointer (some ⟨B + 3, 0, none⟩)] (fun x : Int × Int => #[.agg #[.int .i64 x.1, .int .i64 x.2]]) (KpB (KeepC n₀ B))
      (fun xs => xs = M.cands p l i) (fun pre => pre <+: M.cands p l i) (M.cands p l i).length w := fun lr J Jx W hW hJ _ hY h0 =>
  cand_in (KeepC n₀ B) n hn lr (B + 2) (B + 1) (B + 3) n₀ p i l lv hp hs hs0 hl J Jx W hJ hY ((hW.cell (p := ⟨B + 2, 0, none⟩) (by show B + 2 < _; omega)).trans cp) ((hW.cell (p := ⟨B + 1, 0, none⟩) (by show B + 1 < _; omega)).trans cl)
    ((hW.cell (p := ⟨B + 3, 0, none⟩) (by show B + 3 < _; omega)).trans cs) (Or.inr (Or.inr (Or.inl rfl))) (Or.inr (Or.inl rfl)) (Or.inr (Or.inr (Or.inr rfl))) (fun b hb => Or.inl hb) (hseen.below (hW.mono hn₀)) h0
end Go.Proofs.YtgkjmjlkhnfbiaaGreat

namespace Go.Proofs.YtgkjmjlkhnfbiaaGreat
set_option linter.unusedSimpArgs false
set_option linter.unusedVariables false
open Go.RowKit
theorem M.mod2 {x y z n : Int} (h : x + y = z) : (x % n + y % n) % n = z % n := by rw [← h]; exact (Int.add_emod x y n).symm
/-- the boxes of the function -/
abbrev LiftW (w : World) (D A C p : Int) (k : Nat) : World := ((w.alloc (.cells #[.int .i64 D, .int .i64 A, .int .i64 C] 35)).alloc (.cells #[.int .i64 p] 3)).alloc (.cells #[.int .i64 k] 3)
theorem lift_cells (w : World) (D A C p : Int) (k : Nat) : (LiftW w D A C p k).heap.size = w.heap.size + 3 ∧ (LiftW w D A C p k).cell? ⟨w.heap.size, 0, none⟩ = some (.int .i64 D) ∧ (LiftW w D A C p k).cell? ⟨w.heap.size, 1, none⟩ = some (.int .i64 A) ∧ (LiftW w D A C p k).cell? ⟨w.heap.size, 2, none⟩ = some (.int .i64 C) ∧
    (LiftW w D A C p k).cell? ⟨w.heap.size + 1, 0, none⟩ = some (.int .i64 p) ∧ (LiftW w D A C p k).cell? ⟨w.heap.size + 2, 0, none⟩ = some (.int .i64 k) := ⟨by simp, by simp [go_sem], by simp [go_sem], by simp [go_sem], by simp [go_sem], by simp [go_sem]⟩
set_option maxRecDepth 100000 in
set_option maxHeartbeats 4000000 in
theorem lifts_c (D A C m e p : Int) (k : Nat) (w : World) (hp : 2 ≤ p) (hp2 : p ≤ 1000) (hk : M.ipow p k ≤ 1000000000) (hk2 : k ≤ 29) (hk1 : 1 ≤ k) :
    Calls Tryz.prog 131 #[.agg #[.int .i64 D, .int .i64 A, .int .i64 C], .int .i64 m, .int .i64 e, .int .i64 p, .int .i64 k] w fun e' w' => e' = .returned (.bool (M.lift D A C m e p k)) ∧ Below w.heap.size w w' := by
  have n1 := M.ipow_pos (show 1 ≤ p by omega) k
  have PP := fun W => possible_c D A C m e p k W hp hp2 hk hk2 hk1
  have P1 := fun W => intPowerB_c p k W (by omega) (by omega) (by omega)
  have P2 := fun W => valueModulo_c D A C m e (M.ipow p k) W n1 (by omega)
  unfold M.lift
  obtain ⟨hsz, c0, c1, c2, c3, c4⟩ := lift_cells w D A C p k
  cases hps : M.poss D A C m e p k
  · rw [hps] at PP
    have PP := Lib.hid PP
    rw [Bool.false_and]
    go_enter Tryz.func131, Tryz.ntmps131
    go_wp2_with (go_at_call 148; (with_reducible refine (PP.out _).mono ?_); rintro e_ w2 ⟨rfl, hb⟩)
    go_ret
    exact ⟨rfl, by have h_ := hb; exact (by repeat (first | exact Below.refl _ _ | refine below_alloc ?_ _ | refine below_step ?_ (by assumption) | refine Below.drew ?_ | refine Below.setCell ?_ (by first | exact Nat.le_refl _ | exact Nat.le_add_right _ _ | (simp <;> omega)) _ | refine below_drewN ?_ _))⟩
  rw [hps] at PP
  rw [Bool.true_and]
  have hq : ∀ x : Int, 0 ≤ x % M.ipow p k ∧ x % M.ipow p k ≤ 999999999 := fun x => ⟨Int.emod_nonneg x (by omega), by have := Int.emod_lt_of_pos x (show 0 < M.ipow p k by omega); omega⟩
  have PC := fun (x bn bk bp : Int) (hx : 0 ≤ x) => hx
  have v0 := hq (M.qval D A C m e)
  have v1 : M.qval D A C m e % M.ipow p k < M.ipow p k := Int.emod_lt_of_pos _ (by omega)
  have y0 := hq (M.byM D A m e)
  have y1 := hq (M.byE A C m e)
  have s1 : (M.prod [4, D, m, m, m] % M.ipow p k + M.prod [2, A, m, e, e] % M.ipow p k) % M.ipow p k = M.byM D A m e % M.ipow p k := M.mod2 (by simp [M.prod, M.byM]; grind)
  have s2 : (M.prod [2, A, m, m, e] % M.ipow p k + M.prod [4, C, e, e, e] % M.ipow p k) % M.ipow p k = M.byE A C m e % M.ipow p k := M.mod2 (by simp [M.prod, M.byE]; grind)
  have q1 := hq (M.prod [4, D, m, m, m])
  have q2 := hq (M.prod [2, A, m, e, e])
  have q3 := hq (M.prod [2, A, m, m, e])
  have q4 := hq (M.prod [4, C, e, e, e])
  have T1 := fun b W hc => times_c b [4, D, m, m, m] 5 (M.ipow p k) W n1 hk rfl (by simp) hc
  have T2 := fun b W hc => times_c b [2, A, m, e, e] 5 (M.ipow p k) W n1 hk rfl (by simp) hc
  have T3 := fun b W hc => times_c b [2, A, m, m, e] 5 (M.ipow p k) W n1 hk rfl (by simp) hc
  have T4 := fun b W hc => times_c b [4, C, e, e, e] 5 (M.ipow p k) W n1 hk rfl (by simp) hc
  generalize M.prod [4, D, m, m, m] % M.ipow p k = p1 at *
  generalize M.prod [2, A, m, e, e] % M.ipow p k = p2 at *
  generalize M.prod [2, A, m, m, e] % M.ipow p k = p3 at *
  generalize M.prod [4, C, e, e, e] % M.ipow p k = p4 at *
  generalize hxv : M.qval D A C m e % M.ipow p k = xv at *
  clear hxv
  have o1 : 0 ≤ M.ofn (M.byM D A m e % M.ipow p k) p k ∧ M.ofn (M.byM D A m e % M.ipow p k) p k ≤ k := by
    unfold M.ofn
    split
    · omega
    · rename_i h
      have := M.valn_res hp h y0.1 (Int.emod_lt_of_pos _ (by omega))
      omega
  have o2 : 0 ≤ M.ofn (M.byE A C m e % M.ipow p k) p k ∧ M.ofn (M.byE A C m e % M.ipow p k) p k ≤ k := by
    unfold M.ofn
    split
    · omega
    · rename_i h
      have := M.valn_res hp h y1.1 (Int.emod_lt_of_pos _ (by omega))
      omega
  have C1 := fun bn bk bp W => capped_c (p1 + p2) (M.ipow p k) p k bn bk bp W (by omega) hp n1 hk
  have C2 := fun bn bk bp W => capped_c (p3 + p4) (M.ipow p k) p k bn bk bp W (by omega) hp n1 hk
  rw [s1] at C1
  rw [s2] at C2
  unfold M.lw
  generalize M.ofn (M.byM D A m e % M.ipow p k) p k = a1 at *
  generalize M.ofn (M.byE A C m e % M.ipow p k) p k = a2 at *
  have hvn : xv ≠ 0 → 0 ≤ M.valn xv p ∧ M.valn xv p < k := fun h => by
    have := M.valn_res hp h v0.1 v1
    omega
  have P4 := fun (h : xv ≠ 0) W => valuation_c xv p W h hp (by omega) (by omega)
  generalize M.valn xv p = vv at *
  obtain ⟨res, hres⟩ : ∃ res, decide (2 * (if xv = 0 then min a1 a2 else min (min a1 a2) (vv / 2 + if p = 2 then 1 else 0)) + 1 ≤ (k : Int)) = res := ⟨_, rfl⟩
  rw [hres]
  have HR := Lib.hid hres
  clear hres
  generalize hN : M.ipow p k = n at *
  have H1 := Lib.hid T1
  have H2 := Lib.hid T2
  have H3 := Lib.hid T3
  have H4 := Lib.hid T4
  have PP := Lib.hid PP
  have P1 := Lib.hid P1
  have P2 := Lib.hid P2
  have C1 := Lib.hid C1
  have C2 := Lib.hid C2
  have P4 := Lib.hid P4
  have hvn := Lib.hid hvn
  clear T1 T2 T3 T4 PC s1 s2 hq y0 y1 hN hps hk
  go_enter Tryz.func131, Tryz.ntmps131
  go_upto_region 6 with (first | (go_at_call 148; (with_reducible refine (PP.out _).mono ?_); rintro e_ w2 ⟨rfl, hb⟩; (have hbz := hb.size); (have d0 := keepCell hb c0); (have d1 := keepCell hb c1); (have d2 := keepCell hb c2); (have d3 := keepCell hb c3); (have d4 := keepCell hb c4)) | (go_at_call 149; (with_reducible refine (P1.out _).mono ?_); rintro e_ w3 ⟨rfl, rfl⟩))
  have hbw : Below w.heap.size w (w2.alloc (.cells #[.int .i64 n] 3)) := by have h_ := hb; exact (by repeat (first | exact Below.refl _ _ | refine below_alloc ?_ _ | refine below_step ?_ (by assumption) | refine Below.drew ?_ | refine Below.setCell ?_ (by first | exact Nat.le_refl _ | exact Nat.le_add_right _ _ | (simp <;> omega)) _ | refine below_drewN ?_ _))
  have gn : (w2.alloc (.cells #[.int .i64 n] 3)).cell? ⟨w2.heap.size, 0, none⟩ = some (.int .i64 n) := by simp [go_sem]
  have hba : Below w2.heap.size w2 (w2.alloc (.cells #[.int .i64 n] 3)) := (Below.refl _ _).alloc (Nat.le_refl _) _
  replace d0 := keepCell hba d0
  replace d1 := keepCell hba d1
  replace d2 := keepCell hba d2
  replace d3 := keepCell hba d3
  replace d4 := keepCell hba d4
  clear hba hb PP P1 c0 c1 c2 c3 c4
  generalize hgb : w2.heap.size = bn at *
  clear hgb
  generalize w2.alloc (.cells #[.int .i64 n] 3) = w4 at *
  refine Rg.walk [.is (.func (.func 150) #[] #[.pointer (some ⟨bn, 0, none⟩), .pointer (some ⟨w.heap.size + 2, 0, none⟩), .pointer (some ⟨w.heap.size + 1, 0, none⟩)]), .is (.int .i64 n), .is (.pointer (some ⟨w.heap.size, 0, none⟩)), .is (.int .i64 D), .is (.int .i64 m), .is (.int .i64 m), .is (.int .i64 m), .lit [4, D, m, m, m], .is (.int .i64 p1), .is (.int .i64 n), .is (.pointer (some ⟨w.heap.size, 1, none⟩)), .is (.int .i64 A), .is (.int .i64 m), .is (.int .i64 e), .is (.int .i64 e), .lit [2, A, m, e, e], .is (.int .i64 p2), .is (.int .i64 (p1 + p2)), .is (.int .i64 a1), .is (.func (.func 150) #[] #[.pointer (some ⟨bn, 0, none⟩), .pointer (some ⟨w.heap.size + 2, 0, none⟩), .pointer (some ⟨w.heap.size + 1, 0, none⟩)]), .is (.int .i64 n), .is (.pointer (some ⟨w.heap.size, 1, none⟩)), .is (.int .i64 A), .is (.int .i64 m), .is (.int .i64 m), .is (.int .i64 e), .lit [2, A, m, m, e], .is (.int .i64 p3), .is (.int .i64 n), .is (.pointer (some ⟨w.heap.size, 2, none⟩)), .is (.int .i64 C), .is (.int .i64 e), .is (.int .i64 e), .is (.int .i64 e), .lit [4, C, e, e, e], .is (.int .i64 p4), .is (.int .i64 (p3 + p4)), .is (.int .i64 a2), .is (.int .i64 (min a1 a2)), .is (.int .i64 (min a1 a2))] (by kernel_rfl) (by kernel_rfl) ⟨?_, ?_, ?_, ?_, ?_, ?_, ?_, ?_, ?_, ?_, ?_, ?_, ?_, ?_, ?_, ?_, ?_, ?_, ?_, ?_, ?_, ?_, ?_, ?_, ?_, ?_, ?_, ?_, ?_, ?_, ?_, ?_, ?_, ?_, ?_, ?_, ?_, ?_, ?_, ?_, trivial⟩ ?_
  · intro a w_ hB hr
    have e13 : a.tmps[13]? = some (.func (.func 150) #[] #[.pointer (some ⟨bn, 0, none⟩), .pointer (some ⟨w.heap.size + 2, 0, none⟩), .pointer (some ⟨w.heap.size + 1, 0, none⟩)]) := hr 13 (by decide)
    exact Rg.pure1 rfl (by first | (go_simp; done) | (go_simp; exact Rg.wr (by omega) (by omega)))
  · intro a w_ hB hr
    have e12 : a.tmps[12]? = some (.int .i64 n) := hr 12 (by decide)
    exact Rg.pure1 rfl (by first | (go_simp; done) | (go_simp; exact Rg.wr (by omega) (by omega)))
  · intro a w_ hB hr
    have e5 : a.tmps[5]? = some (.pointer (some ⟨w.heap.size, 0, none⟩)) := hr 5 (by decide)
    exact Rg.pure1 rfl (by first | (go_simp; done) | (go_simp; exact Rg.wr (by omega) (by omega)))
  · intro a w_ hB hr
    have e31 : a.tmps[31]? = some (.pointer (some ⟨w.heap.size, 0, none⟩)) := Rg.ev1 (hr 31 (by decide))
    have k0 := keepCell hB d0
    exact Rg.pure1 rfl (by first | (go_simp; done) | (go_simp; exact Rg.wr (by omega) (by omega)))
  · intro a w_ hB hr
    have e1 : a.tmps[1]? = some (.int .i64 m) := hr 1 (by decide)
    exact Rg.pure1 rfl (by first | (go_simp; done) | (go_simp; exact Rg.wr (by omega) (by omega)))
  · intro a w_ hB hr
    have e1 : a.tmps[1]? = some (.int .i64 m) := hr 1 (by decide)
    exact Rg.pure1 rfl (by first | (go_simp; done) | (go_simp; exact Rg.wr (by omega) (by omega)))
  · intro a w_ hB hr
    have e1 : a.tmps[1]? = some (.int .i64 m) := hr 1 (by decide)
    exact Rg.pure1 rfl (by first | (go_simp; done) | (go_simp; exact Rg.wr (by omega) (by omega)))
  · intro a w_ hB hr
    have e32 : a.tmps[32]? = some (.int .i64 D) := Rg.ev1 (hr 32 (by decide))
    have e33 : a.tmps[33]? = some (.int .i64 m) := Rg.ev1 (hr 33 (by decide))
    have e34 : a.tmps[34]? = some (.int .i64 m) := Rg.ev1 (hr 34 (by decide))
    have e35 : a.tmps[35]? = some (.int .i64 m) := Rg.ev1 (hr 35 (by decide))
    have ec : ∀ v, a.eval (.const v) = v := fun _ => rfl
    refine Rg.lay1 rfl (by first | (go_simp; done) | (go_simp; rfl)) ⟨w_.heap.size, rfl, by simp, lit_cells w_ 3 _⟩
  · intro a w_ hB hr
    have e30 : a.tmps[30]? = some (.int .i64 n) := Rg.ev1 (hr 30 (by decide))
    obtain ⟨_, g36, b36, rfl, l36, c36⟩ : ∃ v, a.tmps[36]? = some v ∧ Rg.LitOk v [4, D, m, m, m] w_ := hr 36 (by decide)
    have e36 := g36
    have ef : ∀ f, a.eval (.func f) = .func (.func f) #[] #[] := fun _ => rfl
    refine Rg.call1 rfl (by go_simp; exact ⟨rfl, rfl⟩) ?_
    refine (H1.out b36 _ c36).mono ?_
    rintro _ _ ⟨rfl, rfl⟩
    exact ⟨_, rfl, rfl, Below.refl _ _⟩
  · intro a w_ hB hr
    have e12 : a.tmps[12]? = some (.int .i64 n) := hr 12 (by decide)
    exact Rg.pure1 rfl (by first | (go_simp; done) | (go_simp; exact Rg.wr (by omega) (by omega)))
  · intro a w_ hB hr
    have e5 : a.tmps[5]? = some (.pointer (some ⟨w.heap.size, 0, none⟩)) := hr 5 (by decide)
    exact Rg.pure1 rfl (by first | (go_simp; done) | (go_simp; exact Rg.wr (by omega) (by omega)))
  · intro a w_ hB hr
    have e39 : a.tmps[39]? = some (.pointer (some ⟨w.heap.size, 1, none⟩)) := Rg.ev1 (hr 39 (by decide))
    have k0 := keepCell hB d1
    exact Rg.pure1 rfl (by first | (go_simp; done) | (go_simp; exact Rg.wr (by omega) (by omega)))
  · intro a w_ hB hr
    have e1 : a.tmps[1]? = some (.int .i64 m) := hr 1 (by decide)
    exact Rg.pure1 rfl (by first | (go_simp; done) | (go_simp; exact Rg.wr (by omega) (by omega)))
  · intro a w_ hB hr
    have e2 : a.tmps[2]? = some (.int .i64 e) := hr 2 (by decide)
    exact Rg.pure1 rfl (by first | (go_simp; done) | (go_simp; exact Rg.wr (by omega) (by omega)))
  · intro a w_ hB hr
    have e2 : a.tmps[2]? = some (.int .i64 e) := hr 2 (by decide)
    exact Rg.pure1 rfl (by first | (go_simp; done) | (go_simp; exact Rg.wr (by omega) (by omega)))
  · intro a w_ hB hr
    have e40 : a.tmps[40]? = some (.int .i64 A) := Rg.ev1 (hr 40 (by decide))
    have e41 : a.tmps[41]? = some (.int .i64 m) := Rg.ev1 (hr 41 (by decide))
    have e42 : a.tmps[42]? = some (.int .i64 e) := Rg.ev1 (hr 42 (by decide))
    have e43 : a.tmps[43]? = some (.int .i64 e) := Rg.ev1 (hr 43 (by decide))
    have ec : ∀ v, a.eval (.const v) = v := fun _ => rfl
    refine Rg.lay1 rfl (by first | (go_simp; done) | (go_simp; rfl)) ⟨w_.heap.size, rfl, by simp, lit_cells w_ 3 _⟩
  · intro a w_ hB hr
    have e38 : a.tmps[38]? = some (.int .i64 n) := Rg.ev1 (hr 38 (by decide))
    obtain ⟨_, g44, b44, rfl, l44, c44⟩ : ∃ v, a.tmps[44]? = some v ∧ Rg.LitOk v [2, A, m, e, e] w_ := hr 44 (by decide)
    have e44 := g44
    have ef : ∀ f, a.eval (.func f) = .func (.func f) #[] #[] := fun _ => rfl
    refine Rg.call1 rfl (by go_simp; exact ⟨rfl, rfl⟩) ?_
    refine (H2.out b44 _ c44).mono ?_
    rintro _ _ ⟨rfl, rfl⟩
    exact ⟨_, rfl, rfl, Below.refl _ _⟩
  · intro a w_ hB hr
    have e37 : a.tmps[37]? = some (.int .i64 p1) := Rg.ev1 (hr 37 (by decide))
    have e45 : a.tmps[45]? = some (.int .i64 p2) := Rg.ev1 (hr 45 (by decide))
    exact Rg.pure1 rfl (by first | (go_simp; done) | (go_simp; exact Rg.wr (by omega) (by omega)))
  · intro a w_ hB hr
    have e29 : a.tmps[29]? = some (.func (.func 150) #[] #[.pointer (some ⟨bn, 0, none⟩), .pointer (some ⟨w.heap.size + 2, 0, none⟩), .pointer (some ⟨w.heap.size + 1, 0, none⟩)]) := Rg.ev1 (hr 29 (by decide))
    have e46 : a.tmps[46]? = some (.int .i64 (p1 + p2)) := Rg.ev1 (hr 46 (by decide))
    refine Rg.call1 rfl (by go_simp; exact ⟨rfl, rfl⟩) ?_
    refine (C1.out _ _ _ _ (keepCell hB gn) (keepCell hB d4) (keepCell hB d3)).mono ?_
    rintro _ _ ⟨rfl, hb_⟩
    exact ⟨_, rfl, rfl, hb_⟩
  · intro a w_ hB hr
    have e13 : a.tmps[13]? = some (.func (.func 150) #[] #[.pointer (some ⟨bn, 0, none⟩), .pointer (some ⟨w.heap.size + 2, 0, none⟩), .pointer (some ⟨w.heap.size + 1, 0, none⟩)]) := hr 13 (by decide)
    exact Rg.pure1 rfl (by first | (go_simp; done) | (go_simp; exact Rg.wr (by omega) (by omega)))
  · intro a w_ hB hr
    have e12 : a.tmps[12]? = some (.int .i64 n) := hr 12 (by decide)
    exact Rg.pure1 rfl (by first | (go_simp; done) | (go_simp; exact Rg.wr (by omega) (by omega)))
  · intro a w_ hB hr
    have e5 : a.tmps[5]? = some (.pointer (some ⟨w.heap.size, 0, none⟩)) := hr 5 (by decide)
    exact Rg.pure1 rfl (by first | (go_simp; done) | (go_simp; exact Rg.wr (by omega) (by omega)))
  · intro a w_ hB hr
    have e50 : a.tmps[50]? = some (.pointer (some ⟨w.heap.size, 1, none⟩)) := Rg.ev1 (hr 50 (by decide))
    have k0 := keepCell hB d1
    exact Rg.pure1 rfl (by first | (go_simp; done) | (go_simp; exact Rg.wr (by omega) (by omega)))
  · intro a w_ hB hr
    have e1 : a.tmps[1]? = some (.int .i64 m) := hr 1 (by decide)
    exact Rg.pure1 rfl (by first | (go_simp; done) | (go_simp; exact Rg.wr (by omega) (by omega)))
  · intro a w_ hB hr
    have e1 : a.tmps[1]? = some (.int .i64 m) := hr 1 (by decide)
    exact Rg.pure1 rfl (by first | (go_simp; done) | (go_simp; exact Rg.wr (by omega) (by omega)))
  · intro a w_ hB hr
    have e2 : a.tmps[2]? = some (.int .i64 e) := hr 2 (by decide)
    exact Rg.pure1 rfl (by first | (go_simp; done) | (go_simp; exact Rg.wr (by omega) (by omega)))
  · intro a w_ hB hr
    have e51 : a.tmps[51]? = some (.int .i64 A) := Rg.ev1 (hr 51 (by decide))
    have e52 : a.tmps[52]? = some (.int .i64 m) := Rg.ev1 (hr 52 (by decide))
    have e53 : a.tmps[53]? = some (.int .i64 m) := Rg.ev1 (hr 53 (by decide))
    have e54 : a.tmps[54]? = some (.int .i64 e) := Rg.ev1 (hr 54 (by decide))
    have ec : ∀ v, a.eval (.const v) = v := fun _ => rfl
    refine Rg.lay1 rfl (by first | (go_simp; done) | (go_simp; rfl)) ⟨w_.heap.size, rfl, by simp, lit_cells w_ 3 _⟩
  · intro a w_ hB hr
    have e49 : a.tmps[49]? = some (.int .i64 n) := Rg.ev1 (hr 49 (by decide))
    obtain ⟨_, g55, b55, rfl, l55, c55⟩ : ∃ v, a.tmps[55]? = some v ∧ Rg.LitOk v [2, A, m, m, e] w_ := hr 55 (by decide)
    have e55 := g55
    have ef : ∀ f, a.eval (.func f) = .func (.func f) #[] #[] := fun _ => rfl
    refine Rg.call1 rfl (by go_simp; exact ⟨rfl, rfl⟩) ?_
    refine (H3.out b55 _ c55).mono ?_
    rintro _ _ ⟨rfl, rfl⟩
    exact ⟨_, rfl, rfl, Below.refl _ _⟩
  · intro a w_ hB hr
    have e12 : a.tmps[12]? = some (.int .i64 n) := hr 12 (by decide)
    exact Rg.pure1 rfl (by first | (go_simp; done) | (go_simp; exact Rg.wr (by omega) (by omega)))
  · intro a w_ hB hr
    have e5 : a.tmps[5]? = some (.pointer (some ⟨w.heap.size, 0, none⟩)) := hr 5 (by decide)
    exact Rg.pure1 rfl (by first | (go_simp; done) | (go_simp; exact Rg.wr (by omega) (by omega)))
  · intro a w_ hB hr
    have e58 : a.tmps[58]? = some (.pointer (some ⟨w.heap.size, 2, none⟩)) := Rg.ev1 (hr 58 (by decide))
    have k0 := keepCell hB d2
    exact Rg.pure1 rfl (by first | (go_simp; done) | (go_simp; exact Rg.wr (by omega) (by omega)))
  · intro a w_ hB hr
    have e2 : a.tmps[2]? = some (.int .i64 e) := hr 2 (by decide)
    exact Rg.pure1 rfl (by first | (go_simp; done) | (go_simp; exact Rg.wr (by omega) (by omega)))
  · intro a w_ hB hr
    have e2 : a.tmps[2]? = some (.int .i64 e) := hr 2 (by decide)
    exact Rg.pure1 rfl (by first | (go_simp; done) | (go_simp; exact Rg.wr (by omega) (by omega)))
  · intro a w_ hB hr
    have e2 : a.tmps[2]? = some (.int .i64 e) := hr 2 (by decide)
    exact Rg.pure1 rfl (by first | (go_simp; done) | (go_simp; exact Rg.wr (by omega) (by omega)))
  · intro a w_ hB hr
    have e59 : a.tmps[59]? = some (.int .i64 C) := Rg.ev1 (hr 59 (by decide))
    have e60 : a.tmps[60]? = some (.int .i64 e) := Rg.ev1 (hr 60 (by decide))
    have e61 : a.tmps[61]? = some (.int .i64 e) := Rg.ev1 (hr 61 (by decide))
    have e62 : a.tmps[62]? = some (.int .i64 e) := Rg.ev1 (hr 62 (by decide))
    have ec : ∀ v, a.eval (.const v) = v := fun _ => rfl
    refine Rg.lay1 rfl (by first | (go_simp; done) | (go_simp; rfl)) ⟨w_.heap.size, rfl, by simp, lit_cells w_ 3 _⟩
  · intro a w_ hB hr
    have e57 : a.tmps[57]? = some (.int .i64 n) := Rg.ev1 (hr 57 (by decide))
    obtain ⟨_, g63, b63, rfl, l63, c63⟩ : ∃ v, a.tmps[63]? = some v ∧ Rg.LitOk v [4, C, e, e, e] w_ := hr 63 (by decide)
    have e63 := g63
    have ef : ∀ f, a.eval (.func f) = .func (.func f) #[] #[] := fun _ => rfl
    refine Rg.call1 rfl (by go_simp; exact ⟨rfl, rfl⟩) ?_
    refine (H4.out b63 _ c63).mono ?_
    rintro _ _ ⟨rfl, rfl⟩
    exact ⟨_, rfl, rfl, Below.refl _ _⟩
  · intro a w_ hB hr
    have e56 : a.tmps[56]? = some (.int .i64 p3) := Rg.ev1 (hr 56 (by decide))
    have e64 : a.tmps[64]? = some (.int .i64 p4) := Rg.ev1 (hr 64 (by decide))
    exact Rg.pure1 rfl (by first | (go_simp; done) | (go_simp; exact Rg.wr (by omega) (by omega)))
  · intro a w_ hB hr
    have e48 : a.tmps[48]? = some (.func (.func 150) #[] #[.pointer (some ⟨bn, 0, none⟩), .pointer (some ⟨w.heap.size + 2, 0, none⟩), .pointer (some ⟨w.heap.size + 1, 0, none⟩)]) := Rg.ev1 (hr 48 (by decide))
    have e65 : a.tmps[65]? = some (.int .i64 (p3 + p4)) := Rg.ev1 (hr 65 (by decide))
    refine Rg.call1 rfl (by go_simp; exact ⟨rfl, rfl⟩) ?_
    refine (C2.out _ _ _ _ (keepCell hB gn) (keepCell hB d4) (keepCell hB d3)).mono ?_
    rintro _ _ ⟨rfl, hb_⟩
    exact ⟨_, rfl, rfl, hb_⟩
  · intro a w_ hB hr
    have e47 : a.tmps[47]? = some (.int .i64 a1) := Rg.ev1 (hr 47 (by decide))
    have e66 : a.tmps[66]? = some (.int .i64 a2) := Rg.ev1 (hr 66 (by decide))
    exact Rg.pure1 rfl (by go_simp; split <;> omega)
  · intro a w_ hB hr
    have e67 : a.tmps[67]? = some (.int .i64 (min a1 a2)) := Rg.ev1 (hr 67 (by decide))
    exact Rg.pure1 rfl (by first | (go_simp; done) | (go_simp; exact Rg.wr (by omega) (by omega)))
  · intro vals wz hB hv
    have v0 : vals 0 = .func (.func 150) #[] #[.pointer (some ⟨bn, 0, none⟩), .pointer (some ⟨w.heap.size + 2, 0, none⟩), .pointer (some ⟨w.heap.size + 1, 0, none⟩)] := hv 0 (by decide)
    have v1 : vals 1 = .int .i64 n := hv 1 (by decide)
    have v2 : vals 2 = .pointer (some ⟨w.heap.size, 0, none⟩) := hv 2 (by decide)
    have v3 : vals 3 = .int .i64 D := hv 3 (by decide)
    have v4 : vals 4 = .int .i64 m := hv 4 (by decide)
    have v5 : vals 5 = .int .i64 m := hv 5 (by decide)
    have v6 : vals 6 = .int .i64 m := hv 6 (by decide)
    obtain ⟨y7, v7, -, -⟩ : Rg.LitOk (vals 7) [4, D, m, m, m] wz := hv 7 (by decide)
    have v8 : vals 8 = .int .i64 p1 := hv 8 (by decide)
    have v9 : vals 9 = .int .i64 n := hv 9 (by decide)
    have v10 : vals 10 = .pointer (some ⟨w.heap.size, 1, none⟩) := hv 10 (by decide)
    have v11 : vals 11 = .int .i64 A := hv 11 (by decide)
    have v12 : vals 12 = .int .i64 m := hv 12 (by decide)
    have v13 : vals 13 = .int .i64 e := hv 13 (by decide)
    have v14 : vals 14 = .int .i64 e := hv 14 (by decide)
    obtain ⟨y15, v15, -, -⟩ : Rg.LitOk (vals 15) [2, A, m, e, e] wz := hv 15 (by decide)
    have v16 : vals 16 = .int .i64 p2 := hv 16 (by decide)
    have v17 : vals 17 = .int .i64 (p1 + p2) := hv 17 (by decide)
    have v18 : vals 18 = .int .i64 a1 := hv 18 (by decide)
    have v19 : vals 19 = .func (.func 150) #[] #[.pointer (some ⟨bn, 0, none⟩), .pointer (some ⟨w.heap.size + 2, 0, none⟩), .pointer (some ⟨w.heap.size + 1, 0, none⟩)] := hv 19 (by decide)
    have v20 : vals 20 = .int .i64 n := hv 20 (by decide)
    have v21 : vals 21 = .pointer (some ⟨w.heap.size, 1, none⟩) := hv 21 (by decide)
    have v22 : vals 22 = .int .i64 A := hv 22 (by decide)
    have v23 : vals 23 = .int .i64 m := hv 23 (by decide)
    have v24 : vals 24 = .int .i64 m := hv 24 (by decide)
    have v25 : vals 25 = .int .i64 e := hv 25 (by decide)
    obtain ⟨y26, v26, -, -⟩ : Rg.LitOk (vals 26) [2, A, m, m, e] wz := hv 26 (by decide)
    have v27 : vals 27 = .int .i64 p3 := hv 27 (by decide)
    have v28 : vals 28 = .int .i64 n := hv 28 (by decide)
    have v29 : vals 29 = .pointer (some ⟨w.heap.size, 2, none⟩) := hv 29 (by decide)
    have v30 : vals 30 = .int .i64 C := hv 30 (by decide)
    have v31 : vals 31 = .int .i64 e := hv 31 (by decide)
    have v32 : vals 32 = .int .i64 e := hv 32 (by decide)
    have v33 : vals 33 = .int .i64 e := hv 33 (by decide)
    obtain ⟨y34, v34, -, -⟩ : Rg.LitOk (vals 34) [4, C, e, e, e] wz := hv 34 (by decide)
    have v35 : vals 35 = .int .i64 p4 := hv 35 (by decide)
    have v36 : vals 36 = .int .i64 (p3 + p4) := hv 36 (by decide)
    have v37 : vals 37 = .int .i64 a2 := hv 37 (by decide)
    have v38 : vals 38 = .int .i64 (min a1 a2) := hv 38 (by decide)
    have v39 : vals 39 = .int .i64 (min a1 a2) := hv 39 (by decide)
    simp only [Rg.fill, if_true, Act.put, List.setIfInBounds_toArray, List.set_cons_zero, List.set_cons_succ, Nat.zero_add, Nat.reduceAdd, v0, v1, v2, v3, v4, v5, v6, v7, v8, v9, v10, v11, v12, v13, v14, v15, v16, v17, v18, v19, v20, v21, v22, v23, v24, v25, v26, v27, v28, v29, v30, v31, v32, v33, v34, v35, v36, v37, v38, v39]
    clear hv v0 v1 v2 v3 v4 v5 v6 v7 v8 v9 v10 v11 v12 v13 v14 v15 v16 v17 v18 v19 v20 v21 v22 v23 v24 v25 v26 v27 v28 v29 v30 v31 v32 v33 v34 v35 v36 v37 v38 v39
    have hbq := hbw.trans (hB.mono hbw.size)
    have f0 := keepCell hB d0
    have f1 := keepCell hB d1
    have f2 := keepCell hB d2
    have f3 := keepCell hB d3
    have f4 := keepCell hB d4
    have f5 := keepCell hB gn
    clear d0 d1 d2 d3 d4 gn hB H1 H2 H3 H4 C1 C2
    by_cases hx0 : xv = 0
    · have HR2 := HR.out
      rw [if_pos hx0] at HR2
      have HR3 := Lib.hid HR2
      clear HR HR2
      subst hx0
      go_wp2_with (go_at_call 152; (with_reducible refine (P2.out _).mono ?_); rintro e_ w5 ⟨rfl, hb5⟩; (have j4 := keepCell hb5 f4))
      all_goals (go_ret; exact ⟨ret_b (by refine Eq.trans ?_ HR3.out; first | rfl | (rw [decide_eq_decide]; omega)), hbq.trans (hb5.mono hbq.size)⟩)
    · have HR2 := HR.out
      clear HR
      rw [if_neg hx0] at HR2
      obtain ⟨v3, v4⟩ := hvn.out hx0
      have P4 := Lib.hid (P4.out hx0)
      have e1 : vv.tdiv 2 = vv / 2 := Int.tdiv_eq_ediv_of_nonneg v3
      by_cases hp3 : p = 2
      · rw [if_pos hp3] at HR2
        have HR3 := Lib.hid HR2
        clear HR2
        subst hp3
        go_wp2_with (first | (go_at_call 152; (with_reducible refine (P2.out _).mono ?_); rintro e_ w5 ⟨rfl, hb5⟩; (have j4 := keepCell hb5 f4); (have j3 := keepCell hb5 f3)) | (go_at_call 135; (with_reducible refine (P4.out _).mono ?_); rintro e w' ⟨rfl, rfl⟩))
        all_goals (go_ret; exact ⟨ret_b (by refine Eq.trans ?_ HR3.out; first | rfl | (rw [decide_eq_decide]; omega)), hbq.trans (hb5.mono hbq.size)⟩)
      · rw [if_neg hp3, Int.add_zero] at HR2
        have HR3 := Lib.hid HR2
        clear HR2
        go_wp2_with (first | (go_at_call 152; (with_reducible refine (P2.out _).mono ?_); rintro e_ w5 ⟨rfl, hb5⟩; (have j4 := keepCell hb5 f4); (have j3 := keepCell hb5 f3)) | (go_at_call 135; (with_reducible refine (P4.out _).mono ?_); rintro e w' ⟨rfl, rfl⟩))
        all_goals (go_ret; exact ⟨ret_b (by refine Eq.trans ?_ HR3.out; first | rfl | (rw [decide_eq_decide]; omega)), hbq.trans (hb5.mono hbq.size)⟩)
end Go.Proofs.YtgkjmjlkhnfbiaaGreat
