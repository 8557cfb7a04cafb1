/-
  Joined texts: contracts and plain laws.
-/
import Derived.Test.YtgkjmjlkhnfbiaaGreatB11
import Derived.Maps.AppendAt
namespace Go.Proofs.YtgkjmjlkhnfbiaaGreat
set_option linter.unusedSimpArgs false
set_option linter.unusedVariables false
open Go.RowKit
attribute [local go_sem] Oper.semAt_some
/-- the function's boxes -/
abbrev FlW (w : World) (D A C : Int) (p : Nat) (k : Int) : World :=
  ((((w.alloc (.cells #[.int .i64 D, .int .i64 A, .int .i64 C] 35)).alloc (.cells #[.int .i64 p] 3)).alloc (.cells #[.int .i64 k] 3)).alloc (.cells #[.int .i64 0, .int .i64 0] 103)).alloc (.cells #[.bool false] 4)
theorem below_keepsFrom {B : Nat} {W W' : World} (h : Below W.heap.size W W') : KeepsFrom B W W' := by
  exact ⟨h.size, fun i o _ ho _ => (h.block i (Array.getElem?_eq_some_iff.1 ho).1).trans ho⟩
/-- what the function's boxes hold -/
def FlC (b : Nat) (D A C : Int) (p : Nat) (k : Int) (W : World) : Prop :=
  (W.cell? ⟨b, 0, none⟩ = some (.int .i64 D) ∧ W.cell? ⟨b, 1, none⟩ = some (.int .i64 A) ∧ W.cell? ⟨b, 2, none⟩ = some (.int .i64 C)) ∧ W.cell? ⟨b + 1, 0, none⟩ = some (.int .i64 p) ∧ W.cell? ⟨b + 2, 0, none⟩ = some (.int .i64 k)
def FlR (b : Nat) (u v : Int) (r : Bool) (W : World) : Prop :=
  (W.cell? ⟨b + 3, 0, none⟩ = some (.int .i64 u) ∧ W.cell? ⟨b + 3, 1, none⟩ = some (.int .i64 v) ∧ W.cell? ⟨b + 4, 0, none⟩ = some (.bool r)) ∧ W.frozen? ⟨b + 3, 0, none⟩ = false ∧ W.frozen? ⟨b + 3, 1, none⟩ = false ∧ W.frozen? ⟨b + 4, 0, none⟩ = false
theorem FlR.lt {b : Nat} {u v : Int} {r : Bool} {W : World} (h : FlR b u v r W) : b + 4 < W.heap.size := by
  obtain ⟨o, ho, -⟩ := cells_of_cell h.1.2.2
  exact (Array.getElem?_eq_some_iff.1 ho).1
/-- what is stored at the end -/
theorem FlR.put {b : Nat} {u v : Int} {r : Bool} {W : World} (h : FlR b u v r W) (u' v' : Int) (r' : Bool) :
    FlR b u' v' r' (((W.setCell ⟨b + 1 + 1 + 1, 0, none⟩ (.int .i64 u')).setCell ⟨b + 1 + 1 + 1, 1, none⟩ (.int .i64 v')).setCell ⟨b + 1 + 1 + 1 + 1, 0, none⟩ (.bool r')) := by
  obtain ⟨⟨h1, h2, h3⟩, h4, h5, h6⟩ := h
  have n1 : (⟨b + 1 + 1 + 1 + 1, 0, none⟩ : Addr) ≠ ⟨b + 3, 0, none⟩ := fun e => by injection e with e; omega
  have n2 : (⟨b + 1 + 1 + 1 + 1, 0, none⟩ : Addr) ≠ ⟨b + 3, 1, none⟩ := fun e => by injection e with e; omega
  have n3 : (⟨b + 1 + 1 + 1, 1, none⟩ : Addr) ≠ ⟨b + 3, 0, none⟩ := fun e => by injection e with _ e; omega
  have n4 : (⟨b + 1 + 1 + 1, 0, none⟩ : Addr) ≠ ⟨b + 3, 1, none⟩ := fun e => by injection e with _ e; omega
  have n5 : (⟨b + 1 + 1 + 1, 1, none⟩ : Addr) ≠ ⟨b + 4, 0, none⟩ := fun e => by injection e with e; omega
  have n6 : (⟨b + 1 + 1 + 1, 0, none⟩ : Addr) ≠ ⟨b + 4, 0, none⟩ := fun e => by injection e with e; omega
  refine ⟨⟨?_, ?_, ?_⟩, ?_, ?_, ?_⟩
  · rw [World.cell?_setCell_other _ _ _ _ n1, World.cell?_setCell_other _ _ _ _ n3]
    exact World.cell?_setCell_same _ _ _ h1
  · rw [World.cell?_setCell_other _ _ _ _ n2]
    exact World.cell?_setCell_same _ _ _ ((World.cell?_setCell_other _ _ _ _ n4).trans h2)
  · exact World.cell?_setCell_same _ _ _ ((World.cell?_setCell_other _ _ _ _ n5).trans ((World.cell?_setCell_other _ _ _ _ n6).trans h3))
  all_goals (rw [World.frozen?_setCell, World.frozen?_setCell, World.frozen?_setCell]; assumption)
theorem put_keeps {B b : Nat} {x y z : Value} (W : World) : KeepsFrom B W (((W.setCell ⟨b + 1 + 1 + 1, 0, none⟩ x).setCell ⟨b + 1 + 1 + 1, 1, none⟩ y).setCell ⟨b + 1 + 1 + 1 + 1, 0, none⟩ z) :=
  (((KeepsOthers.setCell _ _ _).trans (KeepsOthers.setCell _ _ _)).trans (KeepsOthers.setCell _ _ _)).from _
theorem put_below {b : Nat} {x y z : Value} {w W : World} (h : Below b w W) : Below b w (((W.setCell ⟨b + 1 + 1 + 1, 0, none⟩ x).setCell ⟨b + 1 + 1 + 1, 1, none⟩ y).setCell ⟨b + 1 + 1 + 1 + 1, 0, none⟩ z) :=
  ((h.setCell (p := ⟨b + 1 + 1 + 1, 0, none⟩) (by show b ≤ b + 1 + 1 + 1; omega) _).setCell (p := ⟨b + 1 + 1 + 1, 1, none⟩) (by show b ≤ b + 1 + 1 + 1; omega) _).setCell (p := ⟨b + 1 + 1 + 1 + 1, 0, none⟩) (by show b ≤ b + 1 + 1 + 1 + 1; omega) _
theorem flC_own {β : Type} (b : Nat) (D A C : Int) (p : Nat) (k : Int) : Own (fun (_ : β) W => FlC b D A C p k W) := fun _ _ _ _ hs hg hr =>
  ⟨⟨cell_kept hs.1.1 hg hr, cell_kept hs.1.2.1 hg hr, cell_kept hs.1.2.2 hg hr⟩, cell_kept hs.2.1 hg hr, cell_kept hs.2.2 hg hr⟩
theorem FlR.kept {b : Nat} {u v : Int} {r : Bool} {W W' : World} {row : Option Nat} (hs : FlR b u v r W) (hg : W.grownBy W' row) (hr : ∀ r, row = some r → ∃ o : Obj, W.heap[r]? = some o ∧ o.isCells = false) : FlR b u v r W' :=
  ⟨⟨cell_kept hs.1.1 hg hr, cell_kept hs.1.2.1 hg hr, cell_kept hs.1.2.2 hg hr⟩, (frozen_kept hs.1.1 hg hr).trans hs.2.1, (frozen_kept hs.1.2.1 hg hr).trans hs.2.2.1, (frozen_kept hs.1.2.2 hg hr).trans hs.2.2.2⟩
theorem FlC.below {b : Nat} {D A C : Int} {p : Nat} {k : Int} {W W' : World} (h : FlC b D A C p k W) (hb : Below W.heap.size W W') : FlC b D A C p k W' :=
  flC_own (β := Unit) b D A C p k () W W' none h (below_grown hb none) (fun r e => by cases e)
theorem FlR.below {b : Nat} {u v : Int} {r : Bool} {W W' : World} (h : FlR b u v r W) (hb : Below W.heap.size W W') : FlR b u v r W' := h.kept (below_grown hb none) (fun r e => by cases e)
set_option maxRecDepth 100000 in
set_option maxHeartbeats 4000000 in
theorem firstLift_c (D A C : Int) (p i : Nat) (l : List (Int × Int)) (a : Option Addr) (cap : Nat) (w : World) (hp1 : 2 ≤ p) (hp : p ≤ 997) (hs : M.ipow p (i + 1) ≤ 1000000000) (hi : i ≤ 28) (hl : ∀ x ∈ l, (0 ≤ x.1 ∧ x.1 ≤ 1000000000) ∧ (0 ≤ x.2 ∧ x.2 ≤ 1000000000))
    (hseen : Rw.Seen EP w w.heap.size (.slice a l.length cap) l) :
    Calls Tryz.prog 133 #[.agg #[.int .i64 D, .int .i64 A, .int .i64 C], .slice a l.length cap, .int .i64 p, .int .i64 ((i : Int) + 1)] w fun e w' =>
      ∃ x y : Int, e = .returned (.tuple #[.agg #[.int .i64 x, .int .i64 y], .bool ((M.cands p l i).any fun y => M.lift D A C y.1 y.2 p (i + 1))]) ∧ Below w.heap.size w w' := by
  refine callsIn_wide (n := 5) |>.1 ?_
  have hq1 := M.ipow_pos (show (1 : Int) ≤ (p : Int) by omega) i
  have hq2 := M.ipow_next (show (1 : Int) ≤ (p : Int) by omega) i
  have PC := fun W => candidates_c D A C p i a l.length cap W (by omega) (by omega) (by omega)
  have PL := fun (u v : Int) W => lifts_c D A C u v p (i + 1) W (by omega) (by omega) hs (by omega) (by omega)
  have PC := Lib.hid PC
  have PL := Lib.hid PL
  refine callsIn_of_wp_marks Tryz.func133 rfl trivial ?_ rfl
  simp only [Tryz.ntmps133, List.size_toArray, List.length_cons, List.length_nil, Nat.reduceAdd, Nat.reduceSub, Array.replicate_succ, Array.replicate_zero, List.push_toArray, List.append_toArray, List.nil_append, List.cons_append]
  gi_wp2_with (refine ⟨trivial, ?_⟩; gi_at_call 153; refine (callsIn_wide.2 (PC.out _)).mono ?_; rintro e w' ⟨rfl, rfl⟩)
  obtain ⟨W0, hW0⟩ : ∃ W0, CandW (FlW w D A C p ((i : Int) + 1)) D A C (.slice a l.length cap) p (M.ipow p i) = W0 := ⟨_, rfl⟩
  have hsz : W0.heap.size = w.heap.size + 9 := by rw [← hW0]; simp
  have hB0 : Below w.heap.size w W0 := by rw [← hW0]; exact (by repeat (first | exact Below.refl _ _ | refine below_alloc ?_ _ | refine below_step ?_ (by assumption) | refine Below.drew ?_ | refine Below.setCell ?_ (by first | exact Nat.le_refl _ | exact Nat.le_add_right _ _ | (simp <;> omega)) _ | refine below_drewN ?_ _))
  have k1 : W0.cell? ⟨w.heap.size + 5 + 1, 0, none⟩ = some (.slice a l.length cap) := by rw [← hW0]; simp [go_sem]
  have k2 : W0.cell? ⟨w.heap.size + 5 + 2, 0, none⟩ = some (.int .i64 p) := by rw [← hW0]; simp [go_sem]
  have k3 : W0.cell? ⟨w.heap.size + 5 + 3, 0, none⟩ = some (.int .i64 (M.ipow p i)) := by rw [← hW0]; simp [go_sem]
  have hC0 : FlC w.heap.size D A C p ((i : Int) + 1) W0 := by rw [← hW0]; exact ⟨⟨by simp [go_sem], by simp [go_sem], by simp [go_sem]⟩, by simp [go_sem], by simp [go_sem]⟩
  have hR0 : FlR w.heap.size 0 0 false W0 := by rw [← hW0]; exact ⟨⟨by simp [go_sem], by simp [go_sem], by simp [go_sem]⟩, by simp [go_sem], by simp [go_sem], by simp [go_sem]⟩
  have hst := cand_stops 4 (by omega) w.heap.size (w.heap.size + 5) p i l (.slice a l.length cap) hp (by omega) (by omega) hl W0 (by omega) (by omega) k1 k2 k3 (hseen.below hB0)
  rw [show CandW (FlW w D A C p ((i : Int) + 1)) D A C (.slice a l.length cap) p (M.ipow p i) = W0 from hW0]
  clear hW0 k1 k2 k3
  have hFl : ∀ y : Int × Int, (fun y : Int × Int => M.lift D A C y.1 y.2 p (i + 1)) y = M.lift D A C y.1 y.2 p (i + 1) := fun _ => rfl
  generalize hLL : (fun y : Int × Int => M.lift D A C y.1 y.2 p (i + 1)) = LL at *
  refine wpIn_rangeFunc_ownH rfl (by omega) (gf := 170) (lb := #[.pointer (some ⟨w.heap.size + 5 + 2, 0, none⟩), .pointer (some ⟨w.heap.size + 5 + 1, 0, none⟩), .pointer (some ⟨w.heap.size + 5 + 3, 0, none⟩)]) rfl trivial (enters_of Tryz.func170 (by kernel_rfl) rfl)
    hst (fun h k => h.trans k) (fun W l o o' hl h hc _ => KpB.other W l o o' h hc (by rintro (q | q | q | q) <;> omega)) (Below.refl _ _) (fun _ => rfl)
    (fun pre W => (pre.any LL = false ∧ FlC w.heap.size D A C p ((i : Int) + 1) W ∧ FlR w.heap.size 0 0 false W) ∧ Below w.heap.size w W)
    (fun c pre W => (c = .ret ∧ pre.any LL = true ∧ ∃ u v : Int, FlR w.heap.size u v true W) ∧ Below w.heap.size w W)
    (OwnFrom.and (Own.from (fun s A_ B_ row hs hg hr => ⟨hs.1, flC_own w.heap.size D A C p ((i : Int) + 1) s A_ B_ row hs.2.1 hg hr, hs.2.2.kept hg hr⟩) _) (ownFrom_below (Nat.le_refl _) (by omega)))
    (fun c => OwnFrom.and (Own.from (fun s A_ B_ row hs hg hr => ⟨hs.1, hs.2.1, hs.2.2.elim fun u h => h.elim fun v h => ⟨u, v, h.kept hg hr⟩⟩) _) (ownFrom_below (Nat.le_refl _) (by omega)))
    ⟨⟨rfl, hC0, hR0⟩, hB0⟩
    (fun x a' W => ∃ Bx, w.heap.size + 4 < Bx ∧ W.heap[Bx]? = some (.cells #[.int .i64 x.1, .int .i64 x.2] 103 (0, 0)) ∧ a' = { tmps := #[.agg #[.int .i64 D, .int .i64 A, .int .i64 C], .slice a l.length cap, .int .i64 p, .int .i64 ((i : Int) + 1), .pointer (some ⟨w.heap.size, 0, none⟩), undef, .pointer (some ⟨w.heap.size + 1, 0, none⟩), .pointer (some ⟨w.heap.size + 1 + 1, 0, none⟩), .pointer (some ⟨w.heap.size + 1 + 1 + 1, 0, none⟩), .pointer (some ⟨w.heap.size + 1 + 1 + 1 + 1, 0, none⟩), .pointer (some ⟨Bx, 0, none⟩), .agg #[.int .i64 D, .int .i64 A, .int .i64 C], .slice a l.length cap, .int .i64 p, .int .i64 ((i : Int) + 1), .func (.func 170) #[] #[.pointer (some ⟨w.heap.size + 1 + 1 + 1 + 1 + 1 + 2, 0, none⟩), .pointer (some ⟨w.heap.size + 1 + 1 + 1 + 1 + 1 + 1, 0, none⟩), .pointer (some ⟨w.heap.size + 1 + 1 + 1 + 1 + 1 + 3, 0, none⟩)], .agg #[.int .i64 x.1, .int .i64 x.2], undef, undef, undef, undef, undef, undef, undef, undef, undef, undef], defers := [] })
    (fun x a' _ X Y row hs hg hr => by
      obtain ⟨Bx, h1, h2, h3⟩ := hs
      exact ⟨Bx, h1, (grownBy_keeps_cells hg (fun r e => (hr r e).2) h2 rfl).trans h2, h3⟩)
    ?assign ?body ?done ?stop
  case assign =>
    rintro lr pre x W K ⟨⟨h1, h2, h3⟩, h4⟩ hK
    have hbn : Below W.heap.size W (W.alloc (.cells #[.int .i64 x.1, .int .i64 x.2] 103)) := (Below.refl _ _).alloc (Nat.le_refl _) _
    have hz := h4.size
    gi_wp2
    have hlt := h3.lt
    exact hK _ _ (below_keepsFrom hbn) (KpB.below hbn) ⟨⟨h1, h2.below hbn, h3.below hbn⟩, h4.trans (hbn.mono hz)⟩ ⟨W.heap.size, by omega, heap_alloc_new W _, rfl⟩
  case body =>
    rintro lr pre x a' W hlr ⟨r, hr⟩ ⟨⟨h1, h2, h3⟩, h4⟩ ⟨Bx, hBx, hx, rfl⟩ hlen
    obtain ⟨⟨d0, d1, d2⟩, d3, d4⟩ := h2
    have x0 : W.cell? ⟨Bx, 0, none⟩ = some (.int .i64 x.1) := by rw [cell_of_row W Bx 0 _ _ _ hx]; rfl
    have x1 : W.cell? ⟨Bx, 1, none⟩ = some (.int .i64 x.2) := by rw [cell_of_row W Bx 1 _ _ _ hx]; rfl
    have PX := fun W => PL.out x.1 x.2 W
    have hLx : LL x = M.lift D A C x.1 x.2 p (i + 1) := by rw [← hLL]
    rw [← hLx] at PX
    have hz := h4.size
    cases hl : LL x
    · rw [hl] at PX
      have PX := Lib.hid PX
      gi_wp2_with (refine ⟨trivial, ?_⟩; gi_at_call 131; refine (CallsIn.inRound lr (callsIn_wide.2 (PX.out _))).mono ?_; rintro e W' ⟨rfl, hb⟩)
      exact ⟨below_keepsFrom hb, KpB.below hb, ⟨by rw [List.any_append, h1]; simp [hl], FlC.below ⟨⟨d0, d1, d2⟩, d3, d4⟩ hb, h3.below hb⟩, h4.trans (hb.mono hz)⟩
    · rw [hl] at PX
      have PX := Lib.hid PX
      gi_wp2_with (refine ⟨trivial, ?_⟩; gi_at_call 131; refine (CallsIn.inRound lr (callsIn_wide.2 (PX.out _))).mono ?_; rintro e W' ⟨rfl, hb⟩; (have y0 := keepCell hb x0); (have y1 := keepCell hb x1); (obtain ⟨⟨g0, g1, g2⟩, f0, f1, f2⟩ := h3.below hb))
      exact ⟨(below_keepsFrom hb).trans (put_keeps _), ⟨rfl, by rw [List.any_append]; simp [hl], x.1, x.2, (h3.below hb).put _ _ _⟩, put_below (h4.trans (hb.mono hz))⟩
  case done =>
    rintro D_ xs W hD rfl ⟨⟨h1, h2, h3⟩, h4⟩ hK
    have h5 := h3.put 0 0 false
    have h6 := put_below (x := .int .i64 0) (y := .int .i64 0) (z := .bool false) h4
    have hK2 := (put_keeps (B := 0) (b := w.heap.size) (x := .int .i64 0) (y := .int .i64 0) (z := .bool false) W).same D_ _ (Nat.zero_le _) hK rfl
    obtain ⟨⟨g0, g1, g2⟩, f0, f1, f2⟩ := h3
    gi_wp2
    generalize (((W.setCell ⟨w.heap.size + 1 + 1 + 1, 0, none⟩ (.int .i64 0)).setCell ⟨w.heap.size + 1 + 1 + 1, 1, none⟩ (.int .i64 0)).setCell ⟨w.heap.size + 1 + 1 + 1 + 1, 0, none⟩ (.bool false)) = W5 at *
    refine ⟨by simp, .inl ⟨_, _, rfl, run_takeDeferred hK2, ?_⟩⟩
    obtain ⟨⟨e0, e1, e2⟩, -⟩ := h5.kept (grownBy_putObj' W5 D_ (.deferred none)) (fun r e => by cases e; exact ⟨_, hK2, rfl⟩)
    refine ⟨.tuple #[.agg #[.int .i64 0, .int .i64 0], .bool false], ?_, 0, 0, by rw [← h1, ← hLL], h6.trans (belowK_b (w := w) (Nat.le_refl _) W5 D_ _ _ (by omega) hK2 rfl rfl)⟩
    simp [results, Tryz.f133, go_sem, e0, e1, e2]
  case stop =>
    rintro D_ c pre W hD hpre ⟨⟨rfl, h1, u, v, h2⟩, h4⟩ hK
    gi_wp2
    refine ⟨by simp, .inl ⟨_, _, rfl, run_takeDeferred hK, ?_⟩⟩
    obtain ⟨⟨e0, e1, e2⟩, -⟩ := h2.kept (grownBy_putObj' W D_ (.deferred none)) (fun r e => by cases e; exact ⟨_, hK, rfl⟩)
    have hany : (M.cands p l i).any LL = true := by
      obtain ⟨y, hy, hl⟩ := List.any_eq_true.1 h1
      exact List.any_eq_true.2 ⟨y, hpre.subset hy, hl⟩
    refine ⟨.tuple #[.agg #[.int .i64 u, .int .i64 v], .bool true], ?_, u, v, by rw [← hany, ← hLL], h4.trans (belowK_b (w := w) (Nat.le_refl _) W D_ _ _ (by omega) hK rfl rfl)⟩
    simp [results, Tryz.f133, go_sem, e0, e1, e2]
end Go.Proofs.YtgkjmjlkhnfbiaaGreat

namespace Go.Proofs.YtgkjmjlkhnfbiaaGreat
set_option linter.unusedSimpArgs false
set_option linter.unusedVariables false
open Go.RowKit
attribute [local go_sem] Oper.semAt_some
theorem KpB.append {K : Nat → Prop} {W w1 : World} {n₀ size k : Nat} {e : TypeId} {v : Value} {xs : List Value} (hrow : W.ownsRow n₀ e size v k xs) (hg : W.grownBy w1 v.ownBlock) (hK : ∀ i, K i → some i ≠ v.ownBlock) (he : e ≠ 4) : KpB K W w1 := by
  refine ⟨hg.size, fun i o hi ho => (hg.block i (Array.getElem?_eq_some_iff.1 ho).1 (hK i hi)).trans ho, fun i cs fr ho => (hg.block i (Array.getElem?_eq_some_iff.1 ho).1 (fun e' => ?_)).trans ho⟩
  rcases hrow.2 with ⟨rfl, -⟩ | ⟨g, cap, cur, rfl, -, hgb, -⟩
  · cases e'
  · obtain rfl : i = g := by simpa [Value.ownBlock] using e'
    rw [ho] at hgb
    injection hgb with hgb
    injection hgb with _ h _
    exact he h.symm
theorem KpB.set {K : Nat → Prop} {W : World} {B : Nat} {t : TypeId} {v : Value} (hb : Boxed W B t v) (hK : ¬ K B) (ht : t ≠ 4) (u : Value) : KpB K W (W.setCell ⟨B, 0, none⟩ u) := by
  have hg := grownBy_setCell' W B u
  refine ⟨hg.size, fun i o hi ho => (hg.block i (Array.getElem?_eq_some_iff.1 ho).1 (fun e' => hK (by cases e'; exact hi))).trans ho, fun i cs fr ho => (hg.block i (Array.getElem?_eq_some_iff.1 ho).1 (fun e' => ?_)).trans ho⟩
  cases e'
  rw [show W.heap[B]? = _ from hb] at ho
  injection ho with ho
  injection ho with _ h _
  exact ht h
/-- the function's boxes -/
abbrev NpW (w : World) (D A C : Int) (p : Nat) (k : Int) : World :=
  (((w.alloc (.cells #[.int .i64 D, .int .i64 A, .int .i64 C] 35)).alloc (.cells #[.int .i64 p] 3)).alloc (.cells #[.int .i64 k] 3)).alloc (.cells #[.slice none 0 0] 100)
set_option maxRecDepth 100000 in
set_option maxHeartbeats 4000000 in
theorem nextPairs_c (D A C : Int) (p i : Nat) (l : List (Int × Int)) (a : Option Addr) (cap : Nat) (w : World) (hp1 : 2 ≤ p) (hp : p ≤ 997) (hs : M.ipow p (i + 1) ≤ 1000000000) (hi : i ≤ 28) (hl : ∀ x ∈ l, (0 ≤ x.1 ∧ x.1 ≤ 1000000000) ∧ (0 ≤ x.2 ∧ x.2 ≤ 1000000000))
    (hseen : Rw.Seen EP w w.heap.size (.slice a l.length cap) l) (hcl : (M.cands p l i).length ≤ 10000000000) :
    Calls Tryz.prog 134 #[.agg #[.int .i64 D, .int .i64 A, .int .i64 C], .slice a l.length cap, .int .i64 p, .int .i64 ((i : Int) + 1)] w fun e w' =>
      ∃ v, e = .returned v ∧ Rw.Own EP w' w.heap.size v ((M.cands p l i).filter fun y => M.poss D A C y.1 y.2 p (i + 1)) ∧ Below w.heap.size w w' := by
  refine callsIn_wide (n := 5) |>.1 ?_
  have hq1 := M.ipow_pos (show (1 : Int) ≤ (p : Int) by omega) i
  have hq2 := M.ipow_next (show (1 : Int) ≤ (p : Int) by omega) i
  have PC := fun W => candidates_c D A C p i a l.length cap W (by omega) (by omega) (by omega)
  have PL := fun (u v : Int) W => possible_c D A C u v p (i + 1) W (by omega) (by omega) hs (by omega) (by omega)
  have PC := Lib.hid PC
  have PL := Lib.hid PL
  refine callsIn_of_wp_marks Tryz.func134 rfl trivial ?_ rfl
  simp only [Tryz.ntmps134, List.size_toArray, List.length_cons, List.length_nil, Nat.reduceAdd, Nat.reduceSub, Array.replicate_succ, Array.replicate_zero, List.push_toArray, List.append_toArray, List.nil_append, List.cons_append]
  gi_wp2_with (refine ⟨trivial, ?_⟩; gi_at_call 153; refine (callsIn_wide.2 (PC.out _)).mono ?_; rintro e w' ⟨rfl, rfl⟩)
  obtain ⟨W0, hW0⟩ : ∃ W0, CandW (NpW w D A C p ((i : Int) + 1)) D A C (.slice a l.length cap) p (M.ipow p i) = W0 := ⟨_, rfl⟩
  have hsz : W0.heap.size = w.heap.size + 8 := by rw [← hW0]; simp
  have hB0 : Below w.heap.size w W0 := by rw [← hW0]; exact (by repeat (first | exact Below.refl _ _ | refine below_alloc ?_ _ | refine below_step ?_ (by assumption) | refine Below.drew ?_ | refine Below.setCell ?_ (by first | exact Nat.le_refl _ | exact Nat.le_add_right _ _ | (simp <;> omega)) _ | refine below_drewN ?_ _))
  have hC0 : FlC w.heap.size D A C p ((i : Int) + 1) W0 := by rw [← hW0]; exact ⟨⟨by simp [go_sem], by simp [go_sem], by simp [go_sem]⟩, by simp [go_sem], by simp [go_sem]⟩
  have bO : Boxed W0 (w.heap.size + 3) 100 (.slice none 0 0) := by
    rw [← hW0]
    have h := ((((Boxed.new (((w.alloc (.cells #[.int .i64 D, .int .i64 A, .int .i64 C] 35)).alloc (.cells #[.int .i64 p] 3)).alloc (.cells #[.int .i64 ((i : Int) + 1)] 3)) 100 (.slice none 0 0)).alloc (.cells #[.int .i64 D, .int .i64 A, .int .i64 C] 35)).alloc (.cells #[.slice a l.length cap] 100)).alloc (.cells #[.int .i64 p] 3)).alloc (.cells #[.int .i64 (M.ipow p i)] 3)
    simpa using h
  have bL : Boxed W0 (w.heap.size + 4 + 1) 100 (.slice a l.length cap) := by
    rw [← hW0]
    have h := ((Boxed.new ((NpW w D A C p ((i : Int) + 1)).alloc (.cells #[.int .i64 D, .int .i64 A, .int .i64 C] 35)) 100 (.slice a l.length cap)).alloc (.cells #[.int .i64 p] 3)).alloc (.cells #[.int .i64 (M.ipow p i)] 3)
    simpa using h
  have bP : Boxed W0 (w.heap.size + 4 + 2) 3 (.int .i64 p) := by
    rw [← hW0]
    have h := (Boxed.new (((NpW w D A C p ((i : Int) + 1)).alloc (.cells #[.int .i64 D, .int .i64 A, .int .i64 C] 35)).alloc (.cells #[.slice a l.length cap] 100)) 3 (.int .i64 p)).alloc (.cells #[.int .i64 (M.ipow p i)] 3)
    simpa using h
  have bS : Boxed W0 (w.heap.size + 4 + 3) 3 (.int .i64 (M.ipow p i)) := by
    rw [← hW0]
    have h := Boxed.new ((((NpW w D A C p ((i : Int) + 1)).alloc (.cells #[.int .i64 D, .int .i64 A, .int .i64 C] 35)).alloc (.cells #[.slice a l.length cap] 100)).alloc (.cells #[.int .i64 p] 3)) 3 (.int .i64 (M.ipow p i))
    simpa using h
  have hst := cand_stops 4 (by omega) w.heap.size (w.heap.size + 4) p i l (.slice a l.length cap) hp (by omega) (by omega) hl W0 (by omega) (by omega) bL.cell bP.cell bS.cell (hseen.below hB0)
  rw [show CandW (NpW w D A C p ((i : Int) + 1)) D A C (.slice a l.length cap) p (M.ipow p i) = W0 from hW0]
  clear hW0
  generalize hLL : (fun y : Int × Int => M.poss D A C y.1 y.2 p (i + 1)) = LL at *
  have hte : (100 : TypeId) ≠ EP.t := by show (100 : TypeId) ≠ 103; decide
  have hti : (3 : TypeId) ≠ EP.t := by show (3 : TypeId) ≠ 103; decide
  have hown := holdsRow_own (β := List (Int × Int)) (w.heap.size + 8) (w.heap.size + 3) 100 EP.t EP.k (fun pre => (pre.filter LL).length) (fun pre => (pre.filter LL).flatMap EP.cells) (fun _ _ => True)
  refine wpIn_rangeFunc_ownH rfl (by omega) (gf := 170) (lb := #[.pointer (some ⟨w.heap.size + 4 + 2, 0, none⟩), .pointer (some ⟨w.heap.size + 4 + 1, 0, none⟩), .pointer (some ⟨w.heap.size + 4 + 3, 0, none⟩)]) rfl trivial (enters_of Tryz.func170 (by kernel_rfl) rfl)
    hst (fun h k => h.trans k) (fun W l o o' hl h hc _ => KpB.other W l o o' h hc (by rintro (q | q | q | q) <;> omega)) (Below.refl _ _) (fun _ => rfl)
    (fun pre W => ((∃ v, Boxed W (w.heap.size + 3) 100 v ∧ W.ownsRow (w.heap.size + 8) EP.t EP.k v (pre.filter LL).length ((pre.filter LL).flatMap EP.cells) ∧ True) ∧ FlC w.heap.size D A C p ((i : Int) + 1) W ∧ Boxed W (w.heap.size + 4 + 1) 100 (.slice a l.length cap) ∧ Boxed W (w.heap.size + 4 + 2) 3 (.int .i64 p) ∧ Boxed W (w.heap.size + 4 + 3) 3 (.int .i64 (M.ipow p i))) ∧ Below w.heap.size w W)
    (fun _ _ _ => False)
    (OwnFrom.and (Own.from (fun s A_ B_ row hs hg hr => ⟨hown s A_ B_ row hs.1 hg hr, flC_own w.heap.size D A C p ((i : Int) + 1) s A_ B_ row hs.2.1 hg hr, boxed_own _ _ (fun _ : Unit => _) () A_ B_ row hs.2.2.1 hg hr, boxed_own _ _ (fun _ : Unit => _) () A_ B_ row hs.2.2.2.1 hg hr, boxed_own _ _ (fun _ : Unit => _) () A_ B_ row hs.2.2.2.2 hg hr⟩) _) (ownFrom_below (Nat.le_refl _) (by omega)))
    (fun _ _ _ _ _ hs _ _ => hs)
    ⟨⟨⟨_, bO, World.ownsRow_nil _ _ _ _, trivial⟩, hC0, bL, bP, bS⟩, hB0⟩
    (fun x a' W => ∃ Bx, w.heap.size + 3 < Bx ∧ W.heap[Bx]? = some (.cells #[.int .i64 x.1, .int .i64 x.2] 103 (0, 0)) ∧ a' = { tmps := #[.agg #[.int .i64 D, .int .i64 A, .int .i64 C], .slice a l.length cap, .int .i64 p, .int .i64 ((i : Int) + 1), .pointer (some ⟨w.heap.size, 0, none⟩), undef, .pointer (some ⟨w.heap.size + 1, 0, none⟩), .pointer (some ⟨w.heap.size + 1 + 1, 0, none⟩), .slice none 0 0, .pointer (some ⟨w.heap.size + 1 + 1 + 1, 0, none⟩), .pointer (some ⟨Bx, 0, none⟩), .agg #[.int .i64 D, .int .i64 A, .int .i64 C], .slice a l.length cap, .int .i64 p, .int .i64 ((i : Int) + 1), .func (.func 170) #[] #[.pointer (some ⟨w.heap.size + 1 + 1 + 1 + 1 + 2, 0, none⟩), .pointer (some ⟨w.heap.size + 1 + 1 + 1 + 1 + 1, 0, none⟩), .pointer (some ⟨w.heap.size + 1 + 1 + 1 + 1 + 3, 0, none⟩)], .agg #[.int .i64 x.1, .int .i64 x.2], undef, undef, undef, undef, undef, undef, undef, undef, undef, undef, undef, undef, undef], defers := [] })
    (fun x a' _ X Y row hs hg hr => by
      obtain ⟨Bx, h1, h2, h3⟩ := hs
      exact ⟨Bx, h1, (grownBy_keeps_cells hg (fun r e => (hr r e).2) h2 rfl).trans h2, h3⟩)
    ?assign ?body ?done ?stop
  case assign =>
    rintro lr pre x W K ⟨⟨⟨v, b1, b2, -⟩, h2, b3, b4, b5⟩, h4⟩ hK
    have hbn : Below W.heap.size W (W.alloc (.cells #[.int .i64 x.1, .int .i64 x.2] 103)) := (Below.refl _ _).alloc (Nat.le_refl _) _
    have hz := h4.size
    have hlt := b1.lt
    gi_wp2
    exact hK _ _ (below_keepsFrom hbn) (KpB.below hbn) ⟨⟨⟨v, b1.alloc _, World.ownsRow.alloc b2 _, trivial⟩, h2.below hbn, b3.alloc _, b4.alloc _, b5.alloc _⟩, h4.trans (hbn.mono hz)⟩ ⟨W.heap.size, by omega, heap_alloc_new W _, rfl⟩
  case body =>
    rintro lr pre x a' W hlr ⟨r, hr⟩ ⟨⟨⟨v, b1, b2, -⟩, h2, b3, b4, b5⟩, h4⟩ ⟨Bx, hBx, hx, rfl⟩ hlen
    obtain ⟨⟨d0, d1, d2⟩, d3, d4⟩ := h2
    have x0 : W.cell? ⟨Bx, 0, none⟩ = some (.int .i64 x.1) := by rw [cell_of_row W Bx 0 _ _ _ hx]; rfl
    have x1 : W.cell? ⟨Bx, 1, none⟩ = some (.int .i64 x.2) := by rw [cell_of_row W Bx 1 _ _ _ hx]; rfl
    have PX := fun W => PL.out x.1 x.2 W
    have hLx : LL x = M.poss D A C x.1 x.2 p (i + 1) := by rw [← hLL]
    rw [← hLx] at PX
    have hz := h4.size
    cases hl : LL x
    · rw [hl] at PX
      have PX := Lib.hid PX
      gi_wp2_with (refine ⟨trivial, ?_⟩; gi_at_call 148; refine (CallsIn.inRound lr (callsIn_wide.2 (PX.out _))).mono ?_; rintro e W' ⟨rfl, hb⟩)
      have hg := below_grown hb none
      exact ⟨below_keepsFrom hb, KpB.below hb, ⟨⟨v, b1.kept hg (by simp), by rw [List.filter_append, show [x].filter LL = [] from by simp [hl], List.append_nil]; exact Rw.Own.below (E := EP) b2 hb, trivial⟩, FlC.below ⟨⟨d0, d1, d2⟩, d3, d4⟩ hb, b3.kept hg (by simp), b4.kept hg (by simp), b5.kept hg (by simp)⟩, h4.trans (hb.mono hz)⟩
    · rw [hl] at PX
      have PX := Lib.hid PX
      have hpl : pre.length ≤ 10000000000 := by omega
      have hfl := List.length_filter_le LL pre
      obtain ⟨i0, hi0, hz0, hz1, hz2⟩ := info_parts infoP
      have c5 : W.cell? ⟨w.heap.size + 1 + 1 + 1, 0, none⟩ = some v := b1.cell
      have hfa : (pre ++ [x]).filter LL = pre.filter LL ++ [x] := by rw [List.filter_append, show [x].filter LL = [x] from by simp [hl]]
      have hob : ∀ g, v.ownBlock = some g → w.heap.size + 8 ≤ g := fun g hg => (World.ownsRow.lt b2 g hg).1
      have hz8 : w.heap.size + 8 ≤ W.heap.size := by have := b5.lt; omega
      gi_wp2_with (first
        | (refine ⟨trivial, ?_⟩; gi_at_call 148; refine (CallsIn.inRound lr (callsIn_wide.2 (PX.out _))).mono ?_; rintro e W' ⟨rfl, hb⟩; (have y0 := keepCell hb x0); (have y1 := keepCell hb x1); (have y5 := keepCell hb c5); (have hzW := hb.size); (have hrow := Rw.Own.below (E := EP) b2 hb))
        | (gi_at_builtin; refine wpListIn_append_own _ rfl (.tmp 25) (.tmp 27) 100 rfl (w.heap.size + 8) EP.t i0 (.agg #[.int .i64 0, .int .i64 0]) 2 16 Tryz.underlying100 hi0 hz0 hz1 hz2 rfl (by decide) v _ _ rfl (World.ownsRow.alloc hrow _) ⟨W'.heap.size, 0, none⟩ 1 1 [.int .i64 x.1, .int .i64 x.2] rfl rfl
            (fun j u hu => by obtain ⟨ad', e1, h⟩ := Rw.From.lit EP W' x W'.heap.size rfl j u (by simpa [EP] using hu); cases e1; exact h) (fun u hu => by simp only [List.mem_cons, List.not_mem_nil, or_false] at hu; rcases hu with rfl | rfl <;> rfl) (by unfold maxLen; omega) (by omega) (by simp; omega) ?_
           intro v' w1 hown' hgrow _
           obtain ⟨g', cap', rfl⟩ := ownsRow_succ hown'
           have q1 : Boxed w1 (w.heap.size + 3) 100 v := ((b1.kept (below_grown hb none) (by simp)).alloc _).kept hgrow (fun e => by have := hob _ e.symm; omega)
           have q1c : w1.cell? ⟨w.heap.size + 1 + 1 + 1, 0, none⟩ = some v := q1.cell
           have q1f : w1.frozen? ⟨w.heap.size + 1 + 1 + 1, 0, none⟩ = false := q1.frozen))
      have hnb : ∀ i, i < w.heap.size + 8 → some i ≠ v.ownBlock := fun i hi e => by have := hob _ e.symm; omega
      have hrow' := World.ownsRow.alloc hrow (.cells #[.int .i64 x.1, .int .i64 x.2] 103)
      have hal : Below W'.heap.size W' (W'.alloc (.cells #[.int .i64 x.1, .int .i64 x.2] 103)) := (Below.refl _ _).alloc (Nat.le_refl _) _
      have h8 : Below (w.heap.size + 8) W' w1 := (hal.mono (by omega)).grown hgrow (by simp; omega) (fun k e => hob k e)
      have hk1 : KeepsOthers (W'.alloc (.cells #[.int .i64 x.1, .int .i64 x.2] 103)) w1 := KeepsOthers.of_grownBy hgrow fun j o ej hj => by
        rcases hrow'.2 with ⟨rfl, -⟩ | ⟨g, cap, cur, rfl, -, hgb, -⟩
        · simp [Value.ownBlock] at ej
        · obtain rfl : g = j := by simpa [Value.ownBlock] using ej
          rw [hgb] at hj; cases hj; rfl
      have hbx : ∀ {B : Nat} {ty : TypeId} {u : Value}, B < w.heap.size + 8 → B ≠ w.heap.size + 3 → Boxed W B ty u → ∀ z, Boxed (w1.setCell ⟨w.heap.size + 3, 0, none⟩ z) B ty u := fun hB hne h z => (((h.kept (below_grown hb none) (by simp)).alloc _).kept hgrow (hnb _ hB)).other hne z
      have hfc : ∀ z, FlC w.heap.size D A C p ((i : Int) + 1) (w1.setCell ⟨w.heap.size + 3, 0, none⟩ z) := fun z => by
        have hf := FlC.below ⟨⟨d0, d1, d2⟩, d3, d4⟩ hb
        have one : ∀ {B o : Nat} {u : Value}, B < w.heap.size + 3 → W'.cell? ⟨B, o, none⟩ = some u → (w1.setCell ⟨w.heap.size + 3, 0, none⟩ z).cell? ⟨B, o, none⟩ = some u := by
          intro B o u hB h
          refine (World.cell?_setCell_far _ _ _ _ ?_).trans ((h8.cell (p := ⟨B, o, none⟩) (by show B < w.heap.size + 8; omega)).trans h)
          intro e
          have e' : w.heap.size + 3 = B := e
          omega
        exact ⟨⟨one (by omega) hf.1.1, one (by omega) hf.1.2.1, one (by omega) hf.1.2.2⟩, one (by omega) hf.2.1, one (by omega) hf.2.2⟩
      refine ⟨((below_keepsFrom hb).trans ((KeepsOthers.alloc _ _).from _)).trans ((hk1.from _).trans ((KeepsOthers.setCell _ _ _).from _)),
        (KpB.below hb).trans ((KpB.below hal).trans ((KpB.append hrow' hgrow (fun i hi => hnb i (by rcases hi with q | q | q | q <;> omega)) (by decide)).trans (KpB.set q1 (by rintro (q | q | q | q) <;> omega) (by decide) _))),
        ⟨⟨_, q1.set _, ?_, trivial⟩, hfc _, hbx (by omega) (by omega) b3 _, hbx (by omega) (by omega) b4 _, hbx (by omega) (by omega) b5 _⟩, (h4.trans (hb.mono hz)).trans ((h8.mono (by omega)).setCell (p := ⟨w.heap.size + 3, 0, none⟩) (by show w.heap.size ≤ w.heap.size + 3; omega) _)⟩
      rw [hfa, List.length_append, List.flatMap_append]
      have hk := hown'.kept (grownBy_setCell' w1 (w.heap.size + 3) (.slice (some ⟨g', 0, none⟩) ((List.filter LL pre).length + 1) cap')) (.inr (q1.not_row hte hown').symm)
      simpa [EP] using hk
  case done =>
    rintro D_ xs W hD rfl ⟨⟨⟨v, b1, b2, -⟩, h2, b3, b4, b5⟩, h4⟩ hK
    have c5 : W.cell? ⟨w.heap.size + 1 + 1 + 1, 0, none⟩ = some v := b1.cell
    obtain ⟨av, cv, nv, rfl⟩ : ∃ av cv nv, v = .slice av nv cv := by
      rcases b2.2 with ⟨rfl, -⟩ | ⟨g, cap, cur, rfl, -⟩
      · exact ⟨none, 0, 0, rfl⟩
      · exact ⟨_, _, _, rfl⟩
    gi_wp2
    refine ⟨by simp, .inl ⟨_, _, rfl, run_takeDeferred hK, ?_⟩⟩
    obtain ⟨u, e1, e2, -⟩ := hown (M.cands p l i) W _ (some D_) ⟨_, b1, b2, trivial⟩ (grownBy_putObj' W D_ (.deferred none)) (fun r e => by cases e; exact ⟨_, hK, rfl⟩)
    obtain rfl : _ = u := Option.some.inj ((cell_kept b1.cell (grownBy_putObj' W D_ (.deferred none)) (fun r e => by cases e; exact ⟨_, hK, rfl⟩)).symm.trans e1.cell)
    refine ⟨.slice av nv cv, by simp [results, Tryz.f134, go_sem], _, rfl, ?_, h4.trans (belowK_b (w := w) (Nat.le_refl _) W D_ _ _ (by omega) hK rfl rfl)⟩
    rw [hLL]
    exact Rw.Own.down (E := EP) (show Rw.Own EP _ _ _ ((M.cands p l i).filter LL) from e2) (by omega)
  case stop =>
    rintro D_ c pre W _ _ h _
    exact h.elim
end Go.Proofs.YtgkjmjlkhnfbiaaGreat

namespace Go.Proofs.YtgkjmjlkhnfbiaaGreat
set_option linter.unusedSimpArgs false
set_option linter.unusedVariables false
open Go.RowKit
namespace M
/-- the pairs (m, 1) below k -/
def fp (D A C : Int) (p k : Nat) : List (Int × Int) := ((List.range k).filter fun (m : Nat) => qok D A C p false 1 (m : Int)).map fun (m : Nat) => ((m : Int), (1 : Int))
theorem fp_next (D A C : Int) (p k : Nat) : fp D A C p (k + 1) = fp D A C p k ++ if poss D A C k 1 p 1 then [((k : Int), (1 : Int))] else [] := by
  unfold fp
  rw [List.range_succ, List.filter_append, List.map_append]
  congr 1
  have : qok D A C p false 1 (k : Int) = poss D A C k 1 p 1 := rfl
  cases h : poss D A C k 1 p 1 <;> simp [h, this]
theorem fp_len (D A C : Int) (p k : Nat) : (fp D A C p k).length ≤ k := by
  unfold fp
  rw [List.length_map]
  have := List.length_filter_le (fun (m : Nat) => qok D A C p false 1 (m : Int)) (List.range k)
  simpa using this
theorem fp_all (D A C : Int) (p : Nat) : lst p (qok D A C p) 0 = fp D A C p p ++ if poss D A C 1 0 p 1 then [(1, 0)] else [] := rfl
/-- the pairs of a level are (m, 1) or (1, e), and below the modulus -/
theorem desc_bd {p : Nat} {ok : Bool → Nat → Int → Bool} (hp : 2 ≤ p) {b : Bool} : ∀ (d i : Nat) (x y : Int), Desc p ok b d i x y → 0 ≤ x → x < ipow p i → 0 ≤ y ∧ y < ipow p (i + d)
  | 0, i, x, y, h, h0, h1 => by
    rw [show y = x from h]
    exact ⟨h0, h1⟩
  | d + 1, i, x, y, h, h0, h1 => by
    obtain ⟨t, ht, -, h2⟩ := h
    have hq := ipow_pos (show (1 : Int) ≤ (p : Int) by omega) i
    have htp : t < p := by
      unfold cnt at ht
      split at ht <;> omega
    have e0 : 0 ≤ (t : Int) * ipow p i := Int.mul_nonneg (by omega) (by omega)
    have e1 : (t : Int) * ipow p i ≤ ((p : Int) - 1) * ipow p i := Int.mul_le_mul_of_nonneg_right (by omega) (by omega)
    have e2 : ((p : Int) - 1) * ipow p i = ipow p i * p - ipow p i := by rw [Int.sub_mul, Int.mul_comm]; omega
    have e3 : ipow p (i + 1) = ipow p i * p := rfl
    have := desc_bd hp d (i + 1) _ y h2 (by omega) (by omega)
    rw [show i + (d + 1) = i + 1 + d from by omega]
    exact this
theorem lst_in {p : Nat} {ok : Bool → Nat → Int → Bool} (hp : 2 ≤ p) {i : Nat} {x : Int × Int} (h : x ∈ lst p ok i) : (x.2 = 1 ∨ x.1 = 1) ∧ (0 ≤ x.1 ∧ x.1 < ipow p (i + 1)) ∧ (0 ≤ x.2 ∧ x.2 < ipow p (i + 1)) := by
  have h1 := ipow_pos (show (1 : Int) ≤ (p : Int) by omega) i
  have h2 : ipow p (i + 1) = ipow p i * p := rfl
  have h3 : 2 ≤ ipow p i * p := by
    have := Int.mul_le_mul (show (1 : Int) ≤ ipow p i by omega) (show (2 : Int) ≤ (p : Int) by omega) (by omega) (by omega)
    omega
  rcases (mem_lst hp i x.1 x.2).1 h with ⟨hx, hd⟩ | ⟨hx, -, -, hd⟩
  · have := desc_bd hp _ 0 0 _ hd (by omega) (by simp [ipow])
    rw [Nat.zero_add] at this
    exact ⟨Or.inl hx, this, by omega, by omega⟩
  · have := desc_bd hp _ 0 0 _ hd (by omega) (by simp [ipow])
    rw [Nat.zero_add] at this
    exact ⟨Or.inr hx, ⟨by omega, by omega⟩, this⟩
theorem cands_norm {p i : Nat} {l : List (Int × Int)} (h : ∀ x ∈ l, x.2 = 1 ∨ x.1 = 1) : ∀ y ∈ cands p l i, y.2 = 1 ∨ y.1 = 1 := by
  intro y hy
  unfold cands at hy
  simp only [List.mem_flatMap, List.mem_map, List.mem_filter, List.mem_range, List.mem_cons, List.not_mem_nil, or_false] at hy
  obtain ⟨pl, -, j, -, x, ⟨hx, hpl⟩, rfl⟩ := hy
  cases pl
  · have h2 : ¬ x.2 = 1 := by simpa using hpl
    rcases h x hx with q | q
    · exact absurd q h2
    · exact Or.inr q
  · exact Or.inl (by simpa using hpl)
theorem poss_ok {D A C : Int} {p k : Nat} {y : Int × Int} (h : y.2 = 1 ∨ y.1 = 1) : poss D A C y.1 y.2 p k = okP (ok := qok D A C p) k y := by
  unfold okP
  by_cases h2 : y.2 = 1
  · rw [h2]
    rfl
  · have h1 := h.resolve_left h2
    have : (y.2 == 1) = false := by simpa using h2
    rw [this, h1]
    rfl
theorem lift_lf {D A C : Int} {p k : Nat} {y : Int × Int} (h : y.2 = 1 ∨ y.1 = 1) : lift D A C y.1 y.2 p k = lfP (lf := qlf D A C p) k y := by
  unfold lfP
  by_cases h2 : y.2 = 1
  · rw [h2]
    rfl
  · have h1 := h.resolve_left h2
    have : (y.2 == 1) = false := by simpa using h2
    rw [this, h1]
    rfl
theorem lift_poss {D A C m e p : Int} {k : Nat} (h : lift D A C m e p k = true) : poss D A C m e p k = true := by
  unfold lift at h
  exact (Bool.and_eq_true_iff.1 h).1
theorem lst_next {D A C : Int} {p i : Nat} (hp : 2 ≤ p) : ((cands p (lst p (qok D A C p) i) (i + 1)).filter fun y => poss D A C y.1 y.2 p (i + 2)) = lst p (qok D A C p) (i + 1) := by
  show _ = (cands p (lst p (qok D A C p) i) (i + 1)).filter (okP (ok := qok D A C p) (i + 2))
  refine List.filter_congr fun y hy => ?_
  exact poss_ok (cands_norm (fun x hx => (lst_in hp hx).1) y hy)
theorem lf_here {D A C : Int} {p i : Nat} (hp : 2 ≤ p) : ((lst p (qok D A C p) i).any fun y => lift D A C y.1 y.2 p (i + 1)) = Lf D A C p i := by
  unfold Lf
  rw [Bool.eq_iff_iff, List.any_eq_true, List.any_eq_true]
  constructor
  · rintro ⟨y, hy, h⟩
    exact ⟨y, hy, by rw [← lift_lf (lst_in hp hy).1]; exact h⟩
  · rintro ⟨y, hy, h⟩
    exact ⟨y, hy, by rw [lift_lf (lst_in hp hy).1]; exact h⟩
theorem lf_next {D A C : Int} {p i : Nat} (hp : 2 ≤ p) : ((cands p (lst p (qok D A C p) i) (i + 1)).any fun y => lift D A C y.1 y.2 p (i + 2)) = Lf D A C p (i + 1) := by
  rw [← lf_here hp, ← lst_next hp, Bool.eq_iff_iff, List.any_eq_true, List.any_eq_true]
  constructor
  · rintro ⟨y, hy, h⟩
    exact ⟨y, List.mem_filter.2 ⟨hy, lift_poss h⟩, h⟩
  · rintro ⟨y, hy, h⟩
    exact ⟨y, (List.mem_filter.1 hy).1, h⟩
end M
theorem fromP {W : World} (x : Int × Int) {H : Nat} (hH : W.heap.size = H) : Rw.From EP (W.alloc (.cells #[.int .i64 x.1, .int .i64 x.2] 103)) (some ⟨H, 0, none⟩) [x] := Rw.From.lit EP W x H hH
set_option maxRecDepth 100000 in
set_option maxHeartbeats 2000000 in
theorem firstPairs_c (D A C : Int) (p : Nat) (w : World) (hp1 : 2 ≤ p) (hp : p ≤ 997) :
    Calls Tryz.prog 130 #[.agg #[.int .i64 D, .int .i64 A, .int .i64 C], .int .i64 p] w fun e w' =>
      ∃ v, e = .returned v ∧ Rw.Own EP w' w.heap.size v (M.lst p (M.qok D A C p) 0) ∧ Below w.heap.size w w' := by
  have PL : ∀ (u v : Int) W, Calls Tryz.prog 148 #[.agg #[.int .i64 D, .int .i64 A, .int .i64 C], .int .i64 u, .int .i64 v, .int .i64 p, .int .i64 (1 : Int)] W fun e' w' => e' = .returned (.bool (M.poss D A C u v p 1)) ∧ Below W.heap.size W w' := fun (u v : Int) W => possible_c D A C u v p 1 W (by omega) (by omega) (by simp [M.ipow]; omega) (by omega) (by omega)
  have PL := Lib.hid PL
  have hall := Lib.hid (M.fp_all D A C p)
  obtain ⟨c0, c1, c2⟩ := box3 w D A C 35
  go_enter Tryz.func130, Tryz.ntmps130
  go_wp2
  have hbw : Below w.heap.size w (w.alloc (.cells #[.int .i64 D, .int .i64 A, .int .i64 C] 35)) := (by repeat (first | exact Below.refl _ _ | refine below_alloc ?_ _ | refine below_step ?_ (by assumption) | refine Below.drew ?_ | refine Below.setCell ?_ (by first | exact Nat.le_refl _ | exact Nat.le_add_right _ _ | (simp <;> omega)) _ | refine below_drewN ?_ _))
  have hsz : (w.alloc (.cells #[.int .i64 D, .int .i64 A, .int .i64 C] 35)).heap.size = w.heap.size + 1 := by simp
  generalize w.alloc (.cells #[.int .i64 D, .int .i64 A, .int .i64 C] 35) = w1 at *
  go_loopw [5, 6, 8] (fun vo _ vi wr => ∃ k : Nat, k ≤ p ∧ vi = .int .i64 k ∧ Rw.Own EP wr w1.heap.size vo (M.fp D A C p k) ∧ Below w1.heap.size w1 wr) (fun _ _ vi _ => p - (intOf vi).toNat)
  case atStart => exact ⟨0, by omega, rfl, Rw.Own.nil _ _ _, Below.refl _ _⟩
  case round =>
    obtain ⟨k, hk, rfl, hown, hbr⟩ := hrel
    have z2 := hbr.size
    have e0 := keepCell hbr c0
    have e1 := keepCell hbr c1
    have e2 := keepCell hbr c2
    have hst := Lib.hid (M.fp_next D A C p k)
    have hlen := M.fp_len D A C p k
    by_cases hlt : k < p
    · have P1 := fun W => PL.out k 1 W
      cases hpo : M.poss D A C k 1 p 1
      · rw [hpo] at P1
        have P1 := Lib.hid P1
        have hpo := Lib.hid hpo
        go_wp2_with (go_at_call 148; (with_reducible refine (P1.out _).mono ?_); rintro e w3 ⟨rfl, hb3⟩)
        go_roundw
        case rel => exact ⟨k + 1, by omega, by go_num, by rw [hst.out, hpo.out]; simpa using hown.below hb3, hbr.trans (hb3.mono z2)⟩
        case measure => simp [intOf]; omega
      · rw [hpo] at P1
        have P1 := Lib.hid P1
        have hpo := Lib.hid hpo
        go_wp2_with (first
          | (go_at_call 148; (with_reducible refine (P1.out _).mono ?_); rintro e w3 ⟨rfl, hb3⟩; (have hown3 := hown.below hb3); (have hbr3 := hbr.trans (hb3.mono z2)); (have z3 := hbr3.size))
          | (at_builtin; refine Rw.push fitsP (W := w1) w1.heap.size [((k : Int), (1 : Int))] _ _ (some ⟨_, 0, none⟩) 1 1 (by rfl) (by rfl) (.tmp 15) (.tmp 18) (by rfl) (by rfl) (by rfl) (fromP ((k : Int), (1 : Int)) (by rfl)) (hown3.alloc _) (hbr3.alloc (by omega) _) (by simp; omega) (by simp; omega) ?_; intro v5 w5 hown5 hb5))
        go_roundw
        case rel => exact ⟨k + 1, by omega, by go_num, by rw [hst.out, hpo.out]; exact hown5, hb5⟩
        case measure => simp [intOf]; omega
    · obtain rfl : k = p := by omega
      have P1 := fun W => PL.out 1 0 W
      cases hpo : M.poss D A C 1 0 k 1
      · rw [hpo] at P1
        have P1 := Lib.hid P1
        have hpo := Lib.hid hpo
        go_wp2_with (go_at_call 148; (with_reducible refine (P1.out _).mono ?_); rintro e w3 ⟨rfl, hb3⟩)
        go_ret
        exact ⟨_, rfl, by rw [hall.out, hpo.out]; simpa using (hown.below hb3).down (by omega), hbw.trans ((hbr.trans (hb3.mono z2)).mono (by omega))⟩
      · rw [hpo] at P1
        have P1 := Lib.hid P1
        have hpo := Lib.hid hpo
        go_wp2_with (first
          | (go_at_call 148; (with_reducible refine (P1.out _).mono ?_); rintro e w3 ⟨rfl, hb3⟩; (have hown3 := hown.below hb3); (have hbr3 := hbr.trans (hb3.mono z2)); (have z3 := hbr3.size))
          | (at_builtin; refine Rw.push fitsP (W := w1) w1.heap.size [((1 : Int), (0 : Int))] _ _ (some ⟨_, 0, none⟩) 1 1 (by rfl) (by rfl) (.tmp 24) (.tmp 26) (by rfl) (by rfl) (by rfl) (fromP ((1 : Int), (0 : Int)) (by rfl)) (hown3.alloc _) (hbr3.alloc (by omega) _) (by simp; omega) (by simp; omega) ?_; intro v5 w5 hown5 hb5))
        go_ret
        exact ⟨_, rfl, by rw [hall.out, hpo.out]; exact hown5.down (by omega), hbw.trans (hb5.mono (by omega))⟩
end Go.Proofs.YtgkjmjlkhnfbiaaGreat
