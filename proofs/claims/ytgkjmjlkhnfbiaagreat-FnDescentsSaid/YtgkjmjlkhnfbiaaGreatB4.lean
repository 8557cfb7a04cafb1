/-
  Joined texts: contracts and plain laws.
-/
import Derived.Test.YtgkjmjlkhnfbiaaGreatB3
import Derived.Outline
import Derived.Test.YtgkjmjlkhnfbiaaGreatB2
import Derived.Test.YtgkjmjlkhnfbiaaGreatB1
namespace Go.Proofs.YtgkjmjlkhnfbiaaGreat
set_option linter.unusedSimpArgs false
set_option linter.unusedVariables false
open Go.RowKit

/-- a slice of slices of numbers -/
def OwnII (w : World) (base : Nat) (v : Value) (rows : List (List Int)) : Prop := ∃ vs, OwnV w base v vs rows
theorem OwnII.nil (w : World) (base : Nat) : OwnII w base (.slice none 0 0) [] := ⟨[], OwnV.nil w base⟩
theorem OwnII.base {w : World} {base base' : Nat} {v : Value} {rows : List (List Int)} (h : OwnII w base v rows) (hb : base' ≤ base) : OwnII w base' v rows := h.elim fun vs k => ⟨vs, k.base hb⟩
theorem OwnII.below {w w' : World} {base : Nat} {v : Value} {rows : List (List Int)} (h : OwnII w base v rows) (hb : Below w.heap.size w w') : OwnII w' base v rows := h.elim fun vs k => ⟨vs, k.below hb⟩
theorem OwnII.seen {w : World} {base : Nat} {v : Value} {rows : List (List Int)} (h : OwnII w base v rows) : SeenII w w.heap.size v rows := h.elim fun _ k => k.seen

/-- the numbers from k on, through all rows -/
def M.tot (rows : List (List Int)) : Nat := (rows.map List.length).sum
def M.marksL (k : Int) : List (List Int) → List (List Int)
  | [] => []
  | r :: rs => M.marks k r.length :: M.marksL (k + r.length) rs
theorem M.tot_append (l m : List (List Int)) : M.tot (l ++ m) = M.tot l + M.tot m := by simp [M.tot]
theorem M.marksL_len (k : Int) : ∀ rows : List (List Int), (M.marksL k rows).length = rows.length
  | [] => rfl
  | r :: rs => by simp [M.marksL, M.marksL_len]
theorem M.marksL_snoc (k : Int) (r : List Int) : ∀ l : List (List Int), M.marksL k (l ++ [r]) = M.marksL k l ++ [M.marks (k + M.tot l) r.length]
  | [] => by simp [M.marksL, M.tot]
  | q :: l => by
    have e : k + (q.length : Int) + (M.tot l : Int) = k + (M.tot (q :: l) : Int) := by
      have : M.tot (q :: l) = q.length + M.tot l := by simp [M.tot]
      rw [this]
      push_cast
      omega
    simp only [List.cons_append, M.marksL, M.marksL_snoc _ r l]
    rw [e]
theorem M.take_snoc {rows : List (List Int)} {j : Nat} {r : List Int} (h : rows[j]? = some r) : rows.take (j + 1) = rows.take j ++ [r] := by
  obtain ⟨hk, e⟩ := List.getElem?_eq_some_iff.1 h
  rw [List.take_succ_eq_append_getElem hk, e]
theorem M.marksL_step {k : Int} {rows : List (List Int)} {j : Nat} {r : List Int} (h : rows[j]? = some r) :
    (M.marksL k (rows.take j) ++ rows.drop j).set j (M.marks (k + M.tot (rows.take j)) r.length) = M.marksL k (rows.take (j + 1)) ++ rows.drop (j + 1) := by
  obtain ⟨hk, e⟩ := List.getElem?_eq_some_iff.1 h
  have hl : (M.marksL k (rows.take j)).length = j := by rw [M.marksL_len, List.length_take]; omega
  rw [List.set_append_right _ _ (by omega), hl, Nat.sub_self, List.drop_eq_getElem_cons hk, List.set_cons_zero, M.take_snoc h, M.marksL_snoc]
  simp
theorem M.tot_le {rows : List (List Int)} {j : Nat} {r : List Int} (h : rows[j]? = some r) : M.tot (rows.take j) + r.length ≤ M.tot rows := by
  have e : rows = rows.take (j + 1) ++ rows.drop (j + 1) := (List.take_append_drop _ _).symm
  have h2 := congrArg M.tot e
  rw [M.tot_append, M.take_snoc h, M.tot_append] at h2
  have : M.tot [r] = r.length := by simp [M.tot]
  omega

theorem OwnV.mark {w w' : World} {base : Nat} {v : Value} {vs : List Value} {rows : List (List Int)} {j : Nat} {u : Value} {r : List Int} (h : OwnV w base v vs rows) (hj : vs[j]? = some u) (hu : OwnI w' base u r) (hg : w.grownBy w' u.ownBlock) : OwnV w' base v vs (rows.set j r) := by
  obtain ⟨h1, h2, h3, h4⟩ := h
  have hjl := (List.getElem?_eq_some_iff.1 hj).1
  have hur := h3 j u _ hj (List.getElem?_eq_getElem (by omega))
  refine ⟨by rw [List.length_set]; exact World.ownsRow.kept h1 hg (by
      cases hb : u.ownBlock with
      | none => cases hv : v.ownBlock <;> simp
      | some g => exact Or.inr (own_ne (t1 := 28) (t2 := 3) h1 hur ints_ne_int g hb)), by rw [List.length_set]; exact h2, fun i z q hz hq => ?_, h4⟩
  by_cases hij : j = i
  · subst hij
    rw [hj] at hz
    rw [List.getElem?_set_self (by omega)] at hq
    obtain rfl := Option.some.inj hz
    obtain rfl := Option.some.inj hq
    exact hu
  · rw [List.getElem?_set_ne hij] at hq
    refine (h3 i z q hz hq).kept hg fun g hb => ?_
    have hil := (List.getElem?_eq_some_iff.1 hz).1
    obtain ⟨_, ez⟩ := List.getElem?_eq_some_iff.1 hz
    obtain ⟨_, ej⟩ := List.getElem?_eq_some_iff.1 hj
    have hp := List.pairwise_iff_getElem.1 h4
    rcases Nat.lt_or_gt_of_ne hij with hlt | hlt
    · have := hp j i hjl hil hlt g (by rw [ej]; exact hb)
      rwa [ez] at this
    · intro hzb
      have := hp i j hil hjl hlt g (by rw [ez]; exact hzb)
      rw [ej] at this
      exact this hb

end Go.Proofs.YtgkjmjlkhnfbiaaGreat

namespace Go.Proofs.YtgkjmjlkhnfbiaaGreat
set_option linter.unusedSimpArgs false
set_option linter.unusedVariables false
open Go.RowKit

theorem box2_0 (w : World) (cs ds : Array Value) (T U : TypeId) (j : Nat) : ((w.alloc (.cells cs T)).alloc (.cells ds U)).cell? ⟨w.heap.size, j, none⟩ = cs[j]? := by
  rw [World.cell?_alloc_past _ _ _ (by rw [World.size_alloc]; omega), World.cell?_alloc_at _ _ _ _ rfl]
theorem box2_1 (w : World) (cs ds : Array Value) (T U : TypeId) (j : Nat) : ((w.alloc (.cells cs T)).alloc (.cells ds U)).cell? ⟨w.heap.size + 1, j, none⟩ = ds[j]? := by
  rw [World.cell?_alloc_at _ _ _ _ (by rw [World.size_alloc])]

theorem find_hit {f : Int → Bool} {xs : List Int} {k : Nat} {x : Int} (h0 : (xs.take k).find? f = none) (hx : xs[k]? = some x) (hf : f x = true) : xs.find? f = some x := by
  have h := take_next hx
  have e : xs = xs.take (k + 1) ++ xs.drop (k + 1) := (List.take_append_drop _ _).symm
  rw [e, List.find?_append, h, List.find?_append, h0]
  simp [hf]
theorem find_next {f : Int → Bool} {xs : List Int} {k : Nat} {x : Int} (h0 : (xs.take k).find? f = none) (hx : xs[k]? = some x) (hf : f x = false) : (xs.take (k + 1)).find? f = none := by
  rw [take_next hx, List.find?_append, h0]
  simp [hf]

noncomputable def fdV (a b c d n : Int) : Int := (M.firstD a b c d n).getD 0
noncomputable def fdB (a b c d n : Int) : Bool := (M.firstD a b c d n).isSome

end Go.Proofs.YtgkjmjlkhnfbiaaGreat

namespace Go.Proofs.YtgkjmjlkhnfbiaaGreat
set_option linter.unusedSimpArgs false
set_option linter.unusedVariables false
open Go.RowKit

/-- a table is asked for -/
def trAsk (a b n : Int) : Bool := M.good a b && M.ins n 5 200
theorem trAsk_t {a b n : Int} (h : trAsk a b n = true) : M.good a b = true ∧ 5 ≤ n ∧ n ≤ 200 := by
  simp only [trAsk, Bool.and_eq_true, M.ins_iff] at h
  exact ⟨h.1, h.2.1, h.2.2⟩

noncomputable def hsOk (a b c d n : Int) : Bool := trAsk a b n && M.good c d
theorem fdV_zero {a b c d n : Int} : (fdV a b c d n == 0) = !fdB a b c d n := by
  unfold fdV fdB M.firstD
  cases h : (M.goods a b n).find? (M.differ a b c d) with
  | none => rfl
  | some x =>
    have := (M.mem_goods (List.mem_of_find?_eq_some h)).2.1
    simp
    omega

noncomputable def fdOk (a b c d n : Int) : Bool := hsOk a b c d n && fdB a b c d n

end Go.Proofs.YtgkjmjlkhnfbiaaGreat

namespace Go.Proofs.YtgkjmjlkhnfbiaaGreat
set_option linter.unusedSimpArgs false
set_option linter.unusedVariables false
open Go.RowKit

/-- the sum of the traces at some primes -/
noncomputable def mtStep (a b : Int) (s p : Int) : Int := s + M.trace a b p
noncomputable def mtSum (a b n : Int) : Int := (M.goods a b n).foldl (mtStep a b) 0
theorem mt_bd (a b n : Int) : ∀ k : Nat, -(1000 * (k : Int)) ≤ ((M.goods a b n).take k).foldl (mtStep a b) 0 ∧ ((M.goods a b n).take k).foldl (mtStep a b) 0 ≤ 1000 * (k : Int)
  | 0 => by simp
  | k + 1 => by
    have ih := mt_bd a b n k
    cases hx : (M.goods a b n)[k]? with
    | none =>
      have hl := List.getElem?_eq_none_iff.1 hx
      rw [List.take_of_length_le (by omega)]
      rw [List.take_of_length_le hl] at ih
      omega
    | some p =>
      rw [foldl_next _ _ hx]
      have hp := (M.mem_goods (List.mem_of_getElem? hx)).1
      have := goodp_trace hp
      unfold mtStep at ih ⊢
      omega
theorem goods_le (a b n : Int) (n2 : n ≤ 1000) : (M.goods a b n).length ≤ 1000 := by
  have := M.sel_le (M.goodp a b) 5 (n - 4).toNat
  unfold M.goods
  omega
noncomputable def mtOk (a b n : Int) : Bool := trAsk a b n && !(M.goods a b n).isEmpty
noncomputable def mtq (a b n : Int) : Bool := mtOk a b n && frq (mtSum a b n) (M.goods a b n).length
noncomputable def mtX (a b n : Int) : Int := M.pick (mtq a b n) (partN (mtSum a b n) (M.goods a b n).length)
noncomputable def mtY (a b n : Int) : Int := M.pick (mtq a b n) (partD (mtSum a b n) (M.goods a b n).length)

end Go.Proofs.YtgkjmjlkhnfbiaaGreat

namespace Go.Proofs.YtgkjmjlkhnfbiaaGreat
set_option linter.unusedSimpArgs false
set_option linter.unusedVariables false
open Go.RowKit

noncomputable def trRow (a b p : Int) : List Int := [p, M.trace a b p]
noncomputable def trRows (a b n : Int) : List (List Int) := (M.goods a b n).map (trRow a b)
theorem trRows_take {a b n : Int} {k : Nat} {p : Int} (h : (M.goods a b n)[k]? = some p) : ((M.goods a b n).take (k + 1)).map (trRow a b) = ((M.goods a b n).take k).map (trRow a b) ++ [trRow a b p] := by
  rw [take_next h, List.map_append]
  rfl
theorem OwnI.lit2 (w : World) (base : Nat) (x y : Int) (hb : base ≤ w.heap.size) : OwnI (w.alloc (.cells #[.int .i64 x, .int .i64 y] 3)) base (.slice (some ⟨w.heap.size, 0, none⟩) 2 2) [x, y] :=
  World.ownsRow_lit w #[.int .i64 x, .int .i64 y] 2 hb (by unfold maxLen; omega) rfl

theorem row_new {w w' : World} {base : Nat} {v : Value} {vs : List Value} {rows : List (List Int)} {n m : Nat} (h : OwnV w base v vs rows) (hb : Below w.heap.size w w') (z : Value) (hz : z ∈ vs) (g : Nat) (hzg : z.ownBlock = some g) (hg : (Value.slice (some ⟨w'.heap.size, 0, none⟩) n m).ownBlock = some g) : False := by
  have := ((h.below hb).lt z hz g hzg).2
  simp only [Value.ownBlock, Option.some.injEq] at hg
  omega

end Go.Proofs.YtgkjmjlkhnfbiaaGreat

namespace Go.Proofs.YtgkjmjlkhnfbiaaGreat
set_option linter.unusedSimpArgs false
set_option linter.unusedVariables false
open Go.RowKit
def M.qval (D A C m e : Int) : Int := D * (m * m * m * m) + A * (m * m * e * e) + C * (e * e * e * e)
/-- a quartic's coefficients within bounds -/
def M.qin (D A C : Int) : Prop := (-100000 ≤ D ∧ D ≤ 100000) ∧ (-100000 ≤ A ∧ A ≤ 100000) ∧ (-100000 ≤ C ∧ C ≤ 100000)
theorem M.qval_bd {D A C m e : Int} (h : M.qin D A C) (m0 : 0 ≤ m) (m1 : m ≤ 60) (e0 : 0 ≤ e) (e1 : e ≤ 60) : M.qval D A C m e ≤ 8000000000000 := by
  obtain ⟨⟨d1, d2⟩, ⟨a1, a2⟩, c1, c2⟩ := h
  have x1 := M.mul_nn (x := m) (y := m) (m := 60) (n := 60) m0 m1 m0 m1
  have x2 := M.mul_nn (x := m * m) (y := m) (m := 3600) (n := 60) x1.1 x1.2 m0 m1
  have x3 := M.mul_nn (x := m * m * m) (y := m) (m := 216000) (n := 60) x2.1 x2.2 m0 m1
  have y2 := M.mul_nn (x := m * m) (y := e) (m := 3600) (n := 60) x1.1 x1.2 e0 e1
  have y3 := M.mul_nn (x := m * m * e) (y := e) (m := 216000) (n := 60) y2.1 y2.2 e0 e1
  have z1 := M.mul_nn (x := e) (y := e) (m := 60) (n := 60) e0 e1 e0 e1
  have z2 := M.mul_nn (x := e * e) (y := e) (m := 3600) (n := 60) z1.1 z1.2 e0 e1
  have z3 := M.mul_nn (x := e * e * e) (y := e) (m := 216000) (n := 60) z2.1 z2.2 e0 e1
  have u1 := M.mul_bd (x := D) (y := m * m * m * m) (m := 100000) (n := 12960000) d1 d2 (by omega) (by omega)
  have u2 := M.mul_bd (x := A) (y := m * m * e * e) (m := 100000) (n := 12960000) a1 a2 (by omega) (by omega)
  have u3 := M.mul_bd (x := C) (y := e * e * e * e) (m := 100000) (n := 12960000) c1 c2 (by omega) (by omega)
  unfold M.qval
  omega
set_option maxHeartbeats 1000000 in
theorem value_c (D A C m e : Int) (w : World) (h : M.qin D A C) (m0 : 0 ≤ m) (m1 : m ≤ 60) (e0 : 0 ≤ e) (e1 : e ≤ 60) :
    Calls Tryz.prog 137 #[.agg #[.int .i64 D, .int .i64 A, .int .i64 C], .int .i64 m, .int .i64 e] w fun e' w' => e' = .returned (.int .i64 (M.qval D A C m e)) ∧ Below w.heap.size w w' := by
  obtain ⟨⟨d1, d2⟩, ⟨a1, a2⟩, c1, c2⟩ := h
  have x1 := M.mul_bd (x := D) (y := m) (m := 100000) (n := 60) d1 d2 (by omega) (by omega)
  have x2 := M.mul_bd (x := D * m) (y := m) (m := 6000000) (n := 60) (by omega) (by omega) (by omega) (by omega)
  have y1 := M.mul_bd (x := A) (y := e) (m := 100000) (n := 60) a1 a2 (by omega) (by omega)
  have y2 := M.mul_bd (x := A * e) (y := e) (m := 6000000) (n := 60) (by omega) (by omega) (by omega) (by omega)
  have x3 := M.mul_bd (x := D * m * m + A * e * e) (y := m) (m := 720000000) (n := 60) (by omega) (by omega) (by omega) (by omega)
  have x4 := M.mul_bd (x := (D * m * m + A * e * e) * m) (y := m) (m := 43200000000) (n := 60) (by omega) (by omega) (by omega) (by omega)
  have z1 := M.mul_bd (x := C) (y := e) (m := 100000) (n := 60) c1 c2 (by omega) (by omega)
  have z2 := M.mul_bd (x := C * e) (y := e) (m := 6000000) (n := 60) (by omega) (by omega) (by omega) (by omega)
  have z3 := M.mul_bd (x := C * e * e) (y := e) (m := 360000000) (n := 60) (by omega) (by omega) (by omega) (by omega)
  have z4 := M.mul_bd (x := C * e * e * e) (y := e) (m := 21600000000) (n := 60) (by omega) (by omega) (by omega) (by omega)
  have hv : M.qval D A C m e = (D * m * m + A * e * e) * m * m + C * e * e * e * e := by unfold M.qval; grind
  rw [hv]
  clear hv
  go_enter Tryz.func137, Tryz.ntmps137
  go_wp2
  go_ret
  exact ⟨rfl, (by repeat (first | exact Below.refl _ _ | refine below_alloc ?_ _ | refine below_step ?_ (by assumption) | refine Below.drew ?_ | refine Below.setCell ?_ (by first | exact Nat.le_refl _ | exact Nat.le_add_right _ _ | (simp <;> omega)) _ | refine below_drewN ?_ _))⟩
set_option maxHeartbeats 1000000 in
theorem loValue_c (D A C m e : Int) (w : World) (h : M.qin D A C) (m0 : 0 ≤ m) (m1 : m ≤ 60) (e0 : 0 ≤ e) (e1 : e ≤ 60) :
    Calls Tryz.prog 140 #[.agg #[.int .i64 D, .int .i64 A, .int .i64 C], .int .i64 m, .int .i64 e] w fun e' w' => e' = .returned (.int .i64 (M.qval D A C m e)) ∧ Below w.heap.size w w' := by
  obtain ⟨⟨d1, d2⟩, ⟨a1, a2⟩, c1, c2⟩ := h
  have x1 := M.mul_nn (x := m) (y := m) (m := 60) (n := 60) m0 m1 m0 m1
  have z1 := M.mul_nn (x := e) (y := e) (m := 60) (n := 60) e0 e1 e0 e1
  have x2 := M.mul_bd (x := D) (y := m * m) (m := 100000) (n := 3600) d1 d2 (by omega) (by omega)
  have x3 := M.mul_bd (x := D * (m * m)) (y := m * m) (m := 360000000) (n := 3600) (by omega) (by omega) (by omega) (by omega)
  have y2 := M.mul_bd (x := A) (y := m * m) (m := 100000) (n := 3600) a1 a2 (by omega) (by omega)
  have y3 := M.mul_bd (x := A * (m * m)) (y := e * e) (m := 360000000) (n := 3600) (by omega) (by omega) (by omega) (by omega)
  have z2 := M.mul_bd (x := C) (y := e * e) (m := 100000) (n := 3600) c1 c2 (by omega) (by omega)
  have z3 := M.mul_bd (x := C * (e * e)) (y := e * e) (m := 360000000) (n := 3600) (by omega) (by omega) (by omega) (by omega)
  have hv : M.qval D A C m e = D * (m * m) * (m * m) + A * (m * m) * (e * e) + C * (e * e) * (e * e) := by unfold M.qval; grind
  rw [hv]
  clear hv
  go_enter Tryz.func140, Tryz.ntmps140
  go_wp2
  go_ret
  exact ⟨rfl, (by repeat (first | exact Below.refl _ _ | refine below_alloc ?_ _ | refine below_step ?_ (by assumption) | refine Below.drew ?_ | refine Below.setCell ?_ (by first | exact Nat.le_refl _ | exact Nat.le_add_right _ _ | (simp <;> omega)) _ | refine below_drewN ?_ _))⟩
theorem M.any_succ (f : Nat → Bool) (n : Nat) : (List.range (n + 1)).any f = ((List.range n).any f || f n) := by
  rw [List.range_succ, List.any_append]
  simp
noncomputable def M.ptAt (D A C : Int) (m e : Nat) : Bool := M.gcd m e == 1 && M.isSq (M.qval D A C m e)
noncomputable def M.ptRow (D A C : Int) (n m : Nat) : Bool := (List.range n).any (M.ptAt D A C m)
/-- whether there are points within a bound -/
noncomputable def M.pts (D A C : Int) (n : Nat) : Bool := (List.range (n + 1)).any (M.ptRow D A C (n + 1))
theorem OwnI.lit3 (w : World) (base : Nat) (x y z : Int) (hb : base ≤ w.heap.size) : OwnI (w.alloc (.cells #[.int .i64 x, .int .i64 y, .int .i64 z] 3)) base (.slice (some ⟨w.heap.size, 0, none⟩) 3 3) [x, y, z] :=
  World.ownsRow_lit w #[.int .i64 x, .int .i64 y, .int .i64 z] 3 hb (by unfold maxLen; omega) rfl
/-- what comes of the search: a slice with elements or none -/
def Found (v : Value) (b : Bool) : Prop := ∃ (a : Option Addr) (n cap : Nat), v = .slice a n cap ∧ n ≤ 4000 ∧ decide (0 < n) = b
set_option maxHeartbeats 2000000 in
theorem points_c (D A C : Int) (n : Nat) (w : World) (h : M.qin D A C) (hn : n ≤ 60) :
    Calls Tryz.prog 106 #[.agg #[.int .i64 D, .int .i64 A, .int .i64 C], .int .i64 n] w fun e' w' => ∃ v, e' = .returned v ∧ Found v (M.pts D A C n) ∧ Below w.heap.size w w' := by
  have hg := fun (x y : Nat) (h1 : x ≤ 60) (h2 : y ≤ 60) W => gcd_c (x : Int) (y : Int) W (by omega) (by omega) (by omega) (by omega)
  have hv := fun (x y : Nat) (h1 : x ≤ 60) (h2 : y ≤ 60) W => value_c D A C x y W h (by omega) (by omega) (by omega) (by omega)
  have hr := fun (x y : Nat) (h1 : x ≤ 60) (h2 : y ≤ 60) W => exactRoot_c (M.qval D A C x y) W (M.qval_bd h (by omega) (by omega) (by omega) (by omega))
  go_enter Tryz.func106, Tryz.ntmps106
  go_wp2
  obtain ⟨c0, c1, c2⟩ : (w.alloc (.cells #[.int .i64 D, .int .i64 A, .int .i64 C] 35)).cell? ⟨w.heap.size, 0, none⟩ = some (.int .i64 D) ∧ (w.alloc (.cells #[.int .i64 D, .int .i64 A, .int .i64 C] 35)).cell? ⟨w.heap.size, 1, none⟩ = some (.int .i64 A) ∧ (w.alloc (.cells #[.int .i64 D, .int .i64 A, .int .i64 C] 35)).cell? ⟨w.heap.size, 2, none⟩ = some (.int .i64 C) := ⟨by simp [go_sem], by simp [go_sem], by simp [go_sem]⟩
  have hbw : Below w.heap.size w (w.alloc (.cells #[.int .i64 D, .int .i64 A, .int .i64 C] 35)) := (by repeat (first | exact Below.refl _ _ | refine below_alloc ?_ _ | refine below_step ?_ (by assumption) | refine Below.drew ?_ | refine Below.setCell ?_ (by first | exact Nat.le_refl _ | exact Nat.le_add_right _ _ | (simp <;> omega)) _ | refine below_drewN ?_ _))
  have hsz : (w.alloc (.cells #[.int .i64 D, .int .i64 A, .int .i64 C] 35)).heap.size = w.heap.size + 1 := by simp
  generalize hw1 : w.alloc (.cells #[.int .i64 D, .int .i64 A, .int .i64 C] 35) = w1 at *
  go_loopw [5, 6, 7, 8, 9, 12] (fun vo _ _ _ _ vi wr => ∃ (k : Nat) (vs : List Value) (rows : List (List Int)), k ≤ n + 1 ∧ vi = .int .i64 k ∧ OwnV wr w1.heap.size vo vs rows ∧ rows.length ≤ 61 * k ∧ decide (0 < rows.length) = (List.range k).any (M.ptRow D A C (n + 1)) ∧ Below w1.heap.size w1 wr) (fun _ _ _ _ _ vi _ => n + 1 - (intOf vi).toNat)
  case atStart => exact ⟨0, [], [], by omega, rfl, OwnV.nil _ _, by simp, by simp, Below.refl _ _⟩
  case round =>
    obtain ⟨k, vs, rows, hk, rfl, hov, hl, hany, hbr⟩ := hrel
    have z2 := hbr.size
    have Hany := Lib.hid hany
    clear hany
    by_cases hlt : k < n + 1
    · have hlt2 : (k : Int) < (n : Int) + 1 := by omega
      go_wp2
      generalize wr = w2 at *
      go_loopw [5, 7, 8, 9, 17] (fun vo _ _ _ vi wr => ∃ (j : Nat) (us : List Value) (rs : List (List Int)), j ≤ n + 1 ∧ vi = .int .i64 j ∧ OwnV wr w1.heap.size vo us rs ∧ rs.length ≤ 61 * k + j ∧ decide (0 < rs.length) = ((List.range k).any (M.ptRow D A C (n + 1)) || (List.range j).any (M.ptAt D A C k)) ∧ Below w1.heap.size w1 wr) (fun _ _ _ _ vi _ => n + 1 - (intOf vi).toNat)
      case atStart => exact ⟨0, vs, rows, by omega, rfl, hov, by omega, by rw [Hany.out]; simp, hbr⟩
      case round =>
        clear hov hl hbr z2
        obtain ⟨j, us, rs, hj, rfl, hov, hl, hany, hbr⟩ := hrel
        have z2 := hbr.size
        have Hany2 := Lib.hid hany
        clear hany
        by_cases hjt : j < n + 1
        · have hjt2 : (j : Int) < (n : Int) + 1 := by omega
          have e0 := keepCell hbr c0
          have e1 := keepCell hbr c1
          have e2 := keepCell hbr c2
          have a1 := hg k j (by omega) (by omega)
          have a2 := hv k j (by omega) (by omega)
          have a3 := hr k j (by omega) (by omega)
          have hst := Lib.hid (M.any_succ (M.ptAt D A C k) j)
          have hp : Hid (M.ptAt D A C k j = (M.gcd k j == 1 && M.isSq (M.qval D A C k j))) := Lib.hid rfl
          clear hg hv hr c0 c1 c2
          generalize M.gcd (k : Int) (j : Int) = g at *
          by_cases hgg : g = 1
          · subst hgg
            cases hs : M.isSq (M.qval D A C k j)
            · rw [hs] at hp
              rw [hs] at a3
              have a3 := Lib.hid a3
              go_wp2_with (first | (go_at_call 105; (with_reducible refine (a1 _).mono ?_); rintro e w3 ⟨rfl, mq, rfl⟩) | (go_at_call 137; (with_reducible refine (a2 _).mono ?_); rintro e w3 ⟨rfl, hb3⟩) | (go_at_call 136; (with_reducible refine (a3.out _).mono ?_); rintro e w4 ⟨rt, rfl, rfl⟩))
              go_roundw
              case rel => exact ⟨j + 1, us, rs, by omega, by go_num, hov.below (by have := hbr; exact (by repeat (first | exact Below.refl _ _ | refine below_alloc ?_ _ | refine below_step ?_ (by assumption) | refine Below.drew ?_ | refine Below.setCell ?_ (by first | exact Nat.le_refl _ | exact Nat.le_add_right _ _ | (simp <;> omega)) _ | refine below_drewN ?_ _))), by omega, by rw [hst.out, hp.out, Hany2.out]; simp, by have := hbr; exact (by repeat (first | exact Below.refl _ _ | refine below_alloc ?_ _ | refine below_step ?_ (by assumption) | refine Below.drew ?_ | refine Below.setCell ?_ (by first | exact Nat.le_refl _ | exact Nat.le_add_right _ _ | (simp <;> omega)) _ | refine below_drewN ?_ _))⟩
              case measure => simp [intOf]; omega
            · rw [hs] at hp
              rw [hs] at a3
              have a3 := Lib.hid a3
              go_wp2_with (first | (go_at_call 105; (with_reducible refine (a1 _).mono ?_); rintro e w3 ⟨rfl, mq, rfl⟩) | (go_at_call 137; (with_reducible refine (a2 _).mono ?_); rintro e w3 ⟨rfl, hb3⟩; (have hov3 := hov.below (by have := hbr; exact (below_step (below_drewN (Below.refl wr.heap.size wr) mq) hb3)); have hbr3 := Below.trans hbr ((below_step (below_drewN (Below.refl wr.heap.size wr) mq) hb3).mono z2); have z3 := hbr3.size)) | (go_at_call 136; (with_reducible refine (a3.out _).mono ?_); rintro e w4 ⟨rt, rfl, rfl⟩) | (at_builtin; refine push_row (W := w1) w1.heap.size (.slice (some ⟨w3.heap.size, 0, none⟩) 3 3) [(k : Int), (j : Int), rt] us rs _ (w3.heap.size + 1) (by simp) rfl _ _ rfl rfl rfl (hov3.alloc _) (OwnI.lit3 _ _ _ _ _ (by omega)) (fun q hq z hz hzq => row_new hov3 (Below.refl _ _) z hz q hzq hq) (hbr3.alloc (by omega) _) (by simp; omega) (by omega) ?_; rintro v5 w5 hov5 hb5))
              go_roundw
              case rel => exact ⟨j + 1, _, _, by omega, by go_num, hov5, by simp; omega, by rw [hst.out, hp.out]; simp, hb5⟩
              case measure => simp [intOf]; omega
          · have hf : (g == 1) = false := by simpa using hgg
            rw [hf] at hp
            go_wp2_with (go_at_call 105; (with_reducible refine (a1 _).mono ?_); rintro e w3 ⟨rfl, mq, rfl⟩)
            go_roundw
            case rel => exact ⟨j + 1, us, rs, by omega, by go_num, hov.below (by repeat (first | exact Below.refl _ _ | refine below_alloc ?_ _ | refine below_step ?_ (by assumption) | refine Below.drew ?_ | refine Below.setCell ?_ (by first | exact Nat.le_refl _ | exact Nat.le_add_right _ _ | (simp <;> omega)) _ | refine below_drewN ?_ _)), by omega, by rw [hst.out, hp.out, Hany2.out]; simp, by have := hbr; exact (by repeat (first | exact Below.refl _ _ | refine below_alloc ?_ _ | refine below_step ?_ (by assumption) | refine Below.drew ?_ | refine Below.setCell ?_ (by first | exact Nat.le_refl _ | exact Nat.le_add_right _ _ | (simp <;> omega)) _ | refine below_drewN ?_ _))⟩
            case measure => simp [intOf]; omega
        · obtain rfl : j = n + 1 := by omega
          have hst := Lib.hid (M.any_succ (M.ptRow D A C (n + 1)) k)
          have hlt3 : ¬ ((n : Int) + 1 < (n : Int) + 1) := by omega
          go_wp2
          go_roundw
          case rel => exact ⟨k + 1, us, rs, by omega, by go_num, hov, by omega, by rw [hst.out, Hany2.out]; rfl, hbr⟩
          case measure => simp [intOf]; omega
    · obtain rfl : k = n + 1 := by omega
      obtain ⟨av, cap, rfl, -⟩ := hov.view
      go_wp2
      go_ret
      exact ⟨_, rfl, ⟨_, _, _, rfl, by omega, by rw [Hany.out]; rfl⟩, below_step hbw hbr⟩
set_option maxHeartbeats 2000000 in
theorem seOnQuartic_c (D A C : Int) (n : Nat) (w : World) (h : M.qin D A C) (hn : n ≤ 60) :
    Calls Tryz.prog 107 #[.agg #[.int .i64 D, .int .i64 A, .int .i64 C], .int .i64 n] w fun e' w' => ∃ v, e' = .returned v ∧ Found v (M.pts D A C n) ∧ Below w.heap.size w w' := by
  have hg := fun (x y : Nat) (h1 : x ≤ 60) (h2 : y ≤ 60) W => bgCommon_c (x : Int) (y : Int) W (by omega) (by omega) (by omega) (by omega)
  have hv := fun (x y : Nat) (h1 : x ≤ 60) (h2 : y ≤ 60) W => loValue_c D A C x y W h (by omega) (by omega) (by omega) (by omega)
  have hr := fun (x y : Nat) (h1 : x ≤ 60) (h2 : y ≤ 60) W => seRoot_c (M.qval D A C x y) W (M.qval_bd h (by omega) (by omega) (by omega) (by omega))
  go_enter Tryz.func107, Tryz.ntmps107
  go_wp2
  obtain ⟨c0, c1, c2⟩ : (w.alloc (.cells #[.int .i64 D, .int .i64 A, .int .i64 C] 35)).cell? ⟨w.heap.size, 0, none⟩ = some (.int .i64 D) ∧ (w.alloc (.cells #[.int .i64 D, .int .i64 A, .int .i64 C] 35)).cell? ⟨w.heap.size, 1, none⟩ = some (.int .i64 A) ∧ (w.alloc (.cells #[.int .i64 D, .int .i64 A, .int .i64 C] 35)).cell? ⟨w.heap.size, 2, none⟩ = some (.int .i64 C) := ⟨by simp [go_sem], by simp [go_sem], by simp [go_sem]⟩
  have hbw : Below w.heap.size w (w.alloc (.cells #[.int .i64 D, .int .i64 A, .int .i64 C] 35)) := (by repeat (first | exact Below.refl _ _ | refine below_alloc ?_ _ | refine below_step ?_ (by assumption) | refine Below.drew ?_ | refine Below.setCell ?_ (by first | exact Nat.le_refl _ | exact Nat.le_add_right _ _ | (simp <;> omega)) _ | refine below_drewN ?_ _))
  have hsz : (w.alloc (.cells #[.int .i64 D, .int .i64 A, .int .i64 C] 35)).heap.size = w.heap.size + 1 := by simp
  generalize hw1 : w.alloc (.cells #[.int .i64 D, .int .i64 A, .int .i64 C] 35) = w1 at *
  go_loopw [5, 6, 7, 8] (fun vo vi _ _ wr => ∃ (k : Nat) (vs : List Value) (rows : List (List Int)), k ≤ n + 1 ∧ vi = .int .i64 k ∧ OwnV wr w1.heap.size vo vs rows ∧ rows.length ≤ 61 * k ∧ decide (0 < rows.length) = (List.range k).any (M.ptRow D A C (n + 1)) ∧ Below w1.heap.size w1 wr) (fun _ vi _ _ _ => n + 1 - (intOf vi).toNat)
  case atStart => exact ⟨0, [], [], by omega, rfl, OwnV.nil _ _, by simp, by simp, Below.refl _ _⟩
  case round =>
    obtain ⟨k, vs, rows, hk, rfl, hov, hl, hany, hbr⟩ := hrel
    have z2 := hbr.size
    have Hany := Lib.hid hany
    clear hany
    by_cases hlt : k < n + 1
    · have hlt2 : (k : Int) ≤ (n : Int) := by omega
      go_wp2
      generalize wr = w2 at *
      go_loopw [5, 7, 8] (fun vo vi _ wr => ∃ (j : Nat) (us : List Value) (rs : List (List Int)), j ≤ n + 1 ∧ vi = .int .i64 j ∧ OwnV wr w1.heap.size vo us rs ∧ rs.length ≤ 61 * k + j ∧ decide (0 < rs.length) = ((List.range k).any (M.ptRow D A C (n + 1)) || (List.range j).any (M.ptAt D A C k)) ∧ Below w1.heap.size w1 wr) (fun _ vi _ _ => n + 1 - (intOf vi).toNat)
      case atStart => exact ⟨0, vs, rows, by omega, rfl, hov, by omega, by rw [Hany.out]; simp, hbr⟩
      case round =>
        clear hov hl hbr z2
        obtain ⟨j, us, rs, hj, rfl, hov, hl, hany, hbr⟩ := hrel
        have z2 := hbr.size
        have Hany2 := Lib.hid hany
        clear hany
        by_cases hjt : j < n + 1
        · have hjt2 : (j : Int) ≤ (n : Int) := by omega
          have e0 := keepCell hbr c0
          have e1 := keepCell hbr c1
          have e2 := keepCell hbr c2
          have a1 := hg k j (by omega) (by omega)
          have a2 := hv k j (by omega) (by omega)
          have a3 := hr k j (by omega) (by omega)
          have hst := Lib.hid (M.any_succ (M.ptAt D A C k) j)
          have hp : Hid (M.ptAt D A C k j = (M.gcd k j == 1 && M.isSq (M.qval D A C k j))) := Lib.hid rfl
          clear hg hv hr c0 c1 c2
          generalize M.gcd (k : Int) (j : Int) = g at *
          by_cases hgg : g = 1
          · subst hgg
            cases hs : M.isSq (M.qval D A C k j)
            · rw [hs] at hp
              rw [hs] at a3
              have a3 := Lib.hid a3
              go_wp2_with (first | (go_at_call 138; (with_reducible refine (a1 _).mono ?_); rintro e w3 ⟨rfl, rfl⟩) | (go_at_call 140; (with_reducible refine (a2 _).mono ?_); rintro e w3 ⟨rfl, hb3⟩) | (go_at_call 139; (with_reducible refine (a3.out _).mono ?_); rintro e w4 ⟨rt, rfl, hrt, rfl⟩; have hrt2 : ¬ (0 ≤ rt) := by simpa using hrt))
              go_roundw
              case rel => exact ⟨j + 1, us, rs, by omega, by go_num, hov.below (by have := hbr; exact (by repeat (first | exact Below.refl _ _ | refine below_alloc ?_ _ | refine below_step ?_ (by assumption) | refine Below.drew ?_ | refine Below.setCell ?_ (by first | exact Nat.le_refl _ | exact Nat.le_add_right _ _ | (simp <;> omega)) _ | refine below_drewN ?_ _))), by omega, by rw [hst.out, hp.out, Hany2.out]; simp, by have := hbr; exact (by repeat (first | exact Below.refl _ _ | refine below_alloc ?_ _ | refine below_step ?_ (by assumption) | refine Below.drew ?_ | refine Below.setCell ?_ (by first | exact Nat.le_refl _ | exact Nat.le_add_right _ _ | (simp <;> omega)) _ | refine below_drewN ?_ _))⟩
              case measure => simp [intOf]; omega
            · rw [hs] at hp
              rw [hs] at a3
              have a3 := Lib.hid a3
              go_wp2_with (first | (go_at_call 138; (with_reducible refine (a1 _).mono ?_); rintro e w3 ⟨rfl, rfl⟩) | (go_at_call 140; (with_reducible refine (a2 _).mono ?_); rintro e w3 ⟨rfl, hb3⟩; (have hov3 := hov.below hb3; have hbr3 := Below.trans hbr (hb3.mono z2); have z3 := hbr3.size)) | (go_at_call 139; (with_reducible refine (a3.out _).mono ?_); rintro e w4 ⟨rt, rfl, hrt, rfl⟩; have hrt2 : 0 ≤ rt := by simpa using hrt) | (at_builtin; refine push_row (W := w1) w1.heap.size (.slice (some ⟨w3.heap.size, 0, none⟩) 3 3) [(k : Int), (j : Int), rt] us rs _ (w3.heap.size + 1) (by simp) rfl _ _ rfl rfl rfl (hov3.alloc _) (OwnI.lit3 _ _ _ _ _ (by omega)) (fun q hq z hz hzq => row_new hov3 (Below.refl _ _) z hz q hzq hq) (hbr3.alloc (by omega) _) (by simp; omega) (by omega) ?_; rintro v5 w5 hov5 hb5))
              go_roundw
              case rel => exact ⟨j + 1, _, _, by omega, by go_num, hov5, by simp; omega, by rw [hst.out, hp.out]; simp, hb5⟩
              case measure => simp [intOf]; omega
          · have hf : (g == 1) = false := by simpa using hgg
            rw [hf] at hp
            go_wp2_with (go_at_call 138; (with_reducible refine (a1 _).mono ?_); rintro e w3 ⟨rfl, rfl⟩)
            go_roundw
            case rel => exact ⟨j + 1, us, rs, by omega, by go_num, hov, by omega, by rw [hst.out, hp.out, Hany2.out]; simp, hbr⟩
            case measure => simp [intOf]; omega
        · obtain rfl : j = n + 1 := by omega
          have hst := Lib.hid (M.any_succ (M.ptRow D A C (n + 1)) k)
          have hlt3 : ¬ ((n : Int) + 1 ≤ (n : Int)) := by omega
          go_wp2
          go_roundw
          case rel => exact ⟨k + 1, us, rs, by omega, by go_num, hov, by omega, by rw [hst.out, Hany2.out]; rfl, hbr⟩
          case measure => simp [intOf]; omega
    · obtain rfl : k = n + 1 := by omega
      obtain ⟨av, cap, rfl, -⟩ := hov.view
      have hlt3 : ¬ ((n : Int) + 1 ≤ (n : Int)) := by omega
      go_wp2
      go_ret
      exact ⟨_, rfl, ⟨_, _, _, rfl, by omega, by rw [Hany.out]; rfl⟩, below_step hbw hbr⟩
end Go.Proofs.YtgkjmjlkhnfbiaaGreat

namespace Go.Proofs.YtgkjmjlkhnfbiaaGreat
set_option linter.unusedSimpArgs false
set_option linter.unusedVariables false
namespace M
theorem ipow_pos {p : Int} (h : 1 ≤ p) : ∀ k : Nat, 1 ≤ ipow p k
  | 0 => by simp [ipow]
  | k + 1 => by
    have h1 := ipow_pos h k
    have := Int.mul_le_mul h1 h (by omega) (by omega)
    simpa [ipow] using this
theorem ipow_next {p : Int} (h : 1 ≤ p) (k : Nat) : ipow p k ≤ ipow p (k + 1) := by
  have h1 := ipow_pos h k
  have := Int.mul_le_mul_of_nonneg_left h (show 0 ≤ ipow p k by omega)
  simp only [ipow]
  omega
theorem ipow_mono {p : Int} (h : 1 ≤ p) {i j : Nat} (hij : i ≤ j) : ipow p i ≤ ipow p j := by
  induction j with
  | zero => obtain rfl : i = 0 := by omega
            exact Int.le_refl _
  | succ j ih =>
    rcases Nat.lt_or_ge i (j + 1) with q | q
    · exact Int.le_trans (ih (by omega)) (ipow_next h j)
    · obtain rfl : i = j + 1 := by omega
      exact Int.le_refl _
theorem ipow_two {p : Int} (h : 2 ≤ p) : ∀ k : Nat, (2 : Int) ^ k ≤ ipow p k
  | 0 => by simp [ipow]
  | k + 1 => by
    have h1 := ipow_two h k
    have h2 : (0 : Int) ≤ 2 ^ k := Int.pow_nonneg (by omega)
    have := Int.mul_le_mul h1 h (by omega) (by omega)
    simpa [ipow, Int.pow_succ] using this
theorem ipow_add (p : Int) (i : Nat) : ∀ j : Nat, ipow p (i + j) = ipow p i * ipow p j
  | 0 => by simp [ipow]
  | j + 1 => by
    show ipow p (i + j) * p = ipow p i * (ipow p j * p)
    rw [ipow_add p i j, Int.mul_assoc]
/-- the greatest power that is used -/
def IsDep (p : Int) (d : Nat) : Prop := ipow p d ≤ 1000000000 ∧ 1000000000 < ipow p (d + 1)
theorem IsDep.le {p : Int} {d j : Nat} (hp : 1 ≤ p) (h : IsDep p d) (hj : j ≤ d) : ipow p j ≤ 1000000000 := Int.le_trans (ipow_mono hp hj) h.1
theorem IsDep.iff {p : Int} {d j : Nat} (hp : 1 ≤ p) (h : IsDep p d) : ipow p j ≤ 1000000000 ↔ j ≤ d := by
  constructor
  · intro hj
    rcases Nat.lt_or_ge d j with q | q
    · have := ipow_mono hp (show d + 1 ≤ j from q)
      have := h.2
      omega
    · exact q
  · exact h.le hp
theorem dep_ex {p : Int} (h : 2 ≤ p) (h1 : p ≤ 1000000000) : ∃ d, 1 ≤ d ∧ d ≤ 29 ∧ IsDep p d := by
  have key : ∀ n : Nat, ipow p (n + 1) ≤ 1000000000 ∨ ∃ d, 1 ≤ d ∧ d ≤ n ∧ IsDep p d := by
    intro n
    induction n with
    | zero => exact Or.inl (by simpa [ipow] using h1)
    | succ n ih =>
      rcases ih with q | ⟨d, d1, d2, d3⟩
      · rcases Int.lt_or_le 1000000000 (ipow p (n + 1 + 1)) with r | r
        · exact Or.inr ⟨n + 1, by omega, by omega, q, r⟩
        · exact Or.inl r
      · exact Or.inr ⟨d, d1, by omega, d3⟩
  rcases key 29 with q | q
  · exfalso
    have q : ipow p 30 ≤ 1000000000 := q
    have h3 := ipow_two h 30
    rw [show (2 : Int) ^ 30 = 1073741824 from by decide] at h3
    omega
  · exact q
/-- the valuation's power divides, and what is left is no multiple -/
theorem valF_pow {p : Int} (hp : 2 ≤ p) : ∀ (f : Nat) (a : Int), a ≠ 0 → a.natAbs ≤ f → ∃ u, a = ipow p (valF p f a).toNat * u ∧ ¬ u % p = 0
  | 0, a, h, hf => absurd (show a = 0 by omega) h
  | f + 1, a, h, hf => by
    by_cases hd : a % p = 0
    · have hl := abs_div hp h hd
      obtain ⟨u, h1, h2⟩ := valF_pow hp f (a / p) hl.2 (by omega)
      have he := exact_div (n := a) (by omega) hd
      have hn := (valF_nn p f (a / p)).1
      refine ⟨u, ?_, h2⟩
      have e : (valF p (f + 1) a).toNat = (valF p f (a / p)).toNat + 1 := by
        simp only [valF, hd, if_true]
        omega
      rw [e]
      show a = ipow p (valF p f (a / p)).toNat * p * u
      rw [Int.mul_assoc, Int.mul_comm p u, ← Int.mul_assoc, ← h1, he]
    · refine ⟨a, ?_, hd⟩
      simp [valF, hd, ipow]
theorem valn_nn (a p : Int) : 0 ≤ valn a p := (valF_nn p _ a).1
theorem valn_pow {a p : Int} (hp : 2 ≤ p) (h : a ≠ 0) : ∃ u, a = ipow p (valn a p).toNat * u ∧ ¬ u % p = 0 := valF_pow hp _ a h (Nat.le_refl _)
/-- of a residue that is not 0 -/
theorem valn_res {x p : Int} {k : Nat} (hp : 2 ≤ p) (h0 : x ≠ 0) (h1 : 0 ≤ x) (h2 : x < ipow p k) :
    0 ≤ valn x p ∧ valn x p < k ∧ ipow p (valn x p).toNat ≤ x ∧ 1 ≤ ipow p (valn x p).toNat ∧ ¬ (x / ipow p (valn x p).toNat) % p = 0 ∧ 0 ≤ x / ipow p (valn x p).toNat ∧ x / ipow p (valn x p).toNat ≤ x := by
  obtain ⟨u, h3, h4⟩ := valn_pow hp h0
  have hv := valn_nn x p
  have hw := ipow_pos (show 1 ≤ p by omega) (valn x p).toNat
  have hu : 1 ≤ u := by
    rcases Int.lt_or_le u 1 with q | q
    · have := Int.mul_nonpos_of_nonneg_of_nonpos (show 0 ≤ ipow p (valn x p).toNat by omega) (show u ≤ 0 by omega)
      omega
    · exact q
  have hle : ipow p (valn x p).toNat ≤ x := by
    have := Int.mul_le_mul_of_nonneg_left hu (show 0 ≤ ipow p (valn x p).toNat by omega)
    omega
  have hdiv : x / ipow p (valn x p).toNat = u := by
    generalize ipow p (valn x p).toNat = q at *
    rw [h3, Int.mul_ediv_cancel_left u (by omega)]
  refine ⟨hv, ?_, hle, hw, ?_, ?_, ?_⟩
  · rcases Int.lt_or_le (valn x p) k with q | q
    · exact q
    · have := ipow_mono (show 1 ≤ p by omega) (show k ≤ (valn x p).toNat by omega)
      omega
  · rw [hdiv]; exact h4
  · rw [hdiv]; omega
  · exact Int.ediv_le_self _ h1
/-- how often p divides a residue modulo its power k -/
def ofn (x p : Int) (k : Nat) : Int := if x = 0 then (k : Int) else valn x p
/-- whether a residue modulo p^k is a square -/
def sqm (x p : Int) (k : Nat) : Bool :=
  if x = 0 then true else if valn x p % 2 = 1 then false else if 2 < p then symb (x / ipow p (valn x p).toNat) p == 1
  else if (k : Int) - valn x p = 1 then true else if (k : Int) - valn x p = 2 then x / ipow p (valn x p).toNat % 4 == 1 else x / ipow p (valn x p).toNat % 8 == 1
end M
end Go.Proofs.YtgkjmjlkhnfbiaaGreat
