/-
  Slices of structs: rows of k cells an element; of no program.
-/
import Derived.Test.YtodgfechhielaaaGreatDoorS3
import Derived.RegionTactic
namespace Go.Proofs.YtodgfechhielaaaGreatDoor
set_option linter.unusedSimpArgs false
set_option linter.unusedVariables false
open Go.RowKit
namespace Rw
variable {α : Type}

/-- how an element lies: its type, its cells -/
structure Enc (α : Type) where
  t : TypeId
  k : Nat
  cells : α → List Value
  len : ∀ x, (cells x).length = k
  one : ∀ x, ∀ u ∈ cells x, u.oneCell' = true
  pos : 0 < k

theorem flat_len (E : Enc α) : ∀ xs : List α, (xs.flatMap E.cells).length = xs.length * E.k
  | [] => by simp
  | x :: xs => by rw [List.flatMap_cons, List.length_append, flat_len E xs, E.len, List.length_cons, Nat.add_mul]; omega
theorem flat_get (E : Enc α) : ∀ (xs : List α) (j i : Nat) (x : α), xs[j]? = some x → i < E.k → (xs.flatMap E.cells)[j * E.k + i]? = (E.cells x)[i]?
  | [], _, _, _, h, _ => by simp at h
  | y :: ys, 0, i, x, h, hi => by
    simp only [List.getElem?_cons_zero, Option.some.injEq] at h
    subst h
    rw [List.flatMap_cons, Nat.zero_mul, Nat.zero_add, List.getElem?_append_left (by rw [E.len]; exact hi)]
  | y :: ys, j + 1, i, x, h, hi => by
    have ih := flat_get E ys j i x (by simpa using h) hi
    rw [List.flatMap_cons, List.getElem?_append_right (by rw [E.len, Nat.add_mul]; omega), E.len]
    rw [← ih]
    congr 1
    rw [Nat.add_mul]
    omega
theorem flat_take (E : Enc α) (xs : List α) (n : Nat) : (xs.take n).flatMap E.cells = (xs.flatMap E.cells).take (n * E.k) := by
  have e : xs.flatMap E.cells = (xs.take n).flatMap E.cells ++ (xs.drop n).flatMap E.cells := by rw [← List.flatMap_append, List.take_append_drop]
  rcases Nat.lt_or_ge n xs.length with h | h
  · have hl : ((xs.take n).flatMap E.cells).length = n * E.k := by rw [flat_len, List.length_take, Nat.min_eq_left (by omega)]
    rw [e, ← hl, List.take_left]
  · rw [List.take_of_length_le h, List.take_of_length_le (by rw [flat_len]; exact Nat.mul_le_mul_right _ h)]
theorem flat_drop (E : Enc α) (xs : List α) (n : Nat) : (xs.drop n).flatMap E.cells = (xs.flatMap E.cells).drop (n * E.k) := by
  have e : xs.flatMap E.cells = (xs.take n).flatMap E.cells ++ (xs.drop n).flatMap E.cells := by rw [← List.flatMap_append, List.take_append_drop]
  rcases Nat.lt_or_ge n xs.length with h | h
  · have hl : ((xs.take n).flatMap E.cells).length = n * E.k := by rw [flat_len, List.length_take, Nat.min_eq_left (by omega)]
    rw [e, ← hl, List.drop_left]
  · rw [List.drop_eq_nil_of_le h, List.drop_eq_nil_of_le (by rw [flat_len]; exact Nat.mul_le_mul_right _ h)]
    rfl
theorem cells_mem (E : Enc α) (xs : List α) : ∀ u ∈ xs.flatMap E.cells, u.oneCell' = true := by
  intro u hu
  obtain ⟨x, -, h⟩ := List.mem_flatMap.1 hu
  exact E.one x u h

/-- a slice of such elements that lies in blocks from base on and may be appended to -/
def Own (E : Enc α) (w : World) (base : Nat) (v : Value) (xs : List α) : Prop := w.ownsRow base E.t E.k v xs.length (xs.flatMap E.cells)
variable {E : Enc α} {w w' : World} {base base' : Nat} {v : Value} {xs : List α}
theorem Own.nil (E : Enc α) (w : World) (base : Nat) : Own E w base (.slice none 0 0) ([] : List α) := World.ownsRow_nil w base _ _
theorem Own.lit0 (E : Enc α) (w : World) (base : Nat) (hb : base ≤ w.heap.size) : Own E (w.alloc (.cells #[] E.t)) base (.slice (some ⟨w.heap.size, 0, none⟩) 0 0) ([] : List α) :=
  World.ownsRow_made w #[] 0 hb (by unfold maxLen; omega) (by simp)
theorem Own.kept {r : Option Nat} (h : Own E w base v xs) (hg : w.grownBy w' r) (hr : ∀ g, r = some g → v.ownBlock ≠ some g) : Own E w' base v xs := by
  refine World.ownsRow.kept h hg ?_
  cases r with
  | none =>
    cases hv : v.ownBlock
    · exact Or.inl rfl
    · exact Or.inr (by simp)
  | some g => exact Or.inr (hr g rfl)
theorem Own.below (h : Own E w base v xs) (hb : Below w.heap.size w w') : Own E w' base v xs := h.kept (below_grown hb none) fun g hg => by cases hg
theorem Own.down (h : Own E w base v xs) (hb : base' ≤ base) : Own E w base' v xs := by
  obtain ⟨h1, h2⟩ := h
  refine ⟨h1, ?_⟩
  rcases h2 with h2 | ⟨g, cap, cur, hv, hg, hh, r⟩
  · exact Or.inl h2
  · exact Or.inr ⟨g, cap, cur, hv, Nat.le_trans hb hg, hh, r⟩
theorem Own.alloc (h : Own E w base v xs) (o : Obj) : Own E (w.alloc o) base v xs := World.ownsRow.alloc h o
theorem Own.lt (h : Own E w base v xs) : ∀ g, v.ownBlock = some g → base ≤ g ∧ g < w.heap.size := World.ownsRow.lt h
theorem Own.forms (h : Own E w base v xs) : (v = .slice none 0 0 ∧ xs = []) ∨ ∃ g cap, v = .slice (some ⟨g, 0, none⟩) xs.length cap ∧ base ≤ g ∧ g < w.heap.size ∧ xs.length ≤ cap ∧ cap ≤ 9223372036854775807 := by
  rcases h.2 with ⟨e, h2⟩ | ⟨g, cap', cur, e, hg, hh, h3, h4, -⟩
  · exact Or.inl ⟨e, List.eq_nil_of_length_eq_zero h2⟩
  · exact Or.inr ⟨g, cap', e, hg, (Array.getElem?_eq_some_iff.1 hh).1, h3, by unfold maxLen at h4; omega⟩

/-- a slice of such elements that can be read; its cells lie below block hi -/
def Seen (E : Enc α) (w : World) (hi : Nat) (v : Value) (xs : List α) : Prop :=
  ∃ (a : Option Addr) (cap : Nat), v = .slice a xs.length cap ∧ xs.length ≤ cap ∧ cap ≤ 9223372036854775807 ∧
    ∀ j, j < xs.length → ∃ g x, a = some ⟨g, 0, none⟩ ∧ g < hi ∧ Hid (xs[j]? = some x) ∧ ∀ i u, (E.cells x)[i]? = some u → w.cell? ⟨g, j * E.k + i, none⟩ = some u
theorem Seen.below {hi : Nat} (h : Seen E w hi v xs) (hb : Below hi w w') : Seen E w' hi v xs := by
  obtain ⟨a, cap, h1, h2, h2', h3⟩ := h
  refine ⟨a, cap, h1, h2, h2', fun k hk => ?_⟩
  obtain ⟨g, x, e1, e2, e3, e4⟩ := h3 k hk
  exact ⟨g, x, e1, e2, e3, fun i u hu => (hb.cell (p := ⟨g, k * E.k + i, none⟩) e2).trans (e4 i u hu)⟩
theorem Own.seen (h : Own E w base v xs) : Seen E w w.heap.size v xs := by
  have hf := h.forms
  obtain ⟨h1, h2⟩ := h
  rcases h2 with ⟨rfl, hn⟩ | ⟨g, cap, cur, rfl, hg, hh, hc, hm, hs, ht⟩
  · exact ⟨none, 0, by rw [hn], by omega, by omega, fun k hk => by omega⟩
  · refine ⟨some ⟨g, 0, none⟩, cap, rfl, hc, by unfold maxLen at hm; omega, fun j hj => ⟨g, xs[j], rfl, (Array.getElem?_eq_some_iff.1 hh).1, List.getElem?_eq_getElem hj, fun i u hu => ?_⟩⟩
    rw [cell_of_row w g _ cur _ (0, 0) hh]
    have hi : i < E.k := by rw [← E.len xs[j]]; exact (List.getElem?_eq_some_iff.1 hu).1
    have e := flat_get E xs j i _ (List.getElem?_eq_getElem hj) hi
    rw [hu, ← ht, List.getElem?_take] at e
    split at e
    · simpa using e
    · cases e

/-- elements that are read from A on -/
def From (E : Enc α) (w : World) (A : Option Addr) (ys : List α) : Prop := ∀ j u, (ys.flatMap E.cells)[j]? = some u → ∃ ad, A = some ad ∧ w.cell? (ad.add j) = some u
theorem From.nil (E : Enc α) (w : World) (A : Option Addr) : From E w A ([] : List α) := fun j u h => by simp at h
theorem From.lit (E : Enc α) (w : World) (x : α) (H : Nat) (hH : w.heap.size = H) : From E (w.alloc (.cells (E.cells x).toArray E.t)) (some ⟨H, 0, none⟩) [x] := by
  intro j u h
  subst hH
  have hadd : ∀ b i : Nat, (⟨b, 0, none⟩ : Addr).add i = ⟨b, i, none⟩ := fun b i => by unfold Addr.add; split <;> simp_all
  refine ⟨_, rfl, ?_⟩
  rw [hadd, World.cell?_alloc_at _ _ _ _ rfl]
  simpa using h
theorem Own.cellAt {g n cap : Nat} (hn : n = xs.length) (h : Own E w base (.slice (some ⟨g, 0, none⟩) n cap) xs) (j : Nat) (u : Value) (hu : (xs.flatMap E.cells)[j]? = some u) : w.cell? ⟨g, j, none⟩ = some u ∧ w.frozen? ⟨g, j, none⟩ = false := by
  subst hn
  have hj := (List.getElem?_eq_some_iff.1 hu).1
  rw [flat_len] at hj
  exact ⟨(World.ownsRow.cellAt h j hj).trans hu, World.ownsRow.frozenAt h j⟩
theorem Own.take_ {g n cap : Nat} (hn : n = xs.length) (h : Own E w base (.slice (some ⟨g, 0, none⟩) n cap) xs) {hi : Nat} (hhi : g < hi) (hb : Below hi w w') (m : Nat) : From E w' (some ⟨g, 0, none⟩) (xs.take m) := by
  intro j u hu
  have hadd : ∀ b i : Nat, (⟨b, 0, none⟩ : Addr).add i = ⟨b, i, none⟩ := fun b i => by unfold Addr.add; split <;> simp_all
  rw [flat_take, List.getElem?_take] at hu
  split at hu
  · exact ⟨_, rfl, by rw [hadd]; exact (hb.cell (p := ⟨g, j, none⟩) hhi).trans (h.cellAt hn j u hu).1⟩
  · cases hu
theorem Own.drop_ {g n cap : Nat} (hn : n = xs.length) (h : Own E w base (.slice (some ⟨g, 0, none⟩) n cap) xs) {hi : Nat} (hhi : g < hi) (hb : Below hi w w') (m o : Nat) (ho : o = m * E.k) : From E w' (some ⟨g, o, none⟩) (xs.drop m) := by
  intro j u hu
  subst ho
  have hadd2 : ∀ b i j : Nat, (⟨b, i, none⟩ : Addr).add j = ⟨b, i + j, none⟩ := fun b i j => by unfold Addr.add; split <;> simp_all
  rw [flat_drop, List.getElem?_drop] at hu
  exact ⟨_, rfl, by rw [hadd2]; exact (hb.cell (p := ⟨g, m * E.k + j, none⟩) hhi).trans (h.cellAt hn _ u hu).1⟩

theorem row_setCells (base g cap n : Nat) (t : TypeId) (k : Nat) : ∀ (l : List Value) (o : Nat) (w : World) (zs : List Value), w.ownsRow base t k (.slice (some ⟨g, 0, none⟩) n cap) n zs →
    ∃ ys, (w.setCells g o l).ownsRow base t k (.slice (some ⟨g, 0, none⟩) n cap) n ys ∧ ys.take o = zs.take o ∧ w.grownBy (w.setCells g o l) (some g)
  | [], o, w, zs, h => ⟨zs, h, rfl, grown_rf _ _⟩
  | u :: l, o, w, zs, h => by
    have h1 := World.ownsRow.stored h o u
    obtain ⟨ys, k1, k2, k3⟩ := row_setCells base g cap n t k l (o + 1) _ _ h1.1
    refine ⟨ys, k1, ?_, grown_tr h1.2 k3⟩
    have := congrArg (List.take o) k2
    rw [List.take_take, List.take_take, Nat.min_eq_left (by omega)] at this
    rw [this, List.take_set, List.set_eq_of_length_le (by rw [List.length_take]; omega)]
theorem row_cut {t : TypeId} {k g n cap i : Nat} {zs : List Value} (h : w.ownsRow base t k (.slice (some ⟨g, 0, none⟩) n cap) n zs) (hi : i ≤ n) : w.ownsRow base t k (.slice (some ⟨g, 0, none⟩) i cap) i (zs.take (i * k)) := by
  obtain ⟨h1, h2⟩ := h
  have hik : i * k ≤ n * k := Nat.mul_le_mul_right _ hi
  rcases h2 with ⟨e, -⟩ | ⟨g', cap', cur, e, hg, hh, hc, hm, hs, ht⟩
  · cases e
  · injection e with e1 e2 e3
    simp only [Option.some.injEq, Addr.mk.injEq, and_true] at e1
    subst e1 e3
    refine ⟨by rw [List.length_take]; omega, Or.inr ⟨g, cap, cur, rfl, hg, hh, by omega, hm, hs, ?_⟩⟩
    rw [← ht, List.take_take, Nat.min_eq_left hik]
/-- cells from the i-th element on are written, and the slice cut to i elements -/
theorem Own.cut {g n cap i : Nat} {ys : List α} (hn : n = xs.length) (h : Own E w base (.slice (some ⟨g, 0, none⟩) n cap) xs) (hi : i ≤ n) (l : List Value) (hy : ys = xs.take i) (o : Nat) (ho : o = i * E.k) :
    Own E (w.setCells g o l) base (.slice (some ⟨g, 0, none⟩) i cap) ys ∧ w.grownBy (w.setCells g o l) (some g) := by
  subst hn hy ho
  obtain ⟨rs, k1, k2, k3⟩ := row_setCells base g cap xs.length E.t E.k l (i * E.k) w _ h
  refine ⟨?_, k3⟩
  have hl : (xs.take i).length = i := by rw [List.length_take]; omega
  have := row_cut k1 hi
  rw [k2, ← flat_take] at this
  unfold Own
  rw [hl]
  exact this
theorem flat_set (E : Enc α) : ∀ (xs : List α) (j : Nat) (x : α), j < xs.length → ∀ t, ((xs.set j x).flatMap E.cells)[t]? = if j * E.k ≤ t ∧ t < j * E.k + E.k then (E.cells x)[t - j * E.k]? else (xs.flatMap E.cells)[t]?
  | [], j, x, h, _ => by simp at h
  | y :: ys, 0, x, h, t => by
    rw [List.set_cons_zero, List.flatMap_cons, List.flatMap_cons]
    by_cases ht : t < E.k
    · rw [List.getElem?_append_left (by rw [E.len]; exact ht), if_pos ⟨by omega, by omega⟩]
      simp
    · rw [List.getElem?_append_right (by rw [E.len]; omega), if_neg (by omega), List.getElem?_append_right (by rw [E.len]; omega), E.len, E.len]
  | y :: ys, j + 1, x, h, t => by
    have ih := flat_set E ys j x (by simpa using h)
    rw [List.set_cons_succ, List.flatMap_cons, List.flatMap_cons]
    have e : (j + 1) * E.k = j * E.k + E.k := by rw [Nat.add_mul]; omega
    by_cases ht : t < E.k
    · rw [List.getElem?_append_left (by rw [E.len]; exact ht), List.getElem?_append_left (by rw [E.len]; exact ht), if_neg (by omega)]
    · rw [List.getElem?_append_right (by rw [E.len]; omega), List.getElem?_append_right (by rw [E.len]; omega), E.len, ih (t - E.k), e]
      by_cases hc : j * E.k ≤ t - E.k ∧ t - E.k < j * E.k + E.k
      · rw [if_pos hc, if_pos (by omega)]
        congr 1
        omega
      · rw [if_neg hc, if_neg (by omega)]
/-- what is asked of a program's types -/
structure Fits (P : Program) (E : Enc α) (ts : TypeId) : Prop where
  under : P.underlying ts = some (.slice E.t)
  info : ∃ i z, P.info? E.t = some i ∧ i.zero = some z ∧ i.size = E.k ∧ i.bytes ≤ 1000 ∧ z.cells.size = E.k

/-- 'append(out, src...)' -/
theorem run_push {P : Program} {ts : TypeId} (F : Fits P E ts) {W : World} (ty : TypeId) (ys : List α) (A : Option Addr) (c : Nat)
    (hr : From E w A ys) (hown : Own E w base v xs) (hW : Below base W w) (hB : base ≤ w.heap.size) (hl : xs.length + ys.length ≤ 100000000000) :
    ∃ v' w', (Builtin.append_ #[ts, ts] ty #[v, .slice A ys.length c]).run P w = .ok v' w' ∧ Own E w' base v' (xs ++ ys) ∧ Below base W w' := by
  obtain ⟨i, z, hi, hz, hs, hby, hzc⟩ := F.info
  cases A with
  | none =>
    have he : ys = [] := by
      cases ys with
      | nil => rfl
      | cons y ys =>
        have hp := E.pos
        have hl := E.len y
        obtain ⟨ad, h, -⟩ := hr 0 ((E.cells y)[0]'(by omega)) (by rw [List.flatMap_cons, List.getElem?_append_left (by omega)]; exact List.getElem?_eq_getElem _)
        cases h
    subst he
    exact ⟨v, w, run_append_of_nil w base _ _ _ i E.k F.under hi _ _ _ hown c, by simpa using hown, hW⟩
  | some ad =>
    have hbb : (xs.length + ys.length) * i.bytes ≤ 140737488355328 := Nat.le_trans (Nat.mul_le_mul hl hby) (by omega)
    obtain ⟨v', w', h1, h2, h3, -, -⟩ := run_append_own_at (P := P) w base ts ty E.t i z E.k i.bytes F.under hi hz hs rfl hzc E.pos v xs.length (xs.flatMap E.cells) hown ad ys.length c (ys.flatMap E.cells)
      (flat_len E ys) (fun j u hu => by
        obtain ⟨ad', h1, h2⟩ := hr j u hu
        obtain rfl := Option.some.inj h1
        exact h2) (cells_mem E ys) (by unfold maxLen; omega) hbb hB
    refine ⟨v', w', h1, ?_, hW.grown h3 hB fun k hk => (Own.lt hown k hk).1⟩
    unfold Own
    rw [List.flatMap_append, List.length_append]
    exact h2

theorem push {P : Program} {ts : TypeId} (F : Fits P E ts) {ops : Array Oper} {rest : List Oper} {o : Oper} {a : Act} {Q : Exit → Act → World → Prop} {W : World} (base : Nat) (ys xs : List α) (v : Value) (A : Option Addr) (m c : Nat) (hm : ys.length = m) (hgd : o.guard = none) (s x : Operand)
    (ho : o.op = .call { callee := .builtin .append, args := #[s, x], argTypes := #[ts, ts] }) (hs : a.eval s = v) (hx : a.eval x = .slice A m c)
    (hr : From E w A ys) (hown : Own E w base v xs) (hW : Below base W w) (hB : base ≤ w.heap.size) (hl : xs.length + ys.length ≤ 100000000000)
    (h : ∀ v' w', Own E w' base v' (xs ++ ys) → Below base W w' → wpList P ops Q rest (a.put o.dst v') w') :
    wpList P ops Q (o :: rest) a w := by
  subst hm
  refine wpList_plain hgd fun _ hK => ?_
  obtain ⟨v', w', h1, h2, h3⟩ := run_push F (w := w) (W := W) (base := base) o.type ys A c hr hown hW hB hl
  unfold Oper.wp execOp
  simp only [ho, resolve, invoke, builtin, Sem.run_bind, Sem.run_pure, Result.andThen_ok, List.map_toArray, List.map_cons, List.map_nil, hs, hx, h1]
  exact hK _ _ (h v' w' h2 h3)

/-- the same at a step of a region that draws -/
theorem step_push {P : Program} {ts : TypeId} (F : Fits P E ts) {ops : Array Oper} {o : Oper} {a : Act} {K : Act → World → Prop} {Q : Exit → Act → World → Prop} {B : Prop} {W : World} (base : Nat) (ys xs : List α) (v : Value) (A : Option Addr) (m c : Nat) (hm : ys.length = m) (hgd : o.guard = none) (s x : Operand)
    (ho : o.op = .call { callee := .builtin .append, args := #[s, x], argTypes := #[ts, ts] }) (hs : a.eval s = v) (hx : a.eval x = .slice A m c)
    (hr : From E w A ys) (hown : Own E w base v xs) (hW : Below base W w) (hB : base ≤ w.heap.size) (hl : xs.length + ys.length ≤ 100000000000)
    (h : ∀ v' w', Own E w' base v' (xs ++ ys) → Below base W w' → K (a.put o.dst v') w') :
    if Region.wanted o (yielded ops a.tmps) = true then Oper.wp P o a w K Q else B := by
  subst hm
  have hw : Region.wanted o (yielded ops a.tmps) = true := by simp [Region.wanted, hgd]
  rw [if_pos hw]
  obtain ⟨v', w', h1, h2, h3⟩ := run_push F (w := w) (W := W) (base := base) o.type ys A c hr hown hW hB hl
  unfold Oper.wp execOp
  simp only [ho, resolve, invoke, builtin, Sem.run_bind, Sem.run_pure, Result.andThen_ok, List.map_toArray, List.map_cons, List.map_nil, hs, hx, h1]
  exact h v' w' h2 h3
/-- the same, and what the append leaves as it was -/
theorem run_push2 {P : Program} {ts : TypeId} (F : Fits P E ts) {W : World} (ty : TypeId) (ys : List α) (A : Option Addr) (c : Nat)
    (hr : From E w A ys) (hown : Own E w base v xs) (hW : Below base W w) (hB : base ≤ w.heap.size) (hl : xs.length + ys.length ≤ 100000000000) :
    ∃ v' w', (Builtin.append_ #[ts, ts] ty #[v, .slice A ys.length c]).run P w = .ok v' w' ∧ Own E w' base v' (xs ++ ys) ∧ Below base W w' ∧ w.grownBy w' v.ownBlock := by
  obtain ⟨i, z, hi, hz, hs, hby, hzc⟩ := F.info
  cases A with
  | none =>
    have he : ys = [] := by
      cases ys with
      | nil => rfl
      | cons y ys =>
        have hp := E.pos
        have hl := E.len y
        obtain ⟨ad, h, -⟩ := hr 0 ((E.cells y)[0]'(by omega)) (by rw [List.flatMap_cons, List.getElem?_append_left (by omega)]; exact List.getElem?_eq_getElem _)
        cases h
    subst he
    exact ⟨v, w, run_append_of_nil w base _ _ _ i E.k F.under hi _ _ _ hown c, by simpa using hown, hW, World.grownBy.refl _ _⟩
  | some ad =>
    have hbb : (xs.length + ys.length) * i.bytes ≤ 140737488355328 := Nat.le_trans (Nat.mul_le_mul hl hby) (by omega)
    obtain ⟨v', w', h1, h2, h3, -, -⟩ := run_append_own_at (P := P) w base ts ty E.t i z E.k i.bytes F.under hi hz hs rfl hzc E.pos v xs.length (xs.flatMap E.cells) hown ad ys.length c (ys.flatMap E.cells)
      (flat_len E ys) (fun j u hu => by
        obtain ⟨ad', h1, h2⟩ := hr j u hu
        obtain rfl := Option.some.inj h1
        exact h2) (cells_mem E ys) (by unfold maxLen; omega) hbb hB
    refine ⟨v', w', h1, ?_, hW.grown h3 hB fun k hk => (Own.lt hown k hk).1, h3⟩
    unfold Own
    rw [List.flatMap_append, List.length_append]
    exact h2
theorem step_push2 {P : Program} {ts : TypeId} (F : Fits P E ts) {ops : Array Oper} {o : Oper} {a : Act} {K : Act → World → Prop} {Q : Exit → Act → World → Prop} {B : Prop} {W : World} (base : Nat) (ys xs : List α) (v : Value) (A : Option Addr) (m c : Nat) (hm : ys.length = m) (hgd : o.guard = none) (s x : Operand)
    (ho : o.op = .call { callee := .builtin .append, args := #[s, x], argTypes := #[ts, ts] }) (hs : a.eval s = v) (hx : a.eval x = .slice A m c)
    (hr : From E w A ys) (hown : Own E w base v xs) (hW : Below base W w) (hB : base ≤ w.heap.size) (hl : xs.length + ys.length ≤ 100000000000)
    (h : ∀ v' w', Own E w' base v' (xs ++ ys) → Below base W w' → w.grownBy w' v.ownBlock → K (a.put o.dst v') w') :
    if Region.wanted o (yielded ops a.tmps) = true then Oper.wp P o a w K Q else B := by
  subst hm
  have hw : Region.wanted o (yielded ops a.tmps) = true := by simp [Region.wanted, hgd]
  rw [if_pos hw]
  obtain ⟨v', w', h1, h2, h3, h4⟩ := run_push2 F (w := w) (W := W) (base := base) o.type ys A c hr hown hW hB hl
  unfold Oper.wp execOp
  simp only [ho, resolve, invoke, builtin, Sem.run_bind, Sem.run_pure, Result.andThen_ok, List.map_toArray, List.map_cons, List.map_nil, hs, hx, h1]
  exact h v' w' h2 h3 h4
end Rw
end Go.Proofs.YtodgfechhielaaaGreatDoor
