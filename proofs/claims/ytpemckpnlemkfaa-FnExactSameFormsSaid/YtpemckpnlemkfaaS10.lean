/-
  Appending to slices, and what that leaves as it was.
-/
import Derived.Test.YtpemckpnlemkfaaS7
import Derived.Test.YtpemckpnlemkfaaS3
import Derived.Test.YtpemckpnlemkfaaE2
namespace Go.Proofs.Ytpemckpnlemkfaa
set_option linter.unusedSimpArgs false
set_option linter.unusedVariables false
open Go.RowKit

def Apart (v u : Value) : Prop := ∀ g, v.ownBlock = some g → u.ownBlock ≠ some g
theorem own_apart {w : World} {b1 b2 n1 n2 s1 s2 : Nat} {t1 t2 : TypeId} {v1 v2 : Value} {x1 x2 : List Value} (h1 : w.ownsRow b1 t1 s1 v1 n1 x1) (h2 : w.ownsRow b2 t2 s2 v2 n2 x2) (ht : t1 ≠ t2) : ∀ g, v2.ownBlock = some g → v1.ownBlock ≠ some g := by
  intro g hg hg'
  rcases h1.2 with ⟨rfl, -⟩ | ⟨g1, c1, cur1, rfl, -, hh1, -⟩
  · cases hg'
  · rcases h2.2 with ⟨rfl, -⟩ | ⟨g2, c2, cur2, rfl, -, hh2, -⟩
    · cases hg
    · simp only [Value.ownBlock, Option.some.injEq] at hg hg'
      subst hg hg'
      rw [hh1] at hh2
      injection hh2 with hh2
      injection hh2 with _ ht' _
      exact ht ht'

namespace Rw
variable {α : Type} {E : Enc α} {w w' : World} {base : Nat} {v : Value} {xs : List α}
theorem Own.lit1 (E : Enc α) (x : α) (w : World) (base : Nat) (hb : base ≤ w.heap.size) : Own E (w.alloc (.cells (E.cells x).toArray E.t)) base (.slice (some ⟨w.heap.size, 0, none⟩) 1 1) [x] :=
  ⟨by simp [E.len], .inr ⟨w.heap.size, 1, (E.cells x).toArray, rfl, hb, heap_alloc_new w _, Nat.le_refl 1, by unfold maxLen; omega, by simp [E.len], by simp [E.len, List.take_of_length_le]⟩⟩
theorem run_push3 {P : Program} {ts : TypeId} (F : Fits P E ts) (ty : TypeId) (ys : List α) (ad : Addr) (c : Nat)
    (hr : From E w (some ad) ys) (hown : Own E w base v xs) (hB : base ≤ w.heap.size) (hl : xs.length + ys.length ≤ 100000000) :
    ∃ v' w', (Builtin.append_ #[ts, ts] ty #[v, .slice (some ad) ys.length c]).run P w = .ok v' w' ∧ Own E w' base v' (xs ++ ys) ∧ w.grownBy w' v.ownBlock ∧ (v'.ownBlock = v.ownBlock ∨ v'.ownBlock = some w.heap.size) := by
  obtain ⟨i, z, hi, hz, hs, hby, hzc⟩ := F.info
  have hbb : (xs.length + ys.length) * i.bytes ≤ 140737488355328 := Nat.le_trans (Nat.mul_le_mul hl hby) (by omega)
  obtain ⟨v', w', h1, h2, h3, -, h5⟩ := run_append_own_at (P := P) w base ts ty E.t i z E.k i.bytes F.under hi hz hs rfl hzc E.pos v xs.length (xs.flatMap E.cells) hown ad ys.length c (ys.flatMap E.cells)
    (flat_len E ys) (fun j u hu => by
      obtain ⟨ad', h1, h2⟩ := hr j u hu
      obtain rfl := Option.some.inj h1
      exact h2) (cells_mem E ys) (by unfold maxLen; omega) hbb hB
  refine ⟨v', w', h1, ?_, h3, h5⟩
  unfold Own
  rw [List.flatMap_append, List.length_append]
  exact h2
theorem push3 {P : Program} {ts : TypeId} (F : Fits P E ts) {ops : Array Oper} {rest : List Oper} {o : Oper} {a : Act} {Q : Exit → Act → World → Prop} (base : Nat) (ys xs : List α) (v : Value) (ad : Addr) (m c : Nat) (hm : ys.length = m) (hgd : o.guard = none) (s x : Operand)
    (ho : o.op = .call { callee := .builtin .append, args := #[s, x], argTypes := #[ts, ts] }) (hs : a.eval s = v) (hx : a.eval x = .slice (some ad) m c)
    (hr : From E w (some ad) ys) (hown : Own E w base v xs) (hB : base ≤ w.heap.size) (hl : xs.length + ys.length ≤ 100000000)
    (h : ∀ v' w', Own E w' base v' (xs ++ ys) → w.grownBy w' v.ownBlock → (v'.ownBlock = v.ownBlock ∨ v'.ownBlock = some w.heap.size) → wpList P ops Q rest (a.put o.dst v') w') :
    wpList P ops Q (o :: rest) a w := by
  subst hm
  refine wpList_plain hgd fun _ hK => ?_
  obtain ⟨v', w', h1, h2, h3, h4⟩ := run_push3 F (w := w) (base := base) o.type ys ad c hr hown hB hl
  unfold Oper.wp execOp
  simp only [ho, resolve, invoke, builtin, Sem.run_bind, Sem.run_pure, Result.andThen_ok, List.map_toArray, List.map_cons, List.map_nil, hs, hx, h1]
  exact hK _ _ (h v' w' h2 h3 h4)
end Rw
/-- a number's cells -/
def EI : Rw.Enc Int where
  t := 3
  k := 1
  cells := fun c => [.int .i64 c]
  len := fun _ => rfl
  one := fun x u hu => by simp only [List.mem_singleton] at hu; subst hu; rfl
  pos := by decide
theorem fitsI : Rw.Fits Try.prog EI 54 := ⟨Try.underlying54, by
  obtain ⟨i0, hi, hz0, hz1, hz2⟩ := info_parts info_int
  exact ⟨i0, _, hi, hz0, hz1, by omega, rfl⟩⟩
theorem flat_int (xs : List Int) : xs.flatMap EI.cells = xs.map (Value.int .i64) := by
  induction xs with
  | nil => rfl
  | cons x xs ih => rw [List.flatMap_cons, ih]; rfl
theorem ownI_iff {w : World} {base : Nat} {v : Value} {xs : List Int} : OwnI w base v xs ↔ Rw.Own EI w base v xs := by
  unfold OwnI Rw.Own
  rw [flat_int]
  rfl
theorem OwnI.cellAt {w : World} {base g n cap : Nat} {xs : List Int} (hn : n = xs.length) (h : OwnI w base (.slice (some ⟨g, 0, none⟩) n cap) xs) {i : Nat} {t : Int} (ht : xs[i]? = some t) : w.cell? ⟨g, i, none⟩ = some (.int .i64 t) := by
  have hi := (List.getElem?_eq_some_iff.1 ht).1
  subst hn
  have := World.ownsRow.cellAt (g := g) (cap := cap) (n := xs.length) h i (by omega)
  rw [this, List.getElem?_map, ht]
  rfl
end Go.Proofs.Ytpemckpnlemkfaa
