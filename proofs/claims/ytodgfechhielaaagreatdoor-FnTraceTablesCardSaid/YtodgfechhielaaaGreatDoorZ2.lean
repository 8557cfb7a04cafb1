/-
  The rule of Z1 where nothing that lay is turned: values told by a table. Of no program.
-/
import Derived.Test.YtodgfechhielaaaGreatDoorZ1
import Derived.Test.YtodgfechhielaaaGreatDoorS2
import Derived.Deep.DeepCutAuto
import Derived.WalkKit
namespace Go.Proofs.YtodgfechhielaaaGreatDoor
set_option linter.unusedSimpArgs false
set_option linter.unusedVariables false
open Go Go.RowKit
namespace Rg
/-- what is told of a value: it is just this one; a slice of these numbers in a block of its own; a number of which this holds -/
inductive Val where
  | is (v : Value)
  | lit (xs : List Int)
  | num (p : Int → Prop)
  | such (p : Value → Prop)
/-- a slice of these numbers that can be read -/
def LitOk (v : Value) (xs : List Int) (w : World) : Prop := ∃ b, v = .slice (some ⟨b, 0, none⟩) xs.length xs.length ∧ b < w.heap.size ∧ ∀ (j : Nat) (x : Int), xs[j]? = some x → w.cell? ⟨b, j, none⟩ = some (.int .i64 x)
def Val.ok : Val → Value → World → Prop
  | .is x, v, _ => v = x
  | .lit xs, v, w => LitOk v xs w
  | .num p, v, _ => ∃ x, v = .int .i64 x ∧ p x
  | .such p, v, _ => p v
theorem Val.keep {w w' : World} (hb : Below w.heap.size w w') : ∀ (T : Val) (v : Value), T.ok v w → T.ok v w'
  | .is _, _, h => h
  | .lit xs, _, ⟨b, h1, h2, h3⟩ => ⟨b, h1, Nat.lt_of_lt_of_le h2 hb.size, fun j x hx => (hb.cell (p := ⟨b, j, none⟩) h2).trans (h3 j x hx)⟩
  | .num _, _, h => h
  | .such _, _, h => h
def tbl (T : List Val) (i : Nat) : Val := T.getD i (.is undef)
variable {P : Program} {Q : Exit → Act → World → Prop}
/-- what an operation may know of a slot that it looks at -/
def Look (ops : Array Oper) (a0 : Act) (T : List Val) (o : Oper) (a : Act) (w : World) (t : Nat) : Prop :=
  match o.after.toList.find? (fun e => Region.binds .any e && ((ops[e.on]?).bind (·.dst)) == some t) with
  | some e => ∃ v, a.tmps[t]? = some v ∧ (tbl T e.on).ok v w
  | none => a.tmps[t]? = a0.tmps[t]?
/-- an operation does its part -/
def Does (P : Program) (ops : Array Oper) (Q : Exit → Act → World → Prop) (V : Val) (o : Oper) (a : Act) (w : World) : Prop :=
  if Region.wanted o (yielded ops a.tmps) = true then o.wp P a w (fun a' w' => ∃ v, a' = a.put o.dst v ∧ V.ok v w' ∧ Below w.heap.size w w') Q else V.ok undef w
def Owed (P : Program) (ops : Array Oper) (Q : Exit → Act → World → Prop) (a0 : Act) (T : List Val) (w1 : World) (i : Nat) (o : Oper) : Prop :=
  ∀ (a : Act) (w : World), Below w1.heap.size w1 w → (∀ t ∈ o.looksAt ops, Look ops a0 T o a w t) → Does P ops Q (tbl T i) o a w
def AllOwed (P : Program) (ops : Array Oper) (Q : Exit → Act → World → Prop) (a0 : Act) (T : List Val) (w1 : World) : List Oper → Nat → Prop
  | [], _ => True
  | o :: os, k => Owed P ops Q a0 T w1 k o ∧ AllOwed P ops Q a0 T w1 os (k + 1)
theorem reqs_of {ops : Array Oper} {a0 : Act} {T : List Val} {w1 : World} : ∀ (os : List Oper) (k : Nat), AllOwed P ops Q a0 T w1 os k → Reqs P Q .any ops (fun w => Below w1.heap.size w1 w) (fun i v w => (tbl T i).ok v w) a0 os k
  | [], _, _ => trivial
  | o :: os, k, h => by
    refine ⟨fun a w vals hS hv hr => ?_, reqs_of os (k + 1) h.2⟩
    have h1 := h.1 a w hS (fun t ht => by
      have := hr t ht
      unfold rd at this
      unfold Look
      split
      · rename_i e he
        rw [he] at this
        have h2 := List.find?_some he
        rw [Bool.and_eq_true] at h2
        exact ⟨_, this, hv e (Array.mem_toList_iff.1 (List.mem_of_find?_eq_some he)) h2.1⟩
      · rename_i he
        rw [he] at this
        exact this)
    unfold Does at h1
    unfold Step
    split
    · rename_i hw
      rw [if_pos hw] at h1
      refine Oper.wp_mono ?_ h1
      rintro a' w' ⟨v, e1, e2, e3⟩
      exact ⟨v, e1, e2, hS.trans (e3.mono hS.size), fun j u hu => Val.keep e3 _ _ hu⟩
    · rename_i hw
      rw [if_neg hw] at h1
      exact h1
/-- **THE RULE** -/
theorem walk {id : Nat} {ops : Array Oper} {a0 : Act} {w : World} (T : List Val) (hm : P.follows .mixedOrders = true) (hok : okOps .any ops a0.tmps.size = true)
    (hR : AllOwed P ops Q a0 T w ops.toList 0)
    (hF : ∀ (vals : Nat → Value) (w' : World), Below w.heap.size w w' → (∀ i, i < ops.size → (tbl T i).ok (vals i) w') → Q .normal (fill (fun _ => true) vals ops.toList 0 a0) w') : (Code.region id ops true).wp P Q a0 w :=
  region (fun w' => Below w.heap.size w w') (fun i v w' => (tbl T i).ok v w') hm hok ((Below.refl _ w).drew) (reqs_of _ _ hR) hF
theorem ev {a : Act} {t : Nat} {v : Value} (h : a.tmps[t]? = some v) : a.eval (.tmp t) = v := by
  show a.tmps.getD t undef = v
  rw [Array.getD_eq_getD_getElem?, h]
  rfl
theorem ev1 {a : Act} {t : Nat} {x : Value} {w : World} (h : ∃ v, a.tmps[t]? = some v ∧ (Val.is x).ok v w) : a.tmps[t]? = some x := by
  obtain ⟨v, h1, rfl⟩ := h
  exact h1
/-- an operation that yields a value and turns nothing -/
theorem pure1 {ops : Array Oper} {o : Oper} {a : Act} {w : World} {x : Value} (hw : Region.wanted o (yielded ops a.tmps) = true) (h : (execOp a.eval o).run P w = .ok (.value x) w) : Does P ops Q (.is x) o a w := by
  unfold Does
  rw [if_pos hw]
  unfold Oper.wp
  rw [h]
  exact ⟨x, rfl, rfl, Below.refl _ _⟩
/-- one that is not wanted -/
theorem skip1 {ops : Array Oper} {o : Oper} {a : Act} {w : World} (hw : Region.wanted o (yielded ops a.tmps) = false) : Does P ops Q (.is undef) o a w := by
  unfold Does
  rw [if_neg (by rw [hw]; exact Bool.false_ne_true)]
  exact rfl
theorem yld {ops : Array Oper} {a : Act} {j t : Nat} {b : Bool} (h1 : (ops[j]?).bind (·.dst) = some t) (h2 : a.tmps[t]? = some (.bool b)) : yielded ops a.tmps j = some b := by
  unfold yielded
  rw [h1]
  show (match a.tmps[t]? with | some (.bool b) => some b | _ => none) = some b
  rw [h2]
theorem wantedT {o : Oper} {y : Nat → Option Bool} {j : Nat} {b : Bool} (hg : o.guard = some (j, b)) (hy : y j = some b) : Region.wanted o y = true := by
  unfold Region.wanted
  rw [hg]
  show (y j == some b) = true
  rw [hy]
  cases b <;> rfl
theorem wantedF {o : Oper} {y : Nat → Option Bool} {j : Nat} {b : Bool} (hg : o.guard = some (j, !b)) (hy : y j = some b) : Region.wanted o y = false := by
  unfold Region.wanted
  rw [hg]
  show (y j == some (!b)) = false
  rw [hy]
  cases b <;> rfl
theorem wr {x : Int} (h1 : -9223372036854775808 ≤ x) (h2 : x ≤ 9223372036854775807) : IntKind.i64.wrap x = x := by rw [IntKind.wrap_i64]; omega
/-- an operation that lays a block -/
theorem lay1 {ops : Array Oper} {o : Oper} {a : Act} {w : World} {x : Value} {V : Val} {ob : Obj} (hw : Region.wanted o (yielded ops a.tmps) = true) (h : (execOp a.eval o).run P w = .ok (.value x) (w.alloc ob)) (hV : V.ok x (w.alloc ob)) : Does P ops Q V o a w := by
  unfold Does
  rw [if_pos hw]
  unfold Oper.wp
  rw [h]
  exact ⟨x, rfl, hV, (Below.refl _ _).alloc (Nat.le_refl _) ob⟩
/-- a call -/
theorem call1 {ops : Array Oper} {o : Oper} {a : Act} {w : World} {V : Val} {f : FuncId} {args : Array Value} (hw : Region.wanted o (yielded ops a.tmps) = true) (h : (execOp a.eval o).run P w = .ok (.enter f args) w)
    (hc : Calls P f args w fun e w' => ∃ v, e = .returned v ∧ V.ok v w' ∧ Below w.heap.size w w') : Does P ops Q V o a w := by
  unfold Does
  rw [if_pos hw]
  unfold Oper.wp
  rw [h]
  refine Calls.mono hc ?_
  rintro e w' ⟨v, rfl, h1, h2⟩
  exact ⟨v, rfl, h1, h2⟩
end Rg
end Go.Proofs.YtodgfechhielaaaGreatDoor
