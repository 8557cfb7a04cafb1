/-
  Plain mathematics: the twist of the least discriminant.
-/
import Derived.Test.YtoolgmpflplghaaPlain9
namespace Go.Proofs.Ytoolgmpflplghaa
set_option linter.unusedSimpArgs false
set_option linter.unusedVariables false
namespace M
def ltM (a b d : Int) : Int × Int := (smA (a * d * d) (b * d * d * d), smB (a * d * d) (b * d * d * d))
def absd (c : Int × Int) : Int := ((disc c.1 c.2).natAbs : Int)
def ltT (d0 : Int) (c : Int × Int) (x : Int × Int) : Bool := d0 == 0 || decide (absd x < absd c)
def ltStep (a b : Int) (s : Int × (Int × Int)) (d : Int) : Int × (Int × Int) := if ltT s.1 s.2 (ltM a b d) then (d, ltM a b d) else s
def lt0 : Int × (Int × Int) := (0, (0, 0))
def ltw (a b : Int) : Int × (Int × Int) := (nearOk a b).foldl (ltStep a b) lt0
def ltW (a b : Int) : Int × (Int × Int) := if good a b then ltw a b else lt0
def ltStep' (a b : Int) (s : Int × (Int × Int)) (d : Int) : Int × (Int × Int) := if twOk a b d then ltStep a b s d else s
theorem ltw_near (a b : Int) : ltw a b = (near 30).foldl (ltStep' a b) lt0 := by
  unfold ltw nearOk
  rw [List.foldl_filter]
  rfl
/-- what holds of the best so far -/
def ltI (s : Int × (Int × Int)) : Prop := s.1 = 0 ∨ good s.2.1 s.2.2 = true
theorem ltI_step {a b d : Int} {s : Int × (Int × Int)} (h : ltI s) (hg : good (a * d * d) (b * d * d * d) = true) : ltI (ltStep a b s d) := by
  unfold ltStep
  split
  · exact Or.inr (sm_good hg)
  · exact h
theorem foldl_next {α β : Type} (f : β → α → β) (z : β) {xs : List α} {k : Nat} {x : α} (h : xs[k]? = some x) : (xs.take (k + 1)).foldl f z = f ((xs.take k).foldl f z) x := by
  obtain ⟨hk, e⟩ := List.getElem?_eq_some_iff.1 h
  rw [List.take_succ_eq_append_getElem hk, e, List.foldl_append]
  rfl
end M
end Go.Proofs.Ytoolgmpflplghaa
