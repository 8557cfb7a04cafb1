/-
  Contracts: lists of curves sorted and freed of repetitions.
-/
import Derived.Test.YtoolgmpflplghaaE3
import Derived.Test.YtoolgmpflplghaaS8
import Derived.Test.YtoolgmpflplghaaShC
import Derived.Shelf.SlSortCmp.NoneTotal
namespace Go.Proofs.Ytoolgmpflplghaa
set_option linter.unusedSimpArgs false
set_option linter.unusedVariables false
open Go.RowKit Go.Shelf

theorem swoC : Sort.SWO (ltOf M.ccmp) where
  irrefl x := by unfold ltOf; rw [M.ccmp_lt]; exact M.clt_irr x
  trans x y z h1 h2 := by unfold ltOf at *; rw [M.ccmp_lt] at *; exact M.clt_tr h1 h2
  ntrans x y z h1 h2 := by
    unfold ltOf at *
    rw [M.ccmp_lt] at *
    cases h : M.clt x z
    · rfl
    · exfalso
      have h1' : ¬ M.clt x y = true := by rw [h1]; decide
      have h2' : ¬ M.clt y z = true := by rw [h2]; decide
      rw [M.clt_iff] at h h1' h2'
      omega

theorem cmpLaysC (blk size : Nat) (w : World) : CmpLays Try.prog 92 #[] EC.cells EC.k M.ccmp blk 0 size w :=
  fun _ _ _ _ x y => (compareCurves_c x y _).mono fun _ _ ⟨he, q, os, hw⟩ => ⟨he, q, os, hw⟩

/-- the elements of xs, no later one less than an earlier one -/
def SortedC (xs ys : List (Int × Int)) : Prop := ys.Perm xs ∧ ys.Pairwise (fun a b => M.clt b a = false)

theorem sortC_c (xs : List (Int × Int)) (v : Value) (w : World) (base : Nat) (hown : Rw.Own EC w base v xs) (hb : base ≤ w.heap.size) (hl : xs.length ≤ 100000000) :
    Calls Try.prog 91 #[v, .func (.func 92) #[] #[]] w fun e w' => e = .returned (.tuple #[]) ∧ ∃ ys, SortedC xs ys ∧ Rw.Own EC w' base v ys ∧ Below base w w' := by
  rcases hown.forms with ⟨rfl, rfl⟩ | ⟨g, cap, rfl, hg, hgs, hc, hc2⟩
  · have h := AnyF.slices_SortFunc_none Try.sortC none 0 (.func (.func 92) #[] #[]) w
    refine h.mono fun e w' ⟨he, hw⟩ => ⟨he, [], ⟨List.Perm.refl _, List.Pairwise.nil⟩, ?_⟩
    rw [hw]
    exact ⟨hown, Below.refl _ _⟩
  · have eg : ∀ args w, (callFunc 92 args).run Try.prog w = .ok (.enter 92 args) w := enters_of Try.func92 (by kernel_rfl) rfl
    have hcon := AnyQ.slices_SortFunc Try.sortC 2 Try.isAgg23 Try.sizeOf23 EC.cells (fun _ => rfl) EC.one M.ccmp swoC 92 #[] g 0 cap xs.toArray w eg (cmpLaysC g _ w) (hown.holds rfl) hgs (by simp; omega)
    refine hcon.mono fun e w' ⟨he, d', n, os, hp, hs, hw⟩ => ⟨he, d'.toList, ⟨?_, ?_⟩, ?_⟩
    · have := hp.2.2
      have e1 : d'.extract 0 xs.toArray.size = d' := by rw [← hp.1]; exact Array.extract_size
      rw [e1, Array.extract_size] at this
      simpa using this
    · rw [List.pairwise_iff_getElem]
      intro i j hi hj hij
      have h := hs i j (by omega) hij (by rw [← hp.1]; simpa using hj)
      unfold ltOf at h
      rw [M.ccmp_lt, getElem!_pos d' j (by simpa using hj), getElem!_pos d' i (by simpa using hi)] at h
      simpa using h
    · have h := hown.sorted (m := n) (os := os) rfl (d' := d') (by rw [hp.1]; simp) hb
      rw [hw]
      exact h
end Go.Proofs.Ytoolgmpflplghaa
