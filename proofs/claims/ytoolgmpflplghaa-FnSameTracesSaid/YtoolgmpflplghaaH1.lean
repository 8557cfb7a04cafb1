/-
  Plain law: curves that are told to be isogenous of degree two have the same traces up to 60.
-/
import Derived.Test.YtoolgmpflplghaaPlain13
import Derived.Test.YtoolgmpflplghaaPlain8
import Derived.Test.YtoolgmpflplghaaE10
import Derived.Test.YtoolgmpflplghaaD3
namespace Go.Proofs.Ytoolgmpflplghaa
set_option linter.unusedSimpArgs false
set_option linter.unusedVariables false
namespace M
theorem iso_same {a b c d : Int} (h : isoQ a b c d = true) : hsOk a b c d 60 = true ∧ fdB a b c d 60 = false := by
  unfold isoQ isoOk at h
  simp only [Bool.and_eq_true, decide_eq_true_eq] at h
  obtain ⟨⟨⟨hg1, hg2⟩, hnb⟩, hi⟩ := h
  refine ⟨by simp [hsOk, trAsk, hg1, hg2, ins], ?_⟩
  have hm : (smA c d, smB c d) ∈ nbs a b := by
    by_cases hm : (smA c d, smB c d) ∈ nbs a b
    · exact hm
    · have := cidx_neg.2 hm
      omega
  unfold nbs at hm
  rw [hnb, if_pos rfl] at hm
  have hm' := (inc_cputs ((roots a b).map (nbl a b)) [] List.Pairwise.nil).2 (smA c d, smB c d) |>.1 hm
  rcases hm' with hm' | hm'
  · cases hm'
  · obtain ⟨e, he, hn⟩ := List.mem_map.1 hm'
    have hv : val a b e = 0 := by
      have := (mem_sel.1 he).2
      simpa [root3] using this
    unfold fdB firstD
    rw [Option.isSome_eq_false_iff, Option.isNone_iff_eq_none, List.find?_eq_none]
    intro p hpm
    have hpg := mem_sel.1 hpm
    unfold differ
    intro hd
    rw [Bool.and_eq_true] at hd
    obtain ⟨h3, h4⟩ := hd
    have b1 := goodp_bd hpg.2
    have q1 : ¬ disc a b % p = 0 := by have := hpg.2; unfold goodp at this; simp at this; exact this.2
    have q2 : ¬ disc c d % p = 0 := by have := h3; unfold goodp at this; simp at this; exact this.2
    have hp := prime_iff.1 b1.2.2
    have hle : p ≤ 60 := by omega
    have hne : p ≠ 60 := by
      rintro rfl
      exact hp.2 2 (by omega) (by omega) (by decide)
    have := iso_trace hp b1.1 (by omega) hv q1 q2 hn
    rw [this] at h4
    simp at h4
end M
end Go.Proofs.Ytoolgmpflplghaa
