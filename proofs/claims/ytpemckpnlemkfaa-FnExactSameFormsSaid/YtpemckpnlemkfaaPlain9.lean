/-
  Plain mathematics: twist numbers, the nearest to 0 first.
-/
import Derived.Test.YtpemckpnlemkfaaPlain7
namespace Go.Proofs.Ytpemckpnlemkfaa
set_option linter.unusedSimpArgs false
set_option linter.unusedVariables false
namespace M
/-- nearer to 0; the negative one before -/
def nlt (d e : Int) : Bool := decide (d.natAbs < e.natAbs) || (decide (d.natAbs = e.natAbs) && decide (d < e))
theorem nlt_iff {d e : Int} : nlt d e = true ↔ d.natAbs < e.natAbs ∨ (d.natAbs = e.natAbs ∧ d < e) := by simp [nlt]
theorem nlt_irr (c : Int) : nlt c c = false := by
  cases h : nlt c c
  · rfl
  · rw [nlt_iff] at h; omega
theorem nlt_tr {a b c : Int} (h1 : nlt a b = true) (h2 : nlt b c = true) : nlt a c = true := by
  rw [nlt_iff] at *; omega
theorem nlt_tot {a b : Int} (h1 : nlt a b = false) (h2 : nlt b a = false) : a = b := by
  have h1' : ¬ nlt a b = true := by rw [h1]; decide
  have h2' : ¬ nlt b a = true := by rw [h2]; decide
  rw [nlt_iff] at h1' h2'
  omega
def NInc (l : List Int) : Prop := l.Pairwise (fun a b => nlt a b = true)
theorem NInc.ext : ∀ {l m : List Int}, NInc l → NInc m → (∀ x, x ∈ l ↔ x ∈ m) → l = m
  | [], [], _, _, _ => rfl
  | [], y :: m, _, _, h => absurd ((h y).2 List.mem_cons_self) (by simp)
  | x :: l, [], _, _, h => absurd ((h x).1 List.mem_cons_self) (by simp)
  | x :: l, y :: m, h1, h2, h => by
    obtain ⟨a1, b1⟩ := List.pairwise_cons.1 h1
    obtain ⟨a2, b2⟩ := List.pairwise_cons.1 h2
    have hxy : x = y := by
      rcases List.mem_cons.1 ((h x).1 List.mem_cons_self) with e | e
      · exact e
      · rcases List.mem_cons.1 ((h y).2 List.mem_cons_self) with e' | e'
        · exact e'.symm
        · have := nlt_tr (a1 y e') (a2 x e)
          rw [nlt_irr] at this
          cases this
    subst hxy
    congr 1
    refine NInc.ext b1 b2 fun z => ⟨fun hz => ?_, fun hz => ?_⟩
    · rcases List.mem_cons.1 ((h z).1 (List.mem_cons_of_mem _ hz)) with e | e
      · have := a1 z hz; rw [e, nlt_irr] at this; cases this
      · exact e
    · rcases List.mem_cons.1 ((h z).2 (List.mem_cons_of_mem _ hz)) with e | e
      · have := a2 z hz; rw [e, nlt_irr] at this; cases this
      · exact e
theorem near_inc : ∀ k : Nat, NInc (near k)
  | 0 => List.Pairwise.nil
  | k + 1 => by
    have ih := near_inc k
    rw [near]
    unfold NInc
    rw [List.pairwise_append]
    split
    · refine ⟨ih, ?_, fun a ha b hb => ?_⟩
      · rw [List.pairwise_pair, nlt_iff]; omega
      · have h1 := ((mem_near k a).1 ha).2
        simp only [List.mem_cons, List.not_mem_nil, or_false] at hb
        rw [nlt_iff]
        omega
    · exact ⟨ih, List.Pairwise.nil, fun a _ b hb => by cases hb⟩
/-- those with a valid twist, the nearest first -/
def nearOk (a b : Int) : List Int := (near 30).filter (twOk a b)
theorem tws_nd (a b : Int) : (tws a b).Nodup := by
  unfold tws sel
  refine List.Nodup.sublist List.filter_sublist ?_
  unfold upto
  rw [List.nodup_iff_pairwise_ne, List.pairwise_map]
  refine List.Pairwise.imp ?_ (List.nodup_iff_pairwise_ne.1 List.nodup_range)
  intro x y h e
  apply h
  omega
theorem nearOk_sorted {a b : Int} {ys : List Int} (hp : ys.Perm (tws a b)) (hs : ys.Pairwise (fun d e => nlt e d = false)) : ys = nearOk a b := by
  have hy : ys.Nodup := hp.nodup_iff.2 (tws_nd a b)
  have h1 : NInc ys := by
    refine (List.Pairwise.and hs hy).imp ?_
    intro d e h
    cases hc : nlt d e
    · exact absurd (nlt_tot hc h.1) h.2
    · rfl
  have h2 : NInc (nearOk a b) := List.Pairwise.sublist List.filter_sublist (near_inc 30)
  refine NInc.ext h1 h2 fun x => ?_
  rw [hp.mem_iff, nearOk, List.mem_filter, mem_near, tws, mem_sel]
  simp only [twp, Bool.and_eq_true]
  constructor
  · rintro ⟨h1, h2, h3⟩
    have := tw_iff.1 h2
    exact ⟨⟨h2, by omega⟩, h3⟩
  · rintro ⟨⟨h1, h2⟩, h3⟩
    exact ⟨by omega, h1, h3⟩
end M
end Go.Proofs.Ytpemckpnlemkfaa
