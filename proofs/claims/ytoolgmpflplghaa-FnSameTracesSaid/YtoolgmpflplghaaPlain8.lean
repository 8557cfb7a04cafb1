/-
  Plain mathematics: the class of a curve, breadth first.
-/
import Derived.Test.YtoolgmpflplghaaE2
namespace Go.Proofs.Ytoolgmpflplghaa
set_option linter.unusedSimpArgs false
set_option linter.unusedVariables false
namespace M
theorem cidx_neg {c : Int × Int} : ∀ {xs : List (Int × Int)}, cidx c xs < 0 ↔ c ∉ xs
  | [] => by simp [cidx]
  | x :: xs => by
    have ih := cidx_neg (c := c) (xs := xs)
    have hl := cidx_lo c xs
    simp only [cidx, List.mem_cons, not_or]
    by_cases h : x = c
    · rw [if_pos h]
      constructor
      · intro hh; omega
      · intro hh; exact absurd h.symm hh.1
    · rw [if_neg h]
      by_cases h2 : cidx c xs < 0
      · rw [if_pos h2]
        exact ⟨fun _ => ⟨fun e => h e.symm, ih.1 h2⟩, fun _ => by omega⟩
      · rw [if_neg h2]
        constructor
        · intro hh; omega
        · intro hh; exact absurd (ih.2 hh.2) h2
def addOne (s : Int) (p : List (Int × Int) × List Int) (n : Int × Int) : List (Int × Int) × List Int := if cidx n p.1 < 0 then (p.1 ++ [n], p.2 ++ [s]) else p
def addAll (s : Int) (p : List (Int × Int) × List Int) (ns : List (Int × Int)) : List (Int × Int) × List Int := ns.foldl (addOne s) p
theorem addAll_next (s : Int) (p : List (Int × Int) × List Int) {ns : List (Int × Int)} {k : Nat} {x : Int × Int} (h : ns[k]? = some x) : addAll s p (ns.take (k + 1)) = addOne s (addAll s p (ns.take k)) x := by
  obtain ⟨hk, e⟩ := List.getElem?_eq_some_iff.1 h
  unfold addAll
  rw [List.take_succ_eq_append_getElem hk, e, List.foldl_append]
  rfl
/-- what holds of the lists all along -/
structure BInv (b : Int) (p : List (Int × Int) × List Int) : Prop where
  good : ∀ c ∈ p.1, good c.1 c.2 = true
  nd : p.1.Nodup
  len : p.2.length = p.1.length
  bd : ∀ s ∈ p.2, 0 ≤ s ∧ s ≤ b
theorem BInv.mono {b b' : Int} {p : List (Int × Int) × List Int} (h : BInv b p) (hb : b ≤ b') : BInv b' p := ⟨h.good, h.nd, h.len, fun s hs => by have := h.bd s hs; omega⟩
theorem BInv.one {b s : Int} {p : List (Int × Int) × List Int} {n : Int × Int} (h : BInv b p) (h1 : 0 ≤ s) (h2 : s ≤ b) (hn : M.good n.1 n.2 = true) : BInv b (addOne s p n) := by
  unfold addOne
  split
  · rename_i hc
    refine ⟨fun c hc => ?_, ?_, ?_, fun t ht => ?_⟩
    · rcases List.mem_append.1 hc with hc | hc
      · exact h.good c hc
      · rw [List.mem_singleton.1 hc]; exact hn
    · rw [List.nodup_append]
      refine ⟨h.nd, by simp, fun x hx y hy => ?_⟩
      rw [List.mem_singleton.1 hy]
      intro e
      exact cidx_neg.1 hc (e ▸ hx)
    · simp [h.len]
    · rcases List.mem_append.1 ht with ht | ht
      · exact h.bd t ht
      · rw [List.mem_singleton.1 ht]; exact ⟨h1, h2⟩
  · exact h
theorem addOne_len (s : Int) (p : List (Int × Int) × List Int) (n : Int × Int) : (addOne s p n).1.length ≤ p.1.length + 1 ∧ (addOne s p n).2.length ≤ p.2.length + 1 := by
  unfold addOne
  split
  · simp
  · simp
theorem addOne_get (s : Int) (p : List (Int × Int) × List Int) (n : Int × Int) {i : Nat} {t : Int} (h : p.2[i]? = some t) : (addOne s p n).2[i]? = some t := by
  unfold addOne
  split
  · rw [List.getElem?_append_left (List.getElem?_eq_some_iff.1 h).1]; exact h
  · exact h
theorem BInv.all {b s : Int} (h1 : 0 ≤ s) (h2 : s ≤ b) : ∀ (ns : List (Int × Int)) (p : List (Int × Int) × List Int), BInv b p → (∀ n ∈ ns, M.good n.1 n.2 = true) → BInv b (addAll s p ns)
  | [], _, h, _ => h
  | n :: ns, p, h, hn => BInv.all h1 h2 ns _ (h.one h1 h2 (hn n List.mem_cons_self)) fun m hm => hn m (List.mem_cons_of_mem _ hm)
variable (ok : Int × Int → Bool) (nb : Int × Int → List (Int × Int))
def bfs : Nat → Nat → List (Int × Int) × List Int → Option (List (Int × Int) × List Int)
  | 0, _, _ => none
  | f + 1, i, p =>
    match p.1[i]? with
    | none => some p
    | some c => if ok c then (if 8 < (addAll (p.2.getD i 0 + 1) p (nb c)).1.length then none else bfs f (i + 1) (addAll (p.2.getD i 0 + 1) p (nb c))) else none
variable {ok nb}
theorem bfs_end {f i : Nat} {p : List (Int × Int) × List Int} (h : p.1.length ≤ i) : bfs ok nb (f + 1) i p = some p := by
  rw [bfs, List.getElem?_eq_none h]
theorem bfs_not {f i : Nat} {p : List (Int × Int) × List Int} {c : Int × Int} (h : p.1[i]? = some c) (ho : ok c = false) : bfs ok nb (f + 1) i p = none := by
  rw [bfs, h]
  simp [ho]
theorem bfs_many {f i : Nat} {p : List (Int × Int) × List Int} {c : Int × Int} {t : Int} (h : p.1[i]? = some c) (ho : ok c = true) (ht : p.2[i]? = some t) (h8 : 8 < (addAll (t + 1) p (nb c)).1.length) : bfs ok nb (f + 1) i p = none := by
  have e : p.2.getD i 0 = t := by simp [List.getD_eq_getElem?_getD, ht]
  rw [bfs, h]
  simp only [ho, if_true, e]
  rw [if_pos h8]
theorem bfs_next {f i : Nat} {p : List (Int × Int) × List Int} {c : Int × Int} {t : Int} (h : p.1[i]? = some c) (ho : ok c = true) (ht : p.2[i]? = some t) (h8 : ¬ 8 < (addAll (t + 1) p (nb c)).1.length) : bfs ok nb (f + 1) i p = bfs ok nb f (i + 1) (addAll (t + 1) p (nb c)) := by
  have e : p.2.getD i 0 = t := by simp [List.getD_eq_getElem?_getD, ht]
  rw [bfs, h]
  simp only [ho, if_true, e]
  rw [if_neg h8]
end M
end Go.Proofs.Ytoolgmpflplghaa
