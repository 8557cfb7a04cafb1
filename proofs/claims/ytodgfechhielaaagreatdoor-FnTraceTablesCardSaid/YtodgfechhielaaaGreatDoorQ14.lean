/-
  Joined texts.
-/
import Derived.Test.YtodgfechhielaaaGreatDoorD7
import Derived.Test.YtodgfechhielaaaGreatDoorD10
import Derived.Test.YtodgfechhielaaaGreatDoorD11
import Derived.Test.YtodgfechhielaaaGreatDoorPlain6
import Derived.Test.YtodgfechhielaaaGreatDoorN3
import Derived.Test.YtodgfechhielaaaGreatDoorS5
import Derived.Test.YtodgfechhielaaaGreatDoorJ2
namespace Go.Proofs.YtodgfechhielaaaGreatDoor
set_option linter.unusedSimpArgs false
set_option linter.unusedVariables false
open Go.RowKit

theorem goods_mem {a b n x : Int} : x ∈ M.goods a b n ↔ M.goodp a b x = true ∧ 5 ≤ x ∧ x ≤ n := by
  unfold M.goods
  rw [M.mem_sel]
  constructor
  · rintro ⟨h1, h2⟩
    exact ⟨h2, h1.1, by omega⟩
  · rintro ⟨h1, h2, h3⟩
    exact ⟨⟨h2, by omega⟩, h1⟩
theorem goods_len {a b n : Int} (h : trAsk a b n = true) : (M.goods a b n).length ≤ 200 := by
  obtain ⟨-, h1, h2⟩ := trAsk_t h
  have := M.sel_le (M.goodp a b) 5 (n - 4).toNat
  unfold M.goods
  omega
theorem goods_asc {a b n p q : Int} {k : Nat} (h : (M.goods a b n)[k]? = some p) (h' : (M.goods a b n)[k + 1]? = some q) : p < q := by
  have hi : M.Inc (M.goods a b n) := M.inc_sel _ _ _
  obtain ⟨k1, rfl⟩ := List.getElem?_eq_some_iff.1 h
  obtain ⟨k2, rfl⟩ := List.getElem?_eq_some_iff.1 h'
  exact List.pairwise_iff_getElem.1 hi k (k + 1) k1 k2 (Nat.lt_succ_self k)
theorem gcd_dvd (a b : Int) : M.gcd a b ∣ a ∧ M.gcd a b ∣ b := by
  unfold M.gcd
  exact ⟨Int.gcd_dvd_left .., Int.gcd_dvd_right ..⟩
theorem mtq_eq {a b n : Int} : mtq a b n = (trAsk a b n && decide (0 < (M.goods a b n).length)) := by
  unfold mtq mtOk
  cases h1 : trAsk a b n
  · rfl
  cases h2 : M.goods a b n with
  | nil => rfl
  | cons p ps =>
    have hl : ((p :: ps).length : Int) ≤ 200 := by
      have := goods_len h1
      rw [h2] at this
      omega
    have hl1 : 1 ≤ ((p :: ps).length : Int) := by simp only [List.length_cons]; omega
    have hs := mt_bd a b n (M.goods a b n).length
    rw [List.take_length] at hs
    rw [h2] at hs
    have hS : mtSum a b n = (p :: ps).foldl (mtStep a b) 0 := by unfold mtSum; rw [h2]
    rw [← hS] at hs
    generalize ((p :: ps).length : Int) = L at *
    generalize hS' : mtSum a b n = S at *
    have hg := gcd_pos (a := S) (b := L) (by omega)
    have hgl := gcd_le (a := S) (b := L) (by omega)
    obtain ⟨d1, d2⟩ := gcd_dvd S L
    have hf : frq S L = true := by
      unfold frq
      rw [partN_pos (by omega), partD_pos (by omega)]
      have t1 := tdiv_bd (a := S) (d := M.gcd S L) (m := 1000000000) (by omega) (by omega) (by omega)
      have t2 := tdiv_bd (a := L) (d := M.gcd S L) (m := 1000000000) (by omega) (by omega) (by omega)
      have e2 : L.tdiv (M.gcd S L) * M.gcd S L = L := Int.tdiv_mul_cancel d2
      have p2 : 1 ≤ L.tdiv (M.gcd S L) := by
        rcases Int.lt_or_le (L.tdiv (M.gcd S L)) 1 with h | h
        · exfalso
          have : L.tdiv (M.gcd S L) * M.gcd S L ≤ 0 := Int.mul_nonpos_of_nonpos_of_nonneg (by omega) (by omega)
          omega
        · exact h
      unfold frOk
      rw [M.ins_iff.2 ⟨p2, t2.2⟩, M.ins_iff.2 t1]
      have hgg : M.gcd (S.tdiv (M.gcd S L)) (L.tdiv (M.gcd S L)) = 1 := by
        unfold M.gcd at *
        have hgp : 0 < Int.gcd S L := by omega
        have := Int.gcd_ediv_gcd_ediv_gcd (i := S) (j := L) hgp
        rw [Int.tdiv_eq_ediv_of_dvd d1, Int.tdiv_eq_ediv_of_dvd d2, this]
        rfl
      rw [hgg]
      rfl
    rw [hf]
    simp
theorem mt_cross {a b n : Int} (h : mtq a b n = true) : mtX a b n * ((M.goods a b n).length : Int) = mtSum a b n * mtY a b n ∧ (-1000000000 ≤ mtX a b n ∧ mtX a b n ≤ 1000000000) ∧ (0 ≤ mtY a b n ∧ mtY a b n ≤ 1000000000) := by
  have h' := h
  rw [mtq_eq, Bool.and_eq_true, decide_eq_true_eq] at h'
  obtain ⟨hk, hp⟩ := h'
  have hl := goods_len hk
  have hs := mt_bd a b n (M.goods a b n).length
  rw [List.take_length] at hs
  have hS : mtSum a b n = (M.goods a b n).foldl (mtStep a b) 0 := rfl
  rw [← hS] at hs
  unfold mtX mtY
  rw [h, M.pick_t, M.pick_t]
  have hL : 1 ≤ ((M.goods a b n).length : Int) ∧ ((M.goods a b n).length : Int) ≤ 200 := by omega
  have hs' : -200000 ≤ mtSum a b n ∧ mtSum a b n ≤ 200000 := by omega
  clear hs hS hp hl
  generalize ((M.goods a b n).length : Int) = L at *
  generalize mtSum a b n = S at *
  have hg := gcd_pos (a := S) (b := L) (by omega)
  obtain ⟨d1, d2⟩ := gcd_dvd S L
  rw [partN_pos (by omega), partD_pos (by omega)]
  have t1 := tdiv_bd (a := S) (d := M.gcd S L) (m := 1000000000) (by omega) (by omega) (by omega)
  have t2 := tdiv_bd (a := L) (d := M.gcd S L) (m := 1000000000) (by omega) (by omega) (by omega)
  have e1 : S.tdiv (M.gcd S L) * M.gcd S L = S := Int.tdiv_mul_cancel d1
  have e2 : L.tdiv (M.gcd S L) * M.gcd S L = L := Int.tdiv_mul_cancel d2
  have p2 : 0 ≤ L.tdiv (M.gcd S L) := Int.tdiv_nonneg (by omega) (by omega)
  refine ⟨?_, t1, p2, t2.2⟩
  generalize S.tdiv (M.gcd S L) = X at *
  generalize L.tdiv (M.gcd S L) = Y at *
  generalize M.gcd S L = G at *
  subst e1 e2
  grind
theorem ex_mem {a b n p : Int} (h : trAsk a b n = true) (hp : p ∈ M.goods a b n) : decide (p ∈ exL a b n) = ((((M.trace a b p).natAbs : Int)) == M.root (4 * p)) := by
  unfold exL
  rw [if_pos h]
  have : p ∈ (M.goods a b n).filter (exTest a b) ↔ exTest a b p = true := by
    rw [List.mem_filter]
    exact ⟨fun h => h.2, fun h => ⟨hp, h⟩⟩
  rw [Bool.eq_iff_iff, decide_eq_true_eq, this]
  rfl
theorem hs_t {a b c d n : Int} (h : hsOk a b c d n = true) : M.good a b = true ∧ M.good c d = true ∧ 5 ≤ n ∧ n ≤ 200 := by
  unfold hsOk at h
  rw [Bool.and_eq_true] at h
  obtain ⟨h1, h2, h3⟩ := trAsk_t h.1
  exact ⟨h1, h.2, h2, h3⟩
theorem fdB_iff {a b c d n : Int} : fdB a b c d n = true ↔ ∃ x, M.goodp a b x = true ∧ M.goodp c d x = true ∧ M.trace a b x ≠ M.trace c d x ∧ 5 ≤ x ∧ x ≤ n := by
  unfold fdB M.firstD
  rw [List.find?_isSome]
  constructor
  · rintro ⟨x, hx, hd⟩
    obtain ⟨h1, h2, h3⟩ := goods_mem.1 hx
    unfold M.differ at hd
    rw [Bool.and_eq_true, bne_iff_ne] at hd
    exact ⟨x, h1, hd.1, hd.2, h2, h3⟩
  · rintro ⟨x, h1, h2, h3, h4, h5⟩
    refine ⟨x, goods_mem.2 ⟨h1, h4, h5⟩, ?_⟩
    unfold M.differ
    rw [Bool.and_eq_true, bne_iff_ne]
    exact ⟨h2, h3⟩
theorem hs_sym {a b c d n : Int} (h : hsOk a b c d n = true) : hsOk c d a b n = true ∧ fdB c d a b n = fdB a b c d n := by
  obtain ⟨h1, h2, h3, h4⟩ := hs_t h
  refine ⟨?_, ?_⟩
  · unfold hsOk trAsk
    rw [h1, h2, M.ins_iff.2 ⟨h3, h4⟩]
    rfl
  · rw [Bool.eq_iff_iff, fdB_iff, fdB_iff]
    exact ⟨fun ⟨x, a1, a2, a3, a4⟩ => ⟨x, a2, a1, fun e => a3 e.symm, a4⟩, fun ⟨x, a1, a2, a3, a4⟩ => ⟨x, a2, a1, fun e => a3 e.symm, a4⟩⟩
theorem fd_facts {a b c d n : Int} (h : fdOk a b c d n = true) : ∃ x, M.pick (fdOk a b c d n) (fdV a b c d n) = x ∧ trOk a b x = true ∧ trOk c d x = true ∧ M.trace a b x ≠ M.trace c d x ∧ x ≤ n := by
  rw [h, M.pick_t]
  unfold fdOk at h
  rw [Bool.and_eq_true] at h
  obtain ⟨h1, h2, h3, h4⟩ := hs_t h.1
  have hb := h.2
  unfold fdB at hb
  unfold fdV
  cases hf : M.firstD a b c d n with
  | none => rw [hf] at hb; exact absurd hb (by decide)
  | some x =>
    unfold M.firstD at hf
    have hm := goods_mem.1 (List.mem_of_find?_eq_some hf)
    have hd := List.find?_some hf
    unfold M.differ at hd
    rw [Bool.and_eq_true, bne_iff_ne] at hd
    refine ⟨x, rfl, ?_, ?_, hd.2, hm.2.2⟩
    · unfold trOk; rw [h1, hm.1]; rfl
    · unfold trOk; rw [h2, hd.1]; rfl
theorem pw_facts {a b t n q : Int} (h : q ∈ pwL a b t n) : trOk a b q = true ∧ M.trace a b q = t ∧ q ≤ n := by
  unfold pwL at h
  split at h
  case isTrue hk =>
    unfold pwOk at hk
    rw [Bool.and_eq_true] at hk
    obtain ⟨h1, -, -⟩ := trAsk_t hk.1
    rw [List.mem_filter] at h
    have hm := goods_mem.1 h.1
    have ht := h.2
    unfold pwTest at ht
    rw [beq_iff_eq] at ht
    refine ⟨?_, ht, hm.2.2⟩
    unfold trOk
    rw [h1, hm.1]
    rfl
  case isFalse => exact absurd h (by simp)
theorem row_facts {a b n p : Int} (h : trAsk a b n = true) (hp : p ∈ M.goods a b n) : trOk a b p = true ∧ (5 ≤ p ∧ p ≤ n ∧ p ≤ 997) ∧ (M.ins p 2 997 && M.prime p) = true ∧ (-1000 ≤ M.trace a b p ∧ M.trace a b p ≤ 1000) := by
  obtain ⟨h1, -, -⟩ := trAsk_t h
  obtain ⟨hm, h5, hn⟩ := goods_mem.1 hp
  obtain ⟨p1, p2, p3⟩ := M.goodp_bd hm
  obtain ⟨t1, t2, -⟩ := goodp_trace hm
  refine ⟨?_, ⟨p1, hn, p2⟩, ?_, t1, t2⟩
  · unfold trOk; rw [h1, hm]; rfl
  · rw [p3, Bool.and_true]; exact M.ins_iff.2 ⟨by omega, by omega⟩
end Go.Proofs.YtodgfechhielaaaGreatDoor

namespace Go.Proofs.YtodgfechhielaaaGreatDoor
set_option linter.unusedSimpArgs false
set_option linter.unusedVariables false
open Go.RowKit

theorem SeenI.keep {w w' : World} {v : Value} {xs : List Int} (h : SeenI w w.heap.size v xs) (hb : Below w.heap.size w w') : SeenI w' w'.heap.size v xs := (h.below hb).mono hb.size
theorem SeenI.alloc {w : World} {v : Value} {xs : List Int} (h : SeenI w w.heap.size v xs) (o : Obj) : SeenI (w.alloc o) (w.alloc o).heap.size v xs := h.keep ((Below.refl _ _).alloc (Nat.le_refl _) o)
theorem SeenII.mono {w : World} {hi hi' : Nat} {v : Value} {rows : List (List Int)} (h : SeenII w hi v rows) (hh : hi ≤ hi') : SeenII w hi' v rows := by
  obtain ⟨a, cap, h1, h2, h3⟩ := h
  refine ⟨a, cap, h1, h2, fun k hk => ?_⟩
  obtain ⟨g, u, r, e1, e2, e3, e4, e5⟩ := h3 k hk
  exact ⟨g, u, r, e1, by omega, e3, e4, e5.mono hh⟩
theorem SeenII.keep {w w' : World} {v : Value} {xs : List (List Int)} (h : SeenII w w.heap.size v xs) (hb : Below w.heap.size w w') : SeenII w' w'.heap.size v xs := (h.below hb).mono hb.size
theorem SeenII.alloc {w : World} {v : Value} {xs : List (List Int)} (h : SeenII w w.heap.size v xs) (o : Obj) : SeenII (w.alloc o) (w.alloc o).heap.size v xs := h.keep ((Below.refl _ _).alloc (Nat.le_refl _) o)
theorem Tab.keep {w w' : World} (h : Tab w.heap.size w) (hb : Below w.heap.size w w') : Tab w'.heap.size w' := fun W hW => h W (hb.trans (hW.mono hb.size))
theorem Tab.alloc {w : World} (h : Tab w.heap.size w) (o : Obj) : Tab (w.alloc o).heap.size (w.alloc o) := h.keep ((Below.refl _ _).alloc (Nat.le_refl _) o)
/-- what a row of the table is -/
def RowIs (a b n : Int) (ex : List Int) (L : List (List Int)) (S : Nat → Int) : Prop :=
  ∀ (k : Nat) (r : List Int), L[k]? = some r → ∃ p t : Int, r = [p, t] ∧ M.pick (trOk a b p) (M.trace a b p) = t ∧ trOk a b p = true ∧ (5 ≤ p ∧ p ≤ n ∧ p ≤ 997) ∧ (M.ins p 2 997 && M.prime p) = true ∧ (-1000 ≤ t ∧ t ≤ 1000) ∧
    decide (p ∈ ex) = ((t.natAbs : Int) == M.root (4 * p)) ∧ S (k + 1) = S k + t ∧ ∀ (j : Nat) (r' : List Int), k = j + 1 → L[j]? = some r' → ∃ p' t' : Int, r' = [p', t'] ∧ p' < p
theorem tables_vals (a b n : Int) : ∃ (ok q : Bool) (X Y : Int) (L : List (List Int)) (ex : List Int) (s : ByteArray) (S : Nat → Int),
    trAsk a b n = ok ∧ (if trAsk a b n then trRows a b n else []) = L ∧ exL a b n = ex ∧ mtq a b n = q ∧ mtX a b n = X ∧ mtY a b n = Y ∧ bs (trText a b n) = s ∧
    q = (ok && decide (0 < L.length)) ∧ L.length ≤ 200 ∧ RowIs a b n ex L S ∧ S 0 = 0 ∧ (∀ k : Nat, -(1000 * (k : Int)) ≤ S k ∧ S k ≤ 1000 * (k : Int)) ∧
    (q = true → X * (L.length : Int) = S L.length * Y ∧ (-1000000000 ≤ X ∧ X ≤ 1000000000) ∧ (0 ≤ Y ∧ Y ≤ 1000000000)) := by
  refine ⟨_, _, _, _, _, _, _, fun k => ((M.goods a b n).take k).foldl (mtStep a b) 0, rfl, rfl, rfl, rfl, rfl, rfl, rfl, ?_, ?_, ?_, rfl, mt_bd a b n, fun h => ?_⟩
  · rw [mtq_eq]
    cases h1 : trAsk a b n
    · rfl
    · simp [trRows]
  · split
    case isTrue h => simpa [trRows] using goods_len h
    case isFalse => simp
  · intro k r hr
    cases h : trAsk a b n
    · rw [h] at hr; simp at hr
    · rw [h, if_pos rfl] at hr
      unfold trRows at hr
      rw [List.getElem?_map] at hr
      obtain ⟨p, hp, rfl⟩ := Option.map_eq_some_iff.1 hr
      have hm := List.mem_of_getElem? hp
      obtain ⟨r1, r2, r3, r4⟩ := row_facts h hm
      refine ⟨p, M.trace a b p, rfl, by rw [r1, M.pick_t], r1, r2, r3, r4, ex_mem h hm, ?_, fun j r' hk hr' => ?_⟩
      · show ((M.goods a b n).take (k + 1)).foldl (mtStep a b) 0 = _
        rw [take_next hp, List.foldl_append]
        rfl
      · rw [if_pos rfl] at hr'
        unfold trRows at hr'
        rw [List.getElem?_map] at hr'
        obtain ⟨p', hp', rfl⟩ := Option.map_eq_some_iff.1 hr'
        subst hk
        exact ⟨p', M.trace a b p', rfl, goods_asc hp' hp⟩
  · have hc := mt_cross h
    have h' := h
    rw [mtq_eq, Bool.and_eq_true] at h'
    rw [h'.1, if_pos rfl]
    have hl : (trRows a b n).length = (M.goods a b n).length := by simp [trRows]
    rw [hl]
    refine ⟨?_, hc.2.1, hc.2.2⟩
    rw [hc.1]
    show _ = ((M.goods a b n).take (M.goods a b n).length).foldl (mtStep a b) 0 * _
    rw [List.take_length]
    rfl
theorem primes_vals (a b t n : Int) : ∃ (ok : Bool) (P : List Int), pwOk a b t n = ok ∧ pwL a b t n = P ∧ ∀ (k : Nat) (q : Int), P[k]? = some q → trOk a b q = true ∧ M.pick (trOk a b q) (M.trace a b q) = t ∧ q ≤ n :=
  ⟨_, _, rfl, rfl, fun k q hq => by
    obtain ⟨h1, h2, h3⟩ := pw_facts (List.mem_of_getElem? hq)
    exact ⟨h1, by rw [h1, M.pick_t, h2], h3⟩⟩
theorem same_vals (a b c d n : Int) : ∃ (nine sm el : Bool) (x : Int), hsOk a b c d n = nine ∧ (hsOk a b c d n && !fdB a b c d n) = sm ∧ fdOk a b c d n = el ∧ M.pick (fdOk a b c d n) (fdV a b c d n) = x ∧ el = (nine && !sm) ∧
    (el = true → trOk a b x = true ∧ trOk c d x = true ∧ (∃ t t' : Int, M.pick (trOk a b x) (M.trace a b x) = t ∧ M.pick (trOk c d x) (M.trace c d x) = t' ∧ t ≠ t') ∧ x ≤ n) ∧
    (nine = true → hsOk c d a b n = true ∧ (hsOk c d a b n && !fdB c d a b n) = sm) := by
  refine ⟨_, _, _, _, rfl, rfl, rfl, rfl, ?_, fun h => ?_, fun h => ?_⟩
  · unfold fdOk
    cases hsOk a b c d n <;> cases fdB a b c d n <;> rfl
  · obtain ⟨x, e, h1, h2, h3, h4⟩ := fd_facts h
    rw [e]
    exact ⟨h1, h2, ⟨_, _, rfl, rfl, by rw [h1, h2, M.pick_t, M.pick_t]; exact h3⟩, h4⟩
  · obtain ⟨h1, h2⟩ := hs_sym h
    exact ⟨h1, by rw [h1, h2, h]⟩
end Go.Proofs.YtodgfechhielaaaGreatDoor

