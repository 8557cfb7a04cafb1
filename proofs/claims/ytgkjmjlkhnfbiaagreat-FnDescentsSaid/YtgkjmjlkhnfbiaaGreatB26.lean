/-
  Joined texts: contracts and plain laws.
-/
import Derived.Test.YtgkjmjlkhnfbiaaGreatB5
namespace Go.Proofs.YtgkjmjlkhnfbiaaGreat
set_option linter.unusedSimpArgs false
set_option linter.unusedVariables false
open Go Go.RowKit
namespace Rg
variable {P : Program} {Q : Exit → Act → World → Prop} {md : Region.Mode}
/-- an operation that must come ahead of another one -/
def anc (md : Region.Mode) (ops : Array Oper) : Nat → Nat → Nat → Bool
  | 0, _, _ => false
  | f + 1, i, j => match ops[i]? with
    | some o => o.after.toList.any (fun e => Region.binds md e && e.on == j) || o.after.toList.any (fun e => Region.binds md e && anc md ops f e.on j)
    | none => false
def tailOk (md : Region.Mode) (ops : Array Oper) (n0 : Nat) : Bool := decide (n0 ≤ ops.size) && (List.range ops.size).all fun i => decide (i < n0) || ((match ops[i]? with | some o => o.guard.isNone | none => true) && (List.range i).all fun j => anc md ops 3 i j)
/-- the last operations, one after the other -/
def tailWp (P : Program) (Q : Exit → Act → World → Prop) : List Oper → Act → World → Prop
  | [], a, w => Q .normal a w
  | o :: os, a, w => o.wp P a w (fun a' w' => tailWp P Q os a' w') Q
theorem anc_done {ops : Array Oper} {L : Array Bool} (hdc : ∀ i o, ops[i]? = some o → L.getD i false = true → ∀ e ∈ o.after, Region.binds md e = true → L.getD e.on false = true) : ∀ (f i j : Nat) (o : Oper), ops[i]? = some o →
    (∀ e ∈ o.after, Region.binds md e = true → L.getD e.on false = true) → anc md ops f i j = true → L.getD j false = true
  | 0, _, _, _, _, _, h => by simp [anc] at h
  | f + 1, i, j, o, ho, hd, h => by
    unfold anc at h
    rw [ho] at h
    simp only [Bool.or_eq_true, List.any_eq_true, Bool.and_eq_true, beq_iff_eq] at h
    rcases h with ⟨e, he, hb, rfl⟩ | ⟨e, he, hb, ha⟩
    · exact hd e (Array.mem_toList_iff.1 he) hb
    · have hde := hd e (Array.mem_toList_iff.1 he) hb
      cases ho2 : ops[e.on]? with
      | none =>
        exfalso
        cases f with
        | zero => simp [anc] at ha
        | succ f => unfold anc at ha; rw [ho2] at ha; exact absurd ha (by simp)
      | some o2 => exact anc_done hdc f e.on j o2 ho2 (hdc e.on o2 ho2 hde) ha
theorem tailOk_at {ops : Array Oper} {n0 : Nat} (ht : tailOk md ops n0 = true) : n0 ≤ ops.size ∧ ∀ i, i < ops.size → n0 ≤ i → (∀ o, ops[i]? = some o → o.guard = none) ∧ ∀ j, j < i → anc md ops 3 i j = true := by
  rw [tailOk, Bool.and_eq_true] at ht
  refine ⟨of_decide_eq_true ht.1, fun i hi hn => ?_⟩
  have := List.all_eq_true.1 ht.2 i (List.mem_range.2 hi)
  simp only [Bool.or_eq_true, decide_eq_true_eq, Bool.and_eq_true, List.all_eq_true, List.mem_range] at this
  rcases this with q | ⟨q1, q2⟩
  · omega
  · refine ⟨fun o ho => ?_, q2⟩
    rw [ho] at q1
    exact Option.isNone_iff_eq_none.1 q1
theorem getD_ne {L : Array Bool} {i : Nat} (h : i < L.size) : L.getD i true = L.getD i false := by
  simp only [Array.getD_eq_getD_getElem?]
  rw [Array.getElem?_eq_getElem h]
  rfl
theorem tail_sound {ops : Array Oper} {n0 : Nat} (ht : tailOk md ops n0 = true) (hac : ∀ i o, ops[i]? = some o → ∀ e ∈ o.after, Region.binds md e = true → e.on < i) :
    ∀ (fuel : Nat) (L : Array Bool) (a : Act) (w : World) (k : Nat), n0 ≤ k → k ≤ ops.size → L.size = ops.size → (∀ j, j < ops.size → L.getD j false = decide (j < k)) →
    ops.size - k ≤ fuel → tailWp P Q (ops.toList.drop k) a w → wpAny P md ops Q fuel L a w := by
  obtain ⟨-, htl⟩ := tailOk_at ht
  have hrdy : ∀ (L : Array Bool) (k : Nat), n0 ≤ k → (∀ j, j < ops.size → L.getD j false = decide (j < k)) → L.size = ops.size → ∀ i, i ∈ Region.ready md ops L → i = k ∧ i < ops.size := by
    intro L k hk hL hsz i hi
    obtain ⟨hun, o, ho, haf⟩ := mem_ready.1 hi
    have hilt : i < ops.size := (Array.getElem?_eq_some_iff.1 ho).1
    rw [getD_ne (by omega), hL i hilt, decide_eq_false_iff_not] at hun
    refine ⟨?_, hilt⟩
    rcases Nat.lt_or_ge k i with q | q
    · exfalso
      have hdc : ∀ i o, ops[i]? = some o → L.getD i false = true → ∀ e ∈ o.after, Region.binds md e = true → L.getD e.on false = true := by
        intro i' o' ho' hl' e he hb
        have hi' : i' < ops.size := (Array.getElem?_eq_some_iff.1 ho').1
        rw [hL i' hi', decide_eq_true_eq] at hl'
        have := hac i' o' ho' e he hb
        rw [hL e.on (by omega), decide_eq_true_eq]
        omega
      have := anc_done hdc 3 i k o ho haf ((htl i hilt (by omega)).2 k q)
      rw [hL k (by omega), decide_eq_true_eq] at this
      omega
    · omega
  have hend : ∀ (L : Array Bool) (a : Act) (w : World) (k : Nat), n0 ≤ k → k ≤ ops.size → L.size = ops.size → (∀ j, j < ops.size → L.getD j false = decide (j < k)) → tailWp P Q (ops.toList.drop k) a w → Region.ready md ops L = [] → Q .normal a w := by
    intro L a w k hk hk2 hsz hL h hr
    have hks : k = ops.size := by
      rcases Nat.lt_or_ge k ops.size with q | q
      · exfalso
        have hm : k ∈ Region.ready md ops L := by
          refine mem_ready.2 ⟨?_, _, Array.getElem?_eq_getElem q, fun e he hb => ?_⟩
          · rw [getD_ne (by omega), hL k q]
            simp
          · have := hac k _ (Array.getElem?_eq_getElem q) e he hb
            rw [hL e.on (by omega), decide_eq_true_eq]
            exact this
        rw [hr] at hm
        cases hm
      · omega
    subst hks
    rw [List.drop_eq_nil_of_le (by simp)] at h
    exact h
  intro fuel
  induction fuel with
  | zero =>
    intro L a w k hk hk2 hsz hL hf h
    have hr : Region.ready md ops L = [] := by
      rw [List.eq_nil_iff_forall_not_mem]
      intro i hi
      have := hrdy L k hk hL hsz i hi
      omega
    exact ⟨hr, hend L a w k hk hk2 hsz hL h hr⟩
  | succ fuel ih =>
    intro L a w k hk hk2 hsz hL hf h
    refine ⟨hend L a w k hk hk2 hsz hL h, fun i hi => ?_⟩
    obtain ⟨rfl, hilt⟩ := hrdy L k hk hL hsz i hi
    have ho : ops[i]? = some ops[i] := Array.getElem?_eq_getElem hilt
    have hdr : ops.toList.drop i = ops[i] :: ops.toList.drop (i + 1) := by
      rw [List.drop_eq_getElem_cons (by simpa using hilt)]
      simp
    rw [hdr] at h
    unfold wpOp
    rw [ho]
    dsimp only
    have hg := (htl i hilt hk).1 _ ho
    have hw : Region.wanted ops[i] (yielded ops a.tmps) = true := by
      unfold Region.wanted
      rw [hg]
    rw [if_pos hw]
    refine Or.inl (Oper.wp_mono ?_ h)
    intro a' w' h'
    refine ih _ a' w' (i + 1) (by omega) (by omega) (by simpa using hsz) (fun j hj => ?_) (by omega) h'
    simp only [Array.getD_eq_getD_getElem?]
    by_cases hji : j = i
    · subst hji
      rw [Array.getElem?_setIfInBounds_self_of_lt (by omega)]
      simp
    · rw [Array.getElem?_setIfInBounds_ne (fun e => hji e.symm)]
      have := hL j hj
      simp only [Array.getD_eq_getD_getElem?] at this
      rw [this, decide_eq_decide]
      omega
theorem left_lt {l : Nat → Bool} {k : Nat} : ∀ n : Nat, (∀ j, j < n → l j = decide (j < k)) → left l n = n - min k n
  | 0, _ => by simp [left]
  | n + 1, h => by
    unfold left
    rw [left_lt n (fun j hj => h j (by omega)), h n (by omega)]
    by_cases q : n < k
    · rw [decide_eq_true q, if_pos rfl]
      omega
    · rw [decide_eq_false q, if_neg (by decide)]
      omega
theorem fill_take {l : Nat → Bool} {v : Nat → Value} : ∀ (os : List Oper) (k m : Nat) (a : Act), (∀ j, k ≤ j → j < k + os.length → l j = decide (j < k + m)) → fill l v os k a = fill (fun _ => true) v (os.take m) k a
  | [], k, m, a, _ => by rw [List.take_nil]; rfl
  | o :: os, k, 0, a, h => by
    rw [List.take_zero]
    unfold fill
    rw [h k (Nat.le_refl _) (by simp), decide_eq_false (by omega), if_neg (by decide), fill_take os (k + 1) 0 a (fun j h1 h2 => by
      rw [h j (by omega) (by simp; omega), decide_eq_decide]
      omega), List.take_zero]
    rfl
  | o :: os, k, m + 1, a, h => by
    rw [List.take_succ_cons]
    unfold fill
    rw [h k (Nat.le_refl _) (by simp), decide_eq_true (by omega), if_pos rfl]
    exact fill_take os (k + 1) m _ fun j h1 h2 => by
      rw [h j (by omega) (by simp; omega), decide_eq_decide]
      omega
section
variable (P) (Q) (md) (ops : Array Oper) (S : World → Prop) (V : Nat → Value → World → Prop) (a0 : Act) (fr : Nat → Bool)
/-- what is owed for an operation; a new variable is none of those that lie -/
def Step3 (i : Nat) (o : Oper) (a : Act) (w : World) : Prop :=
  if Region.wanted o (yielded ops a.tmps) = true then o.wp P a w (fun a' w' => ∃ v, a' = a.put o.dst v ∧ V i v w' ∧ S w' ∧ (∀ j u, V j u w → V j u w') ∧ (fr i = true → ∀ j u, fr j = true → V j u w → u ≠ v)) Q else V i undef w ∧ fr i = false
def Req3 (i : Nat) (o : Oper) : Prop := ∀ (a : Act) (w : World) (vals : Nat → Value), S w → (∀ e ∈ o.after, Region.binds md e = true → V e.on (vals e.on) w) → (∀ t ∈ o.looksAt ops, a.tmps[t]? = rd md ops a0 vals o t) → Step3 P Q ops S V fr i o a w
def Reqs3 : List Oper → Nat → Prop
  | [], _ => True
  | o :: os, k => Req3 P Q md ops S V a0 fr k o ∧ Reqs3 os (k + 1)
theorem Reqs3.at {os : List Oper} {k : Nat} (h : Reqs3 P Q md ops S V a0 fr os k) : ∀ {i : Nat} {o : Oper}, os[i]? = some o → Req3 P Q md ops S V a0 fr (k + i) o := by
  induction os generalizing k with
  | nil => intro i o hi; simp at hi
  | cons x os ih =>
    intro i o hi
    cases i with
    | zero =>
      simp only [List.getElem?_cons_zero, Option.some.injEq] at hi
      subst hi
      exact h.1
    | succ i =>
      have := ih h.2 (i := i) (o := o) (by simpa using hi)
      rw [show k + (i + 1) = k + 1 + i from by omega]
      exact this
/-- what holds between two operations -/
def Inv3 (L : Array Bool) (a : Act) (w : World) : Prop :=
  L.size = ops.size ∧ S w ∧ (∀ i o, ops[i]? = some o → L.getD i false = true → ∀ e ∈ o.after, Region.binds md e = true → L.getD e.on false = true) ∧
  ∃ vals : Nat → Value, a = fill (fun j => L.getD j false) vals ops.toList 0 a0 ∧ (∀ i, i < ops.size → L.getD i false = true → V i (vals i) w) ∧
    ∀ i j, i < ops.size → j < ops.size → L.getD i false = true → L.getD j false = true → i ≠ j → fr i = true → fr j = true → vals i ≠ vals j
end
theorem wpAny_ofT {ops : Array Oper} {S : World → Prop} {V : Nat → Value → World → Prop} {a0 : Act} {n0 : Nat} {fr : Nat → Bool} (hok : okOps md ops a0.tmps.size = true) (ht : tailOk md ops n0 = true)
    (hR : Reqs3 P Q md ops S V a0 fr (ops.toList.take n0) 0) (hF : ∀ (vals : Nat → Value) (w : World), S w → (∀ i, i < n0 → V i (vals i) w) → (∀ i j, i < n0 → j < n0 → i ≠ j → fr i = true → fr j = true → vals i ≠ vals j) → tailWp P Q (ops.toList.drop n0) (fill (fun _ => true) vals (ops.toList.take n0) 0 a0) w) :
    ∀ (fuel : Nat) (L : Array Bool) (a : Act) (w : World), left (fun j => L.getD j false) ops.size ≤ fuel → (∀ i, i < ops.size → L.getD i false = true → i < n0) → Inv3 md ops S V a0 fr L a w → wpAny P md ops Q fuel L a w := by
  obtain ⟨hn0, hta⟩ := tailOk_at ht
  rw [okOps, Bool.and_eq_true, Bool.and_eq_true] at hok
  obtain ⟨⟨hap, hrd⟩, hac⟩ := hok
  have hac' : ∀ i o, ops[i]? = some o → (∀ e ∈ o.after, Region.binds md e = true → e.on < i) ∧ ∀ d, o.dst = some d → d < a0.tmps.size := fun i o hi => by
    have hlt : i < ops.size := (Array.getElem?_eq_some_iff.1 hi).1
    have := List.all_eq_true.1 hac i (List.mem_range.2 hlt)
    rw [hi] at this
    simp only [Bool.and_eq_true, List.all_eq_true, Bool.or_eq_true, Bool.not_eq_true', decide_eq_true_eq] at this
    refine ⟨fun e he hb => ?_, fun d hd => ?_⟩
    · rcases this.1 e (Array.mem_toList_iff.2 he) with q | q
      · rw [hb] at q; cases q
      · exact q
    · have := this.2
      rw [hd] at this
      simpa using this
  have htl : ∀ i, ops.toList[i]? = ops[i]? := fun i => Array.getElem?_toList
  -- where nothing is ready all have come up
  have hall : ∀ L : Array Bool, L.size = ops.size → Region.ready md ops L = [] → ∀ i, i < ops.size → L.getD i false = true := by
    intro L hL hr i
    induction i using Nat.strongRecOn with
    | ind i ih =>
      intro hi
      cases hl : L.getD i false
      · exfalso
        have hm : i ∈ Region.ready md ops L := by
          unfold Region.ready
          rw [List.mem_filter]
          refine ⟨List.mem_range.2 hi, ?_⟩
          have hg : L.getD i true = false := by
            rw [Array.getD_eq_getD_getElem?, Array.getElem?_eq_getElem (by omega)] at hl ⊢
            exact hl
          rw [hg, Array.getElem?_eq_getElem hi]
          simp only [Bool.not_false, Bool.true_and, Option.map_some, Option.getD_some]
          rw [Array.all_eq_true_iff_forall_mem]
          intro e he
          cases hb : Region.binds md e
          · rfl
          · have hlt := (hac' i _ (Array.getElem?_eq_getElem hi)).1 e he hb
            simp [ih e.on hlt (by omega)]
        rw [hr] at hm
        cases hm
      · rfl
  have hdone : ∀ (fuel : Nat) (L : Array Bool) (a : Act) (w : World), left (fun j => L.getD j false) ops.size ≤ fuel → (∀ i, i < ops.size → L.getD i false = true → i < n0) → Inv3 md ops S V a0 fr L a w → (∀ j, j < n0 → L.getD j false = true) → wpAny P md ops Q fuel L a w := by
    rintro fuel L a w hl hb ⟨hL, hS, hdc, vals, rfl, hv, hfr⟩ hj
    have hLj : ∀ j, j < ops.size → L.getD j false = decide (j < n0) := fun j hjs => by
      by_cases q : j < n0
      · rw [hj j q, decide_eq_true q]
      · rw [decide_eq_false q]
        cases hc : L.getD j false
        · rfl
        · exact absurd (hb j hjs hc) q
    rw [left_lt (k := n0) ops.size hLj] at hl
    refine tail_sound ht (fun i o hi => (hac' i o hi).1) fuel L _ w n0 (Nat.le_refl _) hn0 hL hLj (by omega) ?_
    rw [fill_take (l := fun j => L.getD j false) (m := n0) ops.toList 0 a0 (fun j _ h2 => by rw [Nat.zero_add]; exact hLj j (by simpa using h2))]
    exact hF vals w hS (fun i hi => hv i (by omega) (hj i hi)) fun i j hi hj' hne => hfr i j (by omega) (by omega) (hj i hi) (hj j hj') hne
  intro fuel
  induction fuel with
  | zero =>
    intro L a w hl hb hI
    have hz := left_zero _ (Nat.le_zero.1 hl)
    exact hdone 0 L a w hl hb hI (fun j hj => hz j (by omega))
  | succ fuel ih =>
    intro L a w hl hb hI
    by_cases hj : ∀ j, j < n0 → L.getD j false = true
    · exact hdone _ L a w hl hb hI hj
    refine ⟨fun hr => absurd (fun j hjn => hall L hI.1 hr j (by omega)) hj, fun i hi => ?_⟩
    obtain ⟨hL, hS, hdc, vals, rfl, hv, hfr⟩ := hI
    obtain ⟨hun, o, ho, haf⟩ := mem_ready.1 hi
    have hilt : i < ops.size := (Array.getElem?_eq_some_iff.1 ho).1
    have hin : i < n0 := by
      rcases Nat.lt_or_ge i n0 with q | q
      · exact q
      · exact absurd (fun j hjn => anc_done hdc 3 i j o ho haf ((hta i hilt q).2 j (by omega))) hj
    have hun' : L.getD i false = false := by
      simp only [Array.getD_eq_getD_getElem?] at hun ⊢
      rw [Array.getElem?_eq_getElem (by omega)] at hun ⊢
      exact hun
    have hq := Reqs3.at P Q md ops S V a0 fr hR (i := i) (o := o) (by rw [List.getElem?_take_of_lt hin, htl]; exact ho)
    rw [Nat.zero_add] at hq
    have hst := hq (fill (fun j => L.getD j false) vals ops.toList 0 a0) w vals hS
      (fun e he hb => hv e.on (by have := (hac' i o ho).1 e he hb; omega) (haf e he hb))
      (fun t ht => by
        unfold rd
        have hr1 : reads1 md ops i o t = true := by
          have := List.all_eq_true.1 hrd i (List.mem_range.2 hilt)
          rw [ho] at this
          exact List.all_eq_true.1 this t ht
        cases hf : o.after.toList.find? (fun e => Region.binds md e && ((ops[e.on]?).bind (·.dst)) == some t) with
        | some e =>
          have h1 := List.find?_some hf
          have h2 := List.mem_of_find?_eq_some hf
          rw [Bool.and_eq_true, beq_iff_eq] at h1
          obtain ⟨x, hx, hxd⟩ := Option.bind_eq_some_iff.1 h1.2
          have h3 := haf e (Array.mem_toList_iff.1 h2) h1.1
          have := fill_at (l := fun j => L.getD j false) (v := vals) ops.toList 0 e.on x a0 hap (by rw [htl]; exact hx) (by simpa using h3) hxd ((hac' e.on x hx).2 t hxd)
          rw [Nat.zero_add] at this
          exact this
        | none =>
          refine fill_other ops.toList 0 a0 fun j x hx hlj hxd => ?_
          rw [Nat.zero_add] at hlj
          rw [htl] at hx
          have hjlt : j < ops.size := (Array.getElem?_eq_some_iff.1 hx).1
          rw [reads1, Bool.or_eq_true] at hr1
          rcases hr1 with q | q
          · obtain ⟨e, he, hp⟩ := List.any_eq_true.1 q
            have := List.find?_eq_none.1 hf e he
            exact this hp
          · have := List.all_eq_true.1 q j (List.mem_range.2 hjlt)
            rw [hx] at this
            simp only [Bool.or_eq_true, bne_iff_ne, ne_eq, beq_iff_eq, List.any_eq_true, Bool.and_eq_true] at this
            rcases this with (q1 | q1) | ⟨e, he, hb, hon⟩
            · exact q1 hxd
            · subst q1
              rw [hun'] at hlj
              cases hlj
            · have := hdc j x hx hlj e (Array.mem_toList_iff.1 he) hb
              rw [hon, hun'] at this
              cases this)
    have hnext : ∀ (v : Value) (w' : World), V i v w' → S w' → (∀ j u, V j u w → V j u w') → (fr i = true → ∀ j u, fr j = true → V j u w → u ≠ v) → wpAny P md ops Q fuel (L.setIfInBounds i true) ((fill (fun j => L.getD j false) vals ops.toList 0 a0).put o.dst v) w' := by
      intro v w' h1 h2 h3 h4
      have e1 : ∀ j, (L.setIfInBounds i true).getD j false = if j = i then true else L.getD j false := fun j => by
        simp only [Array.getD_eq_getD_getElem?]
        by_cases hji : j = i
        · subst hji
          rw [Array.getElem?_setIfInBounds_self_of_lt (by omega)]
          simp
        · rw [Array.getElem?_setIfInBounds_ne (fun e => hji e.symm), if_neg hji]
      refine ih _ _ _ ?_ (fun j hjs hlj => by rw [e1] at hlj; split at hlj <;> first | omega | exact hb j hjs hlj) ⟨by simpa using hL, h2, ?_, fun j => if j = i then v else vals j, ?_, ?_, ?_⟩
      · have := left_set (l := fun j => L.getD j false) (l' := fun j => (L.setIfInBounds i true).getD j false) hun' (by rw [e1, if_pos rfl]) (fun j hj => by rw [e1, if_neg hj]) ops.size hilt
        omega
      · intro j x hx hlj e he hb
        rw [e1] at hlj ⊢
        split
        · rfl
        · split at hlj
          · rename_i hji
            subst hji
            rw [ho] at hx
            cases hx
            exact haf e he hb
          · exact hdc j x hx hlj e he hb
      · rw [fill_add ops.toList 0 i o a0 hap (by rw [htl]; exact ho) (by simpa using hun')]
        rw [Nat.zero_add]
        exact fill_congr _ _ _ (fun j _ _ => (e1 j).symm) (fun _ _ _ => rfl)
      · intro j hj hlj
        rw [e1] at hlj
        show V j (if j = i then v else vals j) w'
        split
        · rename_i hji
          rw [hji]
          exact h1
        · rename_i hji
          rw [if_neg hji] at hlj
          exact h3 _ _ (hv j hj hlj)
      · intro j k hj hk hlj hlk hne fj fk
        rw [e1] at hlj hlk
        show (if j = i then v else vals j) ≠ (if k = i then v else vals k)
        split at hlj
        · rename_i hji
          subst hji
          rw [if_pos rfl, if_neg (fun e => hne e.symm)]
          rw [if_neg (fun e => hne e.symm)] at hlk
          exact fun e => h4 fj k (vals k) fk (hv k hk hlk) e.symm
        · rename_i hji
          rw [if_neg hji]
          split at hlk
          · rename_i hki
            rw [if_pos hki]
            subst hki
            exact h4 fk j (vals j) fj (hv j hj hlj)
          · rename_i hki
            rw [if_neg hki]
            exact hfr j k hj hk hlj hlk hne fj fk
    unfold wpOp
    rw [ho]
    unfold Step3 at hst
    dsimp only
    split at hst
    · rename_i hw
      rw [if_pos hw]
      refine Or.inl (Oper.wp_mono ?_ hst)
      rintro a' w' ⟨v, rfl, h1, h2, h3, h4⟩
      exact hnext v w' h1 h2 h3 h4
    · rename_i hw
      rw [if_neg hw]
      exact hnext undef w hst.1 hS (fun _ _ h => h) fun e => by rw [hst.2] at e; cases e
/-- **THE BEGINNING** -/
theorem regionT {id : Nat} {ops : Array Oper} {a0 : Act} {w : World} {n0 : Nat} (fr : Nat → Bool) (S : World → Prop) (V : Nat → Value → World → Prop) (hm : P.follows .mixedOrders = true) (hok : okOps .any ops a0.tmps.size = true) (ht : tailOk .any ops n0 = true)
    (hS : S { w with drawn := w.drawn + 1 }) (hR : Reqs3 P Q .any ops S V a0 fr (ops.toList.take n0) 0)
    (hF : ∀ (vals : Nat → Value) (w : World), S w → (∀ i, i < n0 → V i (vals i) w) → (∀ i j, i < n0 → j < n0 → i ≠ j → fr i = true → fr j = true → vals i ≠ vals j) → tailWp P Q (ops.toList.drop n0) (fill (fun _ => true) vals (ops.toList.take n0) 0 a0) w) : (Code.region id ops true).wp P Q a0 w := by
  have rep : ∀ j, (Array.replicate ops.size false).getD j false = false := fun j => by
    rw [Array.getD_eq_getD_getElem?, Array.getElem?_replicate]
    split <;> rfl
  refine wp_region_any hm (wpAny_ofT hok ht hR hF _ _ _ _ ?_ (fun i _ hl => by rw [rep] at hl; cases hl) ⟨by simp, hS, ?_, fun _ => undef, ?_, ?_, ?_⟩)
  · have : ∀ (l : Nat → Bool) n, left l n ≤ n := fun l n => by
      induction n with
      | zero => exact Nat.le_refl _
      | succ n ih => unfold left; split <;> omega
    exact this _ _
  · intro i o hi hl
    rw [rep] at hl
    cases hl
  · have : ∀ (v : Nat → Value) (os : List Oper) (k : Nat) (a : Act), fill (fun _ => false) v os k a = a := fun v os => by
      induction os with
      | nil => intro k a; rfl
      | cons x os ih => intro k a; unfold fill; simp [ih]
    refine (this _ ops.toList 0 a0).symm.trans (fill_congr _ _ _ (fun j _ hj => (rep j).symm) (fun _ _ _ => rfl))
  · intro i hi hl
    rw [rep] at hl
    cases hl
  · intro i j _ _ hl
    rw [rep] at hl
    cases hl
/-- what is owed for an operation of the table -/
def Owed3 (P : Program) (ops : Array Oper) (Q : Exit → Act → World → Prop) (a0 : Act) (T : List Val) (w1 : World) (i : Nat) (o : Oper) : Prop :=
  match tbl T i with
  | .new B Ty xs => ∀ (a : Act) (w : World), Below w1.heap.size w1 w → (∀ t ∈ o.looksAt ops, Look ops a0 T o a w t) → B ≤ w.heap.size ∧ Region.wanted o (yielded ops a.tmps) = true ∧ (execOp a.eval o).run P w = .ok (.value (.pointer (some ⟨w.heap.size, 0, none⟩))) (w.alloc (.cells xs Ty))
  | V => ∀ (a : Act) (w : World), Below w1.heap.size w1 w → (∀ t ∈ o.looksAt ops, Look ops a0 T o a w t) → Does P ops Q V o a w
def Val.isNew : Val → Bool
  | .new _ _ _ => true
  | _ => false
def OwedTo (P : Program) (ops : Array Oper) (Q : Exit → Act → World → Prop) (a0 : Act) (T : List Val) (w1 : World) (n0 : Nat) : List Oper → Nat → Prop
  | [], _ => True
  | o :: os, k => (k < n0 → Owed3 P ops Q a0 T w1 k o) ∧ OwedTo P ops Q a0 T w1 n0 os (k + 1)
theorem req3_of {ops : Array Oper} {a0 : Act} {T : List Val} {w1 : World} {k : Nat} {o : Oper} (h : Owed3 P ops Q a0 T w1 k o) : Req3 P Q .any ops (fun w => Below w1.heap.size w1 w) (fun i v w => (tbl T i).ok v w) a0 (fun i => (tbl T i).isNew) k o := by
  intro a w vals hS hv hr
  have hl : ∀ t ∈ o.looksAt ops, Look ops a0 T o a w t := fun t ht => by
    have := hr t ht
    unfold rd at this
    unfold Look
    split
    · rename_i e he
      rw [he] at this
      have h2 := List.find?_some he
      rw [Bool.and_eq_true] at h2
      exact ⟨_, this, hv e (Array.mem_toList_iff.1 (List.mem_of_find?_eq_some he)) h2.1⟩
    · rename_i he
      rw [he] at this
      exact this
  unfold Step3
  dsimp only
  by_cases hn : (tbl T k).isNew = true
  · cases hT : tbl T k with
    | new B Ty xs =>
      unfold Owed3 at h
      rw [hT] at h
      obtain ⟨h0, h1, h2⟩ := h a w hS hl
      rw [if_pos h1]
      unfold Oper.wp
      rw [h2]
      refine ⟨_, rfl, ⟨w.heap.size, h0, rfl, ?_⟩, hS.trans (((Below.refl _ _).alloc (Nat.le_refl _) _).mono hS.size), fun j u hu => Val.keep ((Below.refl _ _).alloc (Nat.le_refl _) _) _ _ hu, fun _ j u hj hu => ?_⟩
      · show (w.heap.push _)[w.heap.size]? = _
        simp
      · cases hTj : tbl T j with
        | new B' Ty' xs' =>
          rw [hTj] at hu
          obtain ⟨g, -, rfl, hg⟩ := hu
          intro e
          have hlt := (Array.getElem?_eq_some_iff.1 hg).1
          injection e with e
          injection e with e
          injection e with e
          omega
        | _ => rw [hTj] at hj; cases hj
    | _ => rw [hT] at hn; cases hn
  · have h1 : Does P ops Q (tbl T k) o a w := by
      unfold Owed3 at h
      split at h
      · rename_i hT
        rw [hT] at hn
        exact absurd rfl hn
      · exact h a w hS hl
    unfold Does at h1
    split
    · rename_i hw
      rw [if_pos hw] at h1
      refine Oper.wp_mono ?_ h1
      rintro a' w' ⟨v, e1, e2, e3⟩
      exact ⟨v, e1, e2, hS.trans (e3.mono hS.size), fun j u hu => Val.keep e3 _ _ hu, fun e => absurd e hn⟩
    · rename_i hw
      rw [if_neg hw] at h1
      exact ⟨h1, by simpa using hn⟩
theorem owed_take {ops : Array Oper} {a0 : Act} {T : List Val} {w1 : World} {n0 : Nat} : ∀ (os : List Oper) (k m : Nat), k + m = n0 → OwedTo P ops Q a0 T w1 n0 os k → Reqs3 P Q .any ops (fun w => Below w1.heap.size w1 w) (fun i v w => (tbl T i).ok v w) a0 (fun i => (tbl T i).isNew) (os.take m) k
  | [], _, m, _, _ => by rw [List.take_nil]; trivial
  | o :: os, k, 0, _, _ => by rw [List.take_zero]; trivial
  | o :: os, k, m + 1, h, hr => by rw [List.take_succ_cons]; exact ⟨req3_of (hr.1 (by omega)), owed_take os (k + 1) m (by omega) hr.2⟩
/-- **THE RULE** -/
theorem walkT {id : Nat} {ops : Array Oper} {a0 : Act} {w : World} (n0 : Nat) (T : List Val) (hm : P.follows .mixedOrders = true) (hok : okOps .any ops a0.tmps.size = true) (ht : tailOk .any ops n0 = true)
    (hR : OwedTo P ops Q a0 T w n0 ops.toList 0)
    (hF : ∀ (vals : Nat → Value) (w' : World), Below w.heap.size w w' → (∀ i, i < n0 → (tbl T i).ok (vals i) w') → (∀ i j, i < n0 → j < n0 → i ≠ j → (tbl T i).isNew = true → (tbl T j).isNew = true → vals i ≠ vals j) → tailWp P Q (ops.toList.drop n0) (fill (fun _ => true) vals (ops.toList.take n0) 0 a0) w') : (Code.region id ops true).wp P Q a0 w :=
  regionT (fun i => (tbl T i).isNew) (fun w' => Below w.heap.size w w') (fun i v w' => (tbl T i).ok v w') hm hok ht ((Below.refl _ w).drew) (owed_take _ 0 n0 (Nat.zero_add _) hR) hF
/-- a fact of a value that later worlds keep -/
theorem atOf {p : Value → World → Prop} {v : Value} {w : World} (h : ∀ w', Below w.heap.size w w' → p v w') : (Val.at p).ok v w := h
theorem atNow {p : Value → World → Prop} {v : Value} {w : World} (h : (Val.at p).ok v w) : p v w := h w (Below.refl _ _)
end Rg
end Go.Proofs.YtgkjmjlkhnfbiaaGreat

namespace Go.Proofs.YtgkjmjlkhnfbiaaGreat
set_option linter.unusedSimpArgs false
set_option linter.unusedVariables false
open Go Go.RowKit
namespace Rg
variable {P : Program} {Q : Exit → Act → World → Prop}
def Val.pure : Val → Bool
  | .is _ => true
  | .num _ => true
  | .such _ => true
  | _ => false
theorem Val.pure_keep {V : Val} (h : V.pure = true) {u : Value} {w w' : World} (hu : V.ok u w) : V.ok u w' := by
  cases V with
  | is _ => exact hu
  | num _ => exact hu
  | such _ => exact hu
  | _ => cases h
/-- what is owed for an operation; k0: the store -/
def OwedJ (P : Program) (ops : Array Oper) (Q : Exit → Act → World → Prop) (a0 : Act) (T : List Val) (J : World → Prop) (k0 : Nat) : List Oper → Nat → Prop
  | [], _ => True
  | o :: os, k => (∀ (a : Act) (w : World), J w → (∀ t ∈ o.looksAt ops, Look ops a0 T o a w t) →
      if k = k0 then Region.wanted o (yielded ops a.tmps) = true ∧ o.wp P a w (fun a' w' => (∃ v, a' = a.put o.dst v) ∧ J w' ∧ ∀ v, (tbl T k).ok v w') Q else Does P ops Q (tbl T k) o a w) ∧ OwedJ P ops Q a0 T J k0 os (k + 1)
theorem reqs_J {ops : Array Oper} {a0 : Act} {T : List Val} {J : World → Prop} {k0 : Nat} (hJ : ∀ w w', J w → Below w.heap.size w w' → J w') (hp : ∀ j, j ≠ k0 → (tbl T j).pure = true) : ∀ (os : List Oper) (k : Nat), OwedJ P ops Q a0 T J k0 os k → Reqs P Q .any ops J (fun i v w => (tbl T i).ok v w) a0 os k
  | [], _, _ => trivial
  | o :: os, k, h => by
    refine ⟨fun a w vals hS hv hr => ?_, reqs_J hJ hp os (k + 1) h.2⟩
    have h1 := h.1 a w hS (fun t ht => by
      have := hr t ht
      unfold rd at this
      unfold Look
      split
      · rename_i e he
        rw [he] at this
        have h2 := List.find?_some he
        rw [Bool.and_eq_true] at h2
        exact ⟨_, this, hv e (Array.mem_toList_iff.1 (List.mem_of_find?_eq_some he)) h2.1⟩
      · rename_i he
        rw [he] at this
        exact this)
    unfold Step
    split at h1
    · rename_i hk
      rw [if_pos h1.1]
      refine Oper.wp_mono ?_ h1.2
      rintro a' w' ⟨⟨v, e⟩, h2, h3⟩
      refine ⟨v, e, h3 v, h2, fun j u hu => ?_⟩
      by_cases hj : j = k0
      · subst hj
        subst hk
        exact h3 u
      · exact Val.pure_keep (hp j hj) hu
    · unfold Does at h1
      split
      · rename_i hw
        rw [if_pos hw] at h1
        refine Oper.wp_mono ?_ h1
        rintro a' w' ⟨v, e1, e2, e3⟩
        exact ⟨v, e1, e2, hJ _ _ hS e3, fun j u hu => Val.keep e3 _ _ hu⟩
      · rename_i hw
        rw [if_neg hw] at h1
        exact h1
/-- **THE RULE** -/
theorem walkJ {id : Nat} {ops : Array Oper} {a0 : Act} {w : World} (k0 : Nat) (T : List Val) (J : World → Prop) (hm : P.follows .mixedOrders = true) (hok : okOps .any ops a0.tmps.size = true)
    (hJ : ∀ w w', J w → Below w.heap.size w w' → J w') (hp : ∀ j, j ≠ k0 → (tbl T j).pure = true) (h0 : J w)
    (hR : OwedJ P ops Q a0 T J k0 ops.toList 0)
    (hF : ∀ (vals : Nat → Value) (w' : World), J w' → (∀ i, i < ops.size → (tbl T i).ok (vals i) w') → Q .normal (fill (fun _ => true) vals ops.toList 0 a0) w') : (Code.region id ops true).wp P Q a0 w :=
  region J (fun i v w' => (tbl T i).ok v w') hm hok (hJ _ _ h0 ((Below.refl _ w).drew)) (reqs_J hJ hp _ _ hR) hF
end Rg
end Go.Proofs.YtgkjmjlkhnfbiaaGreat

namespace Go.Proofs.YtgkjmjlkhnfbiaaGreat
set_option linter.unusedSimpArgs false
set_option linter.unusedVariables false
open Go Go.RowKit
namespace Rg
variable {P : Program} {Q : Exit → Act → World → Prop}
def upd (l : Nat → Bool) (i : Nat) : Nat → Bool := fun j => if j = i then true else l j
def updv (v : Nat → Value) (i : Nat) (u : Value) : Nat → Value := fun j => if j = i then u else v j
/-- what has come up has what it waits for -/
def Closed (md : Region.Mode) (ops : Array Oper) (l : Nat → Bool) : Prop := ∀ i o, ops[i]? = some o → l i = true → ∀ e ∈ o.after, Region.binds md e = true → l e.on = true
section
variable (P) (Q) (md : Region.Mode) (ops : Array Oper) (I : (Nat → Bool) → (Nat → Value) → World → Prop) (a0 : Act)
def StepI (i : Nat) (o : Oper) (a : Act) (w : World) (l : Nat → Bool) (vals : Nat → Value) : Prop :=
  if Region.wanted o (yielded ops a.tmps) = true then o.wp P a w (fun a' w' => ∃ v, a' = a.put o.dst v ∧ I (upd l i) (updv vals i v) w') Q else I (upd l i) (updv vals i undef) w
def ReqI (i : Nat) (o : Oper) : Prop := ∀ (a : Act) (w : World) (l : Nat → Bool) (vals : Nat → Value), I l vals w → l i = false → Closed md ops l → (∀ e ∈ o.after, Region.binds md e = true → l e.on = true) → (∀ t ∈ o.looksAt ops, a.tmps[t]? = rd md ops a0 vals o t) → StepI P Q ops I i o a w l vals
def ReqsI : List Oper → Nat → Prop
  | [], _ => True
  | o :: os, k => ReqI P Q md ops I a0 k o ∧ ReqsI os (k + 1)
theorem ReqsI.at {os : List Oper} {k : Nat} (h : ReqsI P Q md ops I a0 os k) : ∀ {i : Nat} {o : Oper}, os[i]? = some o → ReqI P Q md ops I a0 (k + i) o := by
  induction os generalizing k with
  | nil => intro i o hi; simp at hi
  | cons x os ih =>
    intro i o hi
    cases i with
    | zero =>
      simp only [List.getElem?_cons_zero, Option.some.injEq] at hi
      subst hi
      exact h.1
    | succ i =>
      have := ih h.2 (i := i) (o := o) (by simpa using hi)
      rw [show k + (i + 1) = k + 1 + i from by omega]
      exact this
def InvI (L : Array Bool) (a : Act) (w : World) : Prop :=
  L.size = ops.size ∧ Closed md ops (fun j => L.getD j false) ∧
  ∃ vals : Nat → Value, I (fun j => L.getD j false) vals w ∧ a = fill (fun j => L.getD j false) vals ops.toList 0 a0
end
theorem wpAny_I {md : Region.Mode} {ops : Array Oper} {I : (Nat → Bool) → (Nat → Value) → World → Prop} {a0 : Act} (hok : okOps md ops a0.tmps.size = true)
    (hR : ReqsI P Q md ops I a0 ops.toList 0) (hF : ∀ (l : Nat → Bool) (vals : Nat → Value) (w : World), (∀ i, i < ops.size → l i = true) → I l vals w → Q .normal (fill (fun _ => true) vals ops.toList 0 a0) w) :
    ∀ (fuel : Nat) (L : Array Bool) (a : Act) (w : World), left (fun j => L.getD j false) ops.size ≤ fuel → InvI md ops I a0 L a w → wpAny P md ops Q fuel L a w := by
  rw [okOps, Bool.and_eq_true, Bool.and_eq_true] at hok
  obtain ⟨⟨hap, hrd⟩, hac⟩ := hok
  have hac' : ∀ i o, ops[i]? = some o → (∀ e ∈ o.after, Region.binds md e = true → e.on < i) ∧ ∀ d, o.dst = some d → d < a0.tmps.size := fun i o hi => by
    have hlt : i < ops.size := (Array.getElem?_eq_some_iff.1 hi).1
    have := List.all_eq_true.1 hac i (List.mem_range.2 hlt)
    rw [hi] at this
    simp only [Bool.and_eq_true, List.all_eq_true, Bool.or_eq_true, Bool.not_eq_true', decide_eq_true_eq] at this
    refine ⟨fun e he hb => ?_, fun d hd => ?_⟩
    · rcases this.1 e (Array.mem_toList_iff.2 he) with q | q
      · rw [hb] at q; cases q
      · exact q
    · have := this.2
      rw [hd] at this
      simpa using this
  have htl : ∀ i, ops.toList[i]? = ops[i]? := fun i => Array.getElem?_toList
  -- where nothing is ready all have come up
  have hall : ∀ L : Array Bool, L.size = ops.size → Region.ready md ops L = [] → ∀ i, i < ops.size → L.getD i false = true := by
    intro L hL hr i
    induction i using Nat.strongRecOn with
    | ind i ih =>
      intro hi
      cases hl : L.getD i false
      · exfalso
        have hm : i ∈ Region.ready md ops L := by
          unfold Region.ready
          rw [List.mem_filter]
          refine ⟨List.mem_range.2 hi, ?_⟩
          have hg : L.getD i true = false := by
            rw [Array.getD_eq_getD_getElem?, Array.getElem?_eq_getElem (by omega)] at hl ⊢
            exact hl
          rw [hg, Array.getElem?_eq_getElem hi]
          simp only [Bool.not_false, Bool.true_and, Option.map_some, Option.getD_some]
          rw [Array.all_eq_true_iff_forall_mem]
          intro e he
          cases hb : Region.binds md e
          · rfl
          · have hlt := (hac' i _ (Array.getElem?_eq_getElem hi)).1 e he hb
            simp [ih e.on hlt (by omega)]
        rw [hr] at hm
        cases hm
      · rfl
  have hfin : ∀ (L : Array Bool) (a : Act) (w : World), InvI md ops I a0 L a w → Region.ready md ops L = [] → Q .normal a w := by
    rintro L a w ⟨hL, -, vals, hS, rfl⟩ hr
    have h := hall L hL hr
    rw [fill_congr (l' := fun _ => true) (v' := vals) ops.toList 0 a0 (fun j _ hj => h j (by simpa using hj)) (fun _ _ _ => rfl)]
    exact hF _ vals w h hS
  intro fuel
  induction fuel with
  | zero =>
    intro L a w hl hI
    have hz := left_zero _ (Nat.le_zero.1 hl)
    have hr : Region.ready md ops L = [] := by
      unfold Region.ready
      rw [List.filter_eq_nil_iff]
      intro i hi
      have hi := List.mem_range.1 hi
      have h1 := hz i hi
      have hg : L.getD i true = true := by
        have hsz := hI.1
        simp only [Array.getD_eq_getD_getElem?] at h1 ⊢
        rw [Array.getElem?_eq_getElem (by omega)] at h1 ⊢
        exact h1
      rw [hg]
      simp
    exact ⟨hr, hfin L a w hI hr⟩
  | succ fuel ih =>
    intro L a w hl hI
    refine ⟨hfin L a w hI, fun i hi => ?_⟩
    obtain ⟨hL, hdc, vals, hS, rfl⟩ := hI
    obtain ⟨hun, o, ho, haf⟩ := mem_ready.1 hi
    have hilt : i < ops.size := (Array.getElem?_eq_some_iff.1 ho).1
    have hun' : L.getD i false = false := by
      simp only [Array.getD_eq_getD_getElem?] at hun ⊢
      rw [Array.getElem?_eq_getElem (by omega)] at hun ⊢
      exact hun
    have hq := ReqsI.at P Q md ops I a0 hR (i := i) (o := o) (by rw [htl]; exact ho)
    rw [Nat.zero_add] at hq
    have hst := hq (fill (fun j => L.getD j false) vals ops.toList 0 a0) w (fun j => L.getD j false) vals hS hun' hdc
      (fun e he hb => haf e he hb)
      (fun t ht => by
        unfold rd
        have hr1 : reads1 md ops i o t = true := by
          have := List.all_eq_true.1 hrd i (List.mem_range.2 hilt)
          rw [ho] at this
          exact List.all_eq_true.1 this t ht
        cases hf : o.after.toList.find? (fun e => Region.binds md e && ((ops[e.on]?).bind (·.dst)) == some t) with
        | some e =>
          have h1 := List.find?_some hf
          have h2 := List.mem_of_find?_eq_some hf
          rw [Bool.and_eq_true, beq_iff_eq] at h1
          obtain ⟨x, hx, hxd⟩ := Option.bind_eq_some_iff.1 h1.2
          have h3 := haf e (Array.mem_toList_iff.1 h2) h1.1
          have := fill_at (l := fun j => L.getD j false) (v := vals) ops.toList 0 e.on x a0 hap (by rw [htl]; exact hx) (by simpa using h3) hxd ((hac' e.on x hx).2 t hxd)
          rw [Nat.zero_add] at this
          exact this
        | none =>
          refine fill_other ops.toList 0 a0 fun j x hx hlj hxd => ?_
          rw [Nat.zero_add] at hlj
          rw [htl] at hx
          have hjlt : j < ops.size := (Array.getElem?_eq_some_iff.1 hx).1
          rw [reads1, Bool.or_eq_true] at hr1
          rcases hr1 with q | q
          · obtain ⟨e, he, hp⟩ := List.any_eq_true.1 q
            have := List.find?_eq_none.1 hf e he
            exact this hp
          · have := List.all_eq_true.1 q j (List.mem_range.2 hjlt)
            rw [hx] at this
            simp only [Bool.or_eq_true, bne_iff_ne, ne_eq, beq_iff_eq, List.any_eq_true, Bool.and_eq_true] at this
            rcases this with (q1 | q1) | ⟨e, he, hb, hon⟩
            · exact q1 hxd
            · subst q1
              rw [hun'] at hlj
              cases hlj
            · have : L.getD e.on false = true := hdc j x hx hlj e (Array.mem_toList_iff.1 he) hb
              rw [hon, hun'] at this
              cases this)
    have hnext : ∀ (v : Value) (w' : World), I (upd (fun j => L.getD j false) i) (updv vals i v) w' → wpAny P md ops Q fuel (L.setIfInBounds i true) ((fill (fun j => L.getD j false) vals ops.toList 0 a0).put o.dst v) w' := by
      intro v w' h2
      have e1 : ∀ j, (L.setIfInBounds i true).getD j false = if j = i then true else L.getD j false := fun j => by
        simp only [Array.getD_eq_getD_getElem?]
        by_cases hji : j = i
        · subst hji
          rw [Array.getElem?_setIfInBounds_self_of_lt (by omega)]
          simp
        · rw [Array.getElem?_setIfInBounds_ne (fun e => hji e.symm), if_neg hji]
      have e2 : (fun j => (L.setIfInBounds i true).getD j false) = upd (fun j => L.getD j false) i := funext e1
      refine ih _ _ _ ?_ ⟨by simpa using hL, ?_, updv vals i v, by rw [e2]; exact h2, ?_⟩
      · have := left_set (l := fun j => L.getD j false) (l' := fun j => (L.setIfInBounds i true).getD j false) hun' (by rw [e1, if_pos rfl]) (fun j hj => by rw [e1, if_neg hj]) ops.size hilt
        omega
      · intro j x hx hlj e he hb
        show (L.setIfInBounds i true).getD e.on false = true
        replace hlj : (L.setIfInBounds i true).getD j false = true := hlj
        rw [e1] at hlj ⊢
        split
        · rfl
        · split at hlj
          · rename_i hji
            subst hji
            rw [ho] at hx
            cases hx
            exact haf e he hb
          · exact hdc j x hx hlj e he hb
      · rw [fill_add ops.toList 0 i o a0 hap (by rw [htl]; exact ho) (by simpa using hun')]
        rw [Nat.zero_add]
        exact fill_congr _ _ _ (fun j _ _ => (e1 j).symm) (fun _ _ _ => rfl)
    unfold wpOp
    rw [ho]
    unfold StepI at hst
    dsimp only
    split at hst
    · rename_i hw
      rw [if_pos hw]
      refine Or.inl (Oper.wp_mono ?_ hst)
      rintro a' w' ⟨v, rfl, h2⟩
      exact hnext v w' h2
    · rename_i hw
      rw [if_neg hw]
      exact hnext undef w hst

/-- **THE RULE, AT LARGE** -/
theorem regionI {id : Nat} {ops : Array Oper} {a0 : Act} {w : World} (I : (Nat → Bool) → (Nat → Value) → World → Prop) (hm : P.follows .mixedOrders = true) (hok : okOps .any ops a0.tmps.size = true)
    (hS : ∀ vals, I (fun _ => false) vals { w with drawn := w.drawn + 1 }) (hR : ReqsI P Q .any ops I a0 ops.toList 0)
    (hF : ∀ (l : Nat → Bool) (vals : Nat → Value) (w : World), (∀ i, i < ops.size → l i = true) → I l vals w → Q .normal (fill (fun _ => true) vals ops.toList 0 a0) w) : (Code.region id ops true).wp P Q a0 w := by
  have rep : ∀ j, (Array.replicate ops.size false).getD j false = false := fun j => by
    rw [Array.getD_eq_getD_getElem?, Array.getElem?_replicate]
    split <;> rfl
  refine wp_region_any hm (wpAny_I hok hR hF _ _ _ _ ?_ ⟨by simp, ?_, fun _ => undef, ?_, ?_⟩)
  · have : ∀ (l : Nat → Bool) n, left l n ≤ n := fun l n => by
      induction n with
      | zero => exact Nat.le_refl _
      | succ n ih => unfold left; split <;> omega
    exact this _ _
  · intro i o hi hl
    replace hl : (Array.replicate ops.size false).getD i false = true := hl
    rw [rep] at hl
    cases hl
  · rw [show (fun j => (Array.replicate ops.size false).getD j false) = fun _ => false from funext rep]
    exact hS _
  · have : ∀ (v : Nat → Value) (os : List Oper) (k : Nat) (a : Act), fill (fun _ => false) v os k a = a := fun v os => by
      induction os with
      | nil => intro k a; rfl
      | cons x os ih => intro k a; unfold fill; simp [ih]
    exact (this _ ops.toList 0 a0).symm.trans (fill_congr _ _ _ (fun j _ hj => (rep j).symm) (fun _ _ _ => rfl))
end Rg
end Go.Proofs.YtgkjmjlkhnfbiaaGreat

namespace Go.Proofs.YtgkjmjlkhnfbiaaGreat
set_option linter.unusedSimpArgs false
set_option linter.unusedVariables false
open Go Go.RowKit
namespace Rg
variable {P : Program} {Q : Exit → Act → World → Prop}
/-- how many of the calls have come up -/
def cnt (l : Nat → Bool) : List Nat → Nat
  | [] => 0
  | c :: cs => if l c = true then cnt l cs + 1 else 0
def edge (ops : Array Oper) (c d : Nat) : Bool := match ops[d]? with
  | some o => o.after.toList.any (fun e => Region.binds .any e && e.on == c)
  | none => false
def chainOk (ops : Array Oper) : List Nat → Bool
  | c :: d :: cs => edge ops c d && decide (c < d) && chainOk ops (d :: cs)
  | _ => true
theorem edge_closed {ops : Array Oper} {l : Nat → Bool} {c d : Nat} (hc : Closed .any ops l) (he : edge ops c d = true) (hd : l d = true) : l c = true := by
  unfold edge at he
  split at he
  · rename_i o ho
    obtain ⟨e, h1, h2⟩ := List.any_eq_true.1 he
    rw [Bool.and_eq_true, beq_iff_eq] at h2
    have := hc d o ho hd e (Array.mem_toList_iff.1 h1) h2.1
    rw [h2.2] at this
    exact this
  · cases he
theorem edge_dep {ops : Array Oper} {l : Nat → Bool} {c d : Nat} {o : Oper} (ho : ops[d]? = some o) (hdep : ∀ e ∈ o.after, Region.binds .any e = true → l e.on = true) (he : edge ops c d = true) : l c = true := by
  unfold edge at he
  rw [ho] at he
  obtain ⟨e, h1, h2⟩ := List.any_eq_true.1 he
  rw [Bool.and_eq_true, beq_iff_eq] at h2
  have := hdep e (Array.mem_toList_iff.1 h1) h2.1
  rw [h2.2] at this
  exact this
theorem cnt_not {l : Nat → Bool} {k : Nat} : ∀ C : List Nat, k ∉ C → cnt (upd l k) C = cnt l C
  | [], _ => rfl
  | c :: cs, h => by
    have h1 : c ≠ k := fun e => h (by rw [e]; exact List.mem_cons_self ..)
    have e : upd l k c = l c := if_neg h1
    unfold cnt
    rw [e, cnt_not cs (fun hk => h (List.mem_cons_of_mem _ hk))]
theorem cnt_here {ops : Array Oper} {l : Nat → Bool} {k : Nat} (hc : Closed .any ops l) (hk : l k = false) (hdep : ∀ c, edge ops c k = true → l c = true) : ∀ C : List Nat, chainOk ops C = true → k ∈ C → cnt l C = C.idxOf k ∧ cnt (upd l k) C = C.idxOf k + 1
  | [], _, h => by cases h
  | [c], _, h => by
    rcases List.mem_cons.1 h with rfl | h
    · have e : upd l k k = true := if_pos rfl
      unfold cnt cnt
      rw [hk, e]
      simp
    · cases h
  | c :: d :: cs, ho, h => by
    unfold chainOk at ho
    rw [Bool.and_eq_true, Bool.and_eq_true, decide_eq_true_eq] at ho
    obtain ⟨⟨he, hlt⟩, ho⟩ := ho
    by_cases hkc : k = c
    · subst hkc
      have e : upd l k k = true := if_pos rfl
      have hd : l d = false := by
        cases hd : l d
        · rfl
        · rw [edge_closed hc he hd] at hk; cases hk
      have e2 : upd l k d = false := (if_neg (by omega)).trans hd
      have i0 : (k :: d :: cs).idxOf k = 0 := by simp
      rw [i0]
      unfold cnt
      rw [hk, e]
      unfold cnt
      rw [e2]
      simp
    · have hm : k ∈ d :: cs := (List.mem_cons.1 h).resolve_left hkc
      obtain ⟨h1, h2⟩ := cnt_here hc hk hdep (d :: cs) ho hm
      have hlc : l c = true := by
        by_cases hkd : k = d
        · subst hkd; exact hdep c he
        · have : l d = true := by
            cases hd : l d
            · exfalso
              have z : cnt l (d :: cs) = 0 := by unfold cnt; rw [hd]; rfl
              have : (d :: cs).idxOf k ≠ 0 := by
                rw [List.idxOf_cons]
                have : (d == k) = false := by rw [beq_eq_false_iff_ne]; exact fun e => hkd e.symm
                rw [this]
                simp
              omega
            · rfl
          exact edge_closed hc he this
      have e : upd l k c = l c := if_neg (fun e => hkc e.symm)
      have i0 : (c :: d :: cs).idxOf k = (d :: cs).idxOf k + 1 := by
        rw [List.idxOf_cons]
        have : (c == k) = false := by rw [beq_eq_false_iff_ne]; exact fun e => hkc e.symm
        rw [this]
        rfl
      rw [i0]
      unfold cnt
      rw [e, hlc, if_pos rfl, if_pos rfl, h1, h2]
      exact ⟨rfl, rfl⟩
end Rg
end Go.Proofs.YtgkjmjlkhnfbiaaGreat

namespace Go.Proofs.YtgkjmjlkhnfbiaaGreat
set_option linter.unusedSimpArgs false
set_option linter.unusedVariables false
open Go Go.RowKit
namespace Rg
variable {P : Program} {Q : Exit → Act → World → Prop}
section
variable (P) (Q) (ops : Array Oper) (a0 : Act) (T : List Value) (J : Nat → World → Prop) (C : List Nat)
def LookS (o : Oper) (a : Act) (t : Nat) : Prop :=
  match o.after.toList.find? (fun e => Region.binds .any e && ((ops[e.on]?).bind (·.dst)) == some t) with
  | some e => if e.on ∈ C then True else a.tmps[t]? = some (T.getD e.on undef)
  | none => a.tmps[t]? = a0.tmps[t]?
def OwedS1 (k : Nat) (o : Oper) : Prop :=
  if k ∈ C then ∀ (a : Act) (w : World), J (C.idxOf k) w → (∀ t ∈ o.looksAt ops, LookS ops a0 T C o a t) → Region.wanted o (yielded ops a.tmps) = true ∧ o.wp P a w (fun a' w' => (∃ v, a' = a.put o.dst v) ∧ J (C.idxOf k + 1) w') Q
  else ∀ (a : Act) (w : World) (n : Nat), n ≤ C.length → J n w → (∀ t ∈ o.looksAt ops, LookS ops a0 T C o a t) → Region.wanted o (yielded ops a.tmps) = true ∧ (execOp a.eval o).run P w = .ok (.value (T.getD k undef)) w
def OwedS : List Oper → Nat → Prop
  | [], _ => True
  | o :: os, k => OwedS1 P Q ops a0 T J C k o ∧ OwedS os (k + 1)
def InvS (l : Nat → Bool) (vals : Nat → Value) (w : World) : Prop :=
  J (cnt l C) w ∧ ∀ i, i ∉ C → l i = true → vals i = T.getD i undef
end
theorem cnt_le {l : Nat → Bool} : ∀ C : List Nat, cnt l C ≤ C.length
  | [] => Nat.le_refl _
  | c :: cs => by
    unfold cnt
    have := cnt_le (l := l) cs
    split
    · simp only [List.length_cons]; omega
    · omega
theorem reqs_S {ops : Array Oper} {a0 : Act} {T : List Value} {J : Nat → World → Prop} {C : List Nat} (hC : chainOk ops C = true) :
    ∀ (os : List Oper) (k : Nat), (∀ i, os[i]? = ops[k + i]?) → OwedS P Q ops a0 T J C os k → ReqsI P Q .any ops (InvS T J C) a0 os k
  | [], _, _, _ => trivial
  | o :: os, k, hos, h => by
    refine ⟨fun a w l vals hI hl hc hdep hr => ?_, reqs_S hC os (k + 1) (fun i => by rw [show k + 1 + i = k + (i + 1) by omega, ← hos (i + 1)]; rfl) h.2⟩
    obtain ⟨hB, hv⟩ := hI
    have ho : ops[k]? = some o := (hos 0).symm
    have hQ : ∀ t ∈ o.looksAt ops, LookS ops a0 T C o a t := fun t ht => by
      have := hr t ht
      unfold rd at this
      unfold LookS
      split
      · rename_i e he
        rw [he] at this
        have h2 := List.find?_some he
        rw [Bool.and_eq_true] at h2
        split
        · trivial
        · rename_i n1
          replace this : a.tmps[t]? = some (vals e.on) := this
          rw [this, hv _ n1 (hdep e (Array.mem_toList_iff.1 (List.mem_of_find?_eq_some he)) h2.1)]
      · rename_i he
        rw [he] at this
        exact this
    have hko : ∀ j, j ≠ k → upd l k j = l j := fun j hj => if_neg hj
    have h1 := h.1
    unfold OwedS1 at h1
    unfold StepI
    have rest : ∀ v, (k ∉ C → v = T.getD k undef) → ∀ i, i ∉ C → upd l k i = true → updv vals k v i = T.getD i undef := fun v hvk i n1 hi => by
      by_cases hik : i = k
      · subst hik
        have : updv vals i v i = v := if_pos rfl
        rw [this]; exact hvk n1
      · rw [hko i hik] at hi
        have : updv vals k v i = vals i := if_neg hik
        rw [this]
        exact hv i n1 hi
    by_cases e3 : k ∈ C
    · rw [if_pos e3] at h1
      obtain ⟨q1, q2⟩ := cnt_here hc hl (fun c hcd => edge_dep ho hdep hcd) C hC e3
      rw [q1] at hB
      obtain ⟨hw, hwp⟩ := h1 a w hB hQ
      rw [if_pos hw]
      refine Oper.wp_mono ?_ hwp
      rintro a' w' ⟨⟨v, e⟩, h2⟩
      exact ⟨v, e, by rw [q2]; exact h2, rest v (fun h => absurd e3 h)⟩
    · rw [if_neg e3] at h1
      obtain ⟨hw, hwp⟩ := h1 a w _ (cnt_le C) hB hQ
      rw [if_pos hw]
      unfold Oper.wp
      rw [hwp]
      exact ⟨_, rfl, by rw [cnt_not C e3]; exact hB, rest _ (fun _ => rfl)⟩
/-- **THE RULE** -/
theorem walkS {id : Nat} {ops : Array Oper} {a0 : Act} {w : World} (J : Nat → World → Prop) (C : List Nat) (T : List Value)
    (hm : P.follows .mixedOrders = true) (hok : okOps .any ops a0.tmps.size = true) (hC : chainOk ops C = true) (hcl : ∀ c ∈ C, c < ops.size) (h0 : J 0 { w with drawn := w.drawn + 1 })
    (hR : OwedS P Q ops a0 T J C ops.toList 0)
    (hF : ∀ (vals : Nat → Value) (w' : World), J C.length w' → (∀ i, i < ops.size → i ∉ C → vals i = T.getD i undef) → Q .normal (fill (fun _ => true) vals ops.toList 0 a0) w') : (Code.region id ops true).wp P Q a0 w := by
  have c0 : ∀ C : List Nat, cnt (fun _ => false) C = 0 := fun C => by cases C <;> rfl
  have cl : ∀ (l : Nat → Bool) (C : List Nat), (∀ c ∈ C, l c = true) → cnt l C = C.length := fun l C => by
    induction C with
    | nil => intro _; rfl
    | cons c cs ih =>
      intro h
      unfold cnt
      rw [if_pos (h c (List.mem_cons_self ..)), ih (fun x hx => h x (List.mem_cons_of_mem _ hx))]
      rfl
  refine regionI (InvS T J C) hm hok (fun vals => ⟨?_, (fun _ _ h => absurd h (by simp))⟩) (reqs_S hC ops.toList 0 (fun i => by rw [Nat.zero_add]; exact Array.getElem?_toList) hR) ?_
  · rw [c0]
    exact h0
  · intro l vals w' hl hI
    obtain ⟨h1, h2⟩ := hI
    rw [cl l C (fun c hc => hl c (hcl c hc))] at h1
    exact hF vals w' h1 (fun i hi n1 => h2 i n1 (hl i hi))
end Rg
end Go.Proofs.YtgkjmjlkhnfbiaaGreat
