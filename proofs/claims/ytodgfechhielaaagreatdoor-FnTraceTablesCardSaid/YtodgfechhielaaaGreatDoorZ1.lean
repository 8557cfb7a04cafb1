/-
  A region that draws its order, operation by operation: what each yields is told by a predicate that the others keep; no order is branched over. Of no program.
-/
import Derived.Orders
namespace Go.Proofs.YtodgfechhielaaaGreatDoor
set_option linter.unusedSimpArgs false
set_option linter.unusedVariables false
open Go
namespace Rg
variable {P : Program} {Q : Exit → Act → World → Prop} {md : Region.Mode}
/-- the operations that have come up, their values laid -/
def fill (l : Nat → Bool) (vals : Nat → Value) : List Oper → Nat → Act → Act
  | [], _, a => a
  | o :: os, k, a => fill l vals os (k + 1) (if l k then a.put o.dst (vals k) else a)
/-- two operations lay their values in different slots -/
def sep (o x : Oper) : Bool := match o.dst with | some d => x.dst != some d | none => true
/-- no two lay their values in one slot -/
def apart : List Oper → Bool
  | [] => true
  | o :: os => os.all (sep o) && apart os
theorem fill_congr {l l' : Nat → Bool} {v v' : Nat → Value} : ∀ (os : List Oper) (k : Nat) (a : Act), (∀ j, k ≤ j → j < k + os.length → l j = l' j) → (∀ j, k ≤ j → l j = true → v j = v' j) → fill l v os k a = fill l' v' os k a
  | [], _, _, _, _ => rfl
  | o :: os, k, a, h1, h2 => by
    unfold fill
    rw [← h1 k (Nat.le_refl _) (by simp)]
    cases hl : l k
    · simp only [Bool.false_eq_true, if_false]
      exact fill_congr os (k + 1) a (fun j hj hj2 => h1 j (by omega) (by simp; omega)) (fun j hj => h2 j (by omega))
    · simp only [if_true]
      rw [h2 k (Nat.le_refl _) hl]
      exact fill_congr os (k + 1) _ (fun j hj hj2 => h1 j (by omega) (by simp; omega)) (fun j hj => h2 j (by omega))
theorem fill_put {l : Nat → Bool} {v : Nat → Value} {d : Option Tmp} {u : Value} : ∀ (os : List Oper) (k : Nat) (a : Act), (∀ x ∈ os, ∀ t, d = some t → x.dst ≠ some t) → (fill l v os k a).put d u = fill l v os k (a.put d u)
  | [], _, _, _ => rfl
  | o :: os, k, a, h => by
    unfold fill
    rw [fill_put os (k + 1) _ (fun x hx => h x (List.mem_cons_of_mem _ hx))]
    congr 1
    split
    · exact (Act.put_comm a u (v k) (h o (List.mem_cons_self ..))).symm
    · rfl
theorem fill_add {l : Nat → Bool} {v : Nat → Value} {u : Value} : ∀ (os : List Oper) (k i : Nat) (o : Oper) (a : Act), apart os = true → os[i]? = some o → l (k + i) = false →
    (fill l v os k a).put o.dst u = fill (fun j => if j = k + i then true else l j) (fun j => if j = k + i then u else v j) os k a
  | [], _, _, _, _, _, h, _ => by simp at h
  | x :: os, k, 0, o, a, ha, h, hl => by
    simp only [List.getElem?_cons_zero, Option.some.injEq] at h
    subst h
    rw [apart, Bool.and_eq_true] at ha
    have hs : ∀ y ∈ os, ∀ t, x.dst = some t → y.dst ≠ some t := fun y hy t ht => by
      have := List.all_eq_true.1 ha.1 y hy
      rw [sep, ht] at this
      simpa using this
    unfold fill
    rw [Nat.add_zero] at hl ⊢
    rw [fill_put os (k + 1) _ hs, if_neg (by simp [hl])]
    have e : (if (if k = k then true else l k) = true then a.put x.dst (if k = k then u else v k) else a) = a.put x.dst u := by simp
    show _ = fill _ _ os (k + 1) (if (if k = k then true else l k) = true then a.put x.dst (if k = k then u else v k) else a)
    rw [e]
    exact fill_congr os (k + 1) _ (fun j hj _ => by rw [if_neg (by omega)]) (fun j hj _ => by rw [if_neg (by omega)])
  | x :: os, k, i + 1, o, a, ha, h, hl => by
    rw [apart, Bool.and_eq_true] at ha
    rw [show k + (i + 1) = k + 1 + i from by omega] at hl ⊢
    unfold fill
    rw [fill_add os (k + 1) i o _ ha.2 (by simpa using h) hl]
    congr 1
    rw [if_neg (show ¬ k = k + 1 + i by omega), if_neg (show ¬ k = k + 1 + i by omega)]
theorem put_size (a : Act) (d : Option Tmp) (v : Value) : (a.put d v).tmps.size = a.tmps.size := by
  cases d <;> simp [Act.put]
theorem put_get {a : Act} {d : Option Tmp} {v : Value} {t : Nat} (h : d ≠ some t) : (a.put d v).tmps[t]? = a.tmps[t]? := by
  cases d with
  | none => rfl
  | some d => simp only [Act.put]; rw [Array.getElem?_setIfInBounds_ne (by intro e; exact h (by rw [e]))]
theorem put_get_self {a : Act} {v : Value} {t : Nat} (h : t < a.tmps.size) : (a.put (some t) v).tmps[t]? = some v := by
  simp [Act.put, h]
theorem fill_size {l : Nat → Bool} {v : Nat → Value} : ∀ (os : List Oper) (k : Nat) (a : Act), (fill l v os k a).tmps.size = a.tmps.size
  | [], _, _ => rfl
  | o :: os, k, a => by
    unfold fill
    rw [fill_size os (k + 1)]
    split
    · exact put_size a _ _
    · rfl
theorem fill_other {l : Nat → Bool} {v : Nat → Value} {t : Nat} : ∀ (os : List Oper) (k : Nat) (a : Act), (∀ i o, os[i]? = some o → l (k + i) = true → o.dst ≠ some t) → (fill l v os k a).tmps[t]? = a.tmps[t]?
  | [], _, _, _ => rfl
  | o :: os, k, a, h => by
    unfold fill
    rw [fill_other os (k + 1) _ (fun i x hx hl => h (i + 1) x (by simpa using hx) (by rw [show k + (i + 1) = k + 1 + i from by omega]; exact hl))]
    split
    · rename_i hk
      exact put_get (h 0 o rfl hk)
    · rfl
theorem fill_at {l : Nat → Bool} {v : Nat → Value} {t : Nat} : ∀ (os : List Oper) (k i : Nat) (o : Oper) (a : Act), apart os = true → os[i]? = some o → l (k + i) = true → o.dst = some t → t < a.tmps.size → (fill l v os k a).tmps[t]? = some (v (k + i))
  | [], _, _, _, _, _, h, _, _, _ => by simp at h
  | x :: os, k, 0, o, a, ha, h, hl, hd, ht => by
    simp only [List.getElem?_cons_zero, Option.some.injEq] at h
    subst h
    rw [apart, Bool.and_eq_true] at ha
    unfold fill
    rw [Nat.add_zero] at hl ⊢
    rw [fill_other os (k + 1) _ (fun i y hy _ => by
      have := List.all_eq_true.1 ha.1 y (List.mem_of_getElem? hy)
      rw [sep, hd] at this
      simpa using this), if_pos hl, hd]
    exact put_get_self ht
  | x :: os, k, i + 1, o, a, ha, h, hl, hd, ht => by
    rw [apart, Bool.and_eq_true] at ha
    rw [show k + (i + 1) = k + 1 + i from by omega] at hl ⊢
    unfold fill
    refine fill_at os (k + 1) i o _ ha.2 (by simpa using h) hl hd ?_
    split
    · rw [put_size]; exact ht
    · exact ht
/-- how many have not come up -/
def left (l : Nat → Bool) : Nat → Nat
  | 0 => 0
  | n + 1 => left l n + if l n then 0 else 1
theorem left_same {l l' : Nat → Bool} : ∀ n : Nat, (∀ j, j < n → l j = l' j) → left l n = left l' n
  | 0, _ => rfl
  | n + 1, h => by unfold left; rw [left_same n (fun j hj => h j (by omega)), h n (by omega)]
theorem left_set {l l' : Nat → Bool} {i : Nat} (h0 : l i = false) (h1 : l' i = true) (h2 : ∀ j, j ≠ i → l' j = l j) : ∀ n : Nat, i < n → left l' n + 1 = left l n
  | 0, h => by omega
  | n + 1, h => by
    unfold left
    rcases Nat.lt_or_ge i n with q | q
    · have := left_set h0 h1 h2 n q
      rw [h2 n (by omega)]
      omega
    · obtain rfl : i = n := by omega
      rw [left_same i (l := l') (l' := l) (fun j hj => h2 j (by omega)), h0, h1]
      simp
theorem left_zero {l : Nat → Bool} : ∀ n : Nat, left l n = 0 → ∀ j, j < n → l j = true
  | 0, _, j, hj => by omega
  | n + 1, h, j, hj => by
    unfold left at h
    cases hn : l n
    · rw [hn] at h; simp at h
    · rcases Nat.lt_or_ge j n with q | q
      · exact left_zero n (by omega) j q
      · obtain rfl : j = n := by omega
        exact hn
/-- what a slot holds where an operation looks at it -/
def rd (md : Region.Mode) (ops : Array Oper) (a0 : Act) (vals : Nat → Value) (o : Oper) (t : Nat) : Option Value :=
  match o.after.toList.find? (fun e => Region.binds md e && ((ops[e.on]?).bind (·.dst)) == some t) with
  | some e => some (vals e.on)
  | none => a0.tmps[t]?
/-- whoever writes what an operation looks at comes ahead of it or behind it -/
def reads1 (md : Region.Mode) (ops : Array Oper) (i : Nat) (o : Oper) (t : Nat) : Bool :=
  o.after.toList.any (fun e => Region.binds md e && ((ops[e.on]?).bind (·.dst)) == some t) ||
  (List.range ops.size).all fun j => match ops[j]? with
    | some x => x.dst != some t || j == i || x.after.toList.any (fun e => Region.binds md e && e.on == i)
    | none => true
def okReads (md : Region.Mode) (ops : Array Oper) : Bool := (List.range ops.size).all fun i => match ops[i]? with
  | some o => (o.looksAt ops).all (reads1 md ops i o)
  | none => true
def okOps (md : Region.Mode) (ops : Array Oper) (n : Nat) : Bool :=
  apart ops.toList && okReads md ops && ((List.range ops.size).all fun i => match ops[i]? with
    | some o => o.after.toList.all (fun e => !Region.binds md e || decide (e.on < i)) && (match o.dst with | some d => decide (d < n) | none => true)
    | none => true)
section
variable (P) (Q) (md) (ops : Array Oper) (S : World → Prop) (V : Nat → Value → World → Prop) (a0 : Act)
/-- what is owed for an operation -/
def Step (i : Nat) (o : Oper) (a : Act) (w : World) : Prop :=
  if Region.wanted o (yielded ops a.tmps) = true then o.wp P a w (fun a' w' => ∃ v, a' = a.put o.dst v ∧ V i v w' ∧ S w' ∧ ∀ j u, V j u w → V j u w') Q else V i undef w
def Req (i : Nat) (o : Oper) : Prop := ∀ (a : Act) (w : World) (vals : Nat → Value), S w → (∀ e ∈ o.after, Region.binds md e = true → V e.on (vals e.on) w) → (∀ t ∈ o.looksAt ops, a.tmps[t]? = rd md ops a0 vals o t) → Step P Q ops S V i o a w
def Reqs : List Oper → Nat → Prop
  | [], _ => True
  | o :: os, k => Req P Q md ops S V a0 k o ∧ Reqs os (k + 1)
theorem Reqs.at {os : List Oper} {k : Nat} (h : Reqs P Q md ops S V a0 os k) : ∀ {i : Nat} {o : Oper}, os[i]? = some o → Req P Q md ops S V a0 (k + i) o := by
  induction os generalizing k with
  | nil => intro i o hi; simp at hi
  | cons x os ih =>
    intro i o hi
    cases i with
    | zero =>
      simp only [List.getElem?_cons_zero, Option.some.injEq] at hi
      subst hi
      exact h.1
    | succ i =>
      have := ih h.2 (i := i) (o := o) (by simpa using hi)
      rw [show k + (i + 1) = k + 1 + i from by omega]
      exact this
/-- what holds between two operations -/
def Inv (L : Array Bool) (a : Act) (w : World) : Prop :=
  L.size = ops.size ∧ S w ∧ (∀ i o, ops[i]? = some o → L.getD i false = true → ∀ e ∈ o.after, Region.binds md e = true → L.getD e.on false = true) ∧
  ∃ vals : Nat → Value, a = fill (fun j => L.getD j false) vals ops.toList 0 a0 ∧ ∀ i, i < ops.size → L.getD i false = true → V i (vals i) w
end
theorem wpAny_of {ops : Array Oper} {S : World → Prop} {V : Nat → Value → World → Prop} {a0 : Act} (hok : okOps md ops a0.tmps.size = true)
    (hR : Reqs P Q md ops S V a0 ops.toList 0) (hF : ∀ (vals : Nat → Value) (w : World), S w → (∀ i, i < ops.size → V i (vals i) w) → Q .normal (fill (fun _ => true) vals ops.toList 0 a0) w) :
    ∀ (fuel : Nat) (L : Array Bool) (a : Act) (w : World), left (fun j => L.getD j false) ops.size ≤ fuel → Inv md ops S V a0 L a w → wpAny P md ops Q fuel L a w := by
  rw [okOps, Bool.and_eq_true, Bool.and_eq_true] at hok
  obtain ⟨⟨hap, hrd⟩, hac⟩ := hok
  have hac' : ∀ i o, ops[i]? = some o → (∀ e ∈ o.after, Region.binds md e = true → e.on < i) ∧ ∀ d, o.dst = some d → d < a0.tmps.size := fun i o hi => by
    have hlt : i < ops.size := (Array.getElem?_eq_some_iff.1 hi).1
    have := List.all_eq_true.1 hac i (List.mem_range.2 hlt)
    rw [hi] at this
    simp only [Bool.and_eq_true, List.all_eq_true, Bool.or_eq_true, Bool.not_eq_true', decide_eq_true_eq] at this
    refine ⟨fun e he hb => ?_, fun d hd => ?_⟩
    · rcases this.1 e (Array.mem_toList_iff.2 he) with q | q
      · rw [hb] at q; cases q
      · exact q
    · have := this.2
      rw [hd] at this
      simpa using this
  have htl : ∀ i, ops.toList[i]? = ops[i]? := fun i => Array.getElem?_toList
  -- where nothing is ready all have come up
  have hall : ∀ L : Array Bool, L.size = ops.size → Region.ready md ops L = [] → ∀ i, i < ops.size → L.getD i false = true := by
    intro L hL hr i
    induction i using Nat.strongRecOn with
    | ind i ih =>
      intro hi
      cases hl : L.getD i false
      · exfalso
        have hm : i ∈ Region.ready md ops L := by
          unfold Region.ready
          rw [List.mem_filter]
          refine ⟨List.mem_range.2 hi, ?_⟩
          have hg : L.getD i true = false := by
            rw [Array.getD_eq_getD_getElem?, Array.getElem?_eq_getElem (by omega)] at hl ⊢
            exact hl
          rw [hg, Array.getElem?_eq_getElem hi]
          simp only [Bool.not_false, Bool.true_and, Option.map_some, Option.getD_some]
          rw [Array.all_eq_true_iff_forall_mem]
          intro e he
          cases hb : Region.binds md e
          · rfl
          · have hlt := (hac' i _ (Array.getElem?_eq_getElem hi)).1 e he hb
            simp [ih e.on hlt (by omega)]
        rw [hr] at hm
        cases hm
      · rfl
  have hfin : ∀ (L : Array Bool) (a : Act) (w : World), Inv md ops S V a0 L a w → Region.ready md ops L = [] → Q .normal a w := by
    rintro L a w ⟨hL, hS, -, vals, rfl, hv⟩ hr
    have h := hall L hL hr
    rw [fill_congr (l' := fun _ => true) (v' := vals) ops.toList 0 a0 (fun j _ hj => h j (by simpa using hj)) (fun _ _ _ => rfl)]
    exact hF vals w hS fun i hi => hv i hi (h i hi)
  intro fuel
  induction fuel with
  | zero =>
    intro L a w hl hI
    have hz := left_zero _ (Nat.le_zero.1 hl)
    have hr : Region.ready md ops L = [] := by
      unfold Region.ready
      rw [List.filter_eq_nil_iff]
      intro i hi
      have hi := List.mem_range.1 hi
      have h1 := hz i hi
      have hg : L.getD i true = true := by
        have hsz := hI.1
        simp only [Array.getD_eq_getD_getElem?] at h1 ⊢
        rw [Array.getElem?_eq_getElem (by omega)] at h1 ⊢
        exact h1
      rw [hg]
      simp
    exact ⟨hr, hfin L a w hI hr⟩
  | succ fuel ih =>
    intro L a w hl hI
    refine ⟨hfin L a w hI, fun i hi => ?_⟩
    obtain ⟨hL, hS, hdc, vals, rfl, hv⟩ := hI
    obtain ⟨hun, o, ho, haf⟩ := mem_ready.1 hi
    have hilt : i < ops.size := (Array.getElem?_eq_some_iff.1 ho).1
    have hun' : L.getD i false = false := by
      simp only [Array.getD_eq_getD_getElem?] at hun ⊢
      rw [Array.getElem?_eq_getElem (by omega)] at hun ⊢
      exact hun
    have hq := Reqs.at P Q md ops S V a0 hR (i := i) (o := o) (by rw [htl]; exact ho)
    rw [Nat.zero_add] at hq
    have hst := hq (fill (fun j => L.getD j false) vals ops.toList 0 a0) w vals hS
      (fun e he hb => hv e.on (by have := (hac' i o ho).1 e he hb; omega) (haf e he hb))
      (fun t ht => by
        unfold rd
        have hr1 : reads1 md ops i o t = true := by
          have := List.all_eq_true.1 hrd i (List.mem_range.2 hilt)
          rw [ho] at this
          exact List.all_eq_true.1 this t ht
        cases hf : o.after.toList.find? (fun e => Region.binds md e && ((ops[e.on]?).bind (·.dst)) == some t) with
        | some e =>
          have h1 := List.find?_some hf
          have h2 := List.mem_of_find?_eq_some hf
          rw [Bool.and_eq_true, beq_iff_eq] at h1
          obtain ⟨x, hx, hxd⟩ := Option.bind_eq_some_iff.1 h1.2
          have h3 := haf e (Array.mem_toList_iff.1 h2) h1.1
          have := fill_at (l := fun j => L.getD j false) (v := vals) ops.toList 0 e.on x a0 hap (by rw [htl]; exact hx) (by simpa using h3) hxd ((hac' e.on x hx).2 t hxd)
          rw [Nat.zero_add] at this
          exact this
        | none =>
          refine fill_other ops.toList 0 a0 fun j x hx hlj hxd => ?_
          rw [Nat.zero_add] at hlj
          rw [htl] at hx
          have hjlt : j < ops.size := (Array.getElem?_eq_some_iff.1 hx).1
          rw [reads1, Bool.or_eq_true] at hr1
          rcases hr1 with q | q
          · obtain ⟨e, he, hp⟩ := List.any_eq_true.1 q
            have := List.find?_eq_none.1 hf e he
            exact this hp
          · have := List.all_eq_true.1 q j (List.mem_range.2 hjlt)
            rw [hx] at this
            simp only [Bool.or_eq_true, bne_iff_ne, ne_eq, beq_iff_eq, List.any_eq_true, Bool.and_eq_true] at this
            rcases this with (q1 | q1) | ⟨e, he, hb, hon⟩
            · exact q1 hxd
            · subst q1
              rw [hun'] at hlj
              cases hlj
            · have := hdc j x hx hlj e (Array.mem_toList_iff.1 he) hb
              rw [hon, hun'] at this
              cases this)
    have hnext : ∀ (v : Value) (w' : World), V i v w' → S w' → (∀ j u, V j u w → V j u w') → wpAny P md ops Q fuel (L.setIfInBounds i true) ((fill (fun j => L.getD j false) vals ops.toList 0 a0).put o.dst v) w' := by
      intro v w' h1 h2 h3
      have e1 : ∀ j, (L.setIfInBounds i true).getD j false = if j = i then true else L.getD j false := fun j => by
        simp only [Array.getD_eq_getD_getElem?]
        by_cases hji : j = i
        · subst hji
          rw [Array.getElem?_setIfInBounds_self_of_lt (by omega)]
          simp
        · rw [Array.getElem?_setIfInBounds_ne (fun e => hji e.symm), if_neg hji]
      refine ih _ _ _ ?_ ⟨by simpa using hL, h2, ?_, fun j => if j = i then v else vals j, ?_, ?_⟩
      · have := left_set (l := fun j => L.getD j false) (l' := fun j => (L.setIfInBounds i true).getD j false) hun' (by rw [e1, if_pos rfl]) (fun j hj => by rw [e1, if_neg hj]) ops.size hilt
        omega
      · intro j x hx hlj e he hb
        rw [e1] at hlj ⊢
        split
        · rfl
        · split at hlj
          · rename_i hji
            subst hji
            rw [ho] at hx
            cases hx
            exact haf e he hb
          · exact hdc j x hx hlj e he hb
      · rw [fill_add ops.toList 0 i o a0 hap (by rw [htl]; exact ho) (by simpa using hun')]
        rw [Nat.zero_add]
        exact fill_congr _ _ _ (fun j _ _ => (e1 j).symm) (fun _ _ _ => rfl)
      · intro j hj hlj
        rw [e1] at hlj
        show V j (if j = i then v else vals j) w'
        split
        · rename_i hji
          rw [hji]
          exact h1
        · rename_i hji
          rw [if_neg hji] at hlj
          exact h3 _ _ (hv j hj hlj)
    unfold wpOp
    rw [ho]
    unfold Step at hst
    dsimp only
    split at hst
    · rename_i hw
      rw [if_pos hw]
      refine Or.inl (Oper.wp_mono ?_ hst)
      rintro a' w' ⟨v, rfl, h1, h2, h3⟩
      exact hnext v w' h1 h2 h3
    · rename_i hw
      rw [if_neg hw]
      exact hnext undef w hst hS fun _ _ h => h
/-- **THE BEGINNING** -/
theorem region {id : Nat} {ops : Array Oper} {a0 : Act} {w : World} (S : World → Prop) (V : Nat → Value → World → Prop) (hm : P.follows .mixedOrders = true) (hok : okOps .any ops a0.tmps.size = true)
    (hS : S { w with drawn := w.drawn + 1 }) (hR : Reqs P Q .any ops S V a0 ops.toList 0)
    (hF : ∀ (vals : Nat → Value) (w : World), S w → (∀ i, i < ops.size → V i (vals i) w) → Q .normal (fill (fun _ => true) vals ops.toList 0 a0) w) : (Code.region id ops true).wp P Q a0 w := by
  have rep : ∀ j, (Array.replicate ops.size false).getD j false = false := fun j => by
    rw [Array.getD_eq_getD_getElem?, Array.getElem?_replicate]
    split <;> rfl
  refine wp_region_any hm (wpAny_of hok hR hF _ _ _ _ ?_ ⟨by simp, hS, ?_, fun _ => undef, ?_, ?_⟩)
  · have : ∀ (l : Nat → Bool) n, left l n ≤ n := fun l n => by
      induction n with
      | zero => exact Nat.le_refl _
      | succ n ih => unfold left; split <;> omega
    exact this _ _
  · intro i o hi hl
    rw [rep] at hl
    cases hl
  · have : ∀ (v : Nat → Value) (os : List Oper) (k : Nat) (a : Act), fill (fun _ => false) v os k a = a := fun v os => by
      induction os with
      | nil => intro k a; rfl
      | cons x os ih => intro k a; unfold fill; simp [ih]
    refine (this _ ops.toList 0 a0).symm.trans (fill_congr _ _ _ (fun j _ hj => (rep j).symm) (fun _ _ _ => rfl))
  · intro i hi hl
    rw [rep] at hl
    cases hl
end Rg
end Go.Proofs.YtodgfechhielaaaGreatDoor
