/-
  Joined texts: contracts and plain laws.
-/
import Derived.Orders
import Derived.Test.YtmipenpeebmjkaaGreatB3
import Derived.Deep.DeepCutAuto
import Derived.WalkKit
import Derived.Test.YtmipenpeebmjkaaGreatB1
import Derived.RegionTactic
import Derived.Deep.QuietTactic
import Derived.BigQuiet
import Derived.OwnWalk
import Derived.Laws.Bits64b
namespace Go.Proofs.YtmipenpeebmjkaaGreat
set_option linter.unusedSimpArgs false
set_option linter.unusedVariables false
open Go
namespace Rg
variable {P : Program} {Q : Exit → Act → World → Prop} {md : Region.Mode}
/-- the operations that have come up, their values laid -/
def fill (l : Nat → Bool) (vals : Nat → Value) : List Oper → Nat → Act → Act
  | [], _, a => a
  | o :: os, k, a => fill l vals os (k + 1) (if l k then a.put o.dst (vals k) else a)
/-- two operations lay their values in different slots -/
def sep (o x : Oper) : Bool := match o.dst with | some d => x.dst != some d | none => true
/-- no two lay their values in one slot -/
def apart : List Oper → Bool
  | [] => true
  | o :: os => os.all (sep o) && apart os
theorem fill_congr {l l' : Nat → Bool} {v v' : Nat → Value} : ∀ (os : List Oper) (k : Nat) (a : Act), (∀ j, k ≤ j → j < k + os.length → l j = l' j) → (∀ j, k ≤ j → l j = true → v j = v' j) → fill l v os k a = fill l' v' os k a
  | [], _, _, _, _ => rfl
  | o :: os, k, a, h1, h2 => by
    unfold fill
    rw [← h1 k (Nat.le_refl _) (by simp)]
    cases hl : l k
    · simp only [Bool.false_eq_true, if_false]
      exact fill_congr os (k + 1) a (fun j hj hj2 => h1 j (by omega) (by simp; omega)) (fun j hj => h2 j (by omega))
    · simp only [if_true]
      rw [h2 k (Nat.le_refl _) hl]
      exact fill_congr os (k + 1) _ (fun j hj hj2 => h1 j (by omega) (by simp; omega)) (fun j hj => h2 j (by omega))
theorem fill_put {l : Nat → Bool} {v : Nat → Value} {d : Option Tmp} {u : Value} : ∀ (os : List Oper) (k : Nat) (a : Act), (∀ x ∈ os, ∀ t, d = some t → x.dst ≠ some t) → (fill l v os k a).put d u = fill l v os k (a.put d u)
  | [], _, _, _ => rfl
  | o :: os, k, a, h => by
    unfold fill
    rw [fill_put os (k + 1) _ (fun x hx => h x (List.mem_cons_of_mem _ hx))]
    congr 1
    split
    · exact (Act.put_comm a u (v k) (h o (List.mem_cons_self ..))).symm
    · rfl
theorem fill_add {l : Nat → Bool} {v : Nat → Value} {u : Value} : ∀ (os : List Oper) (k i : Nat) (o : Oper) (a : Act), apart os = true → os[i]? = some o → l (k + i) = false →
    (fill l v os k a).put o.dst u = fill (fun j => if j = k + i then true else l j) (fun j => if j = k + i then u else v j) os k a
  | [], _, _, _, _, _, h, _ => by simp at h
  | x :: os, k, 0, o, a, ha, h, hl => by
    simp only [List.getElem?_cons_zero, Option.some.injEq] at h
    subst h
    rw [apart, Bool.and_eq_true] at ha
    have hs : ∀ y ∈ os, ∀ t, x.dst = some t → y.dst ≠ some t := fun y hy t ht => by
      have := List.all_eq_true.1 ha.1 y hy
      rw [sep, ht] at this
      simpa using this
    unfold fill
    rw [Nat.add_zero] at hl ⊢
    rw [fill_put os (k + 1) _ hs, if_neg (by simp [hl])]
    have e : (if (if k = k then true else l k) = true then a.put x.dst (if k = k then u else v k) else a) = a.put x.dst u := by simp
    show _ = fill _ _ os (k + 1) (if (if k = k then true else l k) = true then a.put x.dst (if k = k then u else v k) else a)
    rw [e]
    exact fill_congr os (k + 1) _ (fun j hj _ => by rw [if_neg (by omega)]) (fun j hj _ => by rw [if_neg (by omega)])
  | x :: os, k, i + 1, o, a, ha, h, hl => by
    rw [apart, Bool.and_eq_true] at ha
    rw [show k + (i + 1) = k + 1 + i from by omega] at hl ⊢
    unfold fill
    rw [fill_add os (k + 1) i o _ ha.2 (by simpa using h) hl]
    congr 1
    rw [if_neg (show ¬ k = k + 1 + i by omega), if_neg (show ¬ k = k + 1 + i by omega)]
theorem put_size (a : Act) (d : Option Tmp) (v : Value) : (a.put d v).tmps.size = a.tmps.size := by
  cases d <;> simp [Act.put]
theorem put_get {a : Act} {d : Option Tmp} {v : Value} {t : Nat} (h : d ≠ some t) : (a.put d v).tmps[t]? = a.tmps[t]? := by
  cases d with
  | none => rfl
  | some d => simp only [Act.put]; rw [Array.getElem?_setIfInBounds_ne (by intro e; exact h (by rw [e]))]
theorem put_get_self {a : Act} {v : Value} {t : Nat} (h : t < a.tmps.size) : (a.put (some t) v).tmps[t]? = some v := by
  simp [Act.put, h]
theorem fill_size {l : Nat → Bool} {v : Nat → Value} : ∀ (os : List Oper) (k : Nat) (a : Act), (fill l v os k a).tmps.size = a.tmps.size
  | [], _, _ => rfl
  | o :: os, k, a => by
    unfold fill
    rw [fill_size os (k + 1)]
    split
    · exact put_size a _ _
    · rfl
theorem fill_other {l : Nat → Bool} {v : Nat → Value} {t : Nat} : ∀ (os : List Oper) (k : Nat) (a : Act), (∀ i o, os[i]? = some o → l (k + i) = true → o.dst ≠ some t) → (fill l v os k a).tmps[t]? = a.tmps[t]?
  | [], _, _, _ => rfl
  | o :: os, k, a, h => by
    unfold fill
    rw [fill_other os (k + 1) _ (fun i x hx hl => h (i + 1) x (by simpa using hx) (by rw [show k + (i + 1) = k + 1 + i from by omega]; exact hl))]
    split
    · rename_i hk
      exact put_get (h 0 o rfl hk)
    · rfl
theorem fill_at {l : Nat → Bool} {v : Nat → Value} {t : Nat} : ∀ (os : List Oper) (k i : Nat) (o : Oper) (a : Act), apart os = true → os[i]? = some o → l (k + i) = true → o.dst = some t → t < a.tmps.size → (fill l v os k a).tmps[t]? = some (v (k + i))
  | [], _, _, _, _, _, h, _, _, _ => by simp at h
  | x :: os, k, 0, o, a, ha, h, hl, hd, ht => by
    simp only [List.getElem?_cons_zero, Option.some.injEq] at h
    subst h
    rw [apart, Bool.and_eq_true] at ha
    unfold fill
    rw [Nat.add_zero] at hl ⊢
    rw [fill_other os (k + 1) _ (fun i y hy _ => by
      have := List.all_eq_true.1 ha.1 y (List.mem_of_getElem? hy)
      rw [sep, hd] at this
      simpa using this), if_pos hl, hd]
    exact put_get_self ht
  | x :: os, k, i + 1, o, a, ha, h, hl, hd, ht => by
    rw [apart, Bool.and_eq_true] at ha
    rw [show k + (i + 1) = k + 1 + i from by omega] at hl ⊢
    unfold fill
    refine fill_at os (k + 1) i o _ ha.2 (by simpa using h) hl hd ?_
    split
    · rw [put_size]; exact ht
    · exact ht
/-- how many have not come up -/
def left (l : Nat → Bool) : Nat → Nat
  | 0 => 0
  | n + 1 => left l n + if l n then 0 else 1
theorem left_same {l l' : Nat → Bool} : ∀ n : Nat, (∀ j, j < n → l j = l' j) → left l n = left l' n
  | 0, _ => rfl
  | n + 1, h => by unfold left; rw [left_same n (fun j hj => h j (by omega)), h n (by omega)]
theorem left_set {l l' : Nat → Bool} {i : Nat} (h0 : l i = false) (h1 : l' i = true) (h2 : ∀ j, j ≠ i → l' j = l j) : ∀ n : Nat, i < n → left l' n + 1 = left l n
  | 0, h => by omega
  | n + 1, h => by
    unfold left
    rcases Nat.lt_or_ge i n with q | q
    · have := left_set h0 h1 h2 n q
      rw [h2 n (by omega)]
      omega
    · obtain rfl : i = n := by omega
      rw [left_same i (l := l') (l' := l) (fun j hj => h2 j (by omega)), h0, h1]
      simp
theorem left_zero {l : Nat → Bool} : ∀ n : Nat, left l n = 0 → ∀ j, j < n → l j = true
  | 0, _, j, hj => by omega
  | n + 1, h, j, hj => by
    unfold left at h
    cases hn : l n
    · rw [hn] at h; simp at h
    · rcases Nat.lt_or_ge j n with q | q
      · exact left_zero n (by omega) j q
      · obtain rfl : j = n := by omega
        exact hn
/-- what a slot holds where an operation looks at it -/
def rd (md : Region.Mode) (ops : Array Oper) (a0 : Act) (vals : Nat → Value) (o : Oper) (t : Nat) : Option Value :=
  match o.after.toList.find? (fun e => Region.binds md e && ((ops[e.on]?).bind (·.dst)) == some t) with
  | some e => some (vals e.on)
  | none => a0.tmps[t]?
/-- whoever writes what an operation looks at comes ahead of it or behind it -/
def reads1 (md : Region.Mode) (ops : Array Oper) (i : Nat) (o : Oper) (t : Nat) : Bool :=
  o.after.toList.any (fun e => Region.binds md e && ((ops[e.on]?).bind (·.dst)) == some t) ||
  (List.range ops.size).all fun j => match ops[j]? with
    | some x => x.dst != some t || j == i || x.after.toList.any (fun e => Region.binds md e && e.on == i)
    | none => true
def okReads (md : Region.Mode) (ops : Array Oper) : Bool := (List.range ops.size).all fun i => match ops[i]? with
  | some o => (o.looksAt ops).all (reads1 md ops i o)
  | none => true
def okOps (md : Region.Mode) (ops : Array Oper) (n : Nat) : Bool :=
  apart ops.toList && okReads md ops && ((List.range ops.size).all fun i => match ops[i]? with
    | some o => o.after.toList.all (fun e => !Region.binds md e || decide (e.on < i)) && (match o.dst with | some d => decide (d < n) | none => true)
    | none => true)
section
variable (P) (Q) (md) (ops : Array Oper) (S : World → Prop) (V : Nat → Value → World → Prop) (a0 : Act)
/-- what is owed for an operation -/
def Step (i : Nat) (o : Oper) (a : Act) (w : World) : Prop :=
  if Region.wanted o (yielded ops a.tmps) = true then o.wp P a w (fun a' w' => ∃ v, a' = a.put o.dst v ∧ V i v w' ∧ S w' ∧ ∀ j u, V j u w → V j u w') Q else V i undef w
def Req (i : Nat) (o : Oper) : Prop := ∀ (a : Act) (w : World) (vals : Nat → Value), S w → (∀ e ∈ o.after, Region.binds md e = true → V e.on (vals e.on) w) → (∀ t ∈ o.looksAt ops, a.tmps[t]? = rd md ops a0 vals o t) → Step P Q ops S V i o a w
def Reqs : List Oper → Nat → Prop
  | [], _ => True
  | o :: os, k => Req P Q md ops S V a0 k o ∧ Reqs os (k + 1)
theorem Reqs.at {os : List Oper} {k : Nat} (h : Reqs P Q md ops S V a0 os k) : ∀ {i : Nat} {o : Oper}, os[i]? = some o → Req P Q md ops S V a0 (k + i) o := by
  induction os generalizing k with
  | nil => intro i o hi; simp at hi
  | cons x os ih =>
    intro i o hi
    cases i with
    | zero =>
      simp only [List.getElem?_cons_zero, Option.some.injEq] at hi
      subst hi
      exact h.1
    | succ i =>
      have := ih h.2 (i := i) (o := o) (by simpa using hi)
      rw [show k + (i + 1) = k + 1 + i from by omega]
      exact this
/-- what holds between two operations -/
def Inv (L : Array Bool) (a : Act) (w : World) : Prop :=
  L.size = ops.size ∧ S w ∧ (∀ i o, ops[i]? = some o → L.getD i false = true → ∀ e ∈ o.after, Region.binds md e = true → L.getD e.on false = true) ∧
  ∃ vals : Nat → Value, a = fill (fun j => L.getD j false) vals ops.toList 0 a0 ∧ ∀ i, i < ops.size → L.getD i false = true → V i (vals i) w
end
theorem wpAny_of {ops : Array Oper} {S : World → Prop} {V : Nat → Value → World → Prop} {a0 : Act} (hok : okOps md ops a0.tmps.size = true)
    (hR : Reqs P Q md ops S V a0 ops.toList 0) (hF : ∀ (vals : Nat → Value) (w : World), S w → (∀ i, i < ops.size → V i (vals i) w) → Q .normal (fill (fun _ => true) vals ops.toList 0 a0) w) :
    ∀ (fuel : Nat) (L : Array Bool) (a : Act) (w : World), left (fun j => L.getD j false) ops.size ≤ fuel → Inv md ops S V a0 L a w → wpAny P md ops Q fuel L a w := by
  rw [okOps, Bool.and_eq_true, Bool.and_eq_true] at hok
  obtain ⟨⟨hap, hrd⟩, hac⟩ := hok
  have hac' : ∀ i o, ops[i]? = some o → (∀ e ∈ o.after, Region.binds md e = true → e.on < i) ∧ ∀ d, o.dst = some d → d < a0.tmps.size := fun i o hi => by
    have hlt : i < ops.size := (Array.getElem?_eq_some_iff.1 hi).1
    have := List.all_eq_true.1 hac i (List.mem_range.2 hlt)
    rw [hi] at this
    simp only [Bool.and_eq_true, List.all_eq_true, Bool.or_eq_true, Bool.not_eq_true', decide_eq_true_eq] at this
    refine ⟨fun e he hb => ?_, fun d hd => ?_⟩
    · rcases this.1 e (Array.mem_toList_iff.2 he) with q | q
      · rw [hb] at q; cases q
      · exact q
    · have := this.2
      rw [hd] at this
      simpa using this
  have htl : ∀ i, ops.toList[i]? = ops[i]? := fun i => Array.getElem?_toList
  -- where nothing is ready all have come up
  have hall : ∀ L : Array Bool, L.size = ops.size → Region.ready md ops L = [] → ∀ i, i < ops.size → L.getD i false = true := by
    intro L hL hr i
    induction i using Nat.strongRecOn with
    | ind i ih =>
      intro hi
      cases hl : L.getD i false
      · exfalso
        have hm : i ∈ Region.ready md ops L := by
          unfold Region.ready
          rw [List.mem_filter]
          refine ⟨List.mem_range.2 hi, ?_⟩
          have hg : L.getD i true = false := by
            rw [Array.getD_eq_getD_getElem?, Array.getElem?_eq_getElem (by omega)] at hl ⊢
            exact hl
          rw [hg, Array.getElem?_eq_getElem hi]
          simp only [Bool.not_false, Bool.true_and, Option.map_some, Option.getD_some]
          rw [Array.all_eq_true_iff_forall_mem]
          intro e he
          cases hb : Region.binds md e
          · rfl
          · have hlt := (hac' i _ (Array.getElem?_eq_getElem hi)).1 e he hb
            simp [ih e.on hlt (by omega)]
        rw [hr] at hm
        cases hm
      · rfl
  have hfin : ∀ (L : Array Bool) (a : Act) (w : World), Inv md ops S V a0 L a w → Region.ready md ops L = [] → Q .normal a w := by
    rintro L a w ⟨hL, hS, -, vals, rfl, hv⟩ hr
    have h := hall L hL hr
    rw [fill_congr (l' := fun _ => true) (v' := vals) ops.toList 0 a0 (fun j _ hj => h j (by simpa using hj)) (fun _ _ _ => rfl)]
    exact hF vals w hS fun i hi => hv i hi (h i hi)
  intro fuel
  induction fuel with
  | zero =>
    intro L a w hl hI
    have hz := left_zero _ (Nat.le_zero.1 hl)
    have hr : Region.ready md ops L = [] := by
      unfold Region.ready
      rw [List.filter_eq_nil_iff]
      intro i hi
      have hi := List.mem_range.1 hi
      have h1 := hz i hi
      have hg : L.getD i true = true := by
        have hsz := hI.1
        simp only [Array.getD_eq_getD_getElem?] at h1 ⊢
        rw [Array.getElem?_eq_getElem (by omega)] at h1 ⊢
        exact h1
      rw [hg]
      simp
    exact ⟨hr, hfin L a w hI hr⟩
  | succ fuel ih =>
    intro L a w hl hI
    refine ⟨hfin L a w hI, fun i hi => ?_⟩
    obtain ⟨hL, hS, hdc, vals, rfl, hv⟩ := hI
    obtain ⟨hun, o, ho, haf⟩ := mem_ready.1 hi
    have hilt : i < ops.size := (Array.getElem?_eq_some_iff.1 ho).1
    have hun' : L.getD i false = false := by
      simp only [Array.getD_eq_getD_getElem?] at hun ⊢
      rw [Array.getElem?_eq_getElem (by omega)] at hun ⊢
      exact hun
    have hq := Reqs.at P Q md ops S V a0 hR (i := i) (o := o) (by rw [htl]; exact ho)
    rw [Nat.zero_add] at hq
    have hst := hq (fill (fun j => L.getD j false) vals ops.toList 0 a0) w vals hS
      (fun e he hb => hv e.on (by have := (hac' i o ho).1 e he hb; omega) (haf e he hb))
      (fun t ht => by
        unfold rd
        have hr1 : reads1 md ops i o t = true := by
          have := List.all_eq_true.1 hrd i (List.mem_range.2 hilt)
          rw [ho] at this
          exact List.all_eq_true.1 this t ht
        cases hf : o.after.toList.find? (fun e => Region.binds md e && ((ops[e.on]?).bind (·.dst)) == some t) with
        | some e =>
          have h1 := List.find?_some hf
          have h2 := List.mem_of_find?_eq_some hf
          rw [Bool.and_eq_true, beq_iff_eq] at h1
          obtain ⟨x, hx, hxd⟩ := Option.bind_eq_some_iff.1 h1.2
          have h3 := haf e (Array.mem_toList_iff.1 h2) h1.1
          have := fill_at (l := fun j => L.getD j false) (v := vals) ops.toList 0 e.on x a0 hap (by rw [htl]; exact hx) (by simpa using h3) hxd ((hac' e.on x hx).2 t hxd)
          rw [Nat.zero_add] at this
          exact this
        | none =>
          refine fill_other ops.toList 0 a0 fun j x hx hlj hxd => ?_
          rw [Nat.zero_add] at hlj
          rw [htl] at hx
          have hjlt : j < ops.size := (Array.getElem?_eq_some_iff.1 hx).1
          rw [reads1, Bool.or_eq_true] at hr1
          rcases hr1 with q | q
          · obtain ⟨e, he, hp⟩ := List.any_eq_true.1 q
            have := List.find?_eq_none.1 hf e he
            exact this hp
          · have := List.all_eq_true.1 q j (List.mem_range.2 hjlt)
            rw [hx] at this
            simp only [Bool.or_eq_true, bne_iff_ne, ne_eq, beq_iff_eq, List.any_eq_true, Bool.and_eq_true] at this
            rcases this with (q1 | q1) | ⟨e, he, hb, hon⟩
            · exact q1 hxd
            · subst q1
              rw [hun'] at hlj
              cases hlj
            · have := hdc j x hx hlj e (Array.mem_toList_iff.1 he) hb
              rw [hon, hun'] at this
              cases this)
    have hnext : ∀ (v : Value) (w' : World), V i v w' → S w' → (∀ j u, V j u w → V j u w') → wpAny P md ops Q fuel (L.setIfInBounds i true) ((fill (fun j => L.getD j false) vals ops.toList 0 a0).put o.dst v) w' := by
      intro v w' h1 h2 h3
      have e1 : ∀ j, (L.setIfInBounds i true).getD j false = if j = i then true else L.getD j false := fun j => by
        simp only [Array.getD_eq_getD_getElem?]
        by_cases hji : j = i
        · subst hji
          rw [Array.getElem?_setIfInBounds_self_of_lt (by omega)]
          simp
        · rw [Array.getElem?_setIfInBounds_ne (fun e => hji e.symm), if_neg hji]
      refine ih _ _ _ ?_ ⟨by simpa using hL, h2, ?_, fun j => if j = i then v else vals j, ?_, ?_⟩
      · have := left_set (l := fun j => L.getD j false) (l' := fun j => (L.setIfInBounds i true).getD j false) hun' (by rw [e1, if_pos rfl]) (fun j hj => by rw [e1, if_neg hj]) ops.size hilt
        omega
      · intro j x hx hlj e he hb
        rw [e1] at hlj ⊢
        split
        · rfl
        · split at hlj
          · rename_i hji
            subst hji
            rw [ho] at hx
            cases hx
            exact haf e he hb
          · exact hdc j x hx hlj e he hb
      · rw [fill_add ops.toList 0 i o a0 hap (by rw [htl]; exact ho) (by simpa using hun')]
        rw [Nat.zero_add]
        exact fill_congr _ _ _ (fun j _ _ => (e1 j).symm) (fun _ _ _ => rfl)
      · intro j hj hlj
        rw [e1] at hlj
        show V j (if j = i then v else vals j) w'
        split
        · rename_i hji
          rw [hji]
          exact h1
        · rename_i hji
          rw [if_neg hji] at hlj
          exact h3 _ _ (hv j hj hlj)
    unfold wpOp
    rw [ho]
    unfold Step at hst
    dsimp only
    split at hst
    · rename_i hw
      rw [if_pos hw]
      refine Or.inl (Oper.wp_mono ?_ hst)
      rintro a' w' ⟨v, rfl, h1, h2, h3⟩
      exact hnext v w' h1 h2 h3
    · rename_i hw
      rw [if_neg hw]
      exact hnext undef w hst hS fun _ _ h => h
/-- **THE BEGINNING** -/
theorem region {id : Nat} {ops : Array Oper} {a0 : Act} {w : World} (S : World → Prop) (V : Nat → Value → World → Prop) (hm : P.follows .mixedOrders = true) (hok : okOps .any ops a0.tmps.size = true)
    (hS : S { w with drawn := w.drawn + 1 }) (hR : Reqs P Q .any ops S V a0 ops.toList 0)
    (hF : ∀ (vals : Nat → Value) (w : World), S w → (∀ i, i < ops.size → V i (vals i) w) → Q .normal (fill (fun _ => true) vals ops.toList 0 a0) w) : (Code.region id ops true).wp P Q a0 w := by
  have rep : ∀ j, (Array.replicate ops.size false).getD j false = false := fun j => by
    rw [Array.getD_eq_getD_getElem?, Array.getElem?_replicate]
    split <;> rfl
  refine wp_region_any hm (wpAny_of hok hR hF _ _ _ _ ?_ ⟨by simp, hS, ?_, fun _ => undef, ?_, ?_⟩)
  · have : ∀ (l : Nat → Bool) n, left l n ≤ n := fun l n => by
      induction n with
      | zero => exact Nat.le_refl _
      | succ n ih => unfold left; split <;> omega
    exact this _ _
  · intro i o hi hl
    rw [rep] at hl
    cases hl
  · have : ∀ (v : Nat → Value) (os : List Oper) (k : Nat) (a : Act), fill (fun _ => false) v os k a = a := fun v os => by
      induction os with
      | nil => intro k a; rfl
      | cons x os ih => intro k a; unfold fill; simp [ih]
    refine (this _ ops.toList 0 a0).symm.trans (fill_congr _ _ _ (fun j _ hj => (rep j).symm) (fun _ _ _ => rfl))
  · intro i hi hl
    rw [rep] at hl
    cases hl
end Rg
end Go.Proofs.YtmipenpeebmjkaaGreat

namespace Go.Proofs.YtmipenpeebmjkaaGreat
set_option linter.unusedSimpArgs false
set_option linter.unusedVariables false
open Go Go.RowKit
namespace Rg
/-- what is told of a value: it is just this one; a slice of these numbers in a block of its own; a number of which this holds -/
inductive Val where
  | is (v : Value)
  | lit (xs : List Int)
  | num (p : Int → Prop)
  | such (p : Value → Prop)
/-- a slice of these numbers that can be read -/
def LitOk (v : Value) (xs : List Int) (w : World) : Prop := ∃ b, v = .slice (some ⟨b, 0, none⟩) xs.length xs.length ∧ b < w.heap.size ∧ ∀ (j : Nat) (x : Int), xs[j]? = some x → w.cell? ⟨b, j, none⟩ = some (.int .i64 x)
def Val.ok : Val → Value → World → Prop
  | .is x, v, _ => v = x
  | .lit xs, v, w => LitOk v xs w
  | .num p, v, _ => ∃ x, v = .int .i64 x ∧ p x
  | .such p, v, _ => p v
theorem Val.keep {w w' : World} (hb : Below w.heap.size w w') : ∀ (T : Val) (v : Value), T.ok v w → T.ok v w'
  | .is _, _, h => h
  | .lit xs, _, ⟨b, h1, h2, h3⟩ => ⟨b, h1, Nat.lt_of_lt_of_le h2 hb.size, fun j x hx => (hb.cell (p := ⟨b, j, none⟩) h2).trans (h3 j x hx)⟩
  | .num _, _, h => h
  | .such _, _, h => h
def tbl (T : List Val) (i : Nat) : Val := T.getD i (.is undef)
variable {P : Program} {Q : Exit → Act → World → Prop}
/-- what an operation may know of a slot that it looks at -/
def Look (ops : Array Oper) (a0 : Act) (T : List Val) (o : Oper) (a : Act) (w : World) (t : Nat) : Prop :=
  match o.after.toList.find? (fun e => Region.binds .any e && ((ops[e.on]?).bind (·.dst)) == some t) with
  | some e => ∃ v, a.tmps[t]? = some v ∧ (tbl T e.on).ok v w
  | none => a.tmps[t]? = a0.tmps[t]?
/-- an operation does its part -/
def Does (P : Program) (ops : Array Oper) (Q : Exit → Act → World → Prop) (V : Val) (o : Oper) (a : Act) (w : World) : Prop :=
  if Region.wanted o (yielded ops a.tmps) = true then o.wp P a w (fun a' w' => ∃ v, a' = a.put o.dst v ∧ V.ok v w' ∧ Below w.heap.size w w') Q else V.ok undef w
def Owed (P : Program) (ops : Array Oper) (Q : Exit → Act → World → Prop) (a0 : Act) (T : List Val) (w1 : World) (i : Nat) (o : Oper) : Prop :=
  ∀ (a : Act) (w : World), Below w1.heap.size w1 w → (∀ t ∈ o.looksAt ops, Look ops a0 T o a w t) → Does P ops Q (tbl T i) o a w
def AllOwed (P : Program) (ops : Array Oper) (Q : Exit → Act → World → Prop) (a0 : Act) (T : List Val) (w1 : World) : List Oper → Nat → Prop
  | [], _ => True
  | o :: os, k => Owed P ops Q a0 T w1 k o ∧ AllOwed P ops Q a0 T w1 os (k + 1)
theorem reqs_of {ops : Array Oper} {a0 : Act} {T : List Val} {w1 : World} : ∀ (os : List Oper) (k : Nat), AllOwed P ops Q a0 T w1 os k → Reqs P Q .any ops (fun w => Below w1.heap.size w1 w) (fun i v w => (tbl T i).ok v w) a0 os k
  | [], _, _ => trivial
  | o :: os, k, h => by
    refine ⟨fun a w vals hS hv hr => ?_, reqs_of os (k + 1) h.2⟩
    have h1 := h.1 a w hS (fun t ht => by
      have := hr t ht
      unfold rd at this
      unfold Look
      split
      · rename_i e he
        rw [he] at this
        have h2 := List.find?_some he
        rw [Bool.and_eq_true] at h2
        exact ⟨_, this, hv e (Array.mem_toList_iff.1 (List.mem_of_find?_eq_some he)) h2.1⟩
      · rename_i he
        rw [he] at this
        exact this)
    unfold Does at h1
    unfold Step
    split
    · rename_i hw
      rw [if_pos hw] at h1
      refine Oper.wp_mono ?_ h1
      rintro a' w' ⟨v, e1, e2, e3⟩
      exact ⟨v, e1, e2, hS.trans (e3.mono hS.size), fun j u hu => Val.keep e3 _ _ hu⟩
    · rename_i hw
      rw [if_neg hw] at h1
      exact h1
/-- **THE RULE** -/
theorem walk {id : Nat} {ops : Array Oper} {a0 : Act} {w : World} (T : List Val) (hm : P.follows .mixedOrders = true) (hok : okOps .any ops a0.tmps.size = true)
    (hR : AllOwed P ops Q a0 T w ops.toList 0)
    (hF : ∀ (vals : Nat → Value) (w' : World), Below w.heap.size w w' → (∀ i, i < ops.size → (tbl T i).ok (vals i) w') → Q .normal (fill (fun _ => true) vals ops.toList 0 a0) w') : (Code.region id ops true).wp P Q a0 w :=
  region (fun w' => Below w.heap.size w w') (fun i v w' => (tbl T i).ok v w') hm hok ((Below.refl _ w).drew) (reqs_of _ _ hR) hF
theorem ev {a : Act} {t : Nat} {v : Value} (h : a.tmps[t]? = some v) : a.eval (.tmp t) = v := by
  show a.tmps.getD t undef = v
  rw [Array.getD_eq_getD_getElem?, h]
  rfl
theorem ev1 {a : Act} {t : Nat} {x : Value} {w : World} (h : ∃ v, a.tmps[t]? = some v ∧ (Val.is x).ok v w) : a.tmps[t]? = some x := by
  obtain ⟨v, h1, rfl⟩ := h
  exact h1
/-- an operation that yields a value and turns nothing -/
theorem pure1 {ops : Array Oper} {o : Oper} {a : Act} {w : World} {x : Value} (hw : Region.wanted o (yielded ops a.tmps) = true) (h : (execOp a.eval o).run P w = .ok (.value x) w) : Does P ops Q (.is x) o a w := by
  unfold Does
  rw [if_pos hw]
  unfold Oper.wp
  rw [h]
  exact ⟨x, rfl, rfl, Below.refl _ _⟩
/-- one that is not wanted -/
theorem skip1 {ops : Array Oper} {o : Oper} {a : Act} {w : World} (hw : Region.wanted o (yielded ops a.tmps) = false) : Does P ops Q (.is undef) o a w := by
  unfold Does
  rw [if_neg (by rw [hw]; exact Bool.false_ne_true)]
  exact rfl
theorem yld {ops : Array Oper} {a : Act} {j t : Nat} {b : Bool} (h1 : (ops[j]?).bind (·.dst) = some t) (h2 : a.tmps[t]? = some (.bool b)) : yielded ops a.tmps j = some b := by
  unfold yielded
  rw [h1]
  show (match a.tmps[t]? with | some (.bool b) => some b | _ => none) = some b
  rw [h2]
theorem wantedT {o : Oper} {y : Nat → Option Bool} {j : Nat} {b : Bool} (hg : o.guard = some (j, b)) (hy : y j = some b) : Region.wanted o y = true := by
  unfold Region.wanted
  rw [hg]
  show (y j == some b) = true
  rw [hy]
  cases b <;> rfl
theorem wantedF {o : Oper} {y : Nat → Option Bool} {j : Nat} {b : Bool} (hg : o.guard = some (j, !b)) (hy : y j = some b) : Region.wanted o y = false := by
  unfold Region.wanted
  rw [hg]
  show (y j == some (!b)) = false
  rw [hy]
  cases b <;> rfl
theorem wr {x : Int} (h1 : -9223372036854775808 ≤ x) (h2 : x ≤ 9223372036854775807) : IntKind.i64.wrap x = x := by rw [IntKind.wrap_i64]; omega
/-- an operation that lays a block -/
theorem lay1 {ops : Array Oper} {o : Oper} {a : Act} {w : World} {x : Value} {V : Val} {ob : Obj} (hw : Region.wanted o (yielded ops a.tmps) = true) (h : (execOp a.eval o).run P w = .ok (.value x) (w.alloc ob)) (hV : V.ok x (w.alloc ob)) : Does P ops Q V o a w := by
  unfold Does
  rw [if_pos hw]
  unfold Oper.wp
  rw [h]
  exact ⟨x, rfl, hV, (Below.refl _ _).alloc (Nat.le_refl _) ob⟩
/-- a call -/
theorem call1 {ops : Array Oper} {o : Oper} {a : Act} {w : World} {V : Val} {f : FuncId} {args : Array Value} (hw : Region.wanted o (yielded ops a.tmps) = true) (h : (execOp a.eval o).run P w = .ok (.enter f args) w)
    (hc : Calls P f args w fun e w' => ∃ v, e = .returned v ∧ V.ok v w' ∧ Below w.heap.size w w') : Does P ops Q V o a w := by
  unfold Does
  rw [if_pos hw]
  unfold Oper.wp
  rw [h]
  refine Calls.mono hc ?_
  rintro e w' ⟨v, rfl, h1, h2⟩
  exact ⟨v, rfl, h1, h2⟩
end Rg
end Go.Proofs.YtmipenpeebmjkaaGreat

namespace Go.Proofs.YtmipenpeebmjkaaGreat
set_option linter.unusedSimpArgs false
set_option linter.unusedVariables false
open Go.RowKit
namespace Gr
variable {w0 w w' : World} {r : Option Nat}
theorem set {g : Nat} (h : w0.grownBy w (some g)) (o : Nat) (v : Value) : w0.grownBy (w.setCell ⟨g, o, none⟩ v) (some g) := by
  refine ⟨h.os, h.tape, h.output, by simpa [World.setCell] using h.size, fun i hi hne => ?_⟩
  exact (Below.heap_setCell _ _ _ _ (by rintro rfl; exact hne rfl)).trans (h.block i hi hne)
theorem setNew (h : w0.grownBy w r) {p : Addr} (hp : w0.heap.size ≤ p.block) (v : Value) : w0.grownBy (w.setCell p v) r := by
  refine ⟨h.os, h.tape, h.output, by simpa [World.setCell] using h.size, fun i hi hne => ?_⟩
  exact (Below.heap_setCell _ _ _ _ (by omega)).trans (h.block i hi hne)
theorem frozen (hg : w.grownBy w' r) {a : Addr} (hl : a.block < w.heap.size) (hne : some a.block ≠ r) : w'.frozen? a = w.frozen? a :=
  World.frozen?_of_block (hg.block _ hl hne)
theorem drew (h : w0.grownBy w r) : w0.grownBy w.drew r := grown_dr h 1
theorem below {B : Nat} (h : w0.grownBy w r) (k : Below B w w') (hB : w.heap.size ≤ B) : w0.grownBy w' r := grown_tr h (below_grown (k.mono hB) r)
theorem alloc (h : w0.grownBy w r) (o : Obj) : w0.grownBy (w.alloc o) r := grown_tr h (World.grownBy_alloc w o r)
theorem cellK {g b o : Nat} {v : Value} (hg : w.grownBy w' (some g)) (h : w.cell? ⟨b, o, none⟩ = some v) (hn : b ≠ g) : w'.cell? ⟨b, o, none⟩ = some v :=
  hg.cell h (by simpa using hn)
theorem frzK {g b o : Nat} (hg : w.grownBy w' (some g)) (hs : b < w.heap.size) (h : w.frozen? ⟨b, o, none⟩ = false) (hn : b ≠ g) : w'.frozen? ⟨b, o, none⟩ = false :=
  (frozen hg hs (by simpa using hn)).trans h
theorem sizeK {n : Nat} (hg : w.grownBy w' r) (h : n < w.heap.size) : n < w'.heap.size := Nat.lt_of_lt_of_le h hg.size
theorem toBelow {B g : Nat} {a : World} (h : Below B a w) (hg : w.grownBy w' (some g)) (hB : B ≤ w.heap.size) (hr : B ≤ g) : Below B a w' :=
  h.grown hg hB fun k hk => by cases hk; exact hr
theorem recell {W : World} {o o' : Obj} {p : Addr} {v : Value} (h : (W.alloc o).cell? p = some v) (hp : p.block = W.heap.size → False) : (W.alloc o').cell? p = some v := by
  have hb : p.block < W.heap.size := by
    have h1 := World.block_lt_of_cell? (W.alloc o) _ h
    rw [World.size_alloc] at h1
    rcases Nat.lt_or_ge p.block W.heap.size with h2 | h2
    · exact h2
    · exact (hp (by omega)).elim
  have e1 := (Below.alloc (Below.refl W.heap.size W) (Nat.le_refl _) o).cell (p := p) hb
  have e2 := (Below.alloc (Below.refl W.heap.size W) (Nat.le_refl _) o').cell (p := p) hb
  rw [e2, ← e1, h]
theorem far1 {W : World} {p q : Addr} {u v : Value} (h : W.cell? p = some v) (hp : p.block = q.block → False) : (W.setCell q u).cell? p = some v :=
  (World.cell?_of_block (w := W) (Below.heap_setCell _ _ _ _ hp)).trans h
theorem far2 {W : World} {p q q' : Addr} {u u' v : Value} (h : W.cell? p = some v) (hp : p.block = q.block → False) (hp' : p.block = q'.block → False) : ((W.setCell q u).setCell q' u').cell? p = some v := far1 (far1 h hp) hp'
theorem recell0 {W : World} {o : Obj} {p : Addr} {v : Value} (h : W.cell? p = some v) : (W.alloc o).cell? p = some v :=
  ((Below.alloc (Below.refl W.heap.size W) (Nat.le_refl _) o).cell (World.block_lt_of_cell? W _ h)).trans h
end Gr
/-- a box of two numbers that the walk made since W -/
def BoxAt (W wx : World) (s : Value) (n d : Int) : Prop :=
  ∃ g, s = .pointer (some ⟨g, 0, none⟩) ∧ wx.cell? ⟨g, 0, none⟩ = some (.int .i64 n) ∧ wx.cell? ⟨g, 1, none⟩ = some (.int .i64 d) ∧ W.heap.size ≤ g ∧ g < wx.heap.size
structure Zb (w : World) (b : Nat) : Prop where
  c0 : w.cell? ⟨b, 0, none⟩ = some (.int .i64 0)
  c1 : w.cell? ⟨b, 1, none⟩ = some (.int .i64 0)
  f0 : w.frozen? ⟨b, 0, none⟩ = false
  f1 : w.frozen? ⟨b, 1, none⟩ = false
  size : b < w.heap.size
theorem Zb.new (Y : World) (T : TypeId) : Zb (Y.alloc (.cells #[.int .i64 0, .int .i64 0] T)) Y.heap.size :=
  ⟨by rw [World.cell?_alloc_at _ _ _ _ rfl]; rfl, by rw [World.cell?_alloc_at _ _ _ _ rfl]; rfl, by simp [go_sem], by simp [go_sem], by rw [World.size_alloc]; omega⟩
theorem Zb.newD (Y : World) (T : TypeId) : Zb ((Y.alloc (.cells #[.int .i64 0, .int .i64 0] T)).drew) Y.heap.size :=
  have h := Zb.new Y T
  ⟨h.c0, h.c1, h.f0, h.f1, h.size⟩
theorem Zb.keep {w w' : World} {b : Nat} (h : Zb w b) (hb : Below w.heap.size w w') : Zb w' b :=
  ⟨(hb.cell (p := ⟨b, 0, none⟩) h.size).trans h.c0, (hb.cell (p := ⟨b, 1, none⟩) h.size).trans h.c1, (hb.frozen (p := ⟨b, 0, none⟩) h.size).trans h.f0, (hb.frozen (p := ⟨b, 1, none⟩) h.size).trans h.f1, Nat.lt_of_lt_of_le h.size hb.size⟩
theorem Zb.keepG {w w' : World} {b g : Nat} (h : Zb w b) (hg : w.grownBy w' (some g)) (hn : b ≠ g) : Zb w' b :=
  ⟨Gr.cellK hg h.c0 hn, Gr.cellK hg h.c1 hn, Gr.frzK hg h.size h.f0 hn, Gr.frzK hg h.size h.f1 hn, Gr.sizeK hg h.size⟩
end Go.Proofs.YtmipenpeebmjkaaGreat

namespace Go.Proofs.YtmipenpeebmjkaaGreat
set_option linter.unusedSimpArgs false
set_option linter.unusedVariables false
open Go.RowKit

/-- bytes that came in, in blocks below B -/
def Bytes (w : World) (B : Nat) (v : Value) (n : Nat) : Prop :=
  ∃ (A : Option Addr) (cap : Nat), v = .slice A n cap ∧ (n : Int) ≤ 9223372036854775807 ∧ ∀ j, j < n → ∃ (g o : Nat) (b : Int), A = some ⟨g, o, none⟩ ∧ g < B ∧ w.cell? ⟨g, o + j, none⟩ = some (.int .u8 b) ∧ 0 ≤ b ∧ b ≤ 255
structure Cur (w : World) (g B : Nat) (v : Value) (n k : Nat) : Prop where
  bytes : Bytes w B v n
  lt : B ≤ g
  c0 : w.cell? ⟨g, 0, none⟩ = some v
  c1 : w.cell? ⟨g, 1, none⟩ = some (.int .i64 k)
  c2 : ∃ s : Int, w.cell? ⟨g, 2, none⟩ = some (.int .u64 s)
  f1 : w.frozen? ⟨g, 1, none⟩ = false
  f2 : w.frozen? ⟨g, 2, none⟩ = false
  size : g < w.heap.size

theorem Bytes.keep {w w' : World} {B g n : Nat} {v : Value} (h : Bytes w B v n) (hg : w.grownBy w' (some g)) (hB : B ≤ g) : Bytes w' B v n := by
  obtain ⟨A, cap, e, hn, hb⟩ := h
  refine ⟨A, cap, e, hn, fun j hj => ?_⟩
  obtain ⟨gb, ob, b, e, hgb, hc, h1, h2⟩ := hb j hj
  exact ⟨gb, ob, b, e, hgb, Gr.cellK hg hc (by omega), h1, h2⟩
def NextPost (w : World) (g B : Nat) (v : Value) (n k m : Nat) (e : Ending) (w' : World) : Prop :=
  ∃ x : Int, e = .returned (.int .i64 x) ∧ (0 ≤ x ∧ x ≤ m) ∧ Cur w' g B v n (k + 1) ∧ w.grownBy w' (some g)
theorem NextPost.mk' {w w' : World} {g B n k m : Nat} {v : Value} {x : Int} (h : Cur w g B v n k) (hx : 0 ≤ x ∧ x ≤ m) (hg : w.grownBy w' (some g)) (c0 : w'.cell? ⟨g, 0, none⟩ = some v) (c1 : w'.cell? ⟨g, 1, none⟩ = some (.int .i64 (k + 1)))
    (c2 : ∃ s : Int, w'.cell? ⟨g, 2, none⟩ = some (.int .u64 s)) (f1 : w'.frozen? ⟨g, 1, none⟩ = false) (f2 : w'.frozen? ⟨g, 2, none⟩ = false) : NextPost w g B v n k m (.returned (.int .i64 x)) w' :=
  ⟨x, rfl, hx, ⟨h.bytes.keep hg h.lt, h.lt, c0, by rw [c1]; rfl, c2, f1, f2, Gr.sizeK hg h.size⟩, hg⟩
theorem low8 (X : Int) : 0 ≤ wrap64 (bits BinOp.and IntKind.u64 X 255) ∧ wrap64 (bits BinOp.and IntKind.u64 X 255) ≤ ((255 : Nat) : Int) := by
  have e : bits BinOp.and IntKind.u64 X 255 = (((BitVec.ofInt 64 X).toNat &&& 255 : Nat) : Int) := by
    show IntKind.u64.wrap ((BitVec.ofInt 64 X &&& BitVec.ofInt 64 (255 : Int)).toNat : Int) = _
    have h2 : (BitVec.ofInt 64 (255 : Int)).toNat = 255 := by decide
    rw [BitVec.toNat_and, h2, IntKind.wrap_u64]
    have : (BitVec.ofInt 64 X).toNat &&& 255 ≤ 255 := Nat.and_le_right
    omega
  have h : (BitVec.ofInt 64 X).toNat &&& 255 ≤ 255 := Nat.and_le_right
  rw [e, IntWalk.wrap64_in _ (by omega)]
  omega
/-- with a bound on the calls so far -/
def CurK (w : World) (g B : Nat) (v : Value) (n K : Nat) : Prop := ∃ k, k ≤ K ∧ Cur w g B v n k
def DrawPost (w : World) (g B : Nat) (v : Value) (n K : Nat) (lo hi : Int) (e : Ending) (w' : World) : Prop :=
  ∃ x : Int, e = .returned (.int .i64 x) ∧ (lo ≤ x ∧ x ≤ hi) ∧ CurK w' g B v n K ∧ w.grownBy w' (some g)
theorem CurK.size {w : World} {g B n K : Nat} {v : Value} (h : CurK w g B v n K) : g < w.heap.size := h.elim fun _ h => h.2.size
theorem CurK.keep {w w' : World} {g B n K : Nat} {v : Value} (h : CurK w g B v n K) (hb : Below w.heap.size w w') : CurK w' g B v n K := by
  obtain ⟨k, hk, h⟩ := h
  have hg := below_grown hb (some (w.heap.size + g + 1))
  obtain ⟨s, hs⟩ := h.c2
  have hl := h.size
  have hlt := h.lt
  refine ⟨k, hk, h.bytes.keep hg (by omega), h.lt, Gr.cellK hg h.c0 (by omega), Gr.cellK hg h.c1 (by omega), ⟨s, Gr.cellK hg hs (by omega)⟩, Gr.frzK hg h.size h.f1 (by omega), Gr.frzK hg h.size h.f2 (by omega), Gr.sizeK hg h.size⟩
theorem CurK.alloc {w : World} {g B n K : Nat} {v : Value} (h : CurK w g B v n K) (o : Obj) : CurK (w.alloc o) g B v n K := h.keep ((Below.refl _ _).alloc (Nat.le_refl _) o)
theorem CurK.mono {w : World} {g B n K K' : Nat} {v : Value} (h : CurK w g B v n K) (hK : K ≤ K') : CurK w g B v n K' := by
  obtain ⟨k, hk, h⟩ := h
  exact ⟨k, by omega, h⟩
def OnePost (w : World) (g B : Nat) (v : Value) (n K : Nat) (e : Ending) (w' : World) : Prop :=
  ∃ b : Bool, e = .returned (.bool b) ∧ CurK w' g B v n K ∧ w.grownBy w' (some g)
/-- numbers that can be read -/
def Nums (w : World) (g : Nat) (v : Value) (l : List Int) : Prop := SeenI w w.heap.size v l ∧ ∀ A cap, v = .slice (some A) l.length cap → A.block ≠ g
end Go.Proofs.YtmipenpeebmjkaaGreat

namespace Go.Proofs.YtmipenpeebmjkaaGreat
set_option linter.unusedSimpArgs false
set_option linter.unusedVariables false
open Go.RowKit

/-- a struct of two numbers in a block of the call's own -/
structure Box (w : World) (b : Nat) (m n : Int) : Prop where
  c0 : w.cell? ⟨b, 0, none⟩ = some (.int .i64 m)
  c1 : w.cell? ⟨b, 1, none⟩ = some (.int .i64 n)
  f0 : w.frozen? ⟨b, 0, none⟩ = false
  f1 : w.frozen? ⟨b, 1, none⟩ = false
  size : b < w.heap.size
theorem Box.keepR {w w' : World} {b : Nat} {m n : Int} {r : Option Nat} (h : Box w b m n) (hg : w.grownBy w' r) (hn : some b ≠ r) : Box w' b m n :=
  ⟨hg.cell h.c0 hn, hg.cell h.c1 hn, (Gr.frozen hg h.size hn).trans h.f0, (Gr.frozen hg h.size hn).trans h.f1, Gr.sizeK hg h.size⟩
theorem Box.keepG {w w' : World} {b g : Nat} {m n : Int} (h : Box w b m n) (hg : w.grownBy w' (some g)) (hn : b ≠ g) : Box w' b m n := h.keepR hg (by simpa using hn)
theorem Box.keep {w w' : World} {b : Nat} {m n : Int} (h : Box w b m n) (hb : Below w.heap.size w w') : Box w' b m n := h.keepR (below_grown hb none) (by simp)
theorem Box.alloc {w : World} {b : Nat} {m n : Int} (h : Box w b m n) (o : Obj) : Box (w.alloc o) b m n := h.keep ((Below.refl _ _).alloc (Nat.le_refl _) o)
theorem Box.drew {w : World} {b : Nat} {m n : Int} (h : Box w b m n) : Box w.drew b m n := ⟨h.c0, h.c1, h.f0, h.f1, h.size⟩
theorem Box.new (w : World) (m n : Int) (T : TypeId) : Box (w.alloc (.cells #[.int .i64 m, .int .i64 n] T)) w.heap.size m n :=
  ⟨by rw [World.cell?_alloc_at _ _ _ _ rfl]; rfl, by rw [World.cell?_alloc_at _ _ _ _ rfl]; rfl, by simp [go_sem], by simp [go_sem], by rw [World.size_alloc]; omega⟩
theorem Box.store {w : World} {b : Nat} {m n : Int} (h : Box w b m n) (x y : Int) : Box ((w.setCell ⟨b, 0, none⟩ (.int .i64 x)).setCell ⟨b, 1, none⟩ (.int .i64 y)) b x y := by
  obtain ⟨h1, h2, h3, h4, h5⟩ := h
  exact ⟨by simp [go_sem, *], by simp [go_sem, *], by simp [go_sem, *], by simp [go_sem, *], by simp [go_sem, *]⟩
theorem set2_grown (w : World) (c : Nat) (x y : Value) : w.grownBy ((w.setCell ⟨c, 0, none⟩ x).setCell ⟨c, 1, none⟩ y) (some c) := Gr.set (Gr.set (grown_rf w (some c)) 0 x) 1 y
theorem Box.other {w : World} {b c : Nat} {m n : Int} (h : Box w b m n) (hn : b ≠ c) (x y : Value) : Box ((w.setCell ⟨c, 0, none⟩ x).setCell ⟨c, 1, none⟩ y) b m n := h.keepG (set2_grown w c x y) hn
theorem CurK.keepR {w w' : World} {g B n K c : Nat} {v : Value} (h : CurK w g B v n K) (hg : w.grownBy w' (some c)) (hc : g ≠ c) (hB : B ≤ c) : CurK w' g B v n K := by
  obtain ⟨k, hk, h⟩ := h
  obtain ⟨s, hs⟩ := h.c2
  exact ⟨k, hk, h.bytes.keep hg hB, h.lt, Gr.cellK hg h.c0 hc, Gr.cellK hg h.c1 hc, ⟨s, Gr.cellK hg hs hc⟩, Gr.frzK hg h.size h.f1 hc, Gr.frzK hg h.size h.f2 hc, Gr.sizeK hg h.size⟩
/-- where a draw stands: w when it began, W now -/
structure St (w W : World) (g B : Nat) (v : Value) (n K : Nat) : Prop where
  cur : CurK W g B v n K
  gr : w.grownBy W (some g)
  lt : B ≤ g
theorem St.start {w : World} {g B n K : Nat} {v : Value} (h : CurK w g B v n K) : St w w g B v n K := ⟨h, grown_rf _ _, h.elim fun _ h => h.2.lt⟩
theorem St.call {w W W' : World} {g B n K K' : Nat} {v : Value} (h : St w W g B v n K) (hc : CurK W' g B v n K') (hg : W.grownBy W' (some g)) : St w W' g B v n K' := ⟨hc, grown_tr h.gr hg, h.lt⟩
theorem St.keep {w W W' : World} {g B n K : Nat} {v : Value} (h : St w W g B v n K) (hb : Below W.heap.size W W') : St w W' g B v n K := ⟨h.cur.keep hb, grown_tr h.gr (below_grown hb _), h.lt⟩
theorem St.alloc {w W : World} {g B n K : Nat} {v : Value} (h : St w W g B v n K) (o : Obj) : St w (W.alloc o) g B v n K := h.keep ((Below.refl _ _).alloc (Nat.le_refl _) o)
theorem St.store {w W : World} {g B n K c : Nat} {v : Value} (h : St w W g B v n K) (hc : w.heap.size ≤ c) (hg : g ≠ c) (hB : B ≤ c) (x y : Value) : St w ((W.setCell ⟨c, 0, none⟩ x).setCell ⟨c, 1, none⟩ y) g B v n K :=
  ⟨h.cur.keepR (set2_grown W c x y) hg hB, Gr.setNew (Gr.setNew h.gr hc _) hc _, h.lt⟩
theorem St.size {w W : World} {g B n K : Nat} {v : Value} (h : St w W g B v n K) : g < W.heap.size := h.cur.size
theorem St.le {w W : World} {g B n K : Nat} {v : Value} (h : St w W g B v n K) : w.heap.size ≤ W.heap.size := h.gr.size

theorem lit_cells (W : World) (T : TypeId) (l : List Int) : ∀ (j : Nat) (x : Int), l[j]? = some x → (W.alloc (.cells (l.map (Value.int .i64)).toArray T)).cell? ⟨W.heap.size, j, none⟩ = some (.int .i64 x) := fun j x h => by
  rw [World.cell?_alloc_at _ _ _ _ rfl]
  simp [h]
def AmongPost (w : World) (g B : Nat) (v : Value) (n K : Nat) (l : List Int) (e : Ending) (w' : World) : Prop :=
  ∃ x : Int, e = .returned (.int .i64 x) ∧ x ∈ l ∧ CurK w' g B v n K ∧ w.grownBy w' (some g)
end Go.Proofs.YtmipenpeebmjkaaGreat
