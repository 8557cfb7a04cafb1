/-
  Joined texts: contracts and plain laws.
-/
import Derived.Test.YtgkjmjlkhnfbiaaGreatB26
import Derived.Test.YtgkjmjlkhnfbiaaGreatB2
import Derived.Test.YtgkjmjlkhnfbiaaGreatB25
import Derived.Deep.DeepCutAuto
namespace Go.Proofs.YtgkjmjlkhnfbiaaGreat
set_option linter.unusedSimpArgs false
set_option linter.unusedVariables false
open Go Go.RowKit
namespace Rg
variable {P : Program} {Q : Exit → Act → World → Prop}
section
variable (P) (Q) (ops : Array Oper) (a0 : Act) (T : List Value) (J : Nat → (Nat → Value) → World → Prop) (C : List Nat)
def LookC (o : Oper) (a : Act) (vals : Nat → Value) (t : Nat) : Prop :=
  match o.after.toList.find? (fun e => Region.binds .any e && ((ops[e.on]?).bind (·.dst)) == some t) with
  | some e => if e.on ∈ C then a.tmps[t]? = some (vals e.on) else a.tmps[t]? = some (T.getD e.on undef)
  | none => a.tmps[t]? = a0.tmps[t]?
def OwedC1 (k : Nat) (o : Oper) : Prop :=
  if k ∈ C then ∀ (a : Act) (w : World) (vals : Nat → Value), J (C.idxOf k) vals w → (∀ t ∈ o.looksAt ops, LookC ops a0 T C o a vals t) → Region.wanted o (yielded ops a.tmps) = true ∧ o.wp P a w (fun a' w' => ∃ v, a' = a.put o.dst v ∧ J (C.idxOf k + 1) (updv vals k v) w') Q
  else ∀ (a : Act) (w : World) (n : Nat) (vals : Nat → Value), (n ≤ C.length ∧ (∀ c, c ∈ C → edge ops k c = true → n ≤ C.idxOf c) ∧ ∀ c, c ∈ C → edge ops c k = true → C.idxOf c < n) → J n vals w → (∀ t ∈ o.looksAt ops, LookC ops a0 T C o a vals t) → Region.wanted o (yielded ops a.tmps) = true ∧ (execOp a.eval o).run P w = .ok (.value (T.getD k undef)) w
def OwedC : List Oper → Nat → Prop
  | [], _ => True
  | o :: os, k => OwedC1 P Q ops a0 T J C k o ∧ OwedC os (k + 1)
def InvC (l : Nat → Bool) (vals : Nat → Value) (w : World) : Prop :=
  J (cnt l C) vals w ∧ ∀ i, i ∉ C → l i = true → vals i = T.getD i undef
end
theorem cnt_le_idx {l : Nat → Bool} {c : Nat} (hl : l c = false) : ∀ C : List Nat, c ∈ C → cnt l C ≤ C.idxOf c
  | [], h => by cases h
  | d :: cs, h => by
    by_cases hd : d = c
    · subst hd
      unfold cnt
      rw [hl]
      simp
    · have hm : c ∈ cs := by
        rcases List.mem_cons.1 h with e | e
        · exact absurd e.symm hd
        · exact e
      have := cnt_le_idx hl cs hm
      have e2 : (d == c) = false := by rw [beq_eq_false_iff_ne]; exact hd
      rw [List.idxOf_cons, e2]
      unfold cnt
      split
      · simp only [cond_false]; omega
      · omega
theorem cnt_gt {ops : Array Oper} {l : Nat → Bool} {c : Nat} (hc : Closed .any ops l) (hl : l c = true) : ∀ C : List Nat, chainOk ops C = true → c ∈ C → C.idxOf c < cnt l C
  | [], _, h => by cases h
  | [d], _, h => by
    rcases List.mem_cons.1 h with rfl | h
    · unfold cnt; rw [hl]; simp [cnt]
    · cases h
  | d :: e :: cs, ho, h => by
    unfold chainOk at ho
    rw [Bool.and_eq_true, Bool.and_eq_true, decide_eq_true_eq] at ho
    obtain ⟨⟨he, -⟩, ho⟩ := ho
    by_cases hd : d = c
    · subst hd
      unfold cnt
      rw [hl]
      simp
    · have hm : c ∈ e :: cs := by
        rcases List.mem_cons.1 h with q | q
        · exact absurd q.symm hd
        · exact q
      have ih := cnt_gt hc hl (e :: cs) ho hm
      have hle : l e = true := by
        cases q : l e
        · exfalso
          have z : cnt l (e :: cs) = 0 := by unfold cnt; rw [q]; rfl
          omega
        · rfl
      have hld := edge_closed hc he hle
      have e2 : (d == c) = false := by rw [beq_eq_false_iff_ne]; exact hd
      rw [List.idxOf_cons, e2]
      have : cnt l (d :: e :: cs) = cnt l (e :: cs) + 1 := by rw [cnt]; rw [if_pos hld]
      rw [this]
      simp only [cond_false]
      omega
theorem reqs_C {ops : Array Oper} {a0 : Act} {T : List Value} {J : Nat → (Nat → Value) → World → Prop} {C : List Nat} (hC : chainOk ops C = true) (hJ : ∀ n v v' w, (∀ i ∈ C, v i = v' i) → J n v w → J n v' w) :
    ∀ (os : List Oper) (k : Nat), (∀ i, os[i]? = ops[k + i]?) → OwedC P Q ops a0 T J C os k → ReqsI P Q .any ops (InvC T J C) a0 os k
  | [], _, _, _ => trivial
  | o :: os, k, hos, h => by
    refine ⟨fun a w l vals hI hl hc hdep hr => ?_, reqs_C hC hJ os (k + 1) (fun i => by rw [show k + 1 + i = k + (i + 1) by omega, ← hos (i + 1)]; rfl) h.2⟩
    obtain ⟨hB, hv⟩ := hI
    have ho : ops[k]? = some o := (hos 0).symm
    have hQ : ∀ t ∈ o.looksAt ops, LookC ops a0 T C o a vals t := fun t ht => by
      have := hr t ht
      unfold rd at this
      unfold LookC
      split
      · rename_i e he
        rw [he] at this
        have h2 := List.find?_some he
        rw [Bool.and_eq_true] at h2
        replace this : a.tmps[t]? = some (vals e.on) := this
        split
        · exact this
        · rename_i n1
          rw [this, hv _ n1 (hdep e (Array.mem_toList_iff.1 (List.mem_of_find?_eq_some he)) h2.1)]
      · rename_i he
        rw [he] at this
        exact this
    have hko : ∀ j, j ≠ k → upd l k j = l j := fun j hj => if_neg hj
    have h1 := h.1
    unfold OwedC1 at h1
    unfold StepI
    have rest : ∀ v, (k ∉ C → v = T.getD k undef) → ∀ i, i ∉ C → upd l k i = true → updv vals k v i = T.getD i undef := fun v hvk i n1 hi => by
      by_cases hik : i = k
      · subst hik
        have : updv vals i v i = v := if_pos rfl
        rw [this]; exact hvk n1
      · rw [hko i hik] at hi
        have : updv vals k v i = vals i := if_neg hik
        rw [this]
        exact hv i n1 hi
    by_cases e3 : k ∈ C
    · rw [if_pos e3] at h1
      obtain ⟨q1, q2⟩ := cnt_here hc hl (fun c hcd => edge_dep ho hdep hcd) C hC e3
      rw [q1] at hB
      obtain ⟨hw, hwp⟩ := h1 a w vals hB hQ
      rw [if_pos hw]
      refine Oper.wp_mono ?_ hwp
      rintro a' w' ⟨v, e, h2⟩
      exact ⟨v, e, by rw [q2]; exact h2, rest v (fun h => absurd e3 h)⟩
    · rw [if_neg e3] at h1
      have hup : ∀ c, c ∈ C → edge ops k c = true → cnt l C ≤ C.idxOf c := fun c hcm he => by
        have hlc : l c = false := by
          cases q : l c
          · rfl
          · rw [edge_closed hc he q] at hl; cases hl
        exact cnt_le_idx hlc C hcm
      obtain ⟨hw, hwp⟩ := h1 a w _ vals ⟨cnt_le C, hup, fun c hcm he => cnt_gt hc (edge_dep ho hdep he) C hC hcm⟩ hB hQ
      rw [if_pos hw]
      unfold Oper.wp
      rw [hwp]
      refine ⟨_, rfl, ?_, rest _ (fun _ => rfl)⟩
      rw [cnt_not C e3]
      refine hJ _ _ _ _ (fun i hi => ?_) hB
      have : i ≠ k := fun e => e3 (by rw [← e]; exact hi)
      exact (if_neg this).symm
/-- **THE RULE** -/
theorem walkC {id : Nat} {ops : Array Oper} {a0 : Act} {w : World} (J : Nat → (Nat → Value) → World → Prop) (C : List Nat) (T : List Value)
    (hm : P.follows .mixedOrders = true) (hok : okOps .any ops a0.tmps.size = true) (hC : chainOk ops C = true) (hcl : ∀ c ∈ C, c < ops.size) (hJ : ∀ n v v' w, (∀ i ∈ C, v i = v' i) → J n v w → J n v' w)
    (h0 : ∀ vals, J 0 vals { w with drawn := w.drawn + 1 })
    (hR : OwedC P Q ops a0 T J C ops.toList 0)
    (hF : ∀ (vals : Nat → Value) (w' : World), J C.length vals w' → (∀ i, i < ops.size → i ∉ C → vals i = T.getD i undef) → Q .normal (fill (fun _ => true) vals ops.toList 0 a0) w') : (Code.region id ops true).wp P Q a0 w := by
  have c0 : ∀ C : List Nat, cnt (fun _ => false) C = 0 := fun C => by cases C <;> rfl
  have cl : ∀ (l : Nat → Bool) (C : List Nat), (∀ c ∈ C, l c = true) → cnt l C = C.length := fun l C => by
    induction C with
    | nil => intro _; rfl
    | cons c cs ih =>
      intro h
      unfold cnt
      rw [if_pos (h c (List.mem_cons_self ..)), ih (fun x hx => h x (List.mem_cons_of_mem _ hx))]
      rfl
  refine regionI (InvC T J C) hm hok (fun vals => ⟨?_, (fun _ _ h => absurd h (by simp))⟩) (reqs_C hC hJ ops.toList 0 (fun i => by rw [Nat.zero_add]; exact Array.getElem?_toList) hR) ?_
  · rw [c0]
    exact h0 vals
  · intro l vals w' hl hI
    obtain ⟨h1, h2⟩ := hI
    rw [cl l C (fun c hc => hl c (hcl c hc))] at h1
    exact hF vals w' h1 (fun i hi n1 => h2 i n1 (hl i hi))
theorem runC {o : Oper} {a : Act} {w w2 : World} {x : Value} {K : Value → World → Prop} (h : (execOp a.eval o).run P w = .ok (.value x) w2) (hK : K x w2) : o.wp P a w (fun a' w' => ∃ v, a' = a.put o.dst v ∧ K v w') Q := by
  unfold Oper.wp
  rw [h]
  exact ⟨x, rfl, hK⟩
theorem layC {o : Oper} {a : Act} {w : World} {ob : Obj} {x : Value} {K : Value → World → Prop} (h : (execOp a.eval o).run P w = .ok (.value x) (w.alloc ob)) (hK : K x (w.alloc ob)) : o.wp P a w (fun a' w' => ∃ v, a' = a.put o.dst v ∧ K v w') Q := runC h hK
theorem callC {o : Oper} {a : Act} {w : World} {f : FuncId} {args : Array Value} {K : Value → World → Prop} (h : (execOp a.eval o).run P w = .ok (.enter f args) w) (hc : Calls P f args w fun e w' => ∃ v, e = .returned v ∧ K v w') : o.wp P a w (fun a' w' => ∃ v, a' = a.put o.dst v ∧ K v w') Q := by
  unfold Oper.wp
  rw [h]
  refine Calls.mono hc ?_
  rintro e w' ⟨v, rfl, h1⟩
  exact ⟨v, rfl, h1⟩
theorem appendC {o : Oper} {a : Act} {w w2 : World} {s x : Operand} {ts : TypeId} {v u v2 : Value} (ho : o.op = .call { callee := .builtin .append, args := #[s, x], argTypes := #[ts, ts] }) (hs : a.eval s = v) (hx : a.eval x = u) (h : (Builtin.append_ #[ts, ts] o.type #[v, u]).run P w = .ok v2 w2) : (execOp a.eval o).run P w = .ok (.value v2) w2 := by
  unfold execOp
  simp only [ho, resolve, invoke, builtin, Sem.run_bind, Sem.run_pure, Result.andThen_ok, List.map_toArray, List.map_cons, List.map_nil, hs, hx, h]
theorem cell_new (w : World) (xs : Array Value) (T : TypeId) (i : Nat) (u : Value) (h : xs[i]? = some u) : (w.alloc (.cells xs T)).cell? ⟨w.heap.size, i, none⟩ = some u := by
  rw [World.cell?_alloc_at _ _ _ _ rfl]
  exact h
end Rg
end Go.Proofs.YtgkjmjlkhnfbiaaGreat

namespace Go.Proofs.YtgkjmjlkhnfbiaaGreat
set_option linter.unusedSimpArgs false
set_option linter.unusedVariables false
open Go Go.RowKit
namespace Rg
variable {P : Program} {Q : Exit → Act → World → Prop}
section
variable (P) (Q) (ops : Array Oper) (a0 : Act) (T : List Value) (J : (Nat → Bool) → (Nat → Value) → World → Prop) (C : List Nat)
def OwedD1 (k : Nat) (o : Oper) : Prop :=
  ∀ (a : Act) (w : World) (l : Nat → Bool) (vals : Nat → Value), J l vals w → l k = false → (∀ c, edge ops k c = true → l c = false) → (∀ c, edge ops c k = true → l c = true) → (∀ c d, edge ops c d = true → l d = true → l c = true) → (∀ t ∈ o.looksAt ops, LookC ops a0 T C o a vals t) → Region.wanted o (yielded ops a.tmps) = true ∧
    if k ∈ C then o.wp P a w (fun a' w' => ∃ v, a' = a.put o.dst v ∧ J (upd l k) (updv vals k v) w') Q else (execOp a.eval o).run P w = .ok (.value (T.getD k undef)) w
def OwedD : List Oper → Nat → Prop
  | [], _ => True
  | o :: os, k => OwedD1 P Q ops a0 T J C k o ∧ OwedD os (k + 1)
def InvD (l : Nat → Bool) (vals : Nat → Value) (w : World) : Prop :=
  J l vals w ∧ ∀ i, i ∉ C → l i = true → vals i = T.getD i undef
end
theorem reqs_D {ops : Array Oper} {a0 : Act} {T : List Value} {J : (Nat → Bool) → (Nat → Value) → World → Prop} {C : List Nat} (hJ : ∀ l l' v v' w, (∀ i ∈ C, l i = l' i ∧ v i = v' i) → J l v w → J l' v' w) :
    ∀ (os : List Oper) (k : Nat), (∀ i, os[i]? = ops[k + i]?) → OwedD P Q ops a0 T J C os k → ReqsI P Q .any ops (InvD T J C) a0 os k
  | [], _, _, _ => trivial
  | o :: os, k, hos, h => by
    refine ⟨fun a w l vals hI hl hc hdep hr => ?_, reqs_D hJ os (k + 1) (fun i => by rw [show k + 1 + i = k + (i + 1) by omega, ← hos (i + 1)]; rfl) h.2⟩
    obtain ⟨hB, hv⟩ := hI
    have ho : ops[k]? = some o := (hos 0).symm
    have hQ : ∀ t ∈ o.looksAt ops, LookC ops a0 T C o a vals t := fun t ht => by
      have := hr t ht
      unfold rd at this
      unfold LookC
      split
      · rename_i e he
        rw [he] at this
        have h2 := List.find?_some he
        rw [Bool.and_eq_true] at h2
        replace this : a.tmps[t]? = some (vals e.on) := this
        split
        · exact this
        · rename_i n1
          rw [this, hv _ n1 (hdep e (Array.mem_toList_iff.1 (List.mem_of_find?_eq_some he)) h2.1)]
      · rename_i he
        rw [he] at this
        exact this
    have hko : ∀ j, j ≠ k → upd l k j = l j := fun j hj => if_neg hj
    have h1 := h.1
    unfold OwedD1 at h1
    have rest : ∀ v, (k ∉ C → v = T.getD k undef) → ∀ i, i ∉ C → upd l k i = true → updv vals k v i = T.getD i undef := fun v hvk i n1 hi => by
      by_cases hik : i = k
      · subst hik
        have : updv vals i v i = v := if_pos rfl
        rw [this]; exact hvk n1
      · rw [hko i hik] at hi
        have : updv vals k v i = vals i := if_neg hik
        rw [this]
        exact hv i n1 hi
    have hup : ∀ c, edge ops k c = true → l c = false := fun c he => by
      cases q : l c
      · rfl
      · rw [edge_closed hc he q] at hl; cases hl
    obtain ⟨hw, h1⟩ := h1 a w l vals hB hl hup (fun c he => edge_dep ho hdep he) (fun c d he hd => edge_closed hc he hd) hQ
    unfold StepI
    rw [if_pos hw]
    by_cases e3 : k ∈ C
    · rw [if_pos e3] at h1
      refine Oper.wp_mono ?_ h1
      rintro a' w' ⟨v, e, h2⟩
      exact ⟨v, e, h2, rest v (fun h => absurd e3 h)⟩
    · rw [if_neg e3] at h1
      unfold Oper.wp
      rw [h1]
      refine ⟨_, rfl, hJ l _ vals _ _ (fun i hi => ?_) hB, rest _ (fun _ => rfl)⟩
      have : i ≠ k := fun e => e3 (by rw [← e]; exact hi)
      exact ⟨(hko i this).symm, (if_neg this).symm⟩
/-- **THE RULE** -/
theorem walkD {id : Nat} {ops : Array Oper} {a0 : Act} {w : World} (J : (Nat → Bool) → (Nat → Value) → World → Prop) (C : List Nat) (T : List Value)
    (hm : P.follows .mixedOrders = true) (hok : okOps .any ops a0.tmps.size = true) (hcl : ∀ c ∈ C, c < ops.size) (hJ : ∀ l l' v v' w, (∀ i ∈ C, l i = l' i ∧ v i = v' i) → J l v w → J l' v' w)
    (h0 : ∀ vals, J (fun _ => false) vals { w with drawn := w.drawn + 1 })
    (hR : OwedD P Q ops a0 T J C ops.toList 0)
    (hF : ∀ (vals : Nat → Value) (w' : World), J (fun _ => true) vals w' → (∀ i, i < ops.size → i ∉ C → vals i = T.getD i undef) → Q .normal (fill (fun _ => true) vals ops.toList 0 a0) w') : (Code.region id ops true).wp P Q a0 w := by
  refine regionI (InvD T J C) hm hok (fun vals => ⟨h0 vals, (fun _ _ h => absurd h (by simp))⟩) (reqs_D hJ ops.toList 0 (fun i => by rw [Nat.zero_add]; exact Array.getElem?_toList) hR) ?_
  intro l vals w' hl hI
  obtain ⟨h1, h2⟩ := hI
  exact hF vals w' (hJ l _ vals vals w' (fun i hi => ⟨hl i (hcl i hi), rfl⟩) h1) (fun i hi n1 => h2 i n1 (hl i hi))
end Rg
end Go.Proofs.YtgkjmjlkhnfbiaaGreat

namespace Go.Proofs.YtgkjmjlkhnfbiaaGreat
set_option linter.unusedSimpArgs false
set_option linter.unusedVariables false
open Go Go.RowKit
namespace Rg
variable {P : Program} {Q : Exit → Act → World → Prop}
section
variable (P) (Q) (ops : Array Oper) (a0 : Act) (T : List Value) (Base : (Nat → Bool) → World → Prop) (F : Nat → Value → World → Prop) (Rel : World → World → Prop) (C : List Nat)
def OwedW1 (k : Nat) (o : Oper) : Prop :=
  ∀ (a : Act) (w : World) (l : Nat → Bool) (vals : Nat → Value), Base l w → (∀ i ∈ C, l i = true → F i (vals i) w) → l k = false → (∀ c, edge ops k c = true → l c = false) → (∀ c, edge ops c k = true → l c = true) → (∀ c d, edge ops c d = true → l d = true → l c = true) → (∀ t ∈ o.looksAt ops, LookC ops a0 T C o a vals t) → Region.wanted o (yielded ops a.tmps) = true ∧
    if k ∈ C then o.wp P a w (fun a' w' => ∃ v, a' = a.put o.dst v ∧ Base (upd l k) w' ∧ F k v w' ∧ Rel w w') Q else (execOp a.eval o).run P w = .ok (.value (T.getD k undef)) w
def OwedW : List Oper → Nat → Prop
  | [], _ => True
  | o :: os, k => OwedW1 P Q ops a0 T Base F Rel C k o ∧ OwedW os (k + 1)
end
theorem owedW_D {ops : Array Oper} {a0 : Act} {T : List Value} {Base : (Nat → Bool) → World → Prop} {F : Nat → Value → World → Prop} {Rel : World → World → Prop} {C : List Nat} (hF : ∀ i u w w', Rel w w' → F i u w → F i u w') :
    ∀ (os : List Oper) (k : Nat), OwedW P Q ops a0 T Base F Rel C os k → OwedD P Q ops a0 T (fun l vals w => Base l w ∧ ∀ i ∈ C, l i = true → F i (vals i) w) C os k
  | [], _, _ => trivial
  | o :: os, k, h => by
    refine ⟨fun a w l vals hJ hl hu hd hc hr => ?_, owedW_D hF os (k + 1) h.2⟩
    have h1 := h.1
    unfold OwedW1 at h1
    obtain ⟨hw, h1⟩ := h1 a w l vals hJ.1 hJ.2 hl hu hd hc hr
    refine ⟨hw, ?_⟩
    by_cases hk : k ∈ C
    · rw [if_pos hk] at h1 ⊢
      refine Oper.wp_mono ?_ h1
      rintro a' w' ⟨v, e, h2, h3, h4⟩
      refine ⟨v, e, h2, fun i hi hli => ?_⟩
      by_cases hik : i = k
      · subst hik
        have : updv vals i v i = v := if_pos rfl
        rw [this]
        exact h3
      · have e1 : upd l k i = l i := if_neg hik
        have e2 : updv vals k v i = vals i := if_neg hik
        rw [e1] at hli
        rw [e2]
        exact hF i _ w w' h4 (hJ.2 i hi hli)
    · rw [if_neg hk] at h1 ⊢
      exact h1
/-- **THE RULE** -/
theorem walkW {id : Nat} {ops : Array Oper} {a0 : Act} {w : World} (Base : (Nat → Bool) → World → Prop) (F : Nat → Value → World → Prop) (Rel : World → World → Prop) (C : List Nat) (T : List Value)
    (hm : P.follows .mixedOrders = true) (hok : okOps .any ops a0.tmps.size = true) (hcl : ∀ c ∈ C, c < ops.size) (hB : ∀ l l' w, (∀ i ∈ C, l i = l' i) → Base l w → Base l' w) (hF : ∀ i u w w', Rel w w' → F i u w → F i u w')
    (h0 : Base (fun _ => false) { w with drawn := w.drawn + 1 })
    (hR : OwedW P Q ops a0 T Base F Rel C ops.toList 0)
    (hQ : ∀ (vals : Nat → Value) (w' : World), Base (fun _ => true) w' → (∀ i ∈ C, F i (vals i) w') → (∀ i, i < ops.size → i ∉ C → vals i = T.getD i undef) → Q .normal (fill (fun _ => true) vals ops.toList 0 a0) w') : (Code.region id ops true).wp P Q a0 w := by
  refine walkD (fun l vals w => Base l w ∧ ∀ i ∈ C, l i = true → F i (vals i) w) C T hm hok hcl (fun l l' v v' w h hJ => ⟨hB l l' w (fun i hi => (h i hi).1) hJ.1, fun i hi hl => ?_⟩) (fun vals => ⟨h0, fun i _ h => absurd h (by simp)⟩) (owedW_D hF _ _ hR) (fun vals w' hJ hv => hQ vals w' hJ.1 (fun i hi => hJ.2 i hi rfl) hv)
  have := h i hi
  rw [← this.2]
  exact hJ.2 i hi (this.1.trans hl)
/-- how far calls have moved a counter -/
def kks : List (Nat × Nat) → (Nat → Bool) → Nat
  | [], _ => 0
  | p :: C, l => (bif l p.1 then p.2 else 0) + kks C l
theorem kks_ext {C : List (Nat × Nat)} {l l' : Nat → Bool} (h : ∀ p ∈ C, l p.1 = l' p.1) : kks C l = kks C l' := by
  induction C with
  | nil => rfl
  | cons p C ih =>
    unfold kks
    rw [h p List.mem_cons_self, ih fun q hq => h q (List.mem_cons_of_mem _ hq)]
theorem kks_off {C : List (Nat × Nat)} {l : Nat → Bool} {k : Nat} (h : ∀ p ∈ C, p.1 ≠ k) : kks C (upd l k) = kks C l :=
  kks_ext fun p hp => if_neg (h p hp)
theorem kks_le : ∀ (C : List (Nat × Nat)) (l : Nat → Bool), kks C l ≤ kks C fun _ => true
  | [], _ => Nat.le_refl _
  | p :: C, l => by
    have := kks_le C l
    unfold kks
    cases l p.1 <;> simp <;> omega
theorem kks_on {C : List (Nat × Nat)} {l : Nat → Bool} {k c : Nat} (h : ∀ p ∈ C, p.1 = k → p.2 = c) (hc : (C.filter fun p => p.1 == k).length = 1) (hl : l k = false) : kks C (upd l k) = kks C l + c := by
  induction C with
  | nil => cases hc
  | cons p C ih =>
    unfold kks
    by_cases hp : p.1 = k
    · have e1 : upd l k p.1 = true := by rw [hp]; exact if_pos rfl
      rw [e1, hp, hl, h p List.mem_cons_self hp]
      rw [List.filter_cons, if_pos (by simpa using hp), List.length_cons] at hc
      have hn : ∀ q ∈ C, q.1 ≠ k := fun q hq he => by
        have : q ∈ C.filter fun p => p.1 == k := List.mem_filter.2 ⟨hq, by simpa using he⟩
        have : 0 < (C.filter fun p => p.1 == k).length := List.length_pos_of_mem this
        omega
      rw [kks_off hn]
      simp only [cond_true, cond_false]
      omega
    · have e1 : upd l k p.1 = l p.1 := if_neg hp
      rw [e1]
      rw [List.filter_cons, if_neg (by simpa using hp)] at hc
      rw [ih (fun q hq => h q (List.mem_cons_of_mem _ hq)) hc]
      omega
end Rg
end Go.Proofs.YtgkjmjlkhnfbiaaGreat

namespace Go.Proofs.YtgkjmjlkhnfbiaaGreat
set_option linter.unusedSimpArgs false
set_option linter.unusedVariables false
open Go.RowKit
/-- one of some variables has been turned, or new memory laid -/
def DrR (X : List Nat) (W W' : World) : Prop := ∃ r ∈ X, W.grownBy W' (some r)
/-- a literal of numbers -/
def LitF (X : List Nat) (m : Nat) (u : Value) (W : World) : Prop :=
  ∃ (b : Nat) (l : List Int), u = .slice (some ⟨b, 0, none⟩) m m ∧ l.length = m ∧ b ∉ X ∧ ∀ (j : Nat) (x : Int), l[j]? = some x → W.cell? ⟨b, j, none⟩ = some (.int .i64 x)
def IntF (u : Value) : Prop := ∃ x : Int, u = .int .i64 x
theorem LitF.keep {X : List Nat} {m : Nat} {u : Value} {W W' : World} (h : LitF X m u W) (hR : DrR X W W') : LitF X m u W' := by
  obtain ⟨b, l, e, hl, h1, hc⟩ := h
  obtain ⟨r, hr, hg⟩ := hR
  exact ⟨b, l, e, hl, h1, fun j x hj => Gr.cellK hg (hc j x hj) fun h => h1 (h ▸ hr)⟩
theorem LitF.new {X : List Nat} (W : World) (T : TypeId) (l : List Int) {m : Nat} (hm : l.length = m) (h1 : ∀ x ∈ X, x < W.heap.size) : LitF X m (.slice (some ⟨W.heap.size, 0, none⟩) m m) (W.alloc (.cells (l.map (Value.int .i64)).toArray T)) :=
  ⟨W.heap.size, l, rfl, hm, fun h => by have := h1 _ h; omega, lit_cells W T l⟩
theorem amongF_c {X : List Nat} {g B : Nat} {v u : Value} {n K m : Nat} {w : World} (h : CurK w g B v n K) (hX : g ∈ X) (hk : K ≤ 900000000) (h1 : 1 ≤ m) (h2 : m ≤ 60000) (hl : LitF X m u w) :
    ∃ b, u = .slice (some ⟨b, 0, none⟩) m m ∧ Calls Tryz.prog 108 #[.pointer (some ⟨g, 0, none⟩), .slice (some ⟨b, 0, none⟩) m m] w fun e w' => ∃ u', e = .returned u' ∧ IntF u' ∧ CurK w' g B v n (K + 2) ∧ w.grownBy w' (some g) := by
  obtain ⟨b, l, e, hlen, n1, hc⟩ := hl
  refine ⟨b, e, (among_c g B v n K l b m w h hk hlen h1 h2 (fun h => n1 (h ▸ hX)) hc).mono ?_⟩
  rintro e w' ⟨x, rfl, -, h1, h2⟩
  exact ⟨_, rfl, ⟨x, rfl⟩, h1, h2⟩
theorem grown_alloc (W : World) (o : Obj) (r : Option Nat) : W.grownBy (W.alloc o) r := below_grown ((Below.refl W.heap.size W).alloc (Nat.le_refl _) o) r
theorem DrR.lay {X : List Nat} {r : Nat} (h : r ∈ X) (W : World) (o : Obj) : DrR X W (W.alloc o) := ⟨r, h, grown_alloc W o _⟩
theorem DrR.self {X : List Nat} {r : Nat} (h : r ∈ X) (W : World) : DrR X W W := ⟨r, h, grown_rf W _⟩
theorem St.drew {w W : World} {g B n K : Nat} {v : Value} (h : St w W g B v n K) : St w { W with drawn := W.drawn + 1 } g B v n K := h.keep ((Below.refl W.heap.size W).drew)
end Go.Proofs.YtgkjmjlkhnfbiaaGreat

namespace Go.Proofs.YtgkjmjlkhnfbiaaGreat
set_option linter.unusedSimpArgs false
set_option linter.unusedVariables false
open Go.RowKit
theorem Bytes.keepB {w w' : World} {B n : Nat} {v : Value} (h : Bytes w B v n) (hb : Below B w w') : Bytes w' B v n := by
  obtain ⟨A, cap, e, hn, hx⟩ := h
  refine ⟨A, cap, e, hn, fun j hj => ?_⟩
  obtain ⟨gb, ob, b, e, hgb, hc, h1, h2⟩ := hx j hj
  exact ⟨gb, ob, b, e, hgb, (hb.cell (p := ⟨gb, ob + j, none⟩) hgb).trans hc, h1, h2⟩
theorem Bytes.mono {w : World} {B B' n : Nat} {v : Value} (h : Bytes w B v n) (hB : B ≤ B') : Bytes w B' v n := by
  obtain ⟨A, cap, e, hn, hx⟩ := h
  refine ⟨A, cap, e, hn, fun j hj => ?_⟩
  obtain ⟨gb, ob, b, e, hgb, hc, h1, h2⟩ := hx j hj
  exact ⟨gb, ob, b, e, by omega, hc, h1, h2⟩
/-- a new reader of bytes -/
theorem St.new {w W : World} {v : Value} {n : Nat} (h : Bytes w w.heap.size v n) (hb : Below w.heap.size w W) (T : TypeId) :
    St w (W.alloc (.cells #[v, .int .i64 0, .int .u64 0] T)) W.heap.size w.heap.size v n 0 := by
  have hb2 : Below w.heap.size w (W.alloc (.cells #[v, .int .i64 0, .int .u64 0] T)) := hb.alloc hb.size _
  refine ⟨⟨0, Nat.le_refl _, ⟨h.keepB hb2, hb.size, ?_, ?_, ⟨0, ?_⟩, by simp [go_sem], by simp [go_sem], by rw [World.size_alloc]; omega⟩⟩, below_grown hb2 _, hb.size⟩
  all_goals (rw [World.cell?_alloc_at _ _ _ _ rfl]; rfl)
theorem St.below {w W : World} {g B n K : Nat} {v : Value} (h : St w W g B v n K) (hg : w.heap.size ≤ g) : Below w.heap.size w W := grown_below h.gr (Nat.le_refl _) fun k hk => by cases hk; exact hg
def DrawT (w : World) (e : Ending) (w' : World) : Prop := ∃ a b n : Int, e = .returned (.tuple #[.agg #[.int .i64 a, .int .i64 b], .int .i64 n]) ∧ Hid (M.tc a b → M.Dr a b) ∧ Below w.heap.size w w'
def DrawTB (w : World) (e : Ending) (w' : World) : Prop := ∃ (a b : Int) (q : Bool), e = .returned (.tuple #[.agg #[.int .i64 a, .int .i64 b], .bool q]) ∧ Hid (M.tc a b → M.Dr a b) ∧ Below w.heap.size w w'
def DrawTBI (w : World) (e : Ending) (w' : World) : Prop := ∃ (a b : Int) (q : Bool) (n : Int), e = .returned (.tuple #[.agg #[.int .i64 a, .int .i64 b], .bool q, .int .i64 n]) ∧ Hid (M.tc a b → M.Dr a b) ∧ Below w.heap.size w w'
set_option maxRecDepth 100000 in
set_option maxHeartbeats 4000000 in
theorem drawDescentCoefficients_c (v : Value) (n : Nat) (w : World) (h : Bytes w w.heap.size v n) :
    Calls Tryz.prog 45 #[v] w (DrawTB w) := by
  obtain ⟨A, cap, rfl, hn, hb_⟩ := h
  have h : Bytes w w.heap.size (.slice A n cap) n := ⟨A, cap, rfl, hn, hb_⟩
  clear hb_ hn
  have st := St.new h (W := w.alloc (.cells #[.int .i64 0, .int .i64 0] 25)) (by exact (Below.refl _ _).alloc (Nat.le_refl _) _) 76
  rw [World.size_alloc] at st
  have zr := (Box.new w 0 0 25).alloc (.cells #[.slice A n cap, .int .i64 0, .int .u64 0] 76)
  have nzr : w.heap.size ≠ w.heap.size + 1 := by omega
  clear h
  go_enter Tryz.func45, Tryz.ntmps45
  go_wp2_with fail
  refine (sided_c _ w.heap.size _ n _ _ st.cur (by omega)).mono ?_; rintro e w_c ⟨a, b, q, rfl, hDr, hc_, hg_⟩
  replace st := st.call hc_ hg_
  replace zr := zr.keepG hg_ nzr
  clear hc_ hg_
  have q_zr0 := zr.c0
  have q_zr1 := zr.c1
  have q_zrf := zr.f0
  have q_zrg := zr.f1
  have q_zrs := zr.size
  have hBL := st.below (Nat.le_succ _)
  go_wp2
  exact bodyPost_ret (v := .tuple #[.agg #[.int .i64 a, .int .i64 b], .bool q]) (by simp [results, Tryz.results45, go_sem, *]) rfl (⟨a, b, q, rfl, hDr, (by repeat (first | exact Below.refl _ _ | refine below_alloc ?_ _ | refine below_step ?_ (by assumption) | refine Below.drew ?_ | refine Below.setCell ?_ (by first | exact Nat.le_refl _ | exact Nat.le_add_right _ _ | (simp <;> omega)) _ | refine below_drewN ?_ _))⟩)
set_option maxRecDepth 100000 in
set_option maxHeartbeats 4000000 in
theorem drawSelmerDivisors_c (v : Value) (n : Nat) (w : World) (h : Bytes w w.heap.size v n) :
    Calls Tryz.prog 6 #[v] w (DrawTB w) := by
  obtain ⟨A, cap, rfl, hn, hb_⟩ := h
  have h : Bytes w w.heap.size (.slice A n cap) n := ⟨A, cap, rfl, hn, hb_⟩
  clear hb_ hn
  go_enter Tryz.func6, Tryz.ntmps6
  go_wp2_with fail
  have BA : Below w.heap.size w (w.alloc (.cells #[.int .i64 0, .int .i64 0] 25)) := (Below.refl _ _).alloc (Nat.le_refl _) _
  have zr := Box.new w 0 0 25
  refine (drawDescentCoefficients_c _ n _ ((h.keepB BA).mono BA.size)).mono ?_; rintro e w1 ⟨a, b, q, rfl, hDr, hb_⟩
  replace zr := zr.keep hb_
  have hBL := BA.trans (hb_.mono BA.size)
  clear hb_ BA h
  have q_zr0 := zr.c0
  have q_zr1 := zr.c1
  have q_zrf := zr.f0
  have q_zrg := zr.f1
  have q_zrs := zr.size
  go_wp2
  exact bodyPost_ret (v := .tuple #[.agg #[.int .i64 a, .int .i64 b], .bool q]) (by simp [results, Tryz.results6, go_sem, *]) rfl (⟨a, b, q, rfl, hDr, (by repeat (first | exact Below.refl _ _ | refine below_alloc ?_ _ | refine below_step ?_ (by assumption) | refine Below.drew ?_ | refine Below.setCell ?_ (by first | exact Nat.le_refl _ | exact Nat.le_add_right _ _ | (simp <;> omega)) _ | refine below_drewN ?_ _))⟩)
set_option maxRecDepth 100000 in
set_option maxHeartbeats 4000000 in
theorem drawFoundRanks_c (v : Value) (n : Nat) (w : World) (h : Bytes w w.heap.size v n) :
    Calls Tryz.prog 77 #[v] w (DrawT w) := by
  obtain ⟨A, cap, rfl, hn, hb_⟩ := h
  have h : Bytes w w.heap.size (.slice A n cap) n := ⟨A, cap, rfl, hn, hb_⟩
  clear hb_ hn
  have st := St.new h (W := w.alloc (.cells #[.int .i64 0, .int .i64 0] 25)) (by exact (Below.refl _ _).alloc (Nat.le_refl _) _) 76
  rw [World.size_alloc] at st
  have zr := (Box.new w 0 0 25).alloc (.cells #[.slice A n cap, .int .i64 0, .int .u64 0] 76)
  have nzr : w.heap.size ≠ w.heap.size + 1 := by omega
  clear h
  go_enter Tryz.func77, Tryz.ntmps77
  go_wp2_with fail
  refine (descended_c _ w.heap.size _ n _ _ st.cur (by omega)).mono ?_; rintro e w_c ⟨a, b, rfl, hDr, hc_, hg_⟩
  replace st := st.call hc_ hg_
  replace zr := zr.keepG hg_ nzr
  clear hc_ hg_
  go_wp2_with fail
  refine (searchMost_c _ w.heap.size _ n _ _ st.cur (by omega)).mono ?_; rintro e w_d ⟨m, rfl, hc_, hg_⟩
  replace st := st.call hc_ hg_
  replace zr := zr.keepG hg_ nzr
  clear hc_ hg_
  have q_zr0 := zr.c0
  have q_zr1 := zr.c1
  have q_zrf := zr.f0
  have q_zrg := zr.f1
  have q_zrs := zr.size
  have hBL := st.below (Nat.le_succ _)
  go_wp2
  exact bodyPost_ret (v := .tuple #[.agg #[.int .i64 a, .int .i64 b], .int .i64 m]) (by simp [results, Tryz.results77, go_sem, *]) rfl (⟨a, b, m, rfl, hDr, (by repeat (first | exact Below.refl _ _ | refine below_alloc ?_ _ | refine below_step ?_ (by assumption) | refine Below.drew ?_ | refine Below.setCell ?_ (by first | exact Nat.le_refl _ | exact Nat.le_add_right _ _ | (simp <;> omega)) _ | refine below_drewN ?_ _))⟩)
set_option maxRecDepth 100000 in
set_option maxHeartbeats 4000000 in
theorem drawRankBounds_c (v : Value) (n : Nat) (w : World) (h : Bytes w w.heap.size v n) :
    Calls Tryz.prog 27 #[v] w (DrawT w) := by
  obtain ⟨A, cap, rfl, hn, hb_⟩ := h
  have h : Bytes w w.heap.size (.slice A n cap) n := ⟨A, cap, rfl, hn, hb_⟩
  clear hb_ hn
  go_enter Tryz.func27, Tryz.ntmps27
  go_wp2_with fail
  have BA : Below w.heap.size w (w.alloc (.cells #[.int .i64 0, .int .i64 0] 25)) := (Below.refl _ _).alloc (Nat.le_refl _) _
  have zr := Box.new w 0 0 25
  refine (drawFoundRanks_c _ n _ ((h.keepB BA).mono BA.size)).mono ?_; rintro e w1 ⟨a, b, m, rfl, hDr, hb_⟩
  replace zr := zr.keep hb_
  have hBL := BA.trans (hb_.mono BA.size)
  clear hb_ BA h
  have q_zr0 := zr.c0
  have q_zr1 := zr.c1
  have q_zrf := zr.f0
  have q_zrg := zr.f1
  have q_zrs := zr.size
  go_wp2
  exact bodyPost_ret (v := .tuple #[.agg #[.int .i64 a, .int .i64 b], .int .i64 m]) (by simp [results, Tryz.results27, go_sem, *]) rfl (⟨a, b, m, rfl, hDr, (by repeat (first | exact Below.refl _ _ | refine below_alloc ?_ _ | refine below_step ?_ (by assumption) | refine Below.drew ?_ | refine Below.setCell ?_ (by first | exact Nat.le_refl _ | exact Nat.le_add_right _ _ | (simp <;> omega)) _ | refine below_drewN ?_ _))⟩)
set_option maxRecDepth 100000 in
set_option maxHeartbeats 4000000 in
theorem drawFoundGroup_c (v : Value) (n : Nat) (w : World) (h : Bytes w w.heap.size v n) :
    Calls Tryz.prog 38 #[v] w (DrawTBI w) := by
  obtain ⟨A, cap, rfl, hn, hb_⟩ := h
  have h : Bytes w w.heap.size (.slice A n cap) n := ⟨A, cap, rfl, hn, hb_⟩
  clear hb_ hn
  have st := St.new h (W := w.alloc (.cells #[.int .i64 0, .int .i64 0] 25)) (by exact (Below.refl _ _).alloc (Nat.le_refl _) _) 76
  rw [World.size_alloc] at st
  have zr := (Box.new w 0 0 25).alloc (.cells #[.slice A n cap, .int .i64 0, .int .u64 0] 76)
  have nzr : w.heap.size ≠ w.heap.size + 1 := by omega
  clear h
  go_enter Tryz.func38, Tryz.ntmps38
  go_wp2_with fail
  refine (descended_c _ w.heap.size _ n _ _ st.cur (by omega)).mono ?_; rintro e w_c ⟨a, b, rfl, hDr, hc_, hg_⟩
  replace st := st.call hc_ hg_
  replace zr := zr.keepG hg_ nzr
  clear hc_ hg_
  go_wp2_with fail
  refine (one_c _ w.heap.size _ n _ 2 _ st.cur (by omega) (by omega) (by omega)).mono ?_; rintro e w_q ⟨q, rfl, hc_, hg_⟩
  replace st := st.call hc_ hg_
  replace zr := zr.keepG hg_ nzr
  clear hc_ hg_
  go_wp2_with fail
  refine (searchMost_c _ w.heap.size _ n _ _ st.cur (by omega)).mono ?_; rintro e w_d ⟨m, rfl, hc_, hg_⟩
  replace st := st.call hc_ hg_
  replace zr := zr.keepG hg_ nzr
  clear hc_ hg_
  have q_zr0 := zr.c0
  have q_zr1 := zr.c1
  have q_zrf := zr.f0
  have q_zrg := zr.f1
  have q_zrs := zr.size
  have hBL := st.below (Nat.le_succ _)
  go_wp2
  exact bodyPost_ret (v := .tuple #[.agg #[.int .i64 a, .int .i64 b], .bool q, .int .i64 m]) (by simp [results, Tryz.results38, go_sem, *]) rfl (⟨a, b, q, m, rfl, hDr, (by repeat (first | exact Below.refl _ _ | refine below_alloc ?_ _ | refine below_step ?_ (by assumption) | refine Below.drew ?_ | refine Below.setCell ?_ (by first | exact Nat.le_refl _ | exact Nat.le_add_right _ _ | (simp <;> omega)) _ | refine below_drewN ?_ _))⟩)
set_option maxRecDepth 100000 in
set_option maxHeartbeats 4000000 in
theorem drawFoundDivisors_c (v : Value) (n : Nat) (w : World) (h : Bytes w w.heap.size v n) :
    Calls Tryz.prog 69 #[v] w (DrawTBI w) := by
  obtain ⟨A, cap, rfl, hn, hb_⟩ := h
  have h : Bytes w w.heap.size (.slice A n cap) n := ⟨A, cap, rfl, hn, hb_⟩
  clear hb_ hn
  have st := St.new h (W := w.alloc (.cells #[.int .i64 0, .int .i64 0] 25)) (by exact (Below.refl _ _).alloc (Nat.le_refl _) _) 76
  rw [World.size_alloc] at st
  have zr := (Box.new w 0 0 25).alloc (.cells #[.slice A n cap, .int .i64 0, .int .u64 0] 76)
  have nzr : w.heap.size ≠ w.heap.size + 1 := by omega
  clear h
  go_enter Tryz.func69, Tryz.ntmps69
  go_wp2_with fail
  refine (sided_c _ w.heap.size _ n _ _ st.cur (by omega)).mono ?_; rintro e w_c ⟨a, b, q, rfl, hDr, hc_, hg_⟩
  replace st := st.call hc_ hg_
  replace zr := zr.keepG hg_ nzr
  clear hc_ hg_
  have se := st.size
  have sr := zr.size
  replace st := st.alloc (.cells #[.int .i64 a, .int .i64 b] 25)
  replace zr := zr.alloc (.cells #[.int .i64 a, .int .i64 b] 25)
  have ex := Box.new w_c a b 25
  have nex : w_c.heap.size ≠ w.heap.size + 1 := by omega
  have nrx : w.heap.size ≠ w_c.heap.size := by omega
  go_upto_region 3 with fail
  generalize w_c.alloc (.cells #[.int .i64 a, .int .i64 b] 25) = w7 at *
  generalize hE : w_c.heap.size = E at *
  clear hE
  refine Rg.walkW (fun l W => St w W (w.heap.size + 1) w.heap.size (.slice A n cap) n ((0 + 60) + Rg.kks [(5, 2), (7, 2)] l) ∧ Box W E  a  b ∧ Box W w.heap.size (bif l 8 then a else 0) (bif l 8 then b else 0)) (fun i u W => match i with | 4 => LitF [(w.heap.size + 1), w.heap.size] 2 u W | 5 => IntF u | 6 => LitF [(w.heap.size + 1), w.heap.size] 7 u W | 7 => IntF u | 10 => IntF u | _ => True) (DrR [(w.heap.size + 1), w.heap.size]) [4, 5, 6, 7, 8, 10] [.agg #[.int .i64 a, .int .i64 b], .bool q, .pointer (some ⟨w.heap.size + 1, 0, none⟩), .pointer (some ⟨w.heap.size + 1, 0, none⟩), undef, undef, undef, undef, undef, .bool q, undef] (by kernel_rfl) (by kernel_rfl) (by decide) (fun l l2 W h q => by rw [← Rg.kks_ext (C := [(5, 2), (7, 2)]) (l := l) fun p hp => h p.1 (by revert p; decide)]; rw [← h 8 (by decide)]; exact q) (fun i u w1 w2 hR h => by match i, h with | 0, h => trivial | 1, h => trivial | 2, h => trivial | 3, h => trivial | 4, h => exact LitF.keep h hR | 5, h => exact h | 6, h => exact LitF.keep h hR | 7, h => exact h | 8, h => trivial | 9, h => trivial | 10, h => exact h | n_ + 11, _ => trivial) (⟨st.drew, ex.drew, zr.drew⟩) ⟨?_, ?_, ?_, ?_, ?_, ?_, ?_, ?_, ?_, ?_, ?_, trivial⟩ ?_
  · unfold Rg.OwedW1
    intro ac_ w_ l_ vals_ hBs hF_ hl_ hu_ hd_ hc_ hr
    refine ⟨rfl, ?_⟩
    rw [if_neg (by decide)]
    have e6 : ac_.tmps[6]? = some (.pointer (some ⟨E, 0, none⟩)) := hr 6 (by decide)
    have k0 := hBs.2.1.c0
    have k1 := hBs.2.1.c1
    go_simp
  · unfold Rg.OwedW1
    intro ac_ w_ l_ vals_ hBs hF_ hl_ hu_ hd_ hc_ hr
    refine ⟨rfl, ?_⟩
    rw [if_neg (by decide)]
    have e7 : ac_.tmps[7]? = some (.bool q) := hr 7 (by decide)
    go_simp
  · unfold Rg.OwedW1
    intro ac_ w_ l_ vals_ hBs hF_ hl_ hu_ hd_ hc_ hr
    refine ⟨rfl, ?_⟩
    rw [if_neg (by decide)]
    have e5 : ac_.tmps[5]? = some (.pointer (some ⟨w.heap.size + 1, 0, none⟩)) := hr 5 (by decide)
    go_simp
  · unfold Rg.OwedW1
    intro ac_ w_ l_ vals_ hBs hF_ hl_ hu_ hd_ hc_ hr
    refine ⟨rfl, ?_⟩
    rw [if_neg (by decide)]
    have e5 : ac_.tmps[5]? = some (.pointer (some ⟨w.heap.size + 1, 0, none⟩)) := hr 5 (by decide)
    go_simp
  · unfold Rg.OwedW1
    intro ac_ w_ l_ vals_ hBs hF_ hl_ hu_ hd_ hc_ hr
    have ec := Rg.ec ac_
    refine ⟨rfl, ?_⟩
    rw [if_pos (by decide)]
    refine Rg.layC (x := .slice (some ⟨w_.heap.size, 0, none⟩) 2 2) (ob := .cells (([0, 61] : List Int).map (Value.int .i64)).toArray 3) (by first | (go_simp; done) | (go_simp; exact ⟨rfl, rfl⟩) | (go_simp; rfl)) ?_
    have sz0_ := hBs.1.size
    have sz1_ := hBs.2.2.size
    exact ⟨⟨by rw [Rg.kks_off (by decide)]; exact hBs.1.alloc _, hBs.2.1.alloc _, hBs.2.2.alloc _⟩, LitF.new w_ _ _ rfl (by simp only [List.mem_cons, List.not_mem_nil, or_false]; omega), DrR.lay (r := (w.heap.size + 1)) (by simp) _ _⟩
  · unfold Rg.OwedW1
    intro ac_ w_ l_ vals_ hBs hF_ hl_ hu_ hd_ hc_ hr
    have e19 : ac_.tmps[19]? = some (.pointer (some ⟨w.heap.size + 1, 0, none⟩)) := hr 19 (by decide)
    have e20 : ac_.tmps[20]? = some (vals_ 4) := hr 20 (by decide)
    have ef : ∀ f, ac_.eval (.func f) = .func (.func f) #[] #[] := fun _ => rfl
    refine ⟨rfl, ?_⟩
    rw [if_pos (by decide)]
    have kk_ := Rg.kks_le [(5, 2), (7, 2)] l_
    rw [show Rg.kks [(5, 2), (7, 2)] (fun _ => true) = 4 from rfl] at kk_
    obtain ⟨b_, eb_, hb_⟩ := amongF_c (X := [(w.heap.size + 1), w.heap.size]) hBs.1.cur (by simp) (by omega) (by omega) (by omega) (hF_ 4 (by decide) (hd_ 4 (by kernel_rfl)))
    rw [eb_] at e20
    refine Rg.callC (by go_simp; exact ⟨rfl, rfl⟩) ?_
    refine hb_.mono ?_
    rintro e w5_ ⟨u_, rfl, hI_, hc2_, hg_⟩
    exact ⟨u_, rfl, ⟨by rw [Rg.kks_on (c := 2) (by decide) rfl hl_]; exact hBs.1.call hc2_ hg_, hBs.2.1.keepG hg_ (by omega), hBs.2.2.keepG hg_ (by omega)⟩, hI_, ⟨_, by simp, hg_⟩⟩
  · unfold Rg.OwedW1
    intro ac_ w_ l_ vals_ hBs hF_ hl_ hu_ hd_ hc_ hr
    have e21 : ac_.tmps[21]? = some (vals_ 5) := hr 21 (by decide)
    have ec := Rg.ec ac_
    refine ⟨rfl, ?_⟩
    rw [if_pos (by decide)]
    obtain ⟨x21_, ex21_⟩ := hF_ 5 (by decide) (hd_ 5 (by kernel_rfl))
    rw [ex21_] at e21
    refine Rg.layC (x := .slice (some ⟨w_.heap.size, 0, none⟩) 7 7) (ob := .cells (([1, 2, 5, 12, 20, 60, x21_] : List Int).map (Value.int .i64)).toArray 3) (by first | (go_simp; done) | (go_simp; exact ⟨rfl, rfl⟩) | (go_simp; rfl)) ?_
    have sz0_ := hBs.1.size
    have sz1_ := hBs.2.2.size
    exact ⟨⟨by rw [Rg.kks_off (by decide)]; exact hBs.1.alloc _, hBs.2.1.alloc _, hBs.2.2.alloc _⟩, LitF.new w_ _ _ rfl (by simp only [List.mem_cons, List.not_mem_nil, or_false]; omega), DrR.lay (r := (w.heap.size + 1)) (by simp) _ _⟩
  · unfold Rg.OwedW1
    intro ac_ w_ l_ vals_ hBs hF_ hl_ hu_ hd_ hc_ hr
    have e18 : ac_.tmps[18]? = some (.pointer (some ⟨w.heap.size + 1, 0, none⟩)) := hr 18 (by decide)
    have e22 : ac_.tmps[22]? = some (vals_ 6) := hr 22 (by decide)
    have ef : ∀ f, ac_.eval (.func f) = .func (.func f) #[] #[] := fun _ => rfl
    refine ⟨rfl, ?_⟩
    rw [if_pos (by decide)]
    have kk_ := Rg.kks_le [(5, 2), (7, 2)] l_
    rw [show Rg.kks [(5, 2), (7, 2)] (fun _ => true) = 4 from rfl] at kk_
    obtain ⟨b_, eb_, hb_⟩ := amongF_c (X := [(w.heap.size + 1), w.heap.size]) hBs.1.cur (by simp) (by omega) (by omega) (by omega) (hF_ 6 (by decide) (hd_ 6 (by kernel_rfl)))
    rw [eb_] at e22
    refine Rg.callC (by go_simp; exact ⟨rfl, rfl⟩) ?_
    refine hb_.mono ?_
    rintro e w5_ ⟨u_, rfl, hI_, hc2_, hg_⟩
    exact ⟨u_, rfl, ⟨by rw [Rg.kks_on (c := 2) (by decide) rfl hl_]; exact hBs.1.call hc2_ hg_, hBs.2.1.keepG hg_ (by omega), hBs.2.2.keepG hg_ (by omega)⟩, hI_, ⟨_, by simp, hg_⟩⟩
  · unfold Rg.OwedW1
    intro ac_ w_ l_ vals_ hBs hF_ hl_ hu_ hd_ hc_ hr
    have e2 : ac_.tmps[2]? = some (.pointer (some ⟨w.heap.size, 0, none⟩)) := hr 2 (by decide)
    have e16 : ac_.tmps[16]? = some (.agg #[.int .i64 a, .int .i64 b]) := hr 16 (by decide)
    refine ⟨rfl, ?_⟩
    rw [if_pos (by decide)]
    have bx_ := hBs.2.2
    rw [hl_] at bx_
    have ⟨b0_, b1_, b2_, b3_, b4_⟩ := bx_
    have sz0_ := hBs.1.size
    skip
    unfold Oper.wp
    go_simp
    refine ⟨⟨by rw [Rg.kks_off (by decide)]; exact hBs.1.store (by omega) (by omega) (by omega) _ _, hBs.2.1.other (by omega) _ _, bx_.store _ _⟩, ⟨w.heap.size, by simp, set2_grown _ _ _ _⟩⟩
  · unfold Rg.OwedW1
    intro ac_ w_ l_ vals_ hBs hF_ hl_ hu_ hd_ hc_ hr
    refine ⟨rfl, ?_⟩
    rw [if_neg (by decide)]
    have e17 : ac_.tmps[17]? = some (.bool q) := hr 17 (by decide)
    go_simp
  · unfold Rg.OwedW1
    intro ac_ w_ l_ vals_ hBs hF_ hl_ hu_ hd_ hc_ hr
    have e23 : ac_.tmps[23]? = some (vals_ 7) := hr 23 (by decide)
    refine ⟨rfl, ?_⟩
    rw [if_pos (by decide)]
    refine Rg.runC (x := vals_ 7) (w2 := w_) (by first | (go_simp; done) | (go_simp; rfl)) ?_
    exact ⟨⟨by rw [Rg.kks_off (by decide)]; exact hBs.1, hBs.2.1, hBs.2.2⟩, hF_ 7 (by decide) (hd_ 7 (by kernel_rfl)), DrR.self (r := (w.heap.size + 1)) (by simp) _⟩
  · intro vals wz hBs hF hv
    have v_9 : vals 9 = .bool q := hv 9 (by decide) (by decide)
    obtain ⟨x4, v_10⟩ := hF 10 (by decide)
    simp only [Rg.fill, if_true, Act.put, List.setIfInBounds_toArray, List.set_cons_zero, List.set_cons_succ, Nat.zero_add, Nat.reduceAdd]
    clear hv hF
    simp only [v_9, v_10]
    clear v_9 v_10
    replace st := hBs.1
    replace zr := hBs.2.2
    clear hBs ex
    simp only [cond_true] at zr
    have q_zr0 := zr.c0
    have q_zr1 := zr.c1
    have q_zrf := zr.f0
    have q_zrg := zr.f1
    have q_zrs := zr.size
    have hBL := st.below (Nat.le_succ _)
    go_wp2
    exact bodyPost_ret (v := .tuple #[.agg #[.int .i64 a, .int .i64 b], .bool q, .int .i64 x4]) (by simp [results, Tryz.results69, go_sem, *]) rfl (⟨a, b, q, x4, rfl, hDr, (by repeat (first | exact Below.refl _ _ | refine below_alloc ?_ _ | refine below_step ?_ (by assumption) | refine Below.drew ?_ | refine Below.setCell ?_ (by first | exact Nat.le_refl _ | exact Nat.le_add_right _ _ | (simp <;> omega)) _ | refine below_drewN ?_ _))⟩)
set_option maxRecDepth 100000 in
set_option maxHeartbeats 4000000 in
theorem drawOpenDivisors_c (v : Value) (n : Nat) (w : World) (h : Bytes w w.heap.size v n) :
    Calls Tryz.prog 22 #[v] w (DrawTBI w) := by
  obtain ⟨A, cap, rfl, hn, hb_⟩ := h
  have h : Bytes w w.heap.size (.slice A n cap) n := ⟨A, cap, rfl, hn, hb_⟩
  clear hb_ hn
  go_enter Tryz.func22, Tryz.ntmps22
  go_wp2_with fail
  have BA : Below w.heap.size w (w.alloc (.cells #[.int .i64 0, .int .i64 0] 25)) := (Below.refl _ _).alloc (Nat.le_refl _) _
  have zr := Box.new w 0 0 25
  refine (drawFoundDivisors_c _ n _ ((h.keepB BA).mono BA.size)).mono ?_; rintro e w1 ⟨a, b, q, m, rfl, hDr, hb_⟩
  replace zr := zr.keep hb_
  have hBL := BA.trans (hb_.mono BA.size)
  clear hb_ BA h
  have q_zr0 := zr.c0
  have q_zr1 := zr.c1
  have q_zrf := zr.f0
  have q_zrg := zr.f1
  have q_zrs := zr.size
  go_wp2
  exact bodyPost_ret (v := .tuple #[.agg #[.int .i64 a, .int .i64 b], .bool q, .int .i64 m]) (by simp [results, Tryz.results22, go_sem, *]) rfl (⟨a, b, q, m, rfl, hDr, (by repeat (first | exact Below.refl _ _ | refine below_alloc ?_ _ | refine below_step ?_ (by assumption) | refine Below.drew ?_ | refine Below.setCell ?_ (by first | exact Nat.le_refl _ | exact Nat.le_add_right _ _ | (simp <;> omega)) _ | refine below_drewN ?_ _))⟩)
end Go.Proofs.YtgkjmjlkhnfbiaaGreat

namespace Go.Proofs.YtgkjmjlkhnfbiaaGreat
set_option linter.unusedSimpArgs false
set_option linter.unusedVariables false
open Go.RowKit
def bigB (n m : Nat) : Bool := decide ((1048576 : Int) < n) || decide (1048576 - (n : Int) < m)
theorem big_c (v u : Value) (n m : Nat) (w : World) (hv : Bytes w w.heap.size v n) (hu : Bytes w w.heap.size u m) :
    Calls Tryz.prog 5 #[v, u] w fun e w' => e = .returned (.bool (bigB n m)) ∧ w = w' := by
  obtain ⟨A, c, rfl, hn, -⟩ := hv
  obtain ⟨A', c', rfl, hm, -⟩ := hu
  by_cases h1 : (1048576 : Int) < n
  · go_enter Tryz.func5, Tryz.ntmps5
    go_wp2
    go_ret
    exact ⟨ret_b (by simp [bigB, h1]), rfl⟩
  · by_cases h2 : 1048576 - (n : Int) < m
    all_goals
      go_enter Tryz.func5, Tryz.ntmps5
      go_wp2
      go_ret
      exact ⟨ret_b (by simp [bigB, h1, h2]), rfl⟩

theorem pIn_c (v : Value) (xs : List Int) (d : Int) (hi : Nat) (w : World) (hx : SeenI w hi v xs) (hd : d ∈ xs) :
    Calls Tryz.prog 17 #[v, .int .i64 d] w fun e w' => e = .returned (.bool true) ∧ w = w' := by
  obtain ⟨A, cap, rfl, hm, hv⟩ := hx
  have Hd := Lib.hid hd
  clear hd
  go_enter Tryz.func17, Tryz.ntmps17
  go_wp2
  go_loop [9] (fun vi => ∃ k : Nat, k ≤ xs.length ∧ vi = .int .i64 k ∧ ∀ j x, j < k → xs[j]? = some x → x ≠ d) (fun vi => xs.length - (intOf vi).toNat)
  case atStart => exact ⟨0, by omega, rfl, fun j x h => by omega⟩
  case round =>
    obtain ⟨k, hk, rfl, hall⟩ := hrel
    have Hall := Lib.hid hall
    clear hall
    by_cases hlt : k < xs.length
    · obtain ⟨g, x, rfl, hg, hx, hcell⟩ := hv k hlt
      clear hv
      by_cases hxd : x = d
      · have hb : (x == d) = true := by simpa using hxd
        go_wp2
        go_ret
        exact ⟨rfl, rfl⟩
      · have hb : (x == d) = false := by simpa using hxd
        go_wp2
        go_round
        case rel => exact ⟨k + 1, by omega, by go_num, fun j y hj hy => by
          rcases Nat.lt_or_ge j k with hh | hh
          · exact Hall.out j y hh hy
          · obtain rfl : j = k := by omega
            obtain rfl := Option.some.inj (hx.out.symm.trans hy)
            exact hxd⟩
        case measure => simp [intOf]; omega
    · exfalso
      obtain ⟨j, hj⟩ := List.getElem?_of_mem Hd.out
      exact Hall.out j d (by have := (List.getElem?_eq_some_iff.1 hj).1; omega) hj rfl

theorem pInN_c (v : Value) (xs : List Int) (d : Int) (hi : Nat) (w : World) (hx : SeenI w hi v xs) (hd : d ∉ xs) :
    Calls Tryz.prog 17 #[v, .int .i64 d] w fun e w' => e = .returned (.bool false) ∧ w = w' := by
  obtain ⟨A, cap, rfl, hm, hv⟩ := hx
  have Hd := Lib.hid hd
  clear hd
  go_enter Tryz.func17, Tryz.ntmps17
  go_wp2
  go_loop [9] (fun vi => ∃ k : Nat, k ≤ xs.length ∧ vi = .int .i64 k) (fun vi => xs.length - (intOf vi).toNat)
  case atStart => exact ⟨0, by omega, rfl⟩
  case round =>
    obtain ⟨k, hk, rfl⟩ := hrel
    by_cases hlt : k < xs.length
    · obtain ⟨g, x, rfl, hg, hx, hcell⟩ := hv k hlt
      clear hv
      have hxd : x ≠ d := fun e => Hd.out (e ▸ List.mem_of_getElem? hx.out)
      have hb : (x == d) = false := by simpa using hxd
      go_wp2
      go_round
      case rel => exact ⟨k + 1, by omega, by go_num⟩
      case measure => simp [intOf]; omega
    · obtain rfl : k = xs.length := by omega
      clear hv
      go_wp2
      go_ret
      exact ⟨rfl, rfl⟩

theorem sameInts_c (v u : Value) (xs : List Int) (h1 h2 : Nat) (w : World) (hx : SeenI w h1 v xs) (hy : SeenI w h2 u xs) :
    Calls Tryz.prog 11 #[v, u] w fun e w' => e = .returned (.bool true) ∧ Below w.heap.size w w' := by
  obtain ⟨A, cap, rfl, hm, hv⟩ := hx
  obtain ⟨A', cap', rfl, -, hv'⟩ := hy
  go_enter Tryz.func11, Tryz.ntmps11
  go_wp2
  go_loopw [13] (fun vi wr => ∃ k : Nat, k ≤ xs.length ∧ vi = .int .i64 k ∧ Below w.heap.size w wr ∧ (∀ p, wr.cell? p = w.cell? p)) (fun vi _ => xs.length - (intOf vi).toNat)
  case atStart => exact ⟨0, by omega, rfl, Below.refl _ _, fun _ => rfl⟩
  case round =>
    obtain ⟨k, hk, rfl, hbr, hc⟩ := hrel
    have Hc := Lib.hid hc
    clear hc
    by_cases hlt : k < xs.length
    · obtain ⟨g, x, rfl, hg, hx, hcell⟩ := hv k hlt
      obtain ⟨g', x', rfl, hg', hx', hcell'⟩ := hv' k hlt
      obtain rfl := Option.some.inj (hx.out.symm.trans hx'.out)
      have q0 := (Hc.out _).trans hcell
      have q1 := (Hc.out _).trans hcell'
      clear hv hv' hcell hcell'
      go_wp2
      go_quiet (fail)
      go_wp2
      go_roundw
      case rel => exact ⟨k + 1, by omega, by go_num, below_drewN hbr _, fun p => Hc.out p⟩
      case measure => simp [intOf]; omega
    · obtain rfl : k = xs.length := by omega
      clear hv hv'
      go_wp2
      go_ret
      exact ⟨rfl, hbr⟩

theorem qHas_c (v : Value) (xs : List Int) (d : Int) (hi : Nat) (w : World) (hx : SeenI w hi v xs) (hd : d ∈ xs) :
    Calls Tryz.prog 43 #[v, .int .i64 d] w fun e w' => e = .returned (.bool true) ∧ w = w' := by
  obtain ⟨A, cap, rfl, hm, hv⟩ := hx
  have Hd := Lib.hid hd
  clear hd
  go_enter Tryz.func43, Tryz.ntmps43
  go_wp2
  go_loop [9] (fun vi => ∃ k : Nat, k ≤ xs.length ∧ vi = .int .i64 k ∧ ∀ j x, j < k → xs[j]? = some x → x ≠ d) (fun vi => xs.length - (intOf vi).toNat)
  case atStart => exact ⟨0, by omega, rfl, fun j x h => by omega⟩
  case round =>
    obtain ⟨k, hk, rfl, hall⟩ := hrel
    have Hall := Lib.hid hall
    clear hall
    by_cases hlt : k < xs.length
    · obtain ⟨g, x, rfl, hg, hx, hcell⟩ := hv k hlt
      clear hv
      by_cases hxd : x = d
      · have hb : (x == d) = true := by simpa using hxd
        go_wp2
        go_ret
        exact ⟨rfl, rfl⟩
      · have hb : (x == d) = false := by simpa using hxd
        go_wp2
        go_round
        case rel => exact ⟨k + 1, by omega, by go_num, fun j y hj hy => by
          rcases Nat.lt_or_ge j k with hh | hh
          · exact Hall.out j y hh hy
          · obtain rfl : j = k := by omega
            obtain rfl := Option.some.inj (hx.out.symm.trans hy)
            exact hxd⟩
        case measure => simp [intOf]; omega
    · exfalso
      obtain ⟨j, hj⟩ := List.getElem?_of_mem Hd.out
      exact Hall.out j d (by have := (List.getElem?_eq_some_iff.1 hj).1; omega) hj rfl

theorem qHasN_c (v : Value) (xs : List Int) (d : Int) (hi : Nat) (w : World) (hx : SeenI w hi v xs) (hd : d ∉ xs) :
    Calls Tryz.prog 43 #[v, .int .i64 d] w fun e w' => e = .returned (.bool false) ∧ w = w' := by
  obtain ⟨A, cap, rfl, hm, hv⟩ := hx
  have Hd := Lib.hid hd
  clear hd
  go_enter Tryz.func43, Tryz.ntmps43
  go_wp2
  go_loop [9] (fun vi => ∃ k : Nat, k ≤ xs.length ∧ vi = .int .i64 k) (fun vi => xs.length - (intOf vi).toNat)
  case atStart => exact ⟨0, by omega, rfl⟩
  case round =>
    obtain ⟨k, hk, rfl⟩ := hrel
    by_cases hlt : k < xs.length
    · obtain ⟨g, x, rfl, hg, hx, hcell⟩ := hv k hlt
      clear hv
      have hxd : x ≠ d := fun e => Hd.out (e ▸ List.mem_of_getElem? hx.out)
      have hb : (x == d) = false := by simpa using hxd
      go_wp2
      go_round
      case rel => exact ⟨k + 1, by omega, by go_num⟩
      case measure => simp [intOf]; omega
    · obtain rfl : k = xs.length := by omega
      clear hv
      go_wp2
      go_ret
      exact ⟨rfl, rfl⟩

theorem qInts_c (v u : Value) (xs : List Int) (h1 h2 : Nat) (w : World) (hx : SeenI w h1 v xs) (hy : SeenI w h2 u xs) :
    Calls Tryz.prog 41 #[v, u] w fun e w' => e = .returned (.bool true) ∧ Below w.heap.size w w' := by
  obtain ⟨A, cap, rfl, hm, hv⟩ := hx
  obtain ⟨A', cap', rfl, -, hv'⟩ := hy
  go_enter Tryz.func41, Tryz.ntmps41
  go_wp2
  go_loopw [13] (fun vi wr => ∃ k : Nat, k ≤ xs.length ∧ vi = .int .i64 k ∧ Below w.heap.size w wr ∧ (∀ p, wr.cell? p = w.cell? p)) (fun vi _ => xs.length - (intOf vi).toNat)
  case atStart => exact ⟨0, by omega, rfl, Below.refl _ _, fun _ => rfl⟩
  case round =>
    obtain ⟨k, hk, rfl, hbr, hc⟩ := hrel
    have Hc := Lib.hid hc
    clear hc
    by_cases hlt : k < xs.length
    · obtain ⟨g, x, rfl, hg, hx, hcell⟩ := hv k hlt
      obtain ⟨g', x', rfl, hg', hx', hcell'⟩ := hv' k hlt
      obtain rfl := Option.some.inj (hx.out.symm.trans hx'.out)
      have q0 := (Hc.out _).trans hcell
      have q1 := (Hc.out _).trans hcell'
      clear hv hv' hcell hcell'
      go_wp2
      go_quiet (fail)
      go_wp2
      go_roundw
      case rel => exact ⟨k + 1, by omega, by go_num, below_drewN hbr _, fun p => Hc.out p⟩
      case measure => simp [intOf]; omega
    · obtain rfl : k = xs.length := by omega
      clear hv hv'
      go_wp2
      go_ret
      exact ⟨rfl, hbr⟩

theorem qMost_c (a b : Int) (w : World) :
    Calls Tryz.prog 44 #[.int .i64 a, .int .i64 b] w fun e w' => e = .returned (.int .i64 (max a b)) ∧ w = w' := by
  by_cases h : a < b
  · have hm : max a b = b := by omega
    rw [hm]
    clear hm
    go_enter Tryz.func44, Tryz.ntmps44
    go_wp2
    go_ret
    exact ⟨rfl, rfl⟩
  · have hm : max a b = a := by omega
    rw [hm]
    clear hm
    go_enter Tryz.func44, Tryz.ntmps44
    go_wp2
    go_ret
    exact ⟨rfl, rfl⟩
end Go.Proofs.YtgkjmjlkhnfbiaaGreat
