/-
  Joined texts: contracts and plain laws.
-/
import Derived.Test.YtgkjmjlkhnfbiaaGreatB13
import Derived.Test.YtgkjmjlkhnfbiaaGreatB14
namespace Go.Proofs.YtgkjmjlkhnfbiaaGreat
set_option linter.unusedSimpArgs false
set_option linter.unusedVariables false
open Go.RowKit
namespace M
def qdisc (D A C : Int) : Int := A * A - 4 * D * C
/-- a quartic of a descent -/
def dsc (D A C : Int) : Prop := M.din D A C ∧ (-100000 ≤ D * C ∧ D * C ≤ 100000) ∧ D ≠ 0 ∧ C ≠ 0
theorem dsc.disc {D A C : Int} (h : dsc D A C) : -1400000 ≤ qdisc D A C ∧ qdisc D A C ≤ 1400000 := by
  obtain ⟨⟨⟨d1, d2⟩, ⟨a1, a2⟩, e1, e2⟩, h2, -⟩ := h
  have x1 := M.mul_bd (x := A) (y := A) (m := 1000) (n := 1000) a1 a2 (by omega) (by omega)
  unfold qdisc
  rw [Int.mul_assoc]
  omega
def nums (D A C : Int) : List Int := [D, C, qdisc D A C]
/-- the primes of some numbers, put in their places -/
noncomputable def badUp (l : List Int) : List Int := l.foldl (fun acc x => (primesOf x).foldl put acc) [2]
noncomputable def bads (D A C : Int) : List Int := badUp (nums D A C)
theorem inc_fput : ∀ (l acc : List Int), Inc acc → Inc (l.foldl put acc) ∧ ∀ x, x ∈ l.foldl put acc ↔ x ∈ acc ∨ x ∈ l
  | [], acc, h => ⟨h, by simp⟩
  | d :: l, acc, h => by
    have h1 := inc_put (n := d) h
    have ih := inc_fput l _ h1.1
    rw [List.foldl_cons]
    refine ⟨ih.1, fun x => ?_⟩
    rw [ih.2, h1.2, List.mem_cons]
    constructor
    · rintro ((q | q) | q)
      · exact Or.inl q
      · exact Or.inr (Or.inl q)
      · exact Or.inr (Or.inr q)
    · rintro (q | q | q)
      · exact Or.inl (Or.inl q)
      · exact Or.inl (Or.inr q)
      · exact Or.inr q
theorem inc_badUp : ∀ (l acc : List Int), Inc acc → Inc (l.foldl (fun acc x => (primesOf x).foldl put acc) acc) ∧ ∀ x, x ∈ l.foldl (fun acc x => (primesOf x).foldl put acc) acc ↔ x ∈ acc ∨ ∃ n ∈ l, x ∈ primesOf n
  | [], acc, h => ⟨h, by simp⟩
  | d :: l, acc, h => by
    have h1 := inc_fput (primesOf d) acc h
    have ih := inc_badUp l _ h1.1
    rw [List.foldl_cons]
    refine ⟨ih.1, fun x => ?_⟩
    rw [ih.2, h1.2]
    simp only [List.mem_cons, exists_eq_or_imp]
    constructor
    · rintro ((q | q) | q)
      · exact Or.inl q
      · exact Or.inr (Or.inl q)
      · exact Or.inr (Or.inr q)
    · rintro (q | q | q)
      · exact Or.inl (Or.inl q)
      · exact Or.inl (Or.inr q)
      · exact Or.inr q
theorem inc_two : Inc [2] := by unfold Inc; simp
theorem bads_inc (D A C : Int) : Inc (bads D A C) := (inc_badUp _ _ inc_two).1
theorem mem_bads {D A C x : Int} : x ∈ bads D A C ↔ x = 2 ∨ x ∈ primesOf D ∨ x ∈ primesOf C ∨ x ∈ primesOf (qdisc D A C) := by
  unfold bads badUp
  rw [(inc_badUp _ _ inc_two).2]
  simp [nums]
theorem two_bads (D A C : Int) : 2 ∈ bads D A C := mem_bads.2 (Or.inl rfl)
theorem bads_prime {D A C x : Int} (h : x ∈ bads D A C) : Prime x := by
  rcases mem_bads.1 h with rfl | h | h | h
  · exact ⟨by omega, fun d h1 h2 => by have := Int.mul_le_mul h1 h1 (by omega) (by omega); omega⟩
  all_goals exact mem_primesOf h
/-- the same, as the program has it -/
noncomputable def badCat (l : List Int) : List Int := l.foldl (fun acc x => acc ++ primesOf x) [2]
theorem mem_badCat : ∀ (l acc : List Int) (x : Int), x ∈ l.foldl (fun acc x => acc ++ primesOf x) acc ↔ x ∈ acc ∨ ∃ n ∈ l, x ∈ primesOf n
  | [], acc, x => by simp
  | d :: l, acc, x => by
    rw [List.foldl_cons, mem_badCat l, List.mem_append]
    simp only [List.mem_cons, exists_eq_or_imp]
    constructor
    · rintro ((q | q) | q)
      · exact Or.inl q
      · exact Or.inr (Or.inl q)
      · exact Or.inr (Or.inr q)
    · rintro (q | q | q)
      · exact Or.inl (Or.inl q)
      · exact Or.inl (Or.inr q)
      · exact Or.inr q
theorem bads_cat (D A C : Int) : cpt (srt (badCat (nums D A C))) = bads D A C := by
  have h1 := cpt_inc (srt_le (badCat (nums D A C)))
  refine Inc.ext h1.1 (bads_inc D A C) fun x => ?_
  rw [h1.2, (srt_perm _).mem_iff]
  unfold badCat bads badUp
  rw [mem_badCat, (inc_badUp _ _ inc_two).2]
theorem primesOf_len {n : Int} {m : Nat} (h : n.natAbs ≤ m) : (primesOf n).length ≤ m + 1 := by
  unfold primesOf
  have := sel_le (pdiv n) 0 (n.natAbs + 1)
  omega
theorem foldl_put_len : ∀ (l acc : List Int), (l.foldl put acc).length ≤ acc.length + l.length
  | [], acc => by simp
  | d :: l, acc => by
    have h1 := put_le acc d
    have h2 := foldl_put_len l (put acc d)
    simp only [List.foldl_cons, List.length_cons]
    omega
theorem badUp_len : ∀ (l acc : List Int), (∀ x ∈ l, x.natAbs ≤ 10000000) → (l.foldl (fun acc x => (primesOf x).foldl put acc) acc).length ≤ acc.length + l.length * 10000001
  | [], acc, _ => by simp
  | d :: l, acc, h => by
    have h1 := foldl_put_len (primesOf d) acc
    have h2 := badUp_len l ((primesOf d).foldl put acc) fun x hx => h x (List.mem_cons_of_mem _ hx)
    have h3 := primesOf_len (h d (List.mem_cons_self ..))
    simp only [List.foldl_cons, List.length_cons]
    omega
theorem badCat_len : ∀ (l acc : List Int), (∀ x ∈ l, x.natAbs ≤ 10000000) → (l.foldl (fun acc x => acc ++ primesOf x) acc).length ≤ acc.length + l.length * 10000001
  | [], acc, _ => by simp
  | d :: l, acc, h => by
    have h2 := badCat_len l (acc ++ primesOf d) fun x hx => h x (List.mem_cons_of_mem _ hx)
    have h3 := primesOf_len (h d (List.mem_cons_self ..))
    simp only [List.foldl_cons, List.length_cons, List.length_append] at *
    omega
end M
theorem OwnI.litOne (w : World) (base : Nat) (x : Int) (hb : base ≤ w.heap.size) : OwnI (w.alloc (.cells #[.int .i64 x] 3)) base (.slice (some ⟨w.heap.size, 0, none⟩) 1 1) [x] :=
  World.ownsRow_lit w #[.int .i64 x] 1 hb (by unfold maxLen; omega) rfl
theorem fromOwn {w : World} {base : Nat} {v : Value} {xs : List Int} (h : OwnI w base v xs) : ∃ A cap, v = .slice A xs.length cap ∧ Rw.From EI w A xs := by
  rcases (ownI_iff.1 h).forms with ⟨rfl, rfl⟩ | ⟨g, cap, rfl, hg, hgs, hc, hc2⟩
  · exact ⟨none, 0, rfl, Rw.From.nil _ _ _⟩
  · refine ⟨_, cap, rfl, ?_⟩
    have := Rw.Own.take_ rfl (ownI_iff.1 h) hgs (Below.refl _ w) xs.length
    rwa [List.take_length] at this
/-- 'out = append(out, ys...)': what is made, and which block it lies in -/
theorem pushI {ops : Array Oper} {rest : List Oper} {o : Oper} {a : Act} {Q : Exit → Act → World → Prop} {w : World} (base : Nat) (ys xs : List Int) (v : Value) (A : Option Addr) (m c : Nat) (hm : ys.length = m) (hgd : o.guard = none) (s x : Operand)
    (ho : o.op = .call { callee := .builtin .append, args := #[s, x], argTypes := #[28, 28] }) (hs : a.eval s = v) (hx : a.eval x = .slice A m c)
    (hr : Rw.From EI w A ys) (hown : OwnI w base v xs) (hB : base ≤ w.heap.size) (hl : xs.length + ys.length ≤ 100000000000)
    (h : ∀ v' w', OwnI w' base v' (xs ++ ys) → w.grownBy w' v.ownBlock → (v'.ownBlock = v.ownBlock ∨ v'.ownBlock = some w.heap.size) → Below base w w' → wpList Tryz.prog ops Q rest (a.put o.dst v') w') :
    wpList Tryz.prog ops Q (o :: rest) a w := by
  subst hm
  refine wpList_plain hgd fun _ hK => ?_
  have key : ∃ v' w', (Builtin.append_ #[28, 28] o.type #[v, .slice A ys.length c]).run Tryz.prog w = .ok v' w' ∧ OwnI w' base v' (xs ++ ys) ∧ w.grownBy w' v.ownBlock ∧ (v'.ownBlock = v.ownBlock ∨ v'.ownBlock = some w.heap.size) ∧ Below base w w' := by
    cases A with
    | none =>
      obtain ⟨i, z, hi, hz, hs', hby, hzc⟩ := fitsI.info
      have he : ys = [] := by
        cases ys with
        | nil => rfl
        | cons y ys =>
          obtain ⟨ad, h, -⟩ := hr 0 (.int .i64 y) rfl
          cases h
      subst he
      exact ⟨v, w, run_append_of_nil w base _ _ _ i 1 fitsI.under hi _ _ _ (ownI_iff.1 hown) c, by simpa using hown, World.grownBy.refl _ _, Or.inl rfl, Below.refl _ _⟩
    | some ad =>
      obtain ⟨v', w', h1, h2, h3, h4⟩ := Rw.run_push3 fitsI (w := w) (base := base) o.type ys ad c hr (ownI_iff.1 hown) hB hl
      exact ⟨v', w', h1, ownI_iff.2 h2, h3, h4, (Below.refl base w).grown h3 hB fun k hk => (OwnI.lt hown k hk).1⟩
  obtain ⟨v', w', h1, h2, h3, h4, h5⟩ := key
  unfold Oper.wp execOp
  simp only [ho, resolve, invoke, builtin, Sem.run_bind, Sem.run_pure, Result.andThen_ok, List.map_toArray, List.map_cons, List.map_nil, hs, hx, h1]
  exact hK _ _ (h v' w' h2 h3 h4 h5)
/-- what comes back: a list, and whether it is told -/
def OwnB (w : World) (base : Nat) (v : Value) (ok : Bool) (xs : List Int) : Prop := OwnI w base v (if ok then xs else [])
set_option maxRecDepth 100000 in
set_option maxHeartbeats 2000000 in
theorem loBad_c (D A C : Int) (w : World) (h : M.dsc D A C) (hd : M.qdisc D A C ≠ 0) :
    Calls Tryz.prog 127 #[.agg #[.int .i64 D, .int .i64 A, .int .i64 C]] w fun e w' => ∃ v, e = .returned (.tuple #[v, .bool true]) ∧ OwnI w' w.heap.size v (M.bads D A C) ∧ Below w.heap.size w w' := by
  have hdb := h.disc
  obtain ⟨⟨⟨d1, d2⟩, ⟨a1, a2⟩, e1, e2⟩, h2, hD, hC⟩ := h
  have x1 := M.mul_bd (x := A) (y := A) (m := 1000) (n := 1000) a1 a2 (by omega) (by omega)
  have x2 := M.mul_bd (x := 4 * D) (y := C) (m := 400000) (n := 100000) (by omega) (by omega) (by omega) (by omega)
  have hnum : ∀ x ∈ M.nums D A C, x ≠ 0 ∧ x.natAbs ≤ 10000000 := fun x hx => by
    simp only [M.nums, List.mem_cons, List.not_mem_nil, or_false] at hx
    rcases hx with rfl | rfl | rfl
    · exact ⟨hD, by omega⟩
    · exact ⟨hC, by omega⟩
    · exact ⟨hd, by omega⟩
  have hbl := fun k => show (M.badUp ((M.nums D A C).take k)).length ≤ 40000000 from by
    have h1 := M.badUp_len ((M.nums D A C).take k) [2] fun x hx => (hnum x (List.mem_of_mem_take hx)).2
    have h2 : ((M.nums D A C).take k).length ≤ 3 := by rw [List.length_take]; simp [M.nums]; omega
    simp only [M.badUp]
    simp only [List.length_singleton] at h1
    have h3 : ((M.nums D A C).take k).length * 10000001 ≤ 3 * 10000001 := Nat.mul_le_mul_right _ h2
    omega
  have hfin : M.badUp ((M.nums D A C).take 3) = M.bads D A C := rfl
  have hdd : A * A - 4 * D * C = M.qdisc D A C := rfl
  have hnum := Lib.hid hnum
  have hbl := Lib.hid hbl
  have hfin := Lib.hid hfin
  have hn3 : (M.nums D A C).length = 3 := rfl
  generalize hns : M.nums D A C = ns at *
  have hns' : ns = [D, C, M.qdisc D A C] := hns.symm
  clear hns
  generalize M.qdisc D A C = dd at *
  have hd5 : (dd == 0) = false := by simpa using hd
  obtain ⟨c0, c1, c2⟩ := box3 w D A C 35
  go_enter Tryz.func127, Tryz.ntmps127
  go_wp2
  have hbw : Below w.heap.size w (((w.alloc (.cells #[.int .i64 D, .int .i64 A, .int .i64 C] 35)).alloc (.cells #[.int .i64 2] 3)).alloc (.cells #[.int .i64 D, .int .i64 C, .int .i64 dd] 3)) := (by repeat (first | exact Below.refl _ _ | refine below_alloc ?_ _ | refine below_step ?_ (by assumption) | refine Below.drew ?_ | refine Below.setCell ?_ (by first | exact Nat.le_refl _ | exact Nat.le_add_right _ _ | (simp <;> omega)) _ | refine below_drewN ?_ _))
  have h2o : OwnI (((w.alloc (.cells #[.int .i64 D, .int .i64 A, .int .i64 C] 35)).alloc (.cells #[.int .i64 2] 3)).alloc (.cells #[.int .i64 D, .int .i64 C, .int .i64 dd] 3)) w.heap.size (.slice (some ⟨w.heap.size + 1, 0, none⟩) 1 1) [2] := by
    have := (OwnI.litOne (w.alloc (.cells #[.int .i64 D, .int .i64 A, .int .i64 C] 35)) w.heap.size 2 (by simp)).alloc (.cells #[.int .i64 D, .int .i64 C, .int .i64 dd] 3)
    simpa using this
  have hno : OwnI (((w.alloc (.cells #[.int .i64 D, .int .i64 A, .int .i64 C] 35)).alloc (.cells #[.int .i64 2] 3)).alloc (.cells #[.int .i64 D, .int .i64 C, .int .i64 dd] 3)) w.heap.size (.slice (some ⟨w.heap.size + 1 + 1, 0, none⟩) 3 3) ns := by
    have := OwnI.lit3 ((w.alloc (.cells #[.int .i64 D, .int .i64 A, .int .i64 C] 35)).alloc (.cells #[.int .i64 2] 3)) w.heap.size D C dd (by simp; omega)
    rw [hns']
    simpa using this
  generalize ((w.alloc (.cells #[.int .i64 D, .int .i64 A, .int .i64 C] 35)).alloc (.cells #[.int .i64 2] 3)).alloc (.cells #[.int .i64 D, .int .i64 C, .int .i64 dd] 3) = w1 at *
  obtain ⟨a9, cap9, e9, hm9, hv9⟩ := hno.view
  rw [hn3] at e9 hv9
  injection e9 with e9 e10 e11
  subst e9
  clear e10 e11 hno c0 c1 c2 hns' hm9
  have hv9 := Lib.hid hv9
  go_loopw [5, 7, 9, 32] (fun vo _ _ vi wr => ∃ k : Nat, k ≤ 3 ∧ vi = .int .i64 k ∧ OwnI wr w.heap.size vo (M.badUp (ns.take k)) ∧ Below w1.heap.size w1 wr) (fun _ _ _ vi _ => 3 - (intOf vi).toNat)
  case atStart => exact ⟨0, by omega, rfl, by simpa [M.badUp] using h2o, Below.refl _ _⟩
  case round =>
    clear h2o
    obtain ⟨k, hk, rfl, hown, hbr⟩ := hrel
    have z2 := hbr.size
    by_cases hlt : k < 3
    · obtain ⟨g, x, e3, hg, hx, hcell⟩ := hv9.out k hlt
      injection e3 with e3
      injection e3 with e3
      subst e3
      have hxb := hnum.out x (List.mem_of_getElem? hx.out)
      have hlen := hbl.out k
      have hst : Hid (M.badUp (ns.take (k + 1)) = (M.primesOf x).foldl M.put (M.badUp (ns.take k))) := Lib.hid (by unfold M.badUp; rw [List.take_add_one, hx.out, List.foldl_append]; rfl)
      have hcell := keepCell hbr hcell
      obtain ⟨x0, x8⟩ := hxb
      have PF := fun W => mdFactors_c x.natAbs W (by omega) (by omega)
      rw [← M.primesOf_abs x] at PF
      have PA := fun W => l1Abs_c x W (by omega) (by omega)
      have PF := Lib.hid PF
      have PA := Lib.hid PA
      have hpl := M.primesOf_len x8
      have hfl : (M.fac x.natAbs (M.primesOf x)).length = (M.primesOf x).length := by simp [M.fac]
      have hlt2 : (k : Int) < 3 := by omega
      have hx := Lib.hid hx.out
      generalize M.badUp (ns.take k) = acc at *
      obtain ⟨acc2, hacc2⟩ : ∃ a, Hid (M.badUp (ns.take (k + 1)) = a) := ⟨_, Lib.hid rfl⟩
      rw [hacc2.out] at hst
      go_wp2_with (first
        | (go_at_call 126; (with_reducible refine (PA.out _).mono ?_); rintro e w' ⟨rfl, rfl⟩)
        | (go_at_call 125; (with_reducible refine (PF.out _).mono ?_); rintro e w2 ⟨v, rfl, ⟨vs, hov⟩, hb⟩; obtain ⟨a, cap, rfl, hm, hv⟩ := hov.view))
      have hv := Lib.hid hv
      have hbr2 := hbr.trans (hb.mono z2)
      have z3 := hbr2.size
      have hown2 := hown.below hb
      go_loopw [5, 9, 40] (fun vo _ vi wr => ∃ j : Nat, j ≤ (M.primesOf x).length ∧ vi = .int .i64 j ∧ OwnI wr w.heap.size vo (((M.primesOf x).take j).foldl M.put acc) ∧ Below w2.heap.size w2 wr) (fun _ _ vi _ => (M.primesOf x).length - (intOf vi).toNat)
      case atStart => exact ⟨0, by omega, rfl, hown2, Below.refl _ _⟩
      case round =>
        clear hown2 hown
        obtain ⟨j, hj, rfl, hown, hbq⟩ := hrel
        have z4 := hbq.size
        by_cases hjt : j < (M.primesOf x).length
        · obtain ⟨g3, u, r, rfl, hg3, hr, -, hcell3, hown3⟩ := hv.out j (by rw [hfl]; exact hjt)
          obtain ⟨p, hp, rfl⟩ := M.fac_get hr.out
          obtain ⟨a2, cap2, rfl, hm2, hv2⟩ := hown3.view
          obtain ⟨g2, q0, rfl, hg2, hq0, hc0⟩ := hv2 0 (by simp)
          obtain rfl : p = q0 := by simpa using hq0.out
          have hc3 := keepCell hbq hcell3
          have hc4 := keepCell hbq hc0
          have hf := Lib.hid (foldl_next M.put acc hp)
          have hln := M.foldl_put_len ((M.primesOf x).take j) acc
          have hln2 : ((M.primesOf x).take j).length ≤ (M.primesOf x).length := by rw [List.length_take]; omega
          have PP := fun W v hw hz => l1Put_c (((M.primesOf x).take j).foldl M.put acc) v p W w.heap.size hw hz (by omega)
          have PP := Lib.hid PP
          clear hv2 hr hown3 hq0 hp hm2 hcell3 hc0
          go_wp2_with (go_at_call 115; (with_reducible refine (PP.out _ _ hown (by have := hbw.size; omega)).mono ?_); rintro e w3 ⟨v3, rfl, hown4, hb4⟩)
          go_roundw
          case rel => exact ⟨j + 1, by omega, by go_num, by rw [hf.out]; exact hown4, hbq.trans (hb4.mono z4)⟩
          case measure => simp [intOf]; omega
        · obtain rfl : j = (M.primesOf x).length := by omega
          rw [List.take_length, ← hst.out] at hown
          go_wp2
          go_roundw
          case rel =>
            exact ⟨k + 1, by omega, by go_num, by rw [hacc2.out]; exact hown, hbr2.trans (hbq.mono z3)⟩
          case measure => simp [intOf]; omega
    · obtain rfl : k = 3 := by omega
      go_wp2
      go_ret2
      exact ⟨_, rfl, by rw [← hfin.out]; exact hown, hbw.trans (hbr.mono hbw.size)⟩
set_option maxRecDepth 100000 in
set_option maxHeartbeats 2000000 in
theorem badPrimes_c (D A C : Int) (w : World) (h : M.dsc D A C) (hd : M.qdisc D A C ≠ 0) :
    Calls Tryz.prog 102 #[.agg #[.int .i64 D, .int .i64 A, .int .i64 C]] w fun e w' => ∃ v, e = .returned (.tuple #[v, .bool true]) ∧ OwnI w' w.heap.size v (M.bads D A C) ∧ Below w.heap.size w w' := by
  have hdb := h.disc
  have hcat := Lib.hid (M.bads_cat D A C)
  obtain ⟨⟨⟨d1, d2⟩, ⟨a1, a2⟩, e1, e2⟩, h2, hD, hC⟩ := h
  have x1 := M.mul_bd (x := A) (y := A) (m := 1000) (n := 1000) a1 a2 (by omega) (by omega)
  have x2 := M.mul_bd (x := 4 * D) (y := C) (m := 400000) (n := 100000) (by omega) (by omega) (by omega) (by omega)
  have hnum : ∀ x ∈ M.nums D A C, x ≠ 0 ∧ x.natAbs ≤ 10000000 := fun x hx => by
    simp only [M.nums, List.mem_cons, List.not_mem_nil, or_false] at hx
    rcases hx with rfl | rfl | rfl
    · exact ⟨hD, by omega⟩
    · exact ⟨hC, by omega⟩
    · exact ⟨hd, by omega⟩
  have hbl := fun k => show (M.badCat ((M.nums D A C).take k)).length ≤ 40000000 from by
    have h1 := M.badCat_len ((M.nums D A C).take k) [2] fun x hx => (hnum x (List.mem_of_mem_take hx)).2
    have h2 : ((M.nums D A C).take k).length ≤ 3 := by rw [List.length_take]; simp [M.nums]; omega
    simp only [M.badCat]
    simp only [List.length_singleton] at h1
    have h3 : ((M.nums D A C).take k).length * 10000001 ≤ 3 * 10000001 := Nat.mul_le_mul_right _ h2
    omega
  have hfin : M.badCat ((M.nums D A C).take 3) = M.badCat (M.nums D A C) := rfl
  have hpos : 0 < (M.badCat (M.nums D A C)).length := List.length_pos_of_mem (a := 2) (by unfold M.badCat; rw [M.mem_badCat]; simp)
  have hdd : A * A - 4 * D * C = M.qdisc D A C := rfl
  have hnum := Lib.hid hnum
  have hbl := Lib.hid hbl
  have hn3 : (M.nums D A C).length = 3 := rfl
  generalize hns : M.nums D A C = ns at *
  have hns' : ns = [D, C, M.qdisc D A C] := hns.symm
  clear hns
  have hfin := Lib.hid hfin
  have hpos := Lib.hid hpos
  generalize M.qdisc D A C = dd at *
  have hd5 : (dd == 0) = false := by simpa using hd
  obtain ⟨c0, c1, c2⟩ := box3 w D A C 35
  go_enter Tryz.func102, Tryz.ntmps102
  go_wp2
  have hbw : Below w.heap.size w (((w.alloc (.cells #[.int .i64 D, .int .i64 A, .int .i64 C] 35)).alloc (.cells #[.int .i64 2] 3)).alloc (.cells #[.int .i64 D, .int .i64 C, .int .i64 dd] 3)) := (by repeat (first | exact Below.refl _ _ | refine below_alloc ?_ _ | refine below_step ?_ (by assumption) | refine Below.drew ?_ | refine Below.setCell ?_ (by first | exact Nat.le_refl _ | exact Nat.le_add_right _ _ | (simp <;> omega)) _ | refine below_drewN ?_ _))
  have h2o : OwnI (((w.alloc (.cells #[.int .i64 D, .int .i64 A, .int .i64 C] 35)).alloc (.cells #[.int .i64 2] 3)).alloc (.cells #[.int .i64 D, .int .i64 C, .int .i64 dd] 3)) w.heap.size (.slice (some ⟨w.heap.size + 1, 0, none⟩) 1 1) [2] := by
    have := (OwnI.litOne (w.alloc (.cells #[.int .i64 D, .int .i64 A, .int .i64 C] 35)) w.heap.size 2 (by simp)).alloc (.cells #[.int .i64 D, .int .i64 C, .int .i64 dd] 3)
    simpa using this
  have hno : OwnI (((w.alloc (.cells #[.int .i64 D, .int .i64 A, .int .i64 C] 35)).alloc (.cells #[.int .i64 2] 3)).alloc (.cells #[.int .i64 D, .int .i64 C, .int .i64 dd] 3)) w.heap.size (.slice (some ⟨w.heap.size + 1 + 1, 0, none⟩) 3 3) ns := by
    have := OwnI.lit3 ((w.alloc (.cells #[.int .i64 D, .int .i64 A, .int .i64 C] 35)).alloc (.cells #[.int .i64 2] 3)) w.heap.size D C dd (by simp; omega)
    rw [hns']
    simpa using this
  generalize hw1 : ((w.alloc (.cells #[.int .i64 D, .int .i64 A, .int .i64 C] 35)).alloc (.cells #[.int .i64 2] 3)).alloc (.cells #[.int .i64 D, .int .i64 C, .int .i64 dd] 3) = w1 at *
  have hs1 : w1.heap.size = w.heap.size + 3 := by rw [← hw1]; simp
  clear hw1
  obtain ⟨a9, cap9, e9, hm9, hv9⟩ := hno.view
  rw [hn3] at e9 hv9
  injection e9 with e9 e10 e11
  subst e9
  clear e10 e11 c0 c1 c2 hns' hm9
  have hno := Lib.hid hno
  have hv9 := Lib.hid hv9
  -- the numbers' block lies untouched: it is not the list's own
  have hne0 : ∀ g, (Value.slice (some ⟨w.heap.size + 1, 0, none⟩) 1 1).ownBlock = some g → g ≠ w.heap.size + 1 + 1 := fun g e => by simp only [Value.ownBlock, Option.some.injEq] at e; omega
  go_loopw [5, 7, 30] (fun vo _ vi wr => ∃ k : Nat, k ≤ 3 ∧ vi = .int .i64 k ∧ OwnI wr w.heap.size vo (M.badCat (ns.take k)) ∧ Below w.heap.size w wr ∧ OwnI wr w.heap.size (.slice (some ⟨w.heap.size + 1 + 1, 0, none⟩) 3 3) ns ∧ (∀ g, vo.ownBlock = some g → g ≠ w.heap.size + 1 + 1) ∧ w.heap.size + 3 ≤ wr.heap.size) (fun _ _ vi _ => 3 - (intOf vi).toNat)
  case atStart => exact ⟨0, by omega, rfl, by simpa [M.badCat] using h2o, hbw, hno.out, hne0, by omega⟩
  case round =>
    clear h2o hne0 hv9 hno
    obtain ⟨k, hk, rfl, hown, hbr, hno, hne, hsz⟩ := hrel
    have z2 := hbr.size
    obtain ⟨a9, cap9, e9, hm9, hv9⟩ := hno.view
    rw [hn3] at e9 hv9
    injection e9 with e9 e10 e11
    subst e9
    clear e10 e11 hm9
    have hno := Lib.hid hno
    have hlen := hbl.out k
    by_cases hlt : k < 3
    · obtain ⟨g, x, e3, hg, hx, hcell⟩ := hv9 k hlt
      injection e3 with e3
      injection e3 with e3
      subst e3
      have hxb := hnum.out x (List.mem_of_getElem? hx.out)
      have hst : Hid (M.badCat (ns.take (k + 1)) = M.badCat (ns.take k) ++ M.primesOf x) := Lib.hid (by unfold M.badCat; rw [List.take_add_one, hx.out, List.foldl_append]; rfl)
      obtain ⟨x0, x8⟩ := hxb
      have PF := fun W => primesOf_c x W x0 (by omega) (by omega)
      have PF := Lib.hid PF
      have hpl := M.primesOf_len x8
      have hlt2 : (k : Int) < 3 := by omega
      have hx := Lib.hid hx.out
      have hne := Lib.hid hne
      clear hv9
      generalize M.badCat (ns.take k) = acc at *
      obtain ⟨acc2, hacc2⟩ : ∃ a, Hid (M.badCat (ns.take (k + 1)) = a) := ⟨_, Lib.hid rfl⟩
      rw [hacc2.out] at hst
      go_wp2_with (first
        | (go_at_call 124; (with_reducible refine (PF.out _).mono ?_); rintro e w2 ⟨v, rfl, hp2, hb2⟩; obtain ⟨A2, cap2, rfl, hf2⟩ := fromOwn hp2; (have hf2 := Lib.hid hf2); (have hown2 := hown.below hb2); (have hno2 := hno.out.below hb2); (have q2 := hb2.size))
        | (at_builtin; refine pushI w.heap.size (M.primesOf x) acc _ A2 _ _ (by rfl) (by rfl) (.tmp 34) (.tmp 36) (by rfl) (by rfl) (by rfl) hf2.out hown2 (by omega) (by omega) ?_; rintro v3 w3 hown3 hg3 hbl3 hb3; (have hno3 := hno2.kept hg3 (fun g e e' => hne.out g e (by simpa [Value.ownBlock] using e'.symm)))))
      have q3 := hg3.size
      have hne3 : ∀ g, v3.ownBlock = some g → g ≠ w.heap.size + 1 + 1 := fun g e => by
        rcases hbl3 with q | q
        · exact hne.out g (by rw [← q]; exact e)
        · rw [q] at e
          injection e with e
          omega
      go_roundw
      case rel => exact ⟨k + 1, by omega, by go_num, by rw [hacc2.out, hst.out]; exact hown3, (hbr.trans (hb2.mono z2)).trans hb3, hno3, hne3, by omega⟩
      case measure => simp [intOf]; omega
    · obtain rfl : k = 3 := by omega
      clear hv9
      rw [hfin.out] at hown hlen
      have PS := fun W v hw hz => sortInts_c (M.badCat ns) v W w.heap.size hw hz (by omega)
      have PC := fun W v hw hz => compactInts_c (M.srt (M.badCat ns)) v W w.heap.size hw hz (by rw [(M.srt_perm _).length_eq]; exact hpos.out) (by rw [(M.srt_perm _).length_eq]; omega)
      rw [hcat.out] at PC
      have PS := Lib.hid PS
      have PC := Lib.hid PC
      go_wp2_with (first
        | (go_at_call 110; (with_reducible refine (PS.out _ _ hown (by omega)).mono ?_); rintro e w5 ⟨rfl, hown5, hb5⟩)
        | (go_at_call 129; (with_reducible refine (PC.out _ _ hown5 (by have := hb5.size; omega)).mono ?_); rintro e w6 ⟨v6, rfl, hown6, hb6⟩))
      go_ret2
      exact ⟨_, rfl, hown6, (hbr.trans hb5).trans hb6⟩
end Go.Proofs.YtgkjmjlkhnfbiaaGreat

namespace Go.Proofs.YtgkjmjlkhnfbiaaGreat
set_option linter.unusedSimpArgs false
set_option linter.unusedVariables false
open Go.RowKit
namespace M
open Classical in
/-- the depth of a prime -/
noncomputable def dep (p : Int) : Nat := if h : ∃ d, 1 ≤ d ∧ d ≤ 29 ∧ IsDep p d then h.choose else 0
theorem dep_spec {p : Int} (h : 2 ≤ p) (h1 : p ≤ 1000000000) : 1 ≤ dep p ∧ dep p ≤ 29 ∧ IsDep p (dep p) := by
  have hx := dep_ex h h1
  unfold dep
  rw [dif_pos hx]
  exact hx.choose_spec
/-- whether a quartic is soluble at p; whether that is told -/
noncomputable def sv (D A C p : Int) : Bool := solv D A C p.toNat (dep p)
noncomputable def td (D A C p : Int) : Bool := told D A C p.toNat (dep p)
noncomputable def pok (D A C p : Int) : Bool := decide (p ≤ 997) && td D A C p
noncomputable def fok (D A C : Int) : Bool := (bads D A C).all (pok D A C)
/-- a list that is told, or none -/
def opt (b : Bool) (l : List Int) : List Int := if b then l else []
theorem opt_f (l : List Int) : opt false l = [] := rfl
theorem opt_t (l : List Int) : opt true l = l := rfl
noncomputable def nsv (D A C p : Int) : Bool := !sv D A C p
noncomputable def fl (D A C : Int) : List Int := (bads D A C).filter (nsv D A C)
theorem filt_next (f : Int → Bool) (l : List Int) {k : Nat} {x : Int} (h : l[k]? = some x) : (l.take (k + 1)).filter f = (l.take k).filter f ++ if f x then [x] else [] := by
  rw [List.take_add_one, h, List.filter_append]
  congr 1
  cases hx : f x <;> simp [hx]
theorem bads_len (D A C : Int) : 0 < (bads D A C).length := List.length_pos_of_mem (two_bads D A C)
theorem inc_last {l : List Int} (h : Inc l) {x y : Int} (hx : x ∈ l) (hy : l[l.length - 1]? = some y) : x ≤ y := by
  obtain ⟨j, hj, rfl⟩ := List.getElem_of_mem hx
  obtain ⟨hk, rfl⟩ := List.getElem?_eq_some_iff.1 hy
  rcases Nat.lt_or_ge j (l.length - 1) with q | q
  · exact Int.le_of_lt (List.pairwise_iff_getElem.1 h j (l.length - 1) hj hk q)
  · have : j = l.length - 1 := by omega
    subst this
    exact Int.le_refl _
theorem bads_big {D A C : Int} (h : dsc D A C) (hd : qdisc D A C ≠ 0) : (bads D A C).length ≤ 40000000 := by
  have hdb := h.disc
  obtain ⟨⟨⟨d1, d2⟩, ⟨a1, a2⟩, e1, e2⟩, h2, hD, hC⟩ := h
  have h1 := badUp_len (nums D A C) [2] fun x hx => by
    simp only [nums, List.mem_cons, List.not_mem_nil, or_false] at hx
    rcases hx with rfl | rfl | rfl <;> omega
  have h3 : (nums D A C).length = 3 := rfl
  rw [h3] at h1
  simp only [List.length_singleton] at h1
  show (badUp (nums D A C)).length ≤ _
  unfold badUp
  omega
end M
theorem solubleP_c (D A C p : Int) (w : World) (hp : 2 ≤ p) (hp2 : p ≤ 997) :
    Calls Tryz.prog 63 #[.agg #[.int .i64 D, .int .i64 A, .int .i64 C], .int .i64 p] w fun e w' => e = .returned (.tuple #[.bool (M.sv D A C p), .bool (M.td D A C p)]) ∧ Below w.heap.size w w' := by
  obtain ⟨h1, h2, h3⟩ := M.dep_spec hp (by omega)
  have e : ((p.toNat : Nat) : Int) = p := by omega
  have := soluble_c D A C p.toNat (M.dep p) w (by omega) (by omega) (by rw [e]; exact h3) h1 h2
  rw [e] at this
  exact this
theorem loSolvesP_c (D A C p : Int) (w : World) (hpr : M.Prime p) (hp2 : p ≤ 997) :
    Calls Tryz.prog 128 #[.agg #[.int .i64 D, .int .i64 A, .int .i64 C], .int .i64 p] w fun e w' => e = .returned (.tuple #[.bool (M.sv D A C p), .bool (M.td D A C p)]) ∧ Below w.heap.size w w' := by
  have hp := hpr.1
  obtain ⟨h1, h2, h3⟩ := M.dep_spec hp (by omega)
  have e : ((p.toNat : Nat) : Int) = p := by omega
  have := loSolves_c D A C p.toNat (M.dep p) w (by rw [e]; exact M.prime_iff.2 hpr) (by omega) (by omega) (by rw [e]; exact h3) h1 h2
  rw [e] at this
  exact this
set_option maxRecDepth 100000 in
set_option maxHeartbeats 2000000 in
theorem failing_c (D A C : Int) (w : World) (h : M.dsc D A C) (hd : M.qdisc D A C ≠ 0) :
    Calls Tryz.prog 59 #[.agg #[.int .i64 D, .int .i64 A, .int .i64 C]] w fun e w' => ∃ v, e = .returned (.tuple #[v, .bool (M.fok D A C)]) ∧ OwnI w' w.heap.size v (M.opt (M.fok D A C) (M.fl D A C)) ∧ Below w.heap.size w w' := by
  have PB := fun W => badPrimes_c D A C W h hd
  have hbig := M.bads_big h hd
  have hpos := M.bads_len D A C
  have hinc := M.bads_inc D A C
  have hpr := fun x (hx : x ∈ M.bads D A C) => (M.bads_prime hx).1
  have PS := fun p (h1 : 2 ≤ p) (h2 : p ≤ 997) W => solubleP_c D A C p W h1 h2
  have hfok : M.fok D A C = (M.bads D A C).all (M.pok D A C) := rfl
  have hfl : M.fl D A C = (M.bads D A C).filter (M.nsv D A C) := rfl
  rw [hfok, hfl]
  clear hfok hfl
  have PB := Lib.hid PB
  have PS := Lib.hid PS
  have hpr := Lib.hid hpr
  have hinc := Lib.hid hinc
  clear h hd
  generalize M.bads D A C = L at *
  obtain ⟨c0, c1, c2⟩ := box3 w D A C 35
  go_enter Tryz.func59, Tryz.ntmps59
  go_upto_region 2 with (go_at_call 102; (with_reducible refine (PB.out _).mono ?_); rintro e w1 ⟨v1, rfl, hown1, hb1⟩; obtain ⟨a, cap, rfl, hm, hv⟩ := hown1.view)
  have hbw : Below w.heap.size w (w.alloc (.cells #[.int .i64 D, .int .i64 A, .int .i64 C] 35)) := (by repeat (first | exact Below.refl _ _ | refine below_alloc ?_ _ | refine below_step ?_ (by assumption) | refine Below.drew ?_ | refine Below.setCell ?_ (by first | exact Nat.le_refl _ | exact Nat.le_add_right _ _ | (simp <;> omega)) _ | refine below_drewN ?_ _))
  have hb2 := hbw.trans (hb1.mono hbw.size)
  have hv := Lib.hid hv
  have hlast : ∃ y, L[L.length - 1]? = some y := ⟨_, List.getElem?_eq_getElem (by omega)⟩
  obtain ⟨y, hy⟩ := hlast
  obtain ⟨g, y', e3, hg, hx, hcell⟩ := hv.out (L.length - 1) (by omega)
  subst e3
  obtain rfl : y = y' := Option.some.inj (hy.symm.trans hx.out)
  have d0 := keepCell hb1 c0
  have d1 := keepCell hb1 c1
  have d2 := keepCell hb1 c2
  have hly : ((L.length : Int) - 1) = ((L.length - 1 : Nat) : Int) := by omega
  by_cases hbg : 997 < y
  · have hf : Hid (L.all (M.pok D A C) = false) := Lib.hid (by
      rw [List.all_eq_false]
      refine ⟨y, List.mem_of_getElem? hy, ?_⟩
      have : ¬ y ≤ 997 := by omega
      simp [M.pok, this])
    have hy := Lib.hid hy
    have hx := Lib.hid hx.out
    go_wp2
    go_ret2
    exact ⟨.slice none 0 0, by rw [hf.out] <;> rfl, by rw [hf.out, M.opt_f]; exact OwnI.nil _ _, hb2⟩
  · have hall : Hid (∀ x ∈ L, x ≤ 997) := Lib.hid fun x hx => by
      have := M.inc_last hinc.out hx hy
      omega
    have hy := Lib.hid hy
    have hx := Lib.hid hx.out
    go_wp2
    have z1 := hb1.size
    have hz0 := hbw.size
    go_loopw [6, 8, 9, 10, 29] (fun vo _ _ _ vi wr => ∃ k : Nat, k ≤ L.length ∧ vi = .int .i64 k ∧ OwnI wr w1.heap.size vo ((L.take k).filter (M.nsv D A C)) ∧ (L.take k).all (M.pok D A C) = true ∧ Below w1.heap.size w1 wr) (fun _ _ _ _ vi _ => L.length - (intOf vi).toNat)
    case atStart => exact ⟨0, by omega, rfl, OwnI.nil _ _, rfl, Below.refl _ _⟩
    case round =>
      obtain ⟨k, hk, rfl, hown, htd, hbr⟩ := hrel
      have z2 := hbr.size
      have htd := Lib.hid htd
      by_cases hlt : k < L.length
      · obtain ⟨g2, p, e4, hg2, hx2, hcell2⟩ := hv.out k hlt
        injection e4 with e4
        injection e4 with e4
        subst e4
        have hmem := List.mem_of_getElem? hx2.out
        have p2 := hpr.out p hmem
        have p9 := hall.out p hmem
        have P1 := fun W => PS.out p p2 p9 W
        have hcell2 := keepCell hbr hcell2
        have f0 := keepCell hbr d0
        have f1 := keepCell hbr d1
        have f2 := keepCell hbr d2
        have hst := Lib.hid (M.filt_next (M.nsv D A C) L hx2.out)
        have hst2 : Hid ((L.take (k + 1)).all (M.pok D A C) = ((L.take k).all (M.pok D A C) && M.pok D A C p)) := Lib.hid (by rw [List.take_add_one, hx2.out, List.all_append]; simp)
        have hpk : Hid (M.pok D A C p = M.td D A C p) := Lib.hid (by simp [M.pok, p9])
        have hns : Hid (M.nsv D A C p = !M.sv D A C p) := Lib.hid rfl
        have hfl := List.length_filter_le (M.nsv D A C) (L.take k)
        have hfl2 : (L.take k).length ≤ L.length := by rw [List.length_take]; omega
        have hmem := Lib.hid hmem
        have hx2 := Lib.hid hx2.out
        generalize M.sv D A C p = s at *
        generalize M.td D A C p = t at *
        cases t
        · have P1 := Lib.hid P1
          have hf : Hid (L.all (M.pok D A C) = false) := Lib.hid (by
            rw [List.all_eq_false]
            exact ⟨p, hmem.out, by rw [hpk.out]; simp⟩)
          go_wp2_with (go_at_call 63; (with_reducible refine (P1.out _).mono ?_); rintro e w5 ⟨rfl, hb5⟩)
          go_ret2
          exact ⟨.slice none 0 0, by rw [hf.out] <;> rfl, by rw [hf.out, M.opt_f]; exact OwnI.nil _ _, hb2.trans ((hbr.trans (hb5.mono z2)).mono hb2.size)⟩
        · cases s
          · have P1 := Lib.hid P1
            go_wp2_with (first
              | (go_at_call 63; (with_reducible refine (P1.out _).mono ?_); rintro e w5 ⟨rfl, hb5⟩; (have hown5 := hown.below hb5); (have q5 := hb5.size))
              | (at_builtin; refine push_int (W := w1) w1.heap.size p _ _ rfl (.tmp 43) (.tmp 45) rfl rfl rfl hown5 (hbr.trans (hb5.mono z2)) (by omega) (by omega) ?_; rintro v6 w6 hown6 hb6))
            go_roundw
            case rel => exact ⟨k + 1, by omega, by go_num, by rw [hst.out, hns.out]; exact hown6, by rw [hst2.out, htd.out, hpk.out]; rfl, hb6⟩
            case measure => simp [intOf]; omega
          · have P1 := Lib.hid P1
            go_wp2_with (first
              | (go_at_call 63; (with_reducible refine (P1.out _).mono ?_); rintro e w5 ⟨rfl, hb5⟩; (have hown5 := hown.below hb5); (have q5 := hb5.size)))
            go_roundw
            case rel => exact ⟨k + 1, by omega, by go_num, by rw [hst.out, hns.out]; simpa using hown5, by rw [hst2.out, htd.out, hpk.out]; rfl, hbr.trans (hb5.mono z2)⟩
            case measure => simp [intOf]; omega
      · obtain rfl : k = L.length := by omega
        have hf : Hid (L.all (M.pok D A C) = true) := Lib.hid (by rw [← htd.out, List.take_length])
        rw [List.take_length] at hown
        go_wp2
        go_ret2
        exact ⟨_, by rw [hf.out] <;> rfl, by rw [hf.out, M.opt_t]; exact hown.base hb2.size, hb2.trans (hbr.mono hb2.size)⟩
set_option maxRecDepth 100000 in
set_option maxHeartbeats 2000000 in
theorem loFailing_c (D A C : Int) (w : World) (h : M.dsc D A C) (hd : M.qdisc D A C ≠ 0) :
    Calls Tryz.prog 100 #[.agg #[.int .i64 D, .int .i64 A, .int .i64 C]] w fun e w' => ∃ v, e = .returned (.tuple #[v, .bool (M.fok D A C)]) ∧ OwnI w' w.heap.size v (M.opt (M.fok D A C) (M.fl D A C)) ∧ Below w.heap.size w w' := by
  have PB := fun W => loBad_c D A C W h hd
  have hbig := M.bads_big h hd
  have hpos := M.bads_len D A C
  have hinc := M.bads_inc D A C
  have hpr := fun x (hx : x ∈ M.bads D A C) => M.bads_prime hx
  have PS := fun p (h1 : M.Prime p) (h2 : p ≤ 997) W => loSolvesP_c D A C p W h1 h2
  have hfok : M.fok D A C = (M.bads D A C).all (M.pok D A C) := rfl
  have hfl : M.fl D A C = (M.bads D A C).filter (M.nsv D A C) := rfl
  rw [hfok, hfl]
  clear hfok hfl
  have PB := Lib.hid PB
  have PS := Lib.hid PS
  have hpr := Lib.hid hpr
  have hinc := Lib.hid hinc
  clear h hd
  generalize M.bads D A C = L at *
  obtain ⟨c0, c1, c2⟩ := box3 w D A C 35
  go_enter Tryz.func100, Tryz.ntmps100
  go_upto_region 2 with (go_at_call 127; (with_reducible refine (PB.out _).mono ?_); rintro e w1 ⟨v1, rfl, hown1, hb1⟩; obtain ⟨a, cap, rfl, hm, hv⟩ := hown1.view)
  have hbw : Below w.heap.size w (w.alloc (.cells #[.int .i64 D, .int .i64 A, .int .i64 C] 35)) := (by repeat (first | exact Below.refl _ _ | refine below_alloc ?_ _ | refine below_step ?_ (by assumption) | refine Below.drew ?_ | refine Below.setCell ?_ (by first | exact Nat.le_refl _ | exact Nat.le_add_right _ _ | (simp <;> omega)) _ | refine below_drewN ?_ _))
  have hb2 := hbw.trans (hb1.mono hbw.size)
  have hv := Lib.hid hv
  have d0 := keepCell hb1 c0
  have d1 := keepCell hb1 c1
  have d2 := keepCell hb1 c2
  have z1 := hb1.size
  have hz0 := hbw.size
  go_wp2
  go_loopw [6, 8, 9, 10, 20] (fun vo _ _ _ vi wr => ∃ k : Nat, k ≤ L.length ∧ vi = .int .i64 k ∧ OwnI wr w1.heap.size vo ((L.take k).filter (M.nsv D A C)) ∧ (L.take k).all (M.pok D A C) = true ∧ Below w1.heap.size w1 wr) (fun _ _ _ _ vi _ => L.length - (intOf vi).toNat)
  case atStart => exact ⟨0, by omega, rfl, OwnI.nil _ _, rfl, Below.refl _ _⟩
  case round =>
    obtain ⟨k, hk, rfl, hown, htd, hbr⟩ := hrel
    have z2 := hbr.size
    have htd := Lib.hid htd
    by_cases hlt : k < L.length
    · obtain ⟨g2, p, e4, hg2, hx2, hcell2⟩ := hv.out k hlt
      subst e4
      have hmem := List.mem_of_getElem? hx2.out
      have p2 := hpr.out p hmem
      have p2i := p2.1
      have hcell2 := keepCell hbr hcell2
      have f0 := keepCell hbr d0
      have f1 := keepCell hbr d1
      have f2 := keepCell hbr d2
      have hst := Lib.hid (M.filt_next (M.nsv D A C) L hx2.out)
      have hst2 : Hid ((L.take (k + 1)).all (M.pok D A C) = ((L.take k).all (M.pok D A C) && M.pok D A C p)) := Lib.hid (by rw [List.take_add_one, hx2.out, List.all_append]; simp)
      have hns : Hid (M.nsv D A C p = !M.sv D A C p) := Lib.hid rfl
      have hfl := List.length_filter_le (M.nsv D A C) (L.take k)
      have hfl2 : (L.take k).length ≤ L.length := by rw [List.length_take]; omega
      have hmem := Lib.hid hmem
      have hx2 := Lib.hid hx2.out
      by_cases p9 : 997 < p
      · have hf : Hid (L.all (M.pok D A C) = false) := Lib.hid (by
          rw [List.all_eq_false]
          refine ⟨p, hmem.out, ?_⟩
          have : ¬ p ≤ 997 := by omega
          simp [M.pok, this])
        go_wp2
        go_ret2
        exact ⟨.slice none 0 0, by rw [hf.out] <;> rfl, by rw [hf.out, M.opt_f]; exact OwnI.nil _ _, hb2.trans (hbr.mono hb2.size)⟩
      have p9' : p ≤ 997 := by omega
      have hpk : Hid (M.pok D A C p = M.td D A C p) := Lib.hid (by simp [M.pok, p9'])
      have P1 := fun W => PS.out p p2 p9' W
      have p2 := Lib.hid p2
      generalize M.sv D A C p = s at *
      generalize M.td D A C p = t at *
      cases t
      · have P1 := Lib.hid P1
        have hf : Hid (L.all (M.pok D A C) = false) := Lib.hid (by
          rw [List.all_eq_false]
          exact ⟨p, hmem.out, by rw [hpk.out]; simp⟩)
        go_wp2_with (go_at_call 128; (with_reducible refine (P1.out _).mono ?_); rintro e w5 ⟨rfl, hb5⟩)
        go_ret2
        exact ⟨.slice none 0 0, by rw [hf.out] <;> rfl, by rw [hf.out, M.opt_f]; exact OwnI.nil _ _, hb2.trans ((hbr.trans (hb5.mono z2)).mono hb2.size)⟩
      · cases s
        · have P1 := Lib.hid P1
          go_wp2_with (first
            | (go_at_call 128; (with_reducible refine (P1.out _).mono ?_); rintro e w5 ⟨rfl, hb5⟩; (have hown5 := hown.below hb5); (have q5 := hb5.size))
            | (at_builtin; refine push_int (W := w1) w1.heap.size p _ _ rfl (.tmp 36) (.tmp 38) rfl rfl rfl hown5 (hbr.trans (hb5.mono z2)) (by omega) (by omega) ?_; rintro v6 w6 hown6 hb6))
          go_roundw
          case rel => exact ⟨k + 1, by omega, by go_num, by rw [hst.out, hns.out]; exact hown6, by rw [hst2.out, htd.out, hpk.out]; rfl, hb6⟩
          case measure => simp [intOf]; omega
        · have P1 := Lib.hid P1
          go_wp2_with (first
            | (go_at_call 128; (with_reducible refine (P1.out _).mono ?_); rintro e w5 ⟨rfl, hb5⟩; (have hown5 := hown.below hb5); (have q5 := hb5.size)))
          go_roundw
          case rel => exact ⟨k + 1, by omega, by go_num, by rw [hst.out, hns.out]; simpa using hown5, by rw [hst2.out, htd.out, hpk.out]; rfl, hbr.trans (hb5.mono z2)⟩
          case measure => simp [intOf]; omega
    · obtain rfl : k = L.length := by omega
      have hf : Hid (L.all (M.pok D A C) = true) := Lib.hid (by rw [← htd.out, List.take_length])
      rw [List.take_length] at hown
      go_wp2
      go_ret2
      exact ⟨_, by rw [hf.out] <;> rfl, by rw [hf.out, M.opt_t]; exact hown.base hb2.size, hb2.trans (hbr.mono hb2.size)⟩
end Go.Proofs.YtgkjmjlkhnfbiaaGreat

namespace Go.Proofs.YtgkjmjlkhnfbiaaGreat
set_option linter.unusedSimpArgs false
set_option linter.unusedVariables false
namespace M
/-- one prime more: as the program has it, and as the reference has it -/
def dstep (acc : List Int) (p : Int) : List Int := acc ++ acc.map (· * p)
def pstep (acc : List Int) (p : Int) : List Int := acc.foldl (fun more d => put more (d * p)) acc
def dcat (l : List Int) : List Int := l.foldl dstep [-1, 1]
def dput (l : List Int) : List Int := l.foldl pstep [-1, 1]
noncomputable def dvs (b : Int) : List Int := dput (primesOf b)
theorem inc_pm : Inc [-1, 1] := by unfold Inc; simp
theorem inc_pstep {acc : List Int} (h : Inc acc) (p : Int) : Inc (pstep acc p) ∧ ∀ x, x ∈ pstep acc p ↔ x ∈ dstep acc p := by
  have key : ∀ (l acc : List Int), Inc acc → Inc (l.foldl (fun more d => put more (d * p)) acc) ∧ ∀ x, x ∈ l.foldl (fun more d => put more (d * p)) acc ↔ x ∈ acc ∨ x ∈ l.map (· * p) := by
    intro l
    induction l with
    | nil => intro acc h; exact ⟨h, by simp⟩
    | cons d l ih =>
      intro acc h
      have h1 := inc_put (n := d * p) h
      have h2 := ih _ h1.1
      rw [List.foldl_cons]
      refine ⟨h2.1, fun x => ?_⟩
      rw [h2.2, h1.2, List.map_cons, List.mem_cons]
      constructor
      · rintro ((q | q) | q)
        · exact Or.inl q
        · exact Or.inr (Or.inl q)
        · exact Or.inr (Or.inr q)
      · rintro (q | q | q)
        · exact Or.inl (Or.inl q)
        · exact Or.inl (Or.inr q)
        · exact Or.inr q
  have := key acc acc h
  refine ⟨this.1, fun x => ?_⟩
  unfold pstep dstep
  rw [this.2, List.mem_append]
theorem inc_dput : ∀ (l a b : List Int), Inc a → (∀ x, x ∈ a ↔ x ∈ b) → Inc (l.foldl pstep a) ∧ ∀ x, x ∈ l.foldl pstep a ↔ x ∈ l.foldl dstep b
  | [], a, b, h, hm => ⟨h, hm⟩
  | p :: l, a, b, h, hm => by
    have h1 := inc_pstep h p
    rw [List.foldl_cons, List.foldl_cons]
    refine inc_dput l _ _ h1.1 fun x => ?_
    rw [h1.2]
    unfold dstep
    simp only [List.mem_append, List.mem_map, hm]
/-- what the lists are like: behind the primes of 'done' -/
structure DInv (b : Int) (done acc : List Int) : Prop where
  nodup : acc.Nodup
  dvd : ∀ x ∈ acc, b % x = 0
  nz : ∀ x ∈ acc, x ≠ 0
  cop : ∀ x ∈ acc, ∀ q, Prime q → q ∉ done → ¬ x % q = 0
  big : ∃ P ∈ acc, (acc.length : Int) ≤ 2 * P
theorem DInv.start (b : Int) : DInv b [] [-1, 1] where
  nodup := by decide
  dvd := fun x hx => by
    simp only [List.mem_cons, List.not_mem_nil, or_false] at hx
    rcases hx with rfl | rfl
    · exact Int.emod_eq_zero_of_dvd ⟨-b, by omega⟩
    · exact Int.emod_one b
  nz := fun x hx => by
    simp only [List.mem_cons, List.not_mem_nil, or_false] at hx
    omega
  cop := fun x hx q hq _ hz => by
    have hq2 := hq.1
    simp only [List.mem_cons, List.not_mem_nil, or_false] at hx
    have hd := Int.dvd_of_emod_eq_zero hz
    have := Int.le_of_dvd (a := q) (b := 1) (by omega) (by rcases hx with rfl | rfl; exact (Int.dvd_neg.1 hd); exact hd)
    omega
  big := ⟨1, by simp, by simp⟩
theorem DInv.step {b p : Int} {done acc : List Int} (hb : b ≠ 0) (h : DInv b done acc) (hp : Prime p) (hpb : b % p = 0) (hpd : p ∉ done) : DInv b (done ++ [p]) (dstep acc p) := by
  have hp2 := hp.1
  have hcop := fun x hx => h.cop x hx p hp hpd
  refine ⟨?_, ?_, ?_, ?_, ?_⟩
  · unfold dstep
    rw [List.nodup_append]
    refine ⟨h.nodup, ?_, ?_⟩
    · unfold List.Nodup
      rw [List.pairwise_map]
      exact h.nodup.imp fun hne he => hne (Int.eq_of_mul_eq_mul_right (by omega) he)
    · intro x hx y hy he
      obtain ⟨z, hz, rfl⟩ := List.mem_map.1 hy
      exact hcop x hx (by rw [he]; exact Int.mul_emod_left z p)
  · intro x hx
    rcases List.mem_append.1 hx with q | q
    · exact h.dvd x q
    · obtain ⟨z, hz, rfl⟩ := List.mem_map.1 q
      obtain ⟨c, hc⟩ := Int.dvd_of_emod_eq_zero (h.dvd z hz)
      have h1 : c % p = 0 := prime_mul hp (x := z) (by rw [← hc]; exact hpb) (hcop z hz)
      obtain ⟨e, he⟩ := Int.dvd_of_emod_eq_zero h1
      exact Int.emod_eq_zero_of_dvd ⟨e, by rw [hc, he, Int.mul_assoc]⟩
  · intro x hx
    rcases List.mem_append.1 hx with q | q
    · exact h.nz x q
    · obtain ⟨z, hz, rfl⟩ := List.mem_map.1 q
      exact Int.mul_ne_zero (h.nz z hz) (by omega)
  · intro x hx q hq hqd hz
    rw [List.mem_append, List.mem_singleton, not_or] at hqd
    rcases List.mem_append.1 hx with k | k
    · exact h.cop x k q hq hqd.1 hz
    · obtain ⟨z, hz', rfl⟩ := List.mem_map.1 k
      have h1 := prime_mul hq hz (h.cop z hz' q hq hqd.1)
      exact hqd.2 (prime_div hp hq.1 h1)
  · obtain ⟨P, hP, hl⟩ := h.big
    refine ⟨P * p, List.mem_append.2 (Or.inr (List.mem_map.2 ⟨P, hP, rfl⟩)), ?_⟩
    unfold dstep
    rw [List.length_append, List.length_map]
    have h0 : 0 ≤ P := by omega
    have := Int.mul_le_mul_of_nonneg_left hp2 h0
    omega
theorem dcat_inv {b : Int} (hb : b ≠ 0) {l : List Int} (hi : Inc l) (hl : ∀ p ∈ l, Prime p ∧ b % p = 0) : ∀ k, k ≤ l.length → DInv b (l.take k) (dcat (l.take k))
  | 0, _ => DInv.start b
  | k + 1, hk => by
    have ih := dcat_inv hb hi hl k (by omega)
    have hx : l[k]? = some l[k] := List.getElem?_eq_getElem (by omega)
    have hp := hl _ (List.mem_of_getElem? hx)
    have hst : dcat (l.take (k + 1)) = dstep (dcat (l.take k)) l[k] := by
      unfold dcat
      rw [List.take_add_one, hx, List.foldl_append]
      rfl
    rw [hst, List.take_add_one, hx]
    refine ih.step hb hp.1 hp.2 fun hm => ?_
    obtain ⟨j, hj, he⟩ := List.getElem_of_mem hm
    rw [List.length_take] at hj
    rw [List.getElem_take] at he
    have := List.pairwise_iff_getElem.1 hi j k (by omega) (by omega) (by omega)
    omega
theorem primes_ok (b : Int) : Inc (primesOf b) ∧ ∀ p ∈ primesOf b, Prime p ∧ b % p = 0 := by
  refine ⟨inc_sel _ _ _, fun p hp => ?_⟩
  have h := (mem_sel.1 hp).2
  unfold pdiv at h
  have h := Bool.and_eq_true_iff.1 h
  exact ⟨prime_iff.1 h.1, by simpa using h.2⟩
theorem dcat_k {b : Int} (hb : b ≠ 0) {k : Nat} (hk : k ≤ (primesOf b).length) : DInv b ((primesOf b).take k) (dcat ((primesOf b).take k)) :=
  dcat_inv hb (primes_ok b).1 (primes_ok b).2 k hk
theorem DInv.len {b : Int} {done acc : List Int} (hb : b ≠ 0) (h : DInv b done acc) : acc.length ≤ 2 * b.natAbs := by
  obtain ⟨P, hP, hl⟩ := h.big
  have hd := Int.dvd_of_emod_eq_zero (h.dvd P hP)
  have := Int.le_of_dvd (a := P) (b := b.natAbs) (by omega) (Int.dvd_natAbs.2 hd)
  omega
theorem dput_inc (l : List Int) : Inc (dput l) ∧ ∀ x, x ∈ dput l ↔ x ∈ dcat l := inc_dput l _ _ inc_pm fun _ => Iff.rfl
theorem srt_inc {l : List Int} (h : l.Nodup) : Inc (srt l) := by
  have h1 := srt_le l
  have h2 : (srt l).Nodup := (srt_perm l).nodup_iff.2 h
  unfold Inc
  refine (h1.and h2).imp fun ⟨h, h'⟩ => ?_
  have : _ ≠ _ := h'
  omega
theorem dput_srt {b : Int} (hb : b ≠ 0) {k : Nat} (hk : k ≤ (primesOf b).length) : dput ((primesOf b).take k) = srt (dcat ((primesOf b).take k)) := by
  have h := dput_inc ((primesOf b).take k)
  refine Inc.ext h.1 (srt_inc (dcat_k hb hk).nodup) fun x => ?_
  rw [h.2, (srt_perm _).mem_iff]
theorem dput_len {b : Int} (hb : b ≠ 0) {k : Nat} (hk : k ≤ (primesOf b).length) : (dput ((primesOf b).take k)).length ≤ 2 * b.natAbs := by
  rw [dput_srt hb hk, (srt_perm _).length_eq]
  exact (dcat_k hb hk).len hb
theorem dvs_srt {b : Int} (hb : b ≠ 0) : srt (dcat (primesOf b)) = dvs b := by
  have := dput_srt hb (Nat.le_refl (primesOf b).length)
  rw [List.take_length] at this
  exact this.symm
theorem mem_dvs {b x : Int} (hb : b ≠ 0) (h : x ∈ dvs b) : x ≠ 0 ∧ b % x = 0 := by
  rw [← dvs_srt hb, (srt_perm _).mem_iff] at h
  have hd := dcat_k hb (Nat.le_refl (primesOf b).length)
  rw [List.take_length] at hd
  exact ⟨hd.nz x h, hd.dvd x h⟩
theorem dvs_len {b : Int} (hb : b ≠ 0) : (dvs b).length ≤ 2 * b.natAbs := by
  rw [← dvs_srt hb, (srt_perm _).length_eq]
  have hd := dcat_k hb (Nat.le_refl (primesOf b).length)
  rw [List.take_length] at hd
  exact hd.len hb
theorem dvs_inc (b : Int) : Inc (dvs b) := (dput_inc _).1
/-- members of the lists on the way: not greater than the number -/
theorem DInv.bd {b : Int} {done acc : List Int} (hb : b ≠ 0) (h : DInv b done acc) {x : Int} (hx : x ∈ acc) : x.natAbs ≤ b.natAbs := by
  have hd := Int.dvd_of_emod_eq_zero (h.dvd x hx)
  exact Nat.le_of_dvd (by omega) (Int.natAbs_dvd_natAbs.2 hd)
/-- the coefficients of a side -/
def sA (A : Int) (dual : Bool) : Int := if dual then -2 * A else A
def sB (A B : Int) (dual : Bool) : Int := if dual then A * A - 4 * B else B
/-- a valid two-curve -/
def tc (A B : Int) : Prop := (-300 ≤ A ∧ A ≤ 300) ∧ (-300 ≤ B ∧ B ≤ 300) ∧ B ≠ 0 ∧ A * A ≠ 4 * B
theorem tc.side {A B : Int} (h : tc A B) (dual : Bool) : (-600 ≤ sA A dual ∧ sA A dual ≤ 600) ∧ (-100000 ≤ sB A B dual ∧ sB A B dual ≤ 100000) ∧ sB A B dual ≠ 0 ∧ sA A dual * sA A dual - 4 * sB A B dual ≠ 0 := by
  obtain ⟨⟨a1, a2⟩, ⟨b1, b2⟩, h0, h1⟩ := h
  have x1 := M.mul_bd (x := A) (y := A) (m := 300) (n := 300) a1 a2 (by omega) (by omega)
  unfold sA sB
  cases dual
  · simp only [Bool.false_eq_true, if_false]
    omega
  · simp only [if_true]
    have : -2 * A * (-2 * A) = 4 * (A * A) := by grind
    omega
/-- the quartic of a divisor -/
def dC (A B : Int) (dual : Bool) (d : Int) : Int := sB A B dual / d
theorem tc.dsc {A B d : Int} {dual : Bool} (h : tc A B) (hd : d ∈ dvs (sB A B dual)) : dsc d (sA A dual) (dC A B dual d) ∧ qdisc d (sA A dual) (dC A B dual d) ≠ 0 := by
  obtain ⟨ha, hb, h0, h1⟩ := h.side dual
  obtain ⟨d0, d1⟩ := mem_dvs h0 hd
  have hx := Int.dvd_of_emod_eq_zero d1
  have he : d * dC A B dual d = sB A B dual := Int.mul_ediv_cancel' hx
  have hdn := Nat.le_of_dvd (by omega) (Int.natAbs_dvd_natAbs.2 hx)
  have hc : dC A B dual d ≠ 0 := fun q => by rw [q] at he; omega
  have hcx : dC A B dual d ∣ sB A B dual := ⟨d, by rw [Int.mul_comm]; exact he.symm⟩
  have hcn := Nat.le_of_dvd (by omega) (Int.natAbs_dvd_natAbs.2 hcx)
  refine ⟨⟨⟨⟨by omega, by omega⟩, ⟨by omega, by omega⟩, by omega, by omega⟩, ⟨by rw [he]; omega, by rw [he]; omega⟩, d0, hc⟩, ?_⟩
  unfold qdisc
  rw [Int.mul_assoc, he]
  exact h1
end M
end Go.Proofs.YtgkjmjlkhnfbiaaGreat
