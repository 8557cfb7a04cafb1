/-
  Contracts: primes with a trace, extremal primes.
-/
import Derived.Test.YtodgfechhielaaaGreatDoorS6
import Derived.Test.YtodgfechhielaaaGreatDoorD7
import Derived.Test.YtodgfechhielaaaGreatDoorL1
namespace Go.Proofs.YtodgfechhielaaaGreatDoor
set_option linter.unusedSimpArgs false
set_option linter.unusedVariables false
open Go.RowKit Go.Shelf

noncomputable def pwTest (a b t x : Int) : Bool := M.trace a b x == t
theorem bne_i (a b : Int) : (a != b) = !(a == b) := rfl

theorem pwClosure_c (a b t x : Int) (B : Nat) (W : World) (h : M.inCurve a b = true) (hp : M.goodp a b x = true) (c0 : W.cell? ⟨B, 0, none⟩ = some (.int .i64 a)) (c1 : W.cell? ⟨B, 1, none⟩ = some (.int .i64 b)) (c2 : W.cell? ⟨B + 1, 0, none⟩ = some (.int .i64 t)) :
    Calls Tryz.prog 48 #[.int .i64 x, .pointer (some ⟨B, 0, none⟩), .pointer (some ⟨B + 1, 0, none⟩)] W fun e w' => e = .returned (.bool (!pwTest a b t x)) ∧ Below W.heap.size W w' := by
  unfold pwTest
  go_enter Tryz.func48, Tryz.ntmps48
  go_wp2
  first | go_region_held3 (fun W => W.cell? ⟨B, 0, none⟩ = some (.int .i64 a) ∧ W.cell? ⟨B, 1, none⟩ = some (.int .i64 b) ∧ W.cell? ⟨B + 1, 0, none⟩ = some (.int .i64 t)) (first | exact ⟨keepCell (by assumption) (by assumption), keepCell (by assumption) (by assumption), keepCell (by assumption) (by assumption)⟩ | (go_split_ands; exact ⟨keepCell (by assumption) (by assumption), keepCell (by assumption) (by assumption), keepCell (by assumption) (by assumption)⟩) | go_keep) ((go_at_call 32; (with_reducible refine (traceAt_c a b x _ h hp).mono ?_); rintro e w' ⟨rfl, hb9⟩)) | fail
  go_wp2
  go_ret; exact ⟨ret_b (bne_i _ _), (by repeat (first | exact Below.refl _ _ | refine below_alloc ?_ _ | refine below_step ?_ (by assumption) | refine Below.drew ?_ | refine Below.setCell ?_ (by first | exact Nat.le_refl _ | exact Nat.le_add_right _ _ | (simp <;> omega)) _ | refine below_drewN ?_ _))⟩

noncomputable def pwOk (a b t n : Int) : Bool := trAsk a b n && M.ins t (-100) 100
noncomputable def pwL (a b t n : Int) : List Int := if pwOk a b t n then (M.goods a b n).filter (pwTest a b t) else []

theorem implPrimesWithTrace_c (a b t n : Int) (w : World) :
    Calls Tryz.prog 14 #[.agg #[.int .i64 a, .int .i64 b], .int .i64 t, .int .i64 n] w fun e w' => ∃ v, e = .returned (.tuple #[v, .bool (pwOk a b t n)]) ∧ OwnI w' w.heap.size v (pwL a b t n) ∧ Below w.heap.size w w' := by
  unfold pwL pwOk trAsk
  cases h1 : M.good a b
  · go_enter Tryz.func14, Tryz.ntmps14
    go_wp2_with (go_at_call 29; refine (isCurve_c _ _ _).mono ?_; rintro e w' ⟨rfl, hb⟩; have hz_ := hb.size; (try simp only [World.size_alloc, heap_drew, World.heap_drewN, size_setCell] at hz_); have hs0_ : w.heap.size < w'.heap.size := (by omega); have hk0_ := fun o => (bcell hb).1 (w.heap.size) o (by (try simp only [World.size_alloc, heap_drew, World.heap_drewN, size_setCell]); omega); have hl0_ := fun o => (bcell hb).2.1 (w.heap.size) o (by (try simp only [World.size_alloc, heap_drew, World.heap_drewN, size_setCell]); omega); have hs1_ : w.heap.size + 1 < w'.heap.size := (by omega); have hk1_ := fun o => (bcell hb).1 (w.heap.size + 1) o (by (try simp only [World.size_alloc, heap_drew, World.heap_drewN, size_setCell]); omega); have hl1_ := fun o => (bcell hb).2.1 (w.heap.size + 1) o (by (try simp only [World.size_alloc, heap_drew, World.heap_drewN, size_setCell]); omega))
    go_ret2; exact ⟨_, by simp, OwnI.nil _ _, (by repeat (first | exact Below.refl _ _ | refine below_alloc ?_ _ | refine below_step ?_ (by assumption) | refine Below.drew ?_ | refine Below.setCell ?_ (by first | exact Nat.le_refl _ | exact Nat.le_add_right _ _ | (simp <;> omega)) _ | refine below_drewN ?_ _))⟩
  · have E1 := fun w => inside_c n 5 200 w
    have E2 := fun w => inside_c t (-100) 100 w
    cases h2 : M.ins n 5 200 <;> simp only [h2] at E1 <;> have E1 := Lib.hid E1
    · have E2 := Lib.hid E2
      go_enter Tryz.func14, Tryz.ntmps14
      go_wp2_with (first | (go_at_call 29; refine (isCurve_c _ _ _).mono ?_; rintro e w' ⟨rfl, hb⟩; have hz_ := hb.size; (try simp only [World.size_alloc, heap_drew, World.heap_drewN, size_setCell] at hz_); have hs0_ : w.heap.size < w'.heap.size := (by omega); have hk0_ := fun o => (bcell hb).1 (w.heap.size) o (by (try simp only [World.size_alloc, heap_drew, World.heap_drewN, size_setCell]); omega); have hl0_ := fun o => (bcell hb).2.1 (w.heap.size) o (by (try simp only [World.size_alloc, heap_drew, World.heap_drewN, size_setCell]); omega); have hs1_ : w.heap.size + 1 < w'.heap.size := (by omega); have hk1_ := fun o => (bcell hb).1 (w.heap.size + 1) o (by (try simp only [World.size_alloc, heap_drew, World.heap_drewN, size_setCell]); omega); have hl1_ := fun o => (bcell hb).2.1 (w.heap.size + 1) o (by (try simp only [World.size_alloc, heap_drew, World.heap_drewN, size_setCell]); omega)) | (go_at_call 30; first | ((with_reducible refine (E1.out _).mono ?_); rintro e w' ⟨rfl, rfl⟩) | ((with_reducible refine (E2.out _).mono ?_); rintro e w' ⟨rfl, rfl⟩)))
      go_ret2; exact ⟨_, by simp, OwnI.nil _ _, (by repeat (first | exact Below.refl _ _ | refine below_alloc ?_ _ | refine below_step ?_ (by assumption) | refine Below.drew ?_ | refine Below.setCell ?_ (by first | exact Nat.le_refl _ | exact Nat.le_add_right _ _ | (simp <;> omega)) _ | refine below_drewN ?_ _))⟩
    · cases h3 : M.ins t (-100) 100 <;> simp only [h3] at E2 <;> have E2 := Lib.hid E2
      · go_enter Tryz.func14, Tryz.ntmps14
        go_wp2_with (first | (go_at_call 29; refine (isCurve_c _ _ _).mono ?_; rintro e w' ⟨rfl, hb⟩; have hz_ := hb.size; (try simp only [World.size_alloc, heap_drew, World.heap_drewN, size_setCell] at hz_); have hs0_ : w.heap.size < w'.heap.size := (by omega); have hk0_ := fun o => (bcell hb).1 (w.heap.size) o (by (try simp only [World.size_alloc, heap_drew, World.heap_drewN, size_setCell]); omega); have hl0_ := fun o => (bcell hb).2.1 (w.heap.size) o (by (try simp only [World.size_alloc, heap_drew, World.heap_drewN, size_setCell]); omega); have hs1_ : w.heap.size + 1 < w'.heap.size := (by omega); have hk1_ := fun o => (bcell hb).1 (w.heap.size + 1) o (by (try simp only [World.size_alloc, heap_drew, World.heap_drewN, size_setCell]); omega); have hl1_ := fun o => (bcell hb).2.1 (w.heap.size + 1) o (by (try simp only [World.size_alloc, heap_drew, World.heap_drewN, size_setCell]); omega)) | (go_at_call 30; first | ((with_reducible refine (E1.out _).mono ?_); rintro e w' ⟨rfl, rfl⟩) | ((with_reducible refine (E2.out _).mono ?_); rintro e w' ⟨rfl, rfl⟩)))
        go_ret2; exact ⟨_, by simp, OwnI.nil _ _, (by repeat (first | exact Below.refl _ _ | refine below_alloc ?_ _ | refine below_step ?_ (by assumption) | refine Below.drew ?_ | refine Below.setCell ?_ (by first | exact Nat.le_refl _ | exact Nat.le_add_right _ _ | (simp <;> omega)) _ | refine below_drewN ?_ _))⟩
      · obtain ⟨n1, n2⟩ := M.ins_t h2
        have h := M.good_in h1
        go_enter Tryz.func14, Tryz.ntmps14
        go_wp2_with (first | (go_at_call 29; refine (isCurve_c _ _ _).mono ?_; rintro e w5 ⟨rfl, hb⟩; have hz_ := hb.size; (try simp only [World.size_alloc, heap_drew, World.heap_drewN, size_setCell] at hz_); have hs0_ : w.heap.size < w5.heap.size := (by omega); have hk0_ := fun o => (bcell hb).1 (w.heap.size) o (by (try simp only [World.size_alloc, heap_drew, World.heap_drewN, size_setCell]); omega); have hl0_ := fun o => (bcell hb).2.1 (w.heap.size) o (by (try simp only [World.size_alloc, heap_drew, World.heap_drewN, size_setCell]); omega); have hs1_ : w.heap.size + 1 < w5.heap.size := (by omega); have hk1_ := fun o => (bcell hb).1 (w.heap.size + 1) o (by (try simp only [World.size_alloc, heap_drew, World.heap_drewN, size_setCell]); omega); have hl1_ := fun o => (bcell hb).2.1 (w.heap.size + 1) o (by (try simp only [World.size_alloc, heap_drew, World.heap_drewN, size_setCell]); omega)) | (go_at_call 30; first | ((with_reducible refine (E1.out _).mono ?_); rintro e w' ⟨rfl, rfl⟩) | ((with_reducible refine (E2.out _).mono ?_); rintro e w' ⟨rfl, rfl⟩)) | (go_at_call 31; refine (goodUpTo_c _ _ _ _ h n1 (by omega)).mono ?_; rintro e w1 ⟨v, rfl, hown, hb⟩; have hz_ := hb.size; (try simp only [World.size_alloc, heap_drew, World.heap_drewN, size_setCell] at hz_); have hs0_ : w.heap.size < w1.heap.size := (by omega); have hk0_ := fun o => (bcell hb).1 (w.heap.size) o (by (try simp only [World.size_alloc, heap_drew, World.heap_drewN, size_setCell]); omega); have hl0_ := fun o => (bcell hb).2.1 (w.heap.size) o (by (try simp only [World.size_alloc, heap_drew, World.heap_drewN, size_setCell]); omega); have hs1_ : w.heap.size + 1 < w1.heap.size := (by omega); have hk1_ := fun o => (bcell hb).1 (w.heap.size + 1) o (by (try simp only [World.size_alloc, heap_drew, World.heap_drewN, size_setCell]); omega); have hl1_ := fun o => (bcell hb).2.1 (w.heap.size + 1) o (by (try simp only [World.size_alloc, heap_drew, World.heap_drewN, size_setCell]); omega)))
        have c0 : w1.cell? ⟨w.heap.size, 0, none⟩ = some (.int .i64 a) := (hk0_ 0).trans (by simp [go_sem, *])
        have c1 : w1.cell? ⟨w.heap.size, 1, none⟩ = some (.int .i64 b) := (hk0_ 1).trans (by simp [go_sem, *])
        have c2 : w1.cell? ⟨w.heap.size + 1, 0, none⟩ = some (.int .i64 t) := (hk1_ 0).trans (by simp [go_sem, *])
        have z5 : w.heap.size + 1 < w5.heap.size := by assumption
        have z1 := hb.size
        have hbw : Below w.heap.size w w1 := (by repeat (first | exact Below.refl _ _ | refine below_alloc ?_ _ | refine below_step ?_ (by assumption) | refine Below.drew ?_ | refine Below.setCell ?_ (by first | exact Nat.le_refl _ | exact Nat.le_add_right _ _ | (simp <;> omega)) _ | refine below_drewN ?_ _))
        have eg : ∀ args w, (callFunc 48 args).run Tryz.prog w = .ok (.enter 48 args) w := enters_of Tryz.func48 (by kernel_rfl) rfl
        have hT : TestC 48 #[.pointer (some ⟨w.heap.size, 0, none⟩), .pointer (some ⟨w.heap.size + 1, 0, none⟩)] (fun x => !pwTest a b t x) (M.goods a b n) w5.heap.size w1 := fun x hx W hW =>
          pwClosure_c a b t x w.heap.size W h (M.mem_goods hx).1 ((hW.cell (p := ⟨w.heap.size, 0, none⟩) (by show w.heap.size < _; omega)).trans c0) ((hW.cell (p := ⟨w.heap.size, 1, none⟩) (by show w.heap.size < _; omega)).trans c1) ((hW.cell (p := ⟨w.heap.size + 1, 0, none⟩) (by show w.heap.size + 1 < _; omega)).trans c2)
        have hD := deleteFunc_c _ _ eg _ v _ w1 w5.heap.size hown z1 hT
        refine hD.mono ?_; rintro e w2 ⟨v2, rfl, hown2, hb2⟩
        clear hk0_ hl0_ hk1_ hl1_ hb
        go_wp2
        go_ret2
        exact ⟨_, rfl, by simp only [Bool.and_self, if_true]; simpa using hown2.base (by omega), hbw.trans (hb2.mono (by omega))⟩

theorem filter_yes {p : Int → Bool} {xs : List Int} {k : Nat} {x : Int} (hx : xs[k]? = some x) (h : p x = true) : (xs.take (k + 1)).filter p = (xs.take k).filter p ++ [x] := by
  rw [take_next hx, List.filter_append]; simp [h]
theorem filter_no {p : Int → Bool} {xs : List Int} {k : Nat} {x : Int} (hx : xs[k]? = some x) (h : p x = false) : (xs.take (k + 1)).filter p = (xs.take k).filter p := by
  rw [take_next hx, List.filter_append]; simp [h]
theorem filter_len (p : Int → Bool) (xs : List Int) (k : Nat) : ((xs.take k).filter p).length ≤ xs.length := by
  have := List.length_filter_le p (xs.take k)
  rw [List.length_take] at this
  omega

set_option maxHeartbeats 400000 in
theorem specPrimesWithTrace_c (a b t n : Int) (w : World) :
    Calls Tryz.prog 15 #[.agg #[.int .i64 a, .int .i64 b], .int .i64 t, .int .i64 n] w fun e w' => ∃ v, e = .returned (.tuple #[v, .bool (pwOk a b t n)]) ∧ OwnI w' w.heap.size v (pwL a b t n) ∧ Below w.heap.size w w' := by
  unfold pwL pwOk
  have T := fun w => trAsked_c a b n w
  cases h2 : trAsk a b n <;> simp only [h2] at T <;> have T := Lib.hid T
  · go_enter Tryz.func15, Tryz.ntmps15
    go_wp2_with (go_at_call 33; refine (T.out _).mono ?_; rintro e w' ⟨rfl, hb⟩; have hz_ := hb.size; (try simp only [World.size_alloc, heap_drew, World.heap_drewN, size_setCell] at hz_); have hs0_ : w.heap.size < w'.heap.size := (by omega); have hk0_ := fun o => (bcell hb).1 (w.heap.size) o (by (try simp only [World.size_alloc, heap_drew, World.heap_drewN, size_setCell]); omega); have hl0_ := fun o => (bcell hb).2.1 (w.heap.size) o (by (try simp only [World.size_alloc, heap_drew, World.heap_drewN, size_setCell]); omega))
    go_ret2; exact ⟨_, by simp, OwnI.nil _ _, (by repeat (first | exact Below.refl _ _ | refine below_alloc ?_ _ | refine below_step ?_ (by assumption) | refine Below.drew ?_ | refine Below.setCell ?_ (by first | exact Nat.le_refl _ | exact Nat.le_add_right _ _ | (simp <;> omega)) _ | refine below_drewN ?_ _))⟩
  · cases h3 : M.ins t (-100) 100
    · go_enter Tryz.func15, Tryz.ntmps15
      go_wp2_with (first | (go_at_call 33; refine (T.out _).mono ?_; rintro e w' ⟨rfl, hb⟩; have hz_ := hb.size; (try simp only [World.size_alloc, heap_drew, World.heap_drewN, size_setCell] at hz_); have hs0_ : w.heap.size < w'.heap.size := (by omega); have hk0_ := fun o => (bcell hb).1 (w.heap.size) o (by (try simp only [World.size_alloc, heap_drew, World.heap_drewN, size_setCell]); omega); have hl0_ := fun o => (bcell hb).2.1 (w.heap.size) o (by (try simp only [World.size_alloc, heap_drew, World.heap_drewN, size_setCell]); omega)) | (go_at_call 49; refine (l1In_c _ _ _ _).mono ?_; rintro e w' ⟨rfl, rfl⟩))
      go_ret2; exact ⟨_, by simp, OwnI.nil _ _, (by repeat (first | exact Below.refl _ _ | refine below_alloc ?_ _ | refine below_step ?_ (by assumption) | refine Below.drew ?_ | refine Below.setCell ?_ (by first | exact Nat.le_refl _ | exact Nat.le_add_right _ _ | (simp <;> omega)) _ | refine below_drewN ?_ _))⟩
    · obtain ⟨h1, n1, n2⟩ := trAsk_t h2
      have h := M.good_in h1
      have hgl := goods_le a b n (by omega)
      go_enter Tryz.func15, Tryz.ntmps15
      go_wp2_with (first | (go_at_call 33; refine (T.out _).mono ?_; rintro e w' ⟨rfl, hb⟩; have hz_ := hb.size; (try simp only [World.size_alloc, heap_drew, World.heap_drewN, size_setCell] at hz_); have hs0_ : w.heap.size < w'.heap.size := (by omega); have hk0_ := fun o => (bcell hb).1 (w.heap.size) o (by (try simp only [World.size_alloc, heap_drew, World.heap_drewN, size_setCell]); omega); have hl0_ := fun o => (bcell hb).2.1 (w.heap.size) o (by (try simp only [World.size_alloc, heap_drew, World.heap_drewN, size_setCell]); omega)) | (go_at_call 49; refine (l1In_c _ _ _ _).mono ?_; rintro e w' ⟨rfl, rfl⟩) | (go_at_call 34; refine (trPrimes_c _ _ _ _ h1 n1 (by omega)).mono ?_; rintro e w1 ⟨v, rfl, hown, hb⟩; obtain ⟨av, cap, rfl, hm, hv⟩ := hown.seen; have hz_ := hb.size; (try simp only [World.size_alloc, heap_drew, World.heap_drewN, size_setCell] at hz_); have hs0_ : w.heap.size < w1.heap.size := (by omega); have hk0_ := fun o => (bcell hb).1 (w.heap.size) o (by (try simp only [World.size_alloc, heap_drew, World.heap_drewN, size_setCell]); omega); have hl0_ := fun o => (bcell hb).2.1 (w.heap.size) o (by (try simp only [World.size_alloc, heap_drew, World.heap_drewN, size_setCell]); omega)))
      have c0 : w1.cell? ⟨w.heap.size, 0, none⟩ = some (.int .i64 a) := (hk0_ 0).trans (by simp [go_sem, *])
      have c1 : w1.cell? ⟨w.heap.size, 1, none⟩ = some (.int .i64 b) := (hk0_ 1).trans (by simp [go_sem, *])
      have hbw : Below w.heap.size w w1 := (by repeat (first | exact Below.refl _ _ | refine below_alloc ?_ _ | refine below_step ?_ (by assumption) | refine Below.drew ?_ | refine Below.setCell ?_ (by first | exact Nat.le_refl _ | exact Nat.le_add_right _ _ | (simp <;> omega)) _ | refine below_drewN ?_ _))
      have z1 := hbw.size
      clear hb hk0_ hl0_
      go_loopw [8, 10, 24] (fun vo _ vi wr => ∃ k : Nat, k ≤ (M.goods a b n).length ∧ vi = .int .i64 k ∧ OwnI wr w1.heap.size vo (((M.goods a b n).take k).filter (pwTest a b t)) ∧ Below w1.heap.size w1 wr) (fun _ _ vi _ => (M.goods a b n).length - (intOf vi).toNat)
      case atStart => exact ⟨0, by omega, rfl, OwnI.nil _ _, Below.refl _ _⟩
      case round =>
        obtain ⟨k, hk, rfl, hov, hbr⟩ := hrel
        have z2 := hbr.size
        have hl := filter_len (pwTest a b t) (M.goods a b n) k
        by_cases hlt : k < (M.goods a b n).length
        · obtain ⟨g, p, rfl, hg, hx, hcell⟩ := hv k hlt
          have gp := (M.mem_goods (List.mem_of_getElem? hx.out)).1
          have e0 := keepCell hbr c0
          have e1 := keepCell hbr c1
          have e4 := keepCell hbr hcell
          clear hv c0 c1 hcell
          cases hq : (M.trace a b p == t)
          · have hf := Lib.hid (filter_no (p := pwTest a b t) hx.out hq)
            go_wp2_with (go_at_call 35; (with_reducible refine (trAt_c a b p _ h gp).mono ?_); rintro e w2 ⟨rfl, hb2⟩)
            go_roundw
            case rel => exact ⟨k + 1, by omega, by go_num, by rw [hf.out]; exact hov.below hb2, below_step hbr hb2⟩
            case measure => simp [intOf]; omega
          · have hf := Lib.hid (filter_yes (p := pwTest a b t) hx.out hq)
            go_wp2_with (first | (go_at_call 35; (with_reducible refine (trAt_c a b p _ h gp).mono ?_); rintro e w2 ⟨rfl, hb2⟩; have z3 := hb2.size) | (at_builtin; refine push_int (W := w1) w1.heap.size p _ _ rfl _ _ rfl rfl rfl (hov.below hb2) (hbr.trans (hb2.mono z2)) (by omega) (by omega) ?_; rintro v3 w3 hov3 hb3))
            go_roundw
            case rel => exact ⟨k + 1, by omega, by go_num, by rw [hf.out]; exact hov3, hb3⟩
            case measure => simp [intOf]; omega
        · obtain rfl : k = (M.goods a b n).length := by omega
          have hfin : Hid (((M.goods a b n).take (M.goods a b n).length).filter (pwTest a b t) = (M.goods a b n).filter (pwTest a b t)) := Lib.hid (by rw [List.take_length])
          clear hv
          go_wp2
          go_ret2
          exact ⟨_, rfl, by simp only [if_true, Bool.and_self]; rw [← hfin.out]; exact hov.base z1, below_step hbw hbr⟩

noncomputable def exTest (a b x : Int) : Bool := (((M.trace a b x).natAbs : Int) == M.root (4 * x))
theorem neg_eq_b {x y r : Int} (h : x = y) : (!(x == r)) = !(y == r) := by rw [h]
theorem max_abs (t : Int) : max t (-t) = (t.natAbs : Int) := by omega

theorem exClosure_c (a b x : Int) (B : Nat) (W : World) (h : M.inCurve a b = true) (hp : M.goodp a b x = true) (c0 : W.cell? ⟨B, 0, none⟩ = some (.int .i64 a)) (c1 : W.cell? ⟨B, 1, none⟩ = some (.int .i64 b)) :
    Calls Tryz.prog 37 #[.int .i64 x, .pointer (some ⟨B, 0, none⟩)] W fun e w' => e = .returned (.bool (!exTest a b x)) ∧ Below W.heap.size W w' := by
  unfold exTest
  have tb := goodp_trace hp
  have hm : max (M.trace a b x) (-M.trace a b x) = ((M.trace a b x).natAbs : Int) := max_abs _
  have Hm := Lib.hid hm
  clear hm
  go_enter Tryz.func37, Tryz.ntmps37
  go_wp2_with (first | (go_at_call 32; (with_reducible refine (traceAt_c a b x _ h hp).mono ?_); rintro e w' ⟨rfl, hb9⟩) | (go_at_call 38; refine (traceBound_c _ _ (by omega) (by omega)).mono ?_; rintro e w' ⟨rfl, rfl⟩))
  all_goals (go_ret; exact ⟨ret_b (by rw [bne_i]; exact neg_eq_b (by omega)), (by repeat (first | exact Below.refl _ _ | refine below_alloc ?_ _ | refine below_step ?_ (by assumption) | refine Below.drew ?_ | refine Below.setCell ?_ (by first | exact Nat.le_refl _ | exact Nat.le_add_right _ _ | (simp <;> omega)) _ | refine below_drewN ?_ _))⟩)

noncomputable def exL (a b n : Int) : List Int := if trAsk a b n then (M.goods a b n).filter (exTest a b) else []

theorem implExtremalPrimes_c (a b n : Int) (w : World) :
    Calls Tryz.prog 7 #[.agg #[.int .i64 a, .int .i64 b], .int .i64 n] w fun e w' => ∃ v, e = .returned (.tuple #[v, .bool (trAsk a b n)]) ∧ OwnI w' w.heap.size v (exL a b n) ∧ Below w.heap.size w w' := by
  unfold exL trAsk
  cases h1 : M.good a b
  · go_enter Tryz.func7, Tryz.ntmps7
    go_wp2_with (go_at_call 29; refine (isCurve_c _ _ _).mono ?_; rintro e w' ⟨rfl, hb⟩; have hz_ := hb.size; (try simp only [World.size_alloc, heap_drew, World.heap_drewN, size_setCell] at hz_); have hs0_ : w.heap.size < w'.heap.size := (by omega); have hk0_ := fun o => (bcell hb).1 (w.heap.size) o (by (try simp only [World.size_alloc, heap_drew, World.heap_drewN, size_setCell]); omega); have hl0_ := fun o => (bcell hb).2.1 (w.heap.size) o (by (try simp only [World.size_alloc, heap_drew, World.heap_drewN, size_setCell]); omega))
    go_ret2; exact ⟨_, by simp, OwnI.nil _ _, (by repeat (first | exact Below.refl _ _ | refine below_alloc ?_ _ | refine below_step ?_ (by assumption) | refine Below.drew ?_ | refine Below.setCell ?_ (by first | exact Nat.le_refl _ | exact Nat.le_add_right _ _ | (simp <;> omega)) _ | refine below_drewN ?_ _))⟩
  · cases h2 : M.ins n 5 200
    · go_enter Tryz.func7, Tryz.ntmps7
      go_wp2_with (first | (go_at_call 29; refine (isCurve_c _ _ _).mono ?_; rintro e w' ⟨rfl, hb⟩; have hz_ := hb.size; (try simp only [World.size_alloc, heap_drew, World.heap_drewN, size_setCell] at hz_); have hs0_ : w.heap.size < w'.heap.size := (by omega); have hk0_ := fun o => (bcell hb).1 (w.heap.size) o (by (try simp only [World.size_alloc, heap_drew, World.heap_drewN, size_setCell]); omega); have hl0_ := fun o => (bcell hb).2.1 (w.heap.size) o (by (try simp only [World.size_alloc, heap_drew, World.heap_drewN, size_setCell]); omega)) | (go_at_call 30; refine (inside_c _ _ _ _).mono ?_; rintro e w' ⟨rfl, rfl⟩))
      go_ret2; exact ⟨_, by simp, OwnI.nil _ _, (by repeat (first | exact Below.refl _ _ | refine below_alloc ?_ _ | refine below_step ?_ (by assumption) | refine Below.drew ?_ | refine Below.setCell ?_ (by first | exact Nat.le_refl _ | exact Nat.le_add_right _ _ | (simp <;> omega)) _ | refine below_drewN ?_ _))⟩
    · obtain ⟨n1, n2⟩ := M.ins_t h2
      have h := M.good_in h1
      go_enter Tryz.func7, Tryz.ntmps7
      go_wp2_with (first | (go_at_call 29; refine (isCurve_c _ _ _).mono ?_; rintro e w5 ⟨rfl, hb⟩; have hz_ := hb.size; (try simp only [World.size_alloc, heap_drew, World.heap_drewN, size_setCell] at hz_); have hs0_ : w.heap.size < w5.heap.size := (by omega); have hk0_ := fun o => (bcell hb).1 (w.heap.size) o (by (try simp only [World.size_alloc, heap_drew, World.heap_drewN, size_setCell]); omega); have hl0_ := fun o => (bcell hb).2.1 (w.heap.size) o (by (try simp only [World.size_alloc, heap_drew, World.heap_drewN, size_setCell]); omega)) | (go_at_call 30; refine (inside_c _ _ _ _).mono ?_; rintro e w' ⟨rfl, rfl⟩) | (go_at_call 31; refine (goodUpTo_c _ _ _ _ h n1 (by omega)).mono ?_; rintro e w1 ⟨v, rfl, hown, hb⟩; have hz_ := hb.size; (try simp only [World.size_alloc, heap_drew, World.heap_drewN, size_setCell] at hz_); have hs0_ : w.heap.size < w1.heap.size := (by omega); have hk0_ := fun o => (bcell hb).1 (w.heap.size) o (by (try simp only [World.size_alloc, heap_drew, World.heap_drewN, size_setCell]); omega); have hl0_ := fun o => (bcell hb).2.1 (w.heap.size) o (by (try simp only [World.size_alloc, heap_drew, World.heap_drewN, size_setCell]); omega)))
      have c0 : w1.cell? ⟨w.heap.size, 0, none⟩ = some (.int .i64 a) := (hk0_ 0).trans (by simp [go_sem, *])
      have c1 : w1.cell? ⟨w.heap.size, 1, none⟩ = some (.int .i64 b) := (hk0_ 1).trans (by simp [go_sem, *])
      have z5 : w.heap.size < w5.heap.size := by assumption
      have z1 := hb.size
      have hbw : Below w.heap.size w w1 := (by repeat (first | exact Below.refl _ _ | refine below_alloc ?_ _ | refine below_step ?_ (by assumption) | refine Below.drew ?_ | refine Below.setCell ?_ (by first | exact Nat.le_refl _ | exact Nat.le_add_right _ _ | (simp <;> omega)) _ | refine below_drewN ?_ _))
      have eg : ∀ args w, (callFunc 37 args).run Tryz.prog w = .ok (.enter 37 args) w := enters_of Tryz.func37 (by kernel_rfl) rfl
      have hT : TestC 37 #[.pointer (some ⟨w.heap.size, 0, none⟩)] (fun x => !exTest a b x) (M.goods a b n) w5.heap.size w1 := fun x hx W hW =>
        exClosure_c a b x w.heap.size W h (M.mem_goods hx).1 ((hW.cell (p := ⟨w.heap.size, 0, none⟩) (by show w.heap.size < _; omega)).trans c0) ((hW.cell (p := ⟨w.heap.size, 1, none⟩) (by show w.heap.size < _; omega)).trans c1)
      have hD := deleteFunc_c _ _ eg _ v _ w1 w5.heap.size hown z1 hT
      refine hD.mono ?_; rintro e w2 ⟨v2, rfl, hown2, hb2⟩
      clear hk0_ hl0_ hb
      go_wp2
      go_ret2
      exact ⟨_, rfl, by simp only [Bool.and_self, if_true]; simpa using hown2.base (by omega), hbw.trans (hb2.mono (by omega))⟩

set_option maxHeartbeats 400000 in
theorem specExtremalPrimes_c (a b n : Int) (w : World) :
    Calls Tryz.prog 8 #[.agg #[.int .i64 a, .int .i64 b], .int .i64 n] w fun e w' => ∃ v, e = .returned (.tuple #[v, .bool (trAsk a b n)]) ∧ OwnI w' w.heap.size v (exL a b n) ∧ Below w.heap.size w w' := by
  unfold exL
  have T := fun w => trAsked_c a b n w
  cases h2 : trAsk a b n <;> simp only [h2] at T <;> have T := Lib.hid T
  · go_enter Tryz.func8, Tryz.ntmps8
    go_wp2_with (go_at_call 33; refine (T.out _).mono ?_; rintro e w' ⟨rfl, hb⟩; have hz_ := hb.size; (try simp only [World.size_alloc, heap_drew, World.heap_drewN, size_setCell] at hz_); have hs0_ : w.heap.size < w'.heap.size := (by omega); have hk0_ := fun o => (bcell hb).1 (w.heap.size) o (by (try simp only [World.size_alloc, heap_drew, World.heap_drewN, size_setCell]); omega); have hl0_ := fun o => (bcell hb).2.1 (w.heap.size) o (by (try simp only [World.size_alloc, heap_drew, World.heap_drewN, size_setCell]); omega))
    go_ret2; exact ⟨_, by simp, OwnI.nil _ _, (by repeat (first | exact Below.refl _ _ | refine below_alloc ?_ _ | refine below_step ?_ (by assumption) | refine Below.drew ?_ | refine Below.setCell ?_ (by first | exact Nat.le_refl _ | exact Nat.le_add_right _ _ | (simp <;> omega)) _ | refine below_drewN ?_ _))⟩
  · obtain ⟨h1, n1, n2⟩ := trAsk_t h2
    have h := M.good_in h1
    have hgl := goods_le a b n (by omega)
    go_enter Tryz.func8, Tryz.ntmps8
    go_wp2_with (first | (go_at_call 33; refine (T.out _).mono ?_; rintro e w' ⟨rfl, hb⟩; have hz_ := hb.size; (try simp only [World.size_alloc, heap_drew, World.heap_drewN, size_setCell] at hz_); have hs0_ : w.heap.size < w'.heap.size := (by omega); have hk0_ := fun o => (bcell hb).1 (w.heap.size) o (by (try simp only [World.size_alloc, heap_drew, World.heap_drewN, size_setCell]); omega); have hl0_ := fun o => (bcell hb).2.1 (w.heap.size) o (by (try simp only [World.size_alloc, heap_drew, World.heap_drewN, size_setCell]); omega)) | (go_at_call 34; refine (trPrimes_c _ _ _ _ h1 n1 (by omega)).mono ?_; rintro e w1 ⟨v, rfl, hown, hb⟩; obtain ⟨av, cap, rfl, hm, hv⟩ := hown.seen; have hz_ := hb.size; (try simp only [World.size_alloc, heap_drew, World.heap_drewN, size_setCell] at hz_); have hs0_ : w.heap.size < w1.heap.size := (by omega); have hk0_ := fun o => (bcell hb).1 (w.heap.size) o (by (try simp only [World.size_alloc, heap_drew, World.heap_drewN, size_setCell]); omega); have hl0_ := fun o => (bcell hb).2.1 (w.heap.size) o (by (try simp only [World.size_alloc, heap_drew, World.heap_drewN, size_setCell]); omega)))
    have c0 : w1.cell? ⟨w.heap.size, 0, none⟩ = some (.int .i64 a) := (hk0_ 0).trans (by simp [go_sem, *])
    have c1 : w1.cell? ⟨w.heap.size, 1, none⟩ = some (.int .i64 b) := (hk0_ 1).trans (by simp [go_sem, *])
    have hbw : Below w.heap.size w w1 := (by repeat (first | exact Below.refl _ _ | refine below_alloc ?_ _ | refine below_step ?_ (by assumption) | refine Below.drew ?_ | refine Below.setCell ?_ (by first | exact Nat.le_refl _ | exact Nat.le_add_right _ _ | (simp <;> omega)) _ | refine below_drewN ?_ _))
    have z1 := hbw.size
    clear hb hk0_ hl0_
    go_loopw [6, 8, 17] (fun vo _ vi wr => ∃ k : Nat, k ≤ (M.goods a b n).length ∧ vi = .int .i64 k ∧ OwnI wr w1.heap.size vo (((M.goods a b n).take k).filter (exTest a b)) ∧ Below w1.heap.size w1 wr) (fun _ _ vi _ => (M.goods a b n).length - (intOf vi).toNat)
    case atStart => exact ⟨0, by omega, rfl, OwnI.nil _ _, Below.refl _ _⟩
    case round =>
      obtain ⟨k, hk, rfl, hov, hbr⟩ := hrel
      have z2 := hbr.size
      have hl := filter_len (exTest a b) (M.goods a b n) k
      by_cases hlt : k < (M.goods a b n).length
      · obtain ⟨g, p, rfl, hg, hx, hcell⟩ := hv k hlt
        have gp := (M.mem_goods (List.mem_of_getElem? hx.out)).1
        have e0 := keepCell hbr c0
        have e1 := keepCell hbr c1
        have e4 := keepCell hbr hcell
        clear hv c0 c1 hcell
        have tb := goodp_trace gp
        have pb := M.goodp_bd gp
        cases hq : (((M.trace a b p).natAbs : Int) == M.root (4 * p))
        · have hf := Lib.hid (filter_no (p := exTest a b) hx.out hq)
          go_wp2_with (first | (go_at_call 35; (with_reducible refine (trAt_c a b p _ h gp).mono ?_); rintro e w2 ⟨rfl, hb2⟩) | (go_at_call 39; refine (l1Abs_c _ _ (by omega) (by omega)).mono ?_; rintro e w' ⟨rfl, rfl⟩) | (go_at_call 40; refine (frRoot_c _ _ (by omega) (by omega)).mono ?_; rintro e w' ⟨rfl, rfl⟩))
          go_roundw
          case rel => exact ⟨k + 1, by omega, by go_num, by rw [hf.out]; exact hov.below hb2, below_step hbr hb2⟩
          case measure => simp [intOf]; omega
        · have hf := Lib.hid (filter_yes (p := exTest a b) hx.out hq)
          go_wp2_with (first | (go_at_call 35; (with_reducible refine (trAt_c a b p _ h gp).mono ?_); rintro e w2 ⟨rfl, hb2⟩; have z3 := hb2.size) | (go_at_call 39; refine (l1Abs_c _ _ (by omega) (by omega)).mono ?_; rintro e w' ⟨rfl, rfl⟩) | (go_at_call 40; refine (frRoot_c _ _ (by omega) (by omega)).mono ?_; rintro e w' ⟨rfl, rfl⟩) | (at_builtin; refine push_int (W := w1) w1.heap.size p _ _ rfl _ _ rfl rfl rfl (hov.below hb2) (hbr.trans (hb2.mono z2)) (by omega) (by omega) ?_; rintro v3 w3 hov3 hb3))
          go_roundw
          case rel => exact ⟨k + 1, by omega, by go_num, by rw [hf.out]; exact hov3, hb3⟩
          case measure => simp [intOf]; omega
      · obtain rfl : k = (M.goods a b n).length := by omega
        have hfin : Hid (((M.goods a b n).take (M.goods a b n).length).filter (exTest a b) = (M.goods a b n).filter (exTest a b)) := Lib.hid (by rw [List.take_length])
        clear hv
        go_wp2
        go_ret2
        exact ⟨_, rfl, by simp only [if_true]; rw [← hfin.out]; exact hov.base z1, below_step hbw hbr⟩

end Go.Proofs.YtodgfechhielaaaGreatDoor
