/-
  Joined texts: contracts and plain laws.
-/
import Derived.Test.YtmipenpeebmjkaaGreatB8
import Derived.Test.YtmipenpeebmjkaaGreatB3
import Derived.RegionTactic
import Derived.RangeFuncNested
import Derived.RangeFuncBox
import Derived.RangeFuncLeaves
import Derived.Shelf.Abstract
import Derived.OwnWalkIn
import Derived.TacticsInMore
import Derived.LoopNIn
import Derived.LoopIn
namespace Go.Proofs.YtmipenpeebmjkaaGreat
set_option linter.unusedSimpArgs false
set_option linter.unusedVariables false
open Go.RowKit
namespace M
theorem lst_nil {p : Nat} {ok : Bool → Nat → Int → Bool} {i : Nat} (h : lst p ok i = []) : ∀ j, i ≤ j → lst p ok j = [] := by
  intro j
  induction j with
  | zero => intro hj; obtain rfl : i = 0 := by omega
            exact h
  | succ j ih =>
    intro hj
    rcases Nat.lt_or_ge i (j + 1) with q | q
    · have := ih (by omega)
      unfold lst
      rw [this]
      simp [cands]
    · obtain rfl : i = j + 1 := by omega
      exact h
/-- whether a pair of a level lifts; whether there is one that is possible -/
def Lf (D A C : Int) (p : Nat) (j : Nat) : Bool := (lst p (qok D A C p) j).any (lfP (qlf D A C p) (j + 1))
def Ne (D A C : Int) (p : Nat) (j : Nat) : Bool := !(lst p (qok D A C p) j).isEmpty
/-- whether there is a pair that lifts up to the depth -/
def solv (D A C : Int) (p d : Nat) : Bool := (List.range d).any (Lf D A C p)
/-- whether that is decided -/
def told (D A C : Int) (p d : Nat) : Bool := solv D A C p d || !Ne D A C p (d - 1)
theorem Ne_no {D A C : Int} {p i : Nat} (h : Ne D A C p i = false) : ∀ j, i ≤ j → Ne D A C p j = false ∧ Lf D A C p j = false := by
  intro j hj
  have h0 : lst p (qok D A C p) i = [] := by
    unfold Ne at h
    simpa using h
  have := lst_nil h0 j hj
  unfold Ne Lf
  rw [this]
  simp
theorem solv_yes {D A C : Int} {p d j : Nat} (hj : j < d) (h : Lf D A C p j = true) : solv D A C p d = true :=
  List.any_eq_true.2 ⟨j, List.mem_range.2 hj, h⟩
theorem solv_no {D A C : Int} {p d j : Nat} (h : (List.range j).any (Lf D A C p) = false) (hn : Ne D A C p j = false) : solv D A C p d = false := by
  unfold solv
  rw [List.any_eq_false]
  intro i hi
  rcases Nat.lt_or_ge i j with q | q
  · have := List.any_eq_false.1 h i (List.mem_range.2 q)
    simpa using this
  · simp [(Ne_no hn i q).2]
end M
theorem results_tmp4 {fn : Func} {t u v x : Tmp} (h : fn.results = #[.tmp t, .tmp u, .tmp v, .tmp x]) (tmps : Array Value) (P : Program) (w : World) :
    (results fn tmps).run P w = .ok (.tuple #[tmps.getD t undef, tmps.getD u undef, tmps.getD v undef, tmps.getD x undef]) w := by
  simp [results, h]
/-- what the search hands back -/
def LocPost (D A C : Int) (p d : Nat) (w : World) (e : Ending) (w' : World) : Prop :=
  ∃ (x y kk : Int) (op : Bool), e = .returned (.tuple #[.int .i64 x, .int .i64 y, .int .i64 kk, .bool op]) ∧ decide (0 < kk) = M.solv D A C p d ∧ (M.solv D A C p d || !op) = M.told D A C p d ∧ Below w.heap.size w w'
theorem LocPost.yes {D A C x y kk : Int} {op : Bool} {p d j : Nat} {w w' : World} (hj : j < d) (h : M.Lf D A C p j = true) (hk : 0 < kk) (hb : Below w.heap.size w w') :
    LocPost D A C p d w (.returned (.tuple #[.int .i64 x, .int .i64 y, .int .i64 kk, .bool op])) w' := by
  have hs := M.solv_yes hj h
  exact ⟨x, y, kk, op, rfl, by rw [hs]; simpa using hk, by unfold M.told; rw [hs] <;> rfl, hb⟩
theorem LocPost.no {D A C x y : Int} {p d j : Nat} {w w' : World} (h : (List.range j).any (M.Lf D A C p) = false) (hn : M.Ne D A C p j = false) (hj : j < d) (hb : Below w.heap.size w w') :
    LocPost D A C p d w (.returned (.tuple #[.int .i64 x, .int .i64 y, .int .i64 0, .bool false])) w' := by
  have hs := M.solv_no (d := d) h hn
  exact ⟨x, y, 0, false, rfl, by rw [hs] <;> rfl, by unfold M.told; rw [hs, (M.Ne_no hn (d - 1) (by omega)).1] <;> rfl, hb⟩
theorem LocPost.open_ {D A C x y : Int} {p d : Nat} {w w' : World} (h : (List.range d).any (M.Lf D A C p) = false) (hn : M.Ne D A C p (d - 1) = true) (hb : Below w.heap.size w w') :
    LocPost D A C p d w (.returned (.tuple #[.int .i64 x, .int .i64 y, .int .i64 0, .bool true])) w' := by
  have hs : M.solv D A C p d = false := h
  exact ⟨x, y, 0, true, rfl, by rw [hs] <;> rfl, by unfold M.told; rw [hs, hn] <;> rfl, hb⟩
set_option maxRecDepth 100000 in
set_option maxHeartbeats 4000000 in
theorem loFind_c (D A C : Int) (p d : Nat) (w : World) (hpr : M.prime p = true) (hp : 2 ≤ p) (hp2 : p ≤ 997) (hd : M.IsDep p d) (hd1 : 1 ≤ d) (hd2 : d ≤ 29) :
    Calls Tryz.prog 118 #[.agg #[.int .i64 D, .int .i64 A, .int .i64 C], .int .i64 p] w (LocPost D A C p d w) := by
  have PD := fun W => loDepth_c (p : Int) d W (by omega) (by omega) hd hd2
  have PB := fun (j : Nat) (b : Bool) (hj : j < d) W => loBest_c D A C p (j + 1) b hpr hp hp2 (hd.le (by omega) (by omega)) (by omega) (by omega) (j + 1) 0 0 W (by omega) (by omega) (by simp [M.ipow])
  have hL := fun j => M.lst_lift (p := p) (ok := M.qok D A C p) (lf := M.qlf D A C p) hp j
  have hN := fun j => M.lst_some (p := p) (ok := M.qok D A C p) hp j
  have PD := Lib.hid PD
  have PB := Lib.hid PB
  have hL := Lib.hid hL
  have hN := Lib.hid hN
  obtain ⟨c0, c1, c2⟩ := box3 w D A C 63
  clear hpr hd
  go_enter Tryz.func118, Tryz.ntmps118
  go_wp2
  have hbw : Below w.heap.size w (w.alloc (.cells #[.int .i64 D, .int .i64 A, .int .i64 C] 63)) := (by repeat (first | exact Below.refl _ _ | refine below_alloc ?_ _ | refine below_step ?_ (by assumption) | refine Below.drew ?_ | refine Below.setCell ?_ (by first | exact Nat.le_refl _ | exact Nat.le_add_right _ _ | (simp <;> omega)) _ | refine below_drewN ?_ _))
  generalize hW1 : w.alloc (.cells #[.int .i64 D, .int .i64 A, .int .i64 C] 63) = W1 at *
  clear hW1
  go_loopw [8, 9] (fun vp vk wr => ∃ j : Nat, j ≤ d ∧ vk = .int .i64 ((j : Int) + 1) ∧ vp = .bool (decide (0 < j)) ∧ (List.range j).any (M.Lf D A C p) = false ∧ (0 < j → M.Ne D A C p (j - 1) = true) ∧ Below W1.heap.size W1 wr) (fun _ vk _ => d + 1 - (intOf vk).toNat)
  case atStart => exact ⟨0, by omega, rfl, rfl, rfl, fun h => by omega, Below.refl _ _⟩
  case round =>
    obtain ⟨j, hj, rfl, rfl, hno, hne, hbr⟩ := hrel
    have z2 := hbr.size
    have e0 := keepCell hbr c0
    have e1 := keepCell hbr c1
    have e2 := keepCell hbr c2
    have hno := Lib.hid hno
    have hne := Lib.hid hne
    have hst := Lib.hid (M.any_succ (M.Lf D A C p) j)
    by_cases hlt : j < d
    · have hlt2 : (j : Int) + 1 ≤ (d : Int) := by omega
      have B1 := PB.out j false hlt
      have B2 := PB.out j true hlt
      have hl : M.Lf D A C p j = _ := hL.out j
      have hn : M.Ne D A C p j = _ := hN.out j
      have B1 : ∀ W, Calls Tryz.prog 129 #[.agg #[.int .i64 D, .int .i64 A, .int .i64 C], .bool false, .int .i64 p, .int .i64 ((j : Int) + 1), .int .i64 (0 : Int), .int .i64 (0 : Int)] W (BestPost (M.bA p (M.qok D A C p) (M.qlf D A C p) false (j + 1) 0 0) (M.bB p (M.qok D A C p) false (j + 1) 0 0) W) := B1
      have B2 : ∀ W, Calls Tryz.prog 129 #[.agg #[.int .i64 D, .int .i64 A, .int .i64 C], .bool true, .int .i64 p, .int .i64 ((j : Int) + 1), .int .i64 (0 : Int), .int .i64 (0 : Int)] W (BestPost (M.bA p (M.qok D A C p) (M.qlf D A C p) true (j + 1) 0 0) (M.bB p (M.qok D A C p) true (j + 1) 0 0) W) := B2
      generalize M.bA p (M.qok D A C p) (M.qlf D A C p) false (j + 1) 0 0 = a1 at *
      generalize M.bA p (M.qok D A C p) (M.qlf D A C p) true (j + 1) 0 0 = a2 at *
      generalize M.bB p (M.qok D A C p) false (j + 1) 0 0 = b1 at *
      generalize M.bB p (M.qok D A C p) true (j + 1) 0 0 = b2 at *
      have B1 := Lib.hid B1
      have B2 := Lib.hid B2
      have hl := Lib.hid hl
      have hn := Lib.hid hn
      clear PB hL hN
      go_wp2_with (first | (go_at_call 128; (with_reducible refine (PD.out _).mono ?_); rintro e w' ⟨rfl, rfl⟩) | fail)
      with_reducible refine (B1.out _).mono ?_
      rintro e_ w5 ⟨y1, rfl, hy1, hb5⟩
      have f0 := keepCell hb5 e0
      have f1 := keepCell hb5 e1
      have f2 := keepCell hb5 e2
      have hy1 := Lib.hid hy1
      have hb1 := hbr.trans (hb5.mono z2)
      by_cases h1 : 0 ≤ y1
      · go_wp2
        refine bodyPost_ret (results_tmp4 rfl _ _ _) rfl ?_
        exact LocPost.yes hlt (by rw [hl.out, ← hy1.out]; simp [h1]) (by omega) (hbw.trans (hb1.mono hbw.size))
      · have h1n : y1 < 0 := by omega
        have h1f : (0 ≤ y1) = False := by simpa using h1n
        go_wp2_with fail
        with_reducible refine (B2.out _).mono ?_
        rintro e_ w6 ⟨y2, rfl, hy2, hb6⟩
        have g0 := keepCell hb6 f0
        have g1 := keepCell hb6 f1
        have g2 := keepCell hb6 f2
        have hy2 := Lib.hid hy2
        have hb2 := hb1.trans (hb6.mono hb1.size)
        by_cases h2 : 0 ≤ y2
        · go_wp2
          refine bodyPost_ret (results_tmp4 rfl _ _ _) rfl ?_
          exact LocPost.yes hlt (by rw [hl.out, ← hy2.out]; simp [h2]) (by omega) (hbw.trans (hb2.mono hbw.size))
        · have h2n : y2 < 0 := by omega
          have h2f : (0 ≤ y2) = False := by simpa using h2n
          have hl0 : M.Lf D A C p j = false := by rw [hl.out, ← hy1.out, ← hy2.out]; simp; omega
          have hl0 := Lib.hid hl0
          clear hl hy1 hy2
          cases b1
          · cases b2
            · go_wp2
              refine bodyPost_ret (results_tmp4 rfl _ _ _) rfl ?_
              exact LocPost.no hno.out hn.out hlt (hbw.trans (hb2.mono hbw.size))
            · go_wp2
              go_roundw
              case rel => exact ⟨j + 1, by omega, by go_num, by simp, by rw [hst.out, hno.out, hl0.out]; rfl, fun _ => hn.out, hb2⟩
              case measure => simp [intOf]; omega
          · go_wp2
            go_roundw
            case rel => exact ⟨j + 1, by omega, by go_num, by simp, by rw [hst.out, hno.out, hl0.out]; rfl, fun _ => hn.out, hb2⟩
            case measure => simp [intOf]; omega
    · obtain rfl : j = d := by omega
      have hd0 : 0 < j := by omega
      have hlt2 : ¬ ((j : Int) + 1 ≤ (j : Int)) := by omega
      clear PB hL hN
      go_wp2_with (first | (go_at_call 128; (with_reducible refine (PD.out _).mono ?_); rintro e w' ⟨rfl, rfl⟩))
      refine bodyPost_ret (results_tmp4 rfl _ _ _) rfl ?_
      have hfin := LocPost.open_ (x := 0) (y := 0) hno.out (hne.out hd0) (hbw.trans (hbr.mono hbw.size))
      simpa [hd0] using hfin
end Go.Proofs.YtmipenpeebmjkaaGreat

namespace Go.Proofs.YtmipenpeebmjkaaGreat
set_option linter.unusedSimpArgs false
set_option linter.unusedVariables false
namespace M
theorem flatget {α β : Type} {f : α → List β} {k : Nat} (hl : ∀ x, (f x).length = k) : ∀ (xs : List α) (j i : Nat) (x : α), xs[j]? = some x → i < k → (xs.flatMap f)[j * k + i]? = (f x)[i]?
  | [], _, _, _, h, _ => by simp at h
  | y :: ys, 0, i, x, h, hi => by
    simp only [List.getElem?_cons_zero, Option.some.injEq] at h
    subst h
    rw [List.flatMap_cons, Nat.zero_mul, Nat.zero_add, List.getElem?_append_left (by rw [hl]; exact hi)]
  | y :: ys, j + 1, i, x, h, hi => by
    have ih := flatget hl ys j i x (by simpa using h) hi
    rw [List.flatMap_cons, List.getElem?_append_right (by rw [hl, Nat.add_mul]; omega), hl]
    rw [← ih]
    congr 1
    rw [Nat.add_mul]
    omega
theorem flatlen {α β : Type} {f : α → List β} {k : Nat} (hl : ∀ x, (f x).length = k) : ∀ xs : List α, (xs.flatMap f).length = xs.length * k
  | [] => by simp
  | x :: xs => by rw [List.flatMap_cons, List.length_append, flatlen hl xs, hl, List.length_cons, Nat.add_mul]; omega
/-- all that are looked at, in the program's order -/
def tri (p : Nat) (l : List (Int × Int)) : List (Bool × Nat × (Int × Int)) :=
  [true, false].flatMap fun pl => (List.range p).flatMap fun j => l.map fun x => (pl, j, x)
/-- what comes of one -/
def triF (s : Int) (t : Bool × Nat × (Int × Int)) : Option (Int × Int) :=
  if (t.2.2.2 == 1) == t.1 then some (if t.1 then (t.2.2.1 + t.2.1 * s, t.2.2.2) else (t.2.2.1, t.2.2.2 + t.2.1 * s)) else none
theorem fm_flat {α β γ : Type} (f : α → List β) (g : β → Option γ) : ∀ xs : List α, (xs.flatMap f).filterMap g = xs.flatMap fun x => (f x).filterMap g
  | [] => rfl
  | x :: xs => by rw [List.flatMap_cons, List.filterMap_append, fm_flat f g xs, List.flatMap_cons]
theorem cands_tri (p : Nat) (l : List (Int × Int)) (i : Nat) : cands p l i = (tri p l).filterMap (triF (ipow p i)) := by
  unfold cands tri
  rw [fm_flat]
  congr 1
  funext pl
  rw [fm_flat]
  congr 1
  funext j
  induction l with
  | nil => rfl
  | cons x l ih =>
    rw [List.map_cons, List.filterMap_cons]
    by_cases h : ((x.2 == 1) == pl) = true
    · rw [List.filter_cons_of_pos (p := fun x : Int × Int => (x.2 == 1) == pl) h, List.map_cons, ih]
      have : triF (ipow p i) (pl, j, x) = some (if pl then (x.1 + j * ipow p i, x.2) else (x.1, x.2 + j * ipow p i)) := by
        unfold triF
        exact if_pos h
      rw [this]
    · rw [List.filter_cons_of_neg (p := fun x : Int × Int => (x.2 == 1) == pl) h, ih]
      have : triF (ipow p i) (pl, j, x) = none := by
        unfold triF
        exact if_neg h
      rw [this]
theorem tri_len (p : Nat) (l : List (Int × Int)) : (tri p l).length = 2 * (p * l.length) := by
  unfold tri
  rw [flatlen (k := p * l.length) (fun pl => by rw [flatlen (k := l.length) (fun j => by simp)]; simp)]
  rfl
theorem tri_get {p : Nat} {l : List (Int × Int)} {a j i : Nat} {x : Int × Int} (ha : a < 2) (hj : j < p) (hx : l[i]? = some x) :
    (tri p l)[a * (p * l.length) + (j * l.length + i)]? = some (a == 0, j, x) := by
  have hi : i < l.length := (List.getElem?_eq_some_iff.1 hx).1
  have h1 : j * l.length + i < p * l.length := by
    have : (j + 1) * l.length ≤ p * l.length := Nat.mul_le_mul_right _ hj
    rw [Nat.add_mul] at this
    omega
  unfold tri
  rw [flatget (k := p * l.length) (fun pl => by rw [flatlen (k := l.length) (fun j => by simp)]; simp) _ a _ (a == 0) (by rcases (show a = 0 ∨ a = 1 by omega) with rfl | rfl <;> rfl) h1]
  rw [flatget (k := l.length) (fun j => by simp) _ j i j (by simp [hj]) hi]
  rw [List.getElem?_map, hx]
  rfl
/-- what has come when t of them have been looked at -/
def come (p : Nat) (l : List (Int × Int)) (s : Int) (t : Nat) : List (Int × Int) := ((tri p l).take t).filterMap (triF s)
theorem come_next {p : Nat} {l : List (Int × Int)} {s : Int} {t : Nat} {y : Bool × Nat × (Int × Int)} (h : (tri p l)[t]? = some y) : come p l s (t + 1) = come p l s t ++ (triF s y).toList := by
  unfold come
  rw [List.take_add_one, h, List.filterMap_append]
  cases hf : triF s y <;> simp [hf]
theorem come_all (p : Nat) (l : List (Int × Int)) (i : Nat) {t : Nat} (ht : 2 * (p * l.length) ≤ t) : come p l (ipow p i) t = cands p l i := by
  rw [cands_tri]
  unfold come
  rw [List.take_of_length_le (by rw [tri_len]; exact ht)]
theorem come_pre (p : Nat) (l : List (Int × Int)) (i t : Nat) : come p l (ipow p i) t <+: cands p l i := by
  rw [cands_tri]
  unfold come
  refine ⟨((tri p l).drop t).filterMap (triF (ipow p i)), ?_⟩
  rw [← List.filterMap_append, List.take_append_drop]
theorem filt_split {α : Type} (f : α → Bool) : ∀ l : List α, (l.filter fun x => f x == true).length + (l.filter fun x => f x == false).length = l.length
  | [] => rfl
  | x :: l => by
    have := filt_split f l
    cases h : f x <;> simp [h] at this ⊢ <;> omega
theorem cands_len (p : Nat) (l : List (Int × Int)) (i : Nat) : (cands p l i).length = p * l.length := by
  have h : ∀ pl : Bool, ((List.range p).flatMap fun (j : Nat) => (l.filter fun x => (x.2 == 1) == pl).map fun x => if pl then (x.1 + j * ipow p i, x.2) else (x.1, x.2 + j * ipow p i)).length = p * (l.filter fun x => (x.2 == 1) == pl).length := fun pl => by
    rw [flatlen (k := (l.filter fun x => (x.2 == 1) == pl).length) (fun j => by simp)]
    simp
  have hs := filt_split (fun x : Int × Int => x.2 == 1) l
  unfold cands
  rw [List.flatMap_cons, List.flatMap_cons, List.flatMap_nil, List.append_nil, List.length_append, h true, h false, ← Nat.mul_add, hs]
theorem lst_len (p : Nat) (ok : Bool → Nat → Int → Bool) (hp : 2 ≤ p) : ∀ i : Nat, ((lst p ok i).length : Int) ≤ 2 * ipow p (i + 1)
  | 0 => by
    have h1 : ((List.range p).filter fun (m : Nat) => ok false 1 (m : Int)).length ≤ p := by
      have := List.length_filter_le (fun (m : Nat) => ok false 1 (m : Int)) (List.range p)
      simpa using this
    have h2 : (if ok true 1 0 = true then [((1 : Int), (0 : Int))] else []).length ≤ 1 := by split <;> simp
    simp only [lst, List.length_append, List.length_map, ipow]
    omega
  | i + 1 => by
    have ih := lst_len p ok hp i
    have h1 := List.length_filter_le (okP (ok := ok) (i + 2)) (cands p (lst p ok i) (i + 1))
    rw [cands_len] at h1
    have h2 : ((p * (lst p ok i).length : Nat) : Int) ≤ p * (2 * ipow p (i + 1)) := by
      rw [Int.natCast_mul]
      exact Int.mul_le_mul_of_nonneg_left ih (by omega)
    have h3 : (p : Int) * (2 * ipow p (i + 1)) = 2 * ipow p (i + 2) := by
      show _ = 2 * (ipow p (i + 1) * p)
      rw [Int.mul_comm, Int.mul_assoc]
    simp only [lst]
    show _ ≤ 2 * ipow p (i + 2)
    omega
end M
end Go.Proofs.YtmipenpeebmjkaaGreat

namespace Go.Proofs.YtmipenpeebmjkaaGreat
set_option linter.unusedSimpArgs false
set_option linter.unusedVariables false
open Go.RowKit
namespace Rw
variable {α : Type}

/-- how an element lies: its type, its cells -/
structure Enc (α : Type) where
  t : TypeId
  k : Nat
  cells : α → List Value
  len : ∀ x, (cells x).length = k
  one : ∀ x, ∀ u ∈ cells x, u.oneCell' = true
  pos : 0 < k

theorem flat_len (E : Enc α) : ∀ xs : List α, (xs.flatMap E.cells).length = xs.length * E.k
  | [] => by simp
  | x :: xs => by rw [List.flatMap_cons, List.length_append, flat_len E xs, E.len, List.length_cons, Nat.add_mul]; omega
theorem flat_get (E : Enc α) : ∀ (xs : List α) (j i : Nat) (x : α), xs[j]? = some x → i < E.k → (xs.flatMap E.cells)[j * E.k + i]? = (E.cells x)[i]?
  | [], _, _, _, h, _ => by simp at h
  | y :: ys, 0, i, x, h, hi => by
    simp only [List.getElem?_cons_zero, Option.some.injEq] at h
    subst h
    rw [List.flatMap_cons, Nat.zero_mul, Nat.zero_add, List.getElem?_append_left (by rw [E.len]; exact hi)]
  | y :: ys, j + 1, i, x, h, hi => by
    have ih := flat_get E ys j i x (by simpa using h) hi
    rw [List.flatMap_cons, List.getElem?_append_right (by rw [E.len, Nat.add_mul]; omega), E.len]
    rw [← ih]
    congr 1
    rw [Nat.add_mul]
    omega
theorem flat_take (E : Enc α) (xs : List α) (n : Nat) : (xs.take n).flatMap E.cells = (xs.flatMap E.cells).take (n * E.k) := by
  have e : xs.flatMap E.cells = (xs.take n).flatMap E.cells ++ (xs.drop n).flatMap E.cells := by rw [← List.flatMap_append, List.take_append_drop]
  rcases Nat.lt_or_ge n xs.length with h | h
  · have hl : ((xs.take n).flatMap E.cells).length = n * E.k := by rw [flat_len, List.length_take, Nat.min_eq_left (by omega)]
    rw [e, ← hl, List.take_left]
  · rw [List.take_of_length_le h, List.take_of_length_le (by rw [flat_len]; exact Nat.mul_le_mul_right _ h)]
theorem flat_drop (E : Enc α) (xs : List α) (n : Nat) : (xs.drop n).flatMap E.cells = (xs.flatMap E.cells).drop (n * E.k) := by
  have e : xs.flatMap E.cells = (xs.take n).flatMap E.cells ++ (xs.drop n).flatMap E.cells := by rw [← List.flatMap_append, List.take_append_drop]
  rcases Nat.lt_or_ge n xs.length with h | h
  · have hl : ((xs.take n).flatMap E.cells).length = n * E.k := by rw [flat_len, List.length_take, Nat.min_eq_left (by omega)]
    rw [e, ← hl, List.drop_left]
  · rw [List.drop_eq_nil_of_le h, List.drop_eq_nil_of_le (by rw [flat_len]; exact Nat.mul_le_mul_right _ h)]
    rfl
theorem cells_mem (E : Enc α) (xs : List α) : ∀ u ∈ xs.flatMap E.cells, u.oneCell' = true := by
  intro u hu
  obtain ⟨x, -, h⟩ := List.mem_flatMap.1 hu
  exact E.one x u h

/-- a slice of such elements that lies in blocks from base on and may be appended to -/
def Own (E : Enc α) (w : World) (base : Nat) (v : Value) (xs : List α) : Prop := w.ownsRow base E.t E.k v xs.length (xs.flatMap E.cells)
variable {E : Enc α} {w w' : World} {base base' : Nat} {v : Value} {xs : List α}
theorem Own.nil (E : Enc α) (w : World) (base : Nat) : Own E w base (.slice none 0 0) ([] : List α) := World.ownsRow_nil w base _ _
theorem Own.lit0 (E : Enc α) (w : World) (base : Nat) (hb : base ≤ w.heap.size) : Own E (w.alloc (.cells #[] E.t)) base (.slice (some ⟨w.heap.size, 0, none⟩) 0 0) ([] : List α) :=
  World.ownsRow_made w #[] 0 hb (by unfold maxLen; omega) (by simp)
theorem Own.kept {r : Option Nat} (h : Own E w base v xs) (hg : w.grownBy w' r) (hr : ∀ g, r = some g → v.ownBlock ≠ some g) : Own E w' base v xs := by
  refine World.ownsRow.kept h hg ?_
  cases r with
  | none =>
    cases hv : v.ownBlock
    · exact Or.inl rfl
    · exact Or.inr (by simp)
  | some g => exact Or.inr (hr g rfl)
theorem Own.below (h : Own E w base v xs) (hb : Below w.heap.size w w') : Own E w' base v xs := h.kept (below_grown hb none) fun g hg => by cases hg
theorem Own.down (h : Own E w base v xs) (hb : base' ≤ base) : Own E w base' v xs := by
  obtain ⟨h1, h2⟩ := h
  refine ⟨h1, ?_⟩
  rcases h2 with h2 | ⟨g, cap, cur, hv, hg, hh, r⟩
  · exact Or.inl h2
  · exact Or.inr ⟨g, cap, cur, hv, Nat.le_trans hb hg, hh, r⟩
theorem Own.alloc (h : Own E w base v xs) (o : Obj) : Own E (w.alloc o) base v xs := World.ownsRow.alloc h o
theorem Own.lt (h : Own E w base v xs) : ∀ g, v.ownBlock = some g → base ≤ g ∧ g < w.heap.size := World.ownsRow.lt h
theorem Own.forms (h : Own E w base v xs) : (v = .slice none 0 0 ∧ xs = []) ∨ ∃ g cap, v = .slice (some ⟨g, 0, none⟩) xs.length cap ∧ base ≤ g ∧ g < w.heap.size ∧ xs.length ≤ cap ∧ cap ≤ 9223372036854775807 := by
  rcases h.2 with ⟨e, h2⟩ | ⟨g, cap', cur, e, hg, hh, h3, h4, -⟩
  · exact Or.inl ⟨e, List.eq_nil_of_length_eq_zero h2⟩
  · exact Or.inr ⟨g, cap', e, hg, (Array.getElem?_eq_some_iff.1 hh).1, h3, by unfold maxLen at h4; omega⟩

/-- a slice of such elements that can be read; its cells lie below block hi -/
def Seen (E : Enc α) (w : World) (hi : Nat) (v : Value) (xs : List α) : Prop :=
  ∃ (a : Option Addr) (cap : Nat), v = .slice a xs.length cap ∧ xs.length ≤ cap ∧ cap ≤ 9223372036854775807 ∧
    ∀ j, j < xs.length → ∃ g x, a = some ⟨g, 0, none⟩ ∧ g < hi ∧ Hid (xs[j]? = some x) ∧ ∀ i u, (E.cells x)[i]? = some u → w.cell? ⟨g, j * E.k + i, none⟩ = some u
theorem Seen.below {hi : Nat} (h : Seen E w hi v xs) (hb : Below hi w w') : Seen E w' hi v xs := by
  obtain ⟨a, cap, h1, h2, h2', h3⟩ := h
  refine ⟨a, cap, h1, h2, h2', fun k hk => ?_⟩
  obtain ⟨g, x, e1, e2, e3, e4⟩ := h3 k hk
  exact ⟨g, x, e1, e2, e3, fun i u hu => (hb.cell (p := ⟨g, k * E.k + i, none⟩) e2).trans (e4 i u hu)⟩
theorem Own.seen (h : Own E w base v xs) : Seen E w w.heap.size v xs := by
  have hf := h.forms
  obtain ⟨h1, h2⟩ := h
  rcases h2 with ⟨rfl, hn⟩ | ⟨g, cap, cur, rfl, hg, hh, hc, hm, hs, ht⟩
  · exact ⟨none, 0, by rw [hn], by omega, by omega, fun k hk => by omega⟩
  · refine ⟨some ⟨g, 0, none⟩, cap, rfl, hc, by unfold maxLen at hm; omega, fun j hj => ⟨g, xs[j], rfl, (Array.getElem?_eq_some_iff.1 hh).1, List.getElem?_eq_getElem hj, fun i u hu => ?_⟩⟩
    rw [cell_of_row w g _ cur _ (0, 0) hh]
    have hi : i < E.k := by rw [← E.len xs[j]]; exact (List.getElem?_eq_some_iff.1 hu).1
    have e := flat_get E xs j i _ (List.getElem?_eq_getElem hj) hi
    rw [hu, ← ht, List.getElem?_take] at e
    split at e
    · simpa using e
    · cases e

/-- elements that are read from A on -/
def From (E : Enc α) (w : World) (A : Option Addr) (ys : List α) : Prop := ∀ j u, (ys.flatMap E.cells)[j]? = some u → ∃ ad, A = some ad ∧ w.cell? (ad.add j) = some u
theorem From.nil (E : Enc α) (w : World) (A : Option Addr) : From E w A ([] : List α) := fun j u h => by simp at h
theorem From.lit (E : Enc α) (w : World) (x : α) (H : Nat) (hH : w.heap.size = H) : From E (w.alloc (.cells (E.cells x).toArray E.t)) (some ⟨H, 0, none⟩) [x] := by
  intro j u h
  subst hH
  have hadd : ∀ b i : Nat, (⟨b, 0, none⟩ : Addr).add i = ⟨b, i, none⟩ := fun b i => by unfold Addr.add; split <;> simp_all
  refine ⟨_, rfl, ?_⟩
  rw [hadd, World.cell?_alloc_at _ _ _ _ rfl]
  simpa using h
theorem Own.cellAt {g n cap : Nat} (hn : n = xs.length) (h : Own E w base (.slice (some ⟨g, 0, none⟩) n cap) xs) (j : Nat) (u : Value) (hu : (xs.flatMap E.cells)[j]? = some u) : w.cell? ⟨g, j, none⟩ = some u ∧ w.frozen? ⟨g, j, none⟩ = false := by
  subst hn
  have hj := (List.getElem?_eq_some_iff.1 hu).1
  rw [flat_len] at hj
  exact ⟨(World.ownsRow.cellAt h j hj).trans hu, World.ownsRow.frozenAt h j⟩
theorem Own.take_ {g n cap : Nat} (hn : n = xs.length) (h : Own E w base (.slice (some ⟨g, 0, none⟩) n cap) xs) {hi : Nat} (hhi : g < hi) (hb : Below hi w w') (m : Nat) : From E w' (some ⟨g, 0, none⟩) (xs.take m) := by
  intro j u hu
  have hadd : ∀ b i : Nat, (⟨b, 0, none⟩ : Addr).add i = ⟨b, i, none⟩ := fun b i => by unfold Addr.add; split <;> simp_all
  rw [flat_take, List.getElem?_take] at hu
  split at hu
  · exact ⟨_, rfl, by rw [hadd]; exact (hb.cell (p := ⟨g, j, none⟩) hhi).trans (h.cellAt hn j u hu).1⟩
  · cases hu
theorem Own.drop_ {g n cap : Nat} (hn : n = xs.length) (h : Own E w base (.slice (some ⟨g, 0, none⟩) n cap) xs) {hi : Nat} (hhi : g < hi) (hb : Below hi w w') (m o : Nat) (ho : o = m * E.k) : From E w' (some ⟨g, o, none⟩) (xs.drop m) := by
  intro j u hu
  subst ho
  have hadd2 : ∀ b i j : Nat, (⟨b, i, none⟩ : Addr).add j = ⟨b, i + j, none⟩ := fun b i j => by unfold Addr.add; split <;> simp_all
  rw [flat_drop, List.getElem?_drop] at hu
  exact ⟨_, rfl, by rw [hadd2]; exact (hb.cell (p := ⟨g, m * E.k + j, none⟩) hhi).trans (h.cellAt hn _ u hu).1⟩

theorem row_setCells (base g cap n : Nat) (t : TypeId) (k : Nat) : ∀ (l : List Value) (o : Nat) (w : World) (zs : List Value), w.ownsRow base t k (.slice (some ⟨g, 0, none⟩) n cap) n zs →
    ∃ ys, (w.setCells g o l).ownsRow base t k (.slice (some ⟨g, 0, none⟩) n cap) n ys ∧ ys.take o = zs.take o ∧ w.grownBy (w.setCells g o l) (some g)
  | [], o, w, zs, h => ⟨zs, h, rfl, grown_rf _ _⟩
  | u :: l, o, w, zs, h => by
    have h1 := World.ownsRow.stored h o u
    obtain ⟨ys, k1, k2, k3⟩ := row_setCells base g cap n t k l (o + 1) _ _ h1.1
    refine ⟨ys, k1, ?_, grown_tr h1.2 k3⟩
    have := congrArg (List.take o) k2
    rw [List.take_take, List.take_take, Nat.min_eq_left (by omega)] at this
    rw [this, List.take_set, List.set_eq_of_length_le (by rw [List.length_take]; omega)]
theorem row_cut {t : TypeId} {k g n cap i : Nat} {zs : List Value} (h : w.ownsRow base t k (.slice (some ⟨g, 0, none⟩) n cap) n zs) (hi : i ≤ n) : w.ownsRow base t k (.slice (some ⟨g, 0, none⟩) i cap) i (zs.take (i * k)) := by
  obtain ⟨h1, h2⟩ := h
  have hik : i * k ≤ n * k := Nat.mul_le_mul_right _ hi
  rcases h2 with ⟨e, -⟩ | ⟨g', cap', cur, e, hg, hh, hc, hm, hs, ht⟩
  · cases e
  · injection e with e1 e2 e3
    simp only [Option.some.injEq, Addr.mk.injEq, and_true] at e1
    subst e1 e3
    refine ⟨by rw [List.length_take]; omega, Or.inr ⟨g, cap, cur, rfl, hg, hh, by omega, hm, hs, ?_⟩⟩
    rw [← ht, List.take_take, Nat.min_eq_left hik]
/-- cells from the i-th element on are written, and the slice cut to i elements -/
theorem Own.cut {g n cap i : Nat} {ys : List α} (hn : n = xs.length) (h : Own E w base (.slice (some ⟨g, 0, none⟩) n cap) xs) (hi : i ≤ n) (l : List Value) (hy : ys = xs.take i) (o : Nat) (ho : o = i * E.k) :
    Own E (w.setCells g o l) base (.slice (some ⟨g, 0, none⟩) i cap) ys ∧ w.grownBy (w.setCells g o l) (some g) := by
  subst hn hy ho
  obtain ⟨rs, k1, k2, k3⟩ := row_setCells base g cap xs.length E.t E.k l (i * E.k) w _ h
  refine ⟨?_, k3⟩
  have hl : (xs.take i).length = i := by rw [List.length_take]; omega
  have := row_cut k1 hi
  rw [k2, ← flat_take] at this
  unfold Own
  rw [hl]
  exact this
theorem flat_set (E : Enc α) : ∀ (xs : List α) (j : Nat) (x : α), j < xs.length → ∀ t, ((xs.set j x).flatMap E.cells)[t]? = if j * E.k ≤ t ∧ t < j * E.k + E.k then (E.cells x)[t - j * E.k]? else (xs.flatMap E.cells)[t]?
  | [], j, x, h, _ => by simp at h
  | y :: ys, 0, x, h, t => by
    rw [List.set_cons_zero, List.flatMap_cons, List.flatMap_cons]
    by_cases ht : t < E.k
    · rw [List.getElem?_append_left (by rw [E.len]; exact ht), if_pos ⟨by omega, by omega⟩]
      simp
    · rw [List.getElem?_append_right (by rw [E.len]; omega), if_neg (by omega), List.getElem?_append_right (by rw [E.len]; omega), E.len, E.len]
  | y :: ys, j + 1, x, h, t => by
    have ih := flat_set E ys j x (by simpa using h)
    rw [List.set_cons_succ, List.flatMap_cons, List.flatMap_cons]
    have e : (j + 1) * E.k = j * E.k + E.k := by rw [Nat.add_mul]; omega
    by_cases ht : t < E.k
    · rw [List.getElem?_append_left (by rw [E.len]; exact ht), List.getElem?_append_left (by rw [E.len]; exact ht), if_neg (by omega)]
    · rw [List.getElem?_append_right (by rw [E.len]; omega), List.getElem?_append_right (by rw [E.len]; omega), E.len, ih (t - E.k), e]
      by_cases hc : j * E.k ≤ t - E.k ∧ t - E.k < j * E.k + E.k
      · rw [if_pos hc, if_pos (by omega)]
        congr 1
        omega
      · rw [if_neg hc, if_neg (by omega)]
/-- what is asked of a program's types -/
structure Fits (P : Program) (E : Enc α) (ts : TypeId) : Prop where
  under : P.underlying ts = some (.slice E.t)
  info : ∃ i z, P.info? E.t = some i ∧ i.zero = some z ∧ i.size = E.k ∧ i.bytes ≤ 1000 ∧ z.cells.size = E.k

/-- 'append(out, src...)' -/
theorem run_push {P : Program} {ts : TypeId} (F : Fits P E ts) {W : World} (ty : TypeId) (ys : List α) (A : Option Addr) (c : Nat)
    (hr : From E w A ys) (hown : Own E w base v xs) (hW : Below base W w) (hB : base ≤ w.heap.size) (hl : xs.length + ys.length ≤ 100000000000) :
    ∃ v' w', (Builtin.append_ #[ts, ts] ty #[v, .slice A ys.length c]).run P w = .ok v' w' ∧ Own E w' base v' (xs ++ ys) ∧ Below base W w' := by
  obtain ⟨i, z, hi, hz, hs, hby, hzc⟩ := F.info
  cases A with
  | none =>
    have he : ys = [] := by
      cases ys with
      | nil => rfl
      | cons y ys =>
        have hp := E.pos
        have hl := E.len y
        obtain ⟨ad, h, -⟩ := hr 0 ((E.cells y)[0]'(by omega)) (by rw [List.flatMap_cons, List.getElem?_append_left (by omega)]; exact List.getElem?_eq_getElem _)
        cases h
    subst he
    exact ⟨v, w, run_append_of_nil w base _ _ _ i E.k F.under hi _ _ _ hown c, by simpa using hown, hW⟩
  | some ad =>
    have hbb : (xs.length + ys.length) * i.bytes ≤ 140737488355328 := Nat.le_trans (Nat.mul_le_mul hl hby) (by omega)
    obtain ⟨v', w', h1, h2, h3, -, -⟩ := run_append_own_at (P := P) w base ts ty E.t i z E.k i.bytes F.under hi hz hs rfl hzc E.pos v xs.length (xs.flatMap E.cells) hown ad ys.length c (ys.flatMap E.cells)
      (flat_len E ys) (fun j u hu => by
        obtain ⟨ad', h1, h2⟩ := hr j u hu
        obtain rfl := Option.some.inj h1
        exact h2) (cells_mem E ys) (by unfold maxLen; omega) hbb hB
    refine ⟨v', w', h1, ?_, hW.grown h3 hB fun k hk => (Own.lt hown k hk).1⟩
    unfold Own
    rw [List.flatMap_append, List.length_append]
    exact h2

theorem push {P : Program} {ts : TypeId} (F : Fits P E ts) {ops : Array Oper} {rest : List Oper} {o : Oper} {a : Act} {Q : Exit → Act → World → Prop} {W : World} (base : Nat) (ys xs : List α) (v : Value) (A : Option Addr) (m c : Nat) (hm : ys.length = m) (hgd : o.guard = none) (s x : Operand)
    (ho : o.op = .call { callee := .builtin .append, args := #[s, x], argTypes := #[ts, ts] }) (hs : a.eval s = v) (hx : a.eval x = .slice A m c)
    (hr : From E w A ys) (hown : Own E w base v xs) (hW : Below base W w) (hB : base ≤ w.heap.size) (hl : xs.length + ys.length ≤ 100000000000)
    (h : ∀ v' w', Own E w' base v' (xs ++ ys) → Below base W w' → wpList P ops Q rest (a.put o.dst v') w') :
    wpList P ops Q (o :: rest) a w := by
  subst hm
  refine wpList_plain hgd fun _ hK => ?_
  obtain ⟨v', w', h1, h2, h3⟩ := run_push F (w := w) (W := W) (base := base) o.type ys A c hr hown hW hB hl
  unfold Oper.wp execOp
  simp only [ho, resolve, invoke, builtin, Sem.run_bind, Sem.run_pure, Result.andThen_ok, List.map_toArray, List.map_cons, List.map_nil, hs, hx, h1]
  exact hK _ _ (h v' w' h2 h3)

/-- the same at a step of a region that draws -/
theorem step_push {P : Program} {ts : TypeId} (F : Fits P E ts) {ops : Array Oper} {o : Oper} {a : Act} {K : Act → World → Prop} {Q : Exit → Act → World → Prop} {B : Prop} {W : World} (base : Nat) (ys xs : List α) (v : Value) (A : Option Addr) (m c : Nat) (hm : ys.length = m) (hgd : o.guard = none) (s x : Operand)
    (ho : o.op = .call { callee := .builtin .append, args := #[s, x], argTypes := #[ts, ts] }) (hs : a.eval s = v) (hx : a.eval x = .slice A m c)
    (hr : From E w A ys) (hown : Own E w base v xs) (hW : Below base W w) (hB : base ≤ w.heap.size) (hl : xs.length + ys.length ≤ 100000000000)
    (h : ∀ v' w', Own E w' base v' (xs ++ ys) → Below base W w' → K (a.put o.dst v') w') :
    if Region.wanted o (yielded ops a.tmps) = true then Oper.wp P o a w K Q else B := by
  subst hm
  have hw : Region.wanted o (yielded ops a.tmps) = true := by simp [Region.wanted, hgd]
  rw [if_pos hw]
  obtain ⟨v', w', h1, h2, h3⟩ := run_push F (w := w) (W := W) (base := base) o.type ys A c hr hown hW hB hl
  unfold Oper.wp execOp
  simp only [ho, resolve, invoke, builtin, Sem.run_bind, Sem.run_pure, Result.andThen_ok, List.map_toArray, List.map_cons, List.map_nil, hs, hx, h1]
  exact h v' w' h2 h3
/-- the same, and what the append leaves as it was -/
theorem run_push2 {P : Program} {ts : TypeId} (F : Fits P E ts) {W : World} (ty : TypeId) (ys : List α) (A : Option Addr) (c : Nat)
    (hr : From E w A ys) (hown : Own E w base v xs) (hW : Below base W w) (hB : base ≤ w.heap.size) (hl : xs.length + ys.length ≤ 100000000000) :
    ∃ v' w', (Builtin.append_ #[ts, ts] ty #[v, .slice A ys.length c]).run P w = .ok v' w' ∧ Own E w' base v' (xs ++ ys) ∧ Below base W w' ∧ w.grownBy w' v.ownBlock := by
  obtain ⟨i, z, hi, hz, hs, hby, hzc⟩ := F.info
  cases A with
  | none =>
    have he : ys = [] := by
      cases ys with
      | nil => rfl
      | cons y ys =>
        have hp := E.pos
        have hl := E.len y
        obtain ⟨ad, h, -⟩ := hr 0 ((E.cells y)[0]'(by omega)) (by rw [List.flatMap_cons, List.getElem?_append_left (by omega)]; exact List.getElem?_eq_getElem _)
        cases h
    subst he
    exact ⟨v, w, run_append_of_nil w base _ _ _ i E.k F.under hi _ _ _ hown c, by simpa using hown, hW, World.grownBy.refl _ _⟩
  | some ad =>
    have hbb : (xs.length + ys.length) * i.bytes ≤ 140737488355328 := Nat.le_trans (Nat.mul_le_mul hl hby) (by omega)
    obtain ⟨v', w', h1, h2, h3, -, -⟩ := run_append_own_at (P := P) w base ts ty E.t i z E.k i.bytes F.under hi hz hs rfl hzc E.pos v xs.length (xs.flatMap E.cells) hown ad ys.length c (ys.flatMap E.cells)
      (flat_len E ys) (fun j u hu => by
        obtain ⟨ad', h1, h2⟩ := hr j u hu
        obtain rfl := Option.some.inj h1
        exact h2) (cells_mem E ys) (by unfold maxLen; omega) hbb hB
    refine ⟨v', w', h1, ?_, hW.grown h3 hB fun k hk => (Own.lt hown k hk).1, h3⟩
    unfold Own
    rw [List.flatMap_append, List.length_append]
    exact h2
theorem step_push2 {P : Program} {ts : TypeId} (F : Fits P E ts) {ops : Array Oper} {o : Oper} {a : Act} {K : Act → World → Prop} {Q : Exit → Act → World → Prop} {B : Prop} {W : World} (base : Nat) (ys xs : List α) (v : Value) (A : Option Addr) (m c : Nat) (hm : ys.length = m) (hgd : o.guard = none) (s x : Operand)
    (ho : o.op = .call { callee := .builtin .append, args := #[s, x], argTypes := #[ts, ts] }) (hs : a.eval s = v) (hx : a.eval x = .slice A m c)
    (hr : From E w A ys) (hown : Own E w base v xs) (hW : Below base W w) (hB : base ≤ w.heap.size) (hl : xs.length + ys.length ≤ 100000000000)
    (h : ∀ v' w', Own E w' base v' (xs ++ ys) → Below base W w' → w.grownBy w' v.ownBlock → K (a.put o.dst v') w') :
    if Region.wanted o (yielded ops a.tmps) = true then Oper.wp P o a w K Q else B := by
  subst hm
  have hw : Region.wanted o (yielded ops a.tmps) = true := by simp [Region.wanted, hgd]
  rw [if_pos hw]
  obtain ⟨v', w', h1, h2, h3, h4⟩ := run_push2 F (w := w) (W := W) (base := base) o.type ys A c hr hown hW hB hl
  unfold Oper.wp execOp
  simp only [ho, resolve, invoke, builtin, Sem.run_bind, Sem.run_pure, Result.andThen_ok, List.map_toArray, List.map_cons, List.map_nil, hs, hx, h1]
  exact h v' w' h2 h3 h4
end Rw
end Go.Proofs.YtmipenpeebmjkaaGreat

namespace Go.Proofs.YtmipenpeebmjkaaGreat
set_option linter.unusedSimpArgs false
set_option linter.unusedVariables false
open Go.RowKit
attribute [local go_sem] Oper.semAt_some
/-- a pair's cells -/
def EP : Rw.Enc (Int × Int) where
  t := 112
  k := 2
  cells := fun c => [.int .i64 c.1, .int .i64 c.2]
  len := fun _ => rfl
  one := fun x u hu => by simp only [List.mem_cons, List.not_mem_nil, or_false] at hu; rcases hu with rfl | rfl <;> rfl
  pos := by decide
theorem infoP : (Tryz.prog.info? 112).map (fun i => (i.zero, i.size, i.bytes)) = some (some (.agg #[.int .i64 0, .int .i64 0]), 2, 16) := by kernel_rfl
theorem fitsP : Rw.Fits Tryz.prog EP 109 := ⟨Tryz.underlying109, by
  obtain ⟨i0, hi, hz0, hz1, hz2⟩ := info_parts infoP
  exact ⟨i0, _, hi, hz0, hz1, by omega, rfl⟩⟩
/-- what a round that goes on keeps: blocks that are named, and blocks of truth values -/
def KpB (K : Nat → Prop) (W W' : World) : Prop := W.heap.size ≤ W'.heap.size ∧ (∀ (i : Nat) (o : Obj), K i → W.heap[i]? = some o → W'.heap[i]? = some o) ∧ ∀ (i : Nat) (cs : Array Value) (fr : Nat × Nat), W.heap[i]? = some (.cells cs 4 fr) → W'.heap[i]? = some (.cells cs 4 fr)
theorem KpB.refl (K : Nat → Prop) (W : World) : KpB K W W := ⟨Nat.le_refl _, fun _ _ _ h => h, fun _ _ _ h => h⟩
theorem KpB.trans {K : Nat → Prop} {A B C : World} (h : KpB K A B) (k : KpB K B C) : KpB K A C := ⟨Nat.le_trans h.1 k.1, fun i o hi ho => k.2.1 i o hi (h.2.1 i o hi ho), fun i cs fr hi => k.2.2 i cs fr (h.2.2 i cs fr hi)⟩
theorem KpB.below {K : Nat → Prop} {W W' : World} (h : Below W.heap.size W W') : KpB K W W' := by
  have hh : ∀ (i : Nat) (o : Obj), W.heap[i]? = some o → W'.heap[i]? = some o := fun i o ho => (h.block i (Array.getElem?_eq_some_iff.1 ho).1).trans ho
  exact ⟨h.size, fun i o _ ho => hh i o ho, fun i cs fr ho => hh i _ ho⟩
theorem KpB.alloc {K : Nat → Prop} {W W' : World} (h : KpB K W W') (o : Obj) : KpB K W (W'.alloc o) := h.trans (KpB.below ((Below.refl _ _).alloc (Nat.le_refl _) o))
theorem KpB.cell {K : Nat → Prop} {W W' : World} (h : KpB K W W') {b o : Nat} {v : Value} (hb : K b) (hc : W.cell? ⟨b, o, none⟩ = some v) : W'.cell? ⟨b, o, none⟩ = some v := by
  obtain ⟨ob, ho, -⟩ := cells_of_cell hc
  exact (World.cell?_of_block ((h.2.1 b ob hb ho).trans ho.symm)).trans hc
theorem KpB.other {K : Nat → Prop} (W : World) (l : Nat) (o o' : Obj) (h : W.heap[l]? = some o) (hc : o.isCells = false) (hK : ¬ K l) : KpB K W (W.putObj l o') := by
  have hg := grownBy_putObj' W l o'
  refine ⟨hg.size, fun i x hi hx => ?_, fun i cs fr hx => ?_⟩
  · exact (hg.block i (Array.getElem?_eq_some_iff.1 hx).1 (fun e => hK (by cases e; exact hi))).trans hx
  · refine (hg.block i (Array.getElem?_eq_some_iff.1 hx).1 (fun e => ?_)).trans hx
    cases e
    rw [h] at hx
    cases hx
    cases hc
/-- the world at a yield -/
theorem grown_new {w w' : World} (h : Below w.heap.size w w') : w.grownBy w' none := below_grown h none
def CandPost (S Sp : List (Int × Int) → Prop) (J Jx : List (Int × Int) → World → Prop) (e : Ending) (W' : World) : Prop := (∃ v, e = .returned v) ∧ ((∃ xs, S xs ∧ J xs W') ∨ (∃ pre, Sp pre ∧ Jx pre W'))
set_option maxRecDepth 100000 in
set_option maxHeartbeats 2000000 in
theorem cand_in (K : Nat → Prop) (n : Nat) (hn : 1 ≤ n) (lr Bp Bl Bs n₀ p i : Nat) (l : List (Int × Int)) (lv : Value) (hp : p ≤ 997) (hs : M.ipow p i ≤ 1000000000) (hs0 : 0 ≤ M.ipow p i) (hl : ∀ x ∈ l, (0 ≤ x.1 ∧ x.1 ≤ 1000000000) ∧ (0 ≤ x.2 ∧ x.2 ≤ 1000000000))
    (J Jx : List (Int × Int) → World → Prop) (W : World) (hJ : AbidesFrom W.heap.size J)
    (hY : ∀ pre x W1, J pre W1 → pre.length < (M.cands p l i).length → YieldAt Fence.wide (n - 1) Tryz.prog lr #[.agg #[.int .i64 x.1, .int .i64 x.2]] W1 fun e W' =>
      (e = .returned (.bool true) ∧ J (pre ++ [x]) W' ∧ KpB K W1 W') ∨ (e = .returned (.bool false) ∧ Jx (pre ++ [x]) W'))
    (cp : W.cell? ⟨Bp, 0, none⟩ = some (.int .i64 p)) (cl : W.cell? ⟨Bl, 0, none⟩ = some lv) (cs : W.cell? ⟨Bs, 0, none⟩ = some (.int .i64 (M.ipow p i))) (bp : K Bp) (bl : K Bl) (bs : K Bs) (bn : ∀ b, b < n₀ → K b)
    (hseen : Rw.Seen EP W n₀ lv l) (h0 : J [] W) :
    CallsIn Fence.wide n Tryz.prog 150 #[.func (.yield lr) #[] #[], .pointer (some ⟨Bp, 0, none⟩), .pointer (some ⟨Bl, 0, none⟩), .pointer (some ⟨Bs, 0, none⟩)] W
      (CandPost (fun xs => xs = M.cands p l i) (fun pre => pre <+: M.cands p l i) J Jx) := by
  obtain ⟨A, cap, rfl, hcap, hcap2, hv⟩ := hseen
  have hv := Lib.hid hv
  have hY := Lib.hid hY
  have hl := Lib.hid hl
  have hpre := fun t => M.come_pre p l i t
  have hall := fun t (h : 2 * (p * l.length) ≤ t) => M.come_all p l i h
  generalize hQ : M.ipow p i = Q at *
  clear hQ
  have hpre := Lib.hid hpre
  have hall := Lib.hid hall
  generalize M.cands p l i = C at *
  refine callsIn_of_wp Tryz.func150 rfl trivial ?_ rfl
  simp only [Tryz.ntmps150, List.size_toArray, List.length_cons, List.length_nil, Nat.reduceAdd, Nat.reduceSub, Array.replicate_succ, Array.replicate_zero, List.push_toArray, List.append_toArray, List.nil_append, List.cons_append]
  gi_wp2
  have hG1 : W.grownBy (W.alloc (.cells #[.bool true, .bool false] 4)) none := World.grownBy_alloc W _ none
  have gb : (W.alloc (.cells #[.bool true, .bool false] 4)).heap[W.heap.size]? = some (.cells #[.bool true, .bool false] 4 (0, 0)) := heap_alloc_new W _
  have hJ1 := hJ [] W _ none h0 hG1 (fun r e => by cases e)
  have hB1 : KpB K W (W.alloc (.cells #[.bool true, .bool false] 4)) := (KpB.refl K W).alloc _
  have hz1 : W.heap.size ≤ (W.alloc (.cells #[.bool true, .bool false] 4)).heap.size := by simp
  generalize hW1 : W.alloc (.cells #[.bool true, .bool false] 4) = W1 at *
  clear hW1 hG1
  gi_loopw [12] (fun va wr => ∃ a : Nat, a ≤ 2 ∧ va = .int .i64 a ∧ J (M.come p l Q (a * (p * l.length))) wr ∧ KpB K W wr ∧ wr.heap[W.heap.size]? = some (.cells #[.bool true, .bool false] 4 (0, 0)) ∧ W.heap.size ≤ wr.heap.size) (fun va _ => 2 - (intOf va).toNat)
  case atStart => exact ⟨0, by omega, rfl, by rw [Nat.zero_mul]; exact hJ1, hB1, gb, hz1⟩
  case round =>
    obtain ⟨a, ha, rfl, hJa, hBa, hga, hza⟩ := hrel
    have ea := hBa.cell bp cp
    by_cases hlt : a < 2
    · have hpl : wr.cell? ⟨W.heap.size, a, none⟩ = some (.bool (a == 0)) := by
        rw [cell_of_row wr W.heap.size a _ _ _ hga]
        rcases (show a = 0 ∨ a = 1 by omega) with rfl | rfl <;> rfl
      have hlt2 : (a : Int) < 2 := by omega
      gi_wp2
      generalize wr = wa at *
      gi_loopw [17] (fun vj wr => ∃ j : Nat, j ≤ p ∧ vj = .int .i64 j ∧ J (M.come p l Q (a * (p * l.length) + j * l.length)) wr ∧ KpB K W wr ∧ wr.heap[W.heap.size]? = some (.cells #[.bool true, .bool false] 4 (0, 0)) ∧ W.heap.size ≤ wr.heap.size) (fun vj _ => p - (intOf vj).toNat)
      case atStart => exact ⟨0, by omega, rfl, by rw [Nat.zero_mul]; exact hJa, hBa, hga, hza⟩
      case round =>
        clear hJa hBa hga hza ea hpl
        obtain ⟨j, hj, rfl, hJa, hBa, hga, hza⟩ := hrel
        have el := hBa.cell bl cl
        by_cases hjt : j < p
        · have hjt2 : (j : Int) < (p : Int) := by omega
          gi_wp2
          generalize wr = wb at *
          gi_loopw [22] (fun vi wr => ∃ q : Nat, q ≤ l.length ∧ vi = .int .i64 q ∧ J (M.come p l Q (a * (p * l.length) + (j * l.length + q))) wr ∧ KpB K W wr ∧ wr.heap[W.heap.size]? = some (.cells #[.bool true, .bool false] 4 (0, 0)) ∧ W.heap.size ≤ wr.heap.size) (fun vi _ => l.length - (intOf vi).toNat)
          case atStart => exact ⟨0, by omega, rfl, hJa, hBa, hga, hza⟩
          case round =>
            clear hJa hBa hga hza el
            obtain ⟨q, hq, rfl, hJa, hBa, hga, hza⟩ := hrel
            by_cases hqt : q < l.length
            · obtain ⟨g, x, rfl, hg, hx, hcell⟩ := hv.out q hqt
              have e0 : wr.cell? ⟨g, q * 2, none⟩ = some (.int .i64 x.1) := hBa.cell (bn g hg) (hcell 0 _ rfl)
              have e1 : wr.cell? ⟨g, q * 2 + 1, none⟩ = some (.int .i64 x.2) := hBa.cell (bn g hg) (hcell 1 _ rfl)
              have es : wr.cell? ⟨Bs, 0, none⟩ = some (.int .i64 Q) := hBa.cell bs cs
              have hxl := hl.out x (List.mem_of_getElem? hx.out)
              have hmul := M.mul_nn (x := (j : Int)) (y := Q) (m := 997) (n := 1000000000) (by omega) (by omega) hs0 hs
              have hlt9 : W.heap.size < wr.heap.size := (Array.getElem?_eq_some_iff.1 hga).1
              have hnext := M.come_next (s := Q) (M.tri_get (p := p) (l := l) hlt hjt hx.out)
              obtain ⟨u, v⟩ := x
              have hBn : ∀ o : Obj, Below wr.heap.size wr (wr.alloc o) := fun o => (Below.refl _ wr).alloc (Nat.le_refl _) o
              have es2 : ∀ o : Obj, (wr.alloc o).cell? ⟨Bs, 0, none⟩ = some (.int .i64 Q) := fun o => keepCell (hBn o) es
              have h00 : ((0 : Nat) == 0) = true := rfl
              have h10 : ((1 : Nat) == 0) = false := rfl
              simp only at e0 e1 hxl hnext
              rcases (show a = 0 ∨ a = 1 by omega) with rfl | rfl
              · by_cases hx2 : v = 1
                · subst hx2
                  have hn1 : M.come p l Q (0 * (p * l.length) + (j * l.length + q) + 1) = M.come p l Q (0 * (p * l.length) + (j * l.length + q)) ++ [(u + j * Q, 1)] := by rw [hnext]; simp [M.triF]
                  have hpr := hpre.out (0 * (p * l.length) + (j * l.length + q) + 1)
                  have hlen : (M.come p l Q (0 * (p * l.length) + (j * l.length + q))).length < C.length := by
                    have := hpr.length_le
                    rw [hn1, List.length_append, List.length_singleton] at this
                    exact this
                  obtain ⟨fn, tmps, assign, body, hy, hR⟩ := hY.out (M.come p l Q (0 * (p * l.length) + (j * l.length + q))) (u + j * Q, 1) (wr.alloc (.cells #[.int .i64 (u + j * Q), .int .i64 (1)] 112)) (hJ _ wr _ none hJa (World.grownBy_alloc wr _ none) (fun r e => by cases e)) hlen
                  dsimp only at hy
                  have hn2 := Lib.hid hn1
                  have hpr := Lib.hid hpr
                  clear hnext hn1 hlen
                  gi_wp2
                  refine hR.mono ?_
                  rintro e W3 (⟨rfl, hJ3, hk3⟩ | ⟨rfl, hJx3⟩)
                  · have hB3 := (hBa.alloc (.cells #[.int .i64 (u + j * Q), .int .i64 (1)] 112)).trans hk3
                    have hg3 := hk3.2.2 W.heap.size _ _ ((Below.heap_alloc _ _ _ hlt9).trans hga)
                    have hz3 : W.heap.size ≤ W3.heap.size := Nat.le_of_lt (Array.getElem?_eq_some_iff.1 hg3).1
                    gi_wp2
                    go_roundw
                    case rel => (repeat apply Exists.intro); exact ⟨⟨q + 1, by omega, by go_num, by rw [← hn2.out] at hJ3; exact hJ3, hB3, hg3, hz3⟩, rfl⟩
                    case measure => simp [intOf]; omega
                  · gi_wp2
                    refine bodyPost_ret (results_none rfl _ _ _) rfl ?_
                    exact ⟨⟨_, rfl⟩, .inr ⟨_, by rw [← hn2.out]; exact hpr.out, hJx3⟩⟩
                · have hx3 : (v == 1) = false := by simpa using hx2
                  have hn1 : M.come p l Q (0 * (p * l.length) + (j * l.length + q) + 1) = M.come p l Q (0 * (p * l.length) + (j * l.length + q)) := by rw [hnext]; simp [M.triF, hx2]
                  have hn2 := Lib.hid hn1
                  have hBn2 := Lib.hid hBn
                  clear hnext hn1 hBn
                  gi_wp2
                  go_roundw
                  case rel => exact ⟨q + 1, by omega, by go_num, by
                    have h_ := hJ _ wr _ none hJa (World.grownBy_alloc wr (.cells #[.int .i64 u, .int .i64 v] 112) none) (fun r e => by cases e)
                    rw [← hn2.out] at h_
                    exact h_, hBa.alloc _, (Below.heap_alloc _ _ _ hlt9).trans hga, by simp; omega⟩
                  case measure => simp [intOf]; omega
              · by_cases hx2 : v = 1
                · subst hx2
                  have hn1 : M.come p l Q (1 * (p * l.length) + (j * l.length + q) + 1) = M.come p l Q (1 * (p * l.length) + (j * l.length + q)) := by rw [hnext]; simp [M.triF]
                  have hn2 := Lib.hid hn1
                  have hBn2 := Lib.hid hBn
                  clear hnext hn1 hBn
                  gi_wp2
                  go_roundw
                  case rel => exact ⟨q + 1, by omega, by go_num, by
                    have h_ := hJ _ wr _ none hJa (World.grownBy_alloc wr (.cells #[.int .i64 u, .int .i64 1] 112) none) (fun r e => by cases e)
                    rw [← hn2.out] at h_
                    exact h_, hBa.alloc _, (Below.heap_alloc _ _ _ hlt9).trans hga, by simp; omega⟩
                  case measure => simp [intOf]; omega
                · have hx3 : (v == 1) = false := by simpa using hx2
                  have hn1 : M.come p l Q (1 * (p * l.length) + (j * l.length + q) + 1) = M.come p l Q (1 * (p * l.length) + (j * l.length + q)) ++ [(u, v + j * Q)] := by rw [hnext]; simp [M.triF, hx2]
                  have hpr := hpre.out (1 * (p * l.length) + (j * l.length + q) + 1)
                  have hlen : (M.come p l Q (1 * (p * l.length) + (j * l.length + q))).length < C.length := by
                    have := hpr.length_le
                    rw [hn1, List.length_append, List.length_singleton] at this
                    exact this
                  obtain ⟨fn, tmps, assign, body, hy, hR⟩ := hY.out (M.come p l Q (1 * (p * l.length) + (j * l.length + q))) (u, v + j * Q) (wr.alloc (.cells #[.int .i64 (u), .int .i64 (v + j * Q)] 112)) (hJ _ wr _ none hJa (World.grownBy_alloc wr _ none) (fun r e => by cases e)) hlen
                  dsimp only at hy
                  have hn2 := Lib.hid hn1
                  have hpr := Lib.hid hpr
                  clear hnext hn1 hlen
                  gi_wp2
                  refine hR.mono ?_
                  rintro e W3 (⟨rfl, hJ3, hk3⟩ | ⟨rfl, hJx3⟩)
                  · have hB3 := (hBa.alloc (.cells #[.int .i64 (u), .int .i64 (v + j * Q)] 112)).trans hk3
                    have hg3 := hk3.2.2 W.heap.size _ _ ((Below.heap_alloc _ _ _ hlt9).trans hga)
                    have hz3 : W.heap.size ≤ W3.heap.size := Nat.le_of_lt (Array.getElem?_eq_some_iff.1 hg3).1
                    gi_wp2
                    go_roundw
                    case rel => (repeat apply Exists.intro); exact ⟨⟨q + 1, by omega, by go_num, by rw [← hn2.out] at hJ3; exact hJ3, hB3, hg3, hz3⟩, rfl⟩
                    case measure => simp [intOf]; omega
                  · gi_wp2
                    refine bodyPost_ret (results_none rfl _ _ _) rfl ?_
                    exact ⟨⟨_, rfl⟩, .inr ⟨_, by rw [← hn2.out]; exact hpr.out, hJx3⟩⟩
            · obtain rfl : q = l.length := by omega
              have hjl : J (M.come p l Q (a * (p * l.length) + (j + 1) * l.length)) wr := by rw [Nat.add_mul, Nat.one_mul]; exact hJa
              have hqt2 : ¬ ((l.length : Int) < (l.length : Int)) := by omega
              gi_wp2
              go_roundw
              case rel => exact ⟨j + 1, by omega, by go_num, hjl, hBa, hga, hza⟩
              case measure => simp [intOf]; omega
        · obtain rfl : j = p := by omega
          have hjl : J (M.come j l Q ((a + 1) * (j * l.length))) wr := by rw [Nat.add_mul, Nat.one_mul]; exact hJa
          have hqt2 : ¬ ((j : Int) < (j : Int)) := by omega
          gi_wp2
          go_roundw
          case rel => exact ⟨a + 1, by omega, by go_num, hjl, hBa, hga, hza⟩
          case measure => simp [intOf]; omega
    · obtain rfl : a = 2 := by omega
      have hC := hall.out _ (Nat.le_refl _)
      rw [hC] at hJa
      gi_wp2
      go_end0
      exact ⟨⟨_, rfl⟩, .inl ⟨_, rfl, hJa⟩⟩
end Go.Proofs.YtmipenpeebmjkaaGreat
