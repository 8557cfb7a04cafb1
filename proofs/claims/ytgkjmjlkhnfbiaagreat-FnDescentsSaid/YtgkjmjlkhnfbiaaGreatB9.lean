/-
  Joined texts: contracts and plain laws.
-/
import Derived.Test.YtgkjmjlkhnfbiaaGreatB8
import Derived.Test.YtgkjmjlkhnfbiaaGreatB5
import Derived.Test.YtgkjmjlkhnfbiaaGreatB3
import Derived.Test.YtgkjmjlkhnfbiaaGreatB4
import Derived.Test.YtgkjmjlkhnfbiaaGreatB2
namespace Go.Proofs.YtgkjmjlkhnfbiaaGreat
set_option linter.unusedSimpArgs false
set_option linter.unusedVariables false
open Go.RowKit
namespace M
theorem lst_nil {p : Nat} {ok : Bool → Nat → Int → Bool} {i : Nat} (h : lst p ok i = []) : ∀ j, i ≤ j → lst p ok j = [] := by
  intro j
  induction j with
  | zero => intro hj; obtain rfl : i = 0 := by omega
            exact h
  | succ j ih =>
    intro hj
    rcases Nat.lt_or_ge i (j + 1) with q | q
    · have := ih (by omega)
      unfold lst
      rw [this]
      simp [cands]
    · obtain rfl : i = j + 1 := by omega
      exact h
/-- whether a pair of a level lifts; whether there is one that is possible -/
def Lf (D A C : Int) (p : Nat) (j : Nat) : Bool := (lst p (qok D A C p) j).any (lfP (qlf D A C p) (j + 1))
def Ne (D A C : Int) (p : Nat) (j : Nat) : Bool := !(lst p (qok D A C p) j).isEmpty
/-- whether there is a pair that lifts up to the depth -/
def solv (D A C : Int) (p d : Nat) : Bool := (List.range d).any (Lf D A C p)
/-- whether that is decided -/
def told (D A C : Int) (p d : Nat) : Bool := solv D A C p d || !Ne D A C p (d - 1)
theorem Ne_no {D A C : Int} {p i : Nat} (h : Ne D A C p i = false) : ∀ j, i ≤ j → Ne D A C p j = false ∧ Lf D A C p j = false := by
  intro j hj
  have h0 : lst p (qok D A C p) i = [] := by
    unfold Ne at h
    simpa using h
  have := lst_nil h0 j hj
  unfold Ne Lf
  rw [this]
  simp
theorem solv_yes {D A C : Int} {p d j : Nat} (hj : j < d) (h : Lf D A C p j = true) : solv D A C p d = true :=
  List.any_eq_true.2 ⟨j, List.mem_range.2 hj, h⟩
theorem solv_no {D A C : Int} {p d j : Nat} (h : (List.range j).any (Lf D A C p) = false) (hn : Ne D A C p j = false) : solv D A C p d = false := by
  unfold solv
  rw [List.any_eq_false]
  intro i hi
  rcases Nat.lt_or_ge i j with q | q
  · have := List.any_eq_false.1 h i (List.mem_range.2 q)
    simpa using this
  · simp [(Ne_no hn i q).2]
end M
theorem results_tmp4 {fn : Func} {t u v x : Tmp} (h : fn.results = #[.tmp t, .tmp u, .tmp v, .tmp x]) (tmps : Array Value) (P : Program) (w : World) :
    (results fn tmps).run P w = .ok (.tuple #[tmps.getD t undef, tmps.getD u undef, tmps.getD v undef, tmps.getD x undef]) w := by
  simp [results, h]
/-- what the search hands back -/
def LocPost (D A C : Int) (p d : Nat) (w : World) (e : Ending) (w' : World) : Prop :=
  ∃ (x y kk : Int) (op : Bool), e = .returned (.tuple #[.int .i64 x, .int .i64 y, .int .i64 kk, .bool op]) ∧ decide (0 < kk) = M.solv D A C p d ∧ (M.solv D A C p d || !op) = M.told D A C p d ∧ Below w.heap.size w w'
theorem LocPost.yes {D A C x y kk : Int} {op : Bool} {p d j : Nat} {w w' : World} (hj : j < d) (h : M.Lf D A C p j = true) (hk : 0 < kk) (hb : Below w.heap.size w w') :
    LocPost D A C p d w (.returned (.tuple #[.int .i64 x, .int .i64 y, .int .i64 kk, .bool op])) w' := by
  have hs := M.solv_yes hj h
  exact ⟨x, y, kk, op, rfl, by rw [hs]; simpa using hk, by unfold M.told; rw [hs] <;> rfl, hb⟩
theorem LocPost.no {D A C x y : Int} {p d j : Nat} {w w' : World} (h : (List.range j).any (M.Lf D A C p) = false) (hn : M.Ne D A C p j = false) (hj : j < d) (hb : Below w.heap.size w w') :
    LocPost D A C p d w (.returned (.tuple #[.int .i64 x, .int .i64 y, .int .i64 0, .bool false])) w' := by
  have hs := M.solv_no (d := d) h hn
  exact ⟨x, y, 0, false, rfl, by rw [hs] <;> rfl, by unfold M.told; rw [hs, (M.Ne_no hn (d - 1) (by omega)).1] <;> rfl, hb⟩
theorem LocPost.open_ {D A C x y : Int} {p d : Nat} {w w' : World} (h : (List.range d).any (M.Lf D A C p) = false) (hn : M.Ne D A C p (d - 1) = true) (hb : Below w.heap.size w w') :
    LocPost D A C p d w (.returned (.tuple #[.int .i64 x, .int .i64 y, .int .i64 0, .bool true])) w' := by
  have hs : M.solv D A C p d = false := h
  exact ⟨x, y, 0, true, rfl, by rw [hs] <;> rfl, by unfold M.told; rw [hs, hn] <;> rfl, hb⟩
set_option maxRecDepth 100000 in
set_option maxHeartbeats 4000000 in
theorem loFind_c (D A C : Int) (p d : Nat) (w : World) (hpr : M.prime p = true) (hp : 2 ≤ p) (hp2 : p ≤ 997) (hd : M.IsDep p d) (hd1 : 1 ≤ d) (hd2 : d ≤ 29) :
    Calls Tryz.prog 147 #[.agg #[.int .i64 D, .int .i64 A, .int .i64 C], .int .i64 p] w (LocPost D A C p d w) := by
  have PD := fun W => loDepth_c (p : Int) d W (by omega) (by omega) hd hd2
  have PB := fun (j : Nat) (b : Bool) (hj : j < d) W => loBest_c D A C p (j + 1) b hpr hp hp2 (hd.le (by omega) (by omega)) (by omega) (by omega) (j + 1) 0 0 W (by omega) (by omega) (by simp [M.ipow])
  have hL := fun j => M.lst_lift (p := p) (ok := M.qok D A C p) (lf := M.qlf D A C p) hp j
  have hN := fun j => M.lst_some (p := p) (ok := M.qok D A C p) hp j
  have PD := Lib.hid PD
  have PB := Lib.hid PB
  have hL := Lib.hid hL
  have hN := Lib.hid hN
  obtain ⟨c0, c1, c2⟩ := box3 w D A C 35
  clear hpr hd
  go_enter Tryz.func147, Tryz.ntmps147
  go_wp2
  have hbw : Below w.heap.size w (w.alloc (.cells #[.int .i64 D, .int .i64 A, .int .i64 C] 35)) := (by repeat (first | exact Below.refl _ _ | refine below_alloc ?_ _ | refine below_step ?_ (by assumption) | refine Below.drew ?_ | refine Below.setCell ?_ (by first | exact Nat.le_refl _ | exact Nat.le_add_right _ _ | (simp <;> omega)) _ | refine below_drewN ?_ _))
  generalize hW1 : w.alloc (.cells #[.int .i64 D, .int .i64 A, .int .i64 C] 35) = W1 at *
  clear hW1
  go_loopw [8, 9] (fun vp vk wr => ∃ j : Nat, j ≤ d ∧ vk = .int .i64 ((j : Int) + 1) ∧ vp = .bool (decide (0 < j)) ∧ (List.range j).any (M.Lf D A C p) = false ∧ (0 < j → M.Ne D A C p (j - 1) = true) ∧ Below W1.heap.size W1 wr) (fun _ vk _ => d + 1 - (intOf vk).toNat)
  case atStart => exact ⟨0, by omega, rfl, rfl, rfl, fun h => by omega, Below.refl _ _⟩
  case round =>
    obtain ⟨j, hj, rfl, rfl, hno, hne, hbr⟩ := hrel
    have z2 := hbr.size
    have e0 := keepCell hbr c0
    have e1 := keepCell hbr c1
    have e2 := keepCell hbr c2
    have hno := Lib.hid hno
    have hne := Lib.hid hne
    have hst := Lib.hid (M.any_succ (M.Lf D A C p) j)
    by_cases hlt : j < d
    · have hlt2 : (j : Int) + 1 ≤ (d : Int) := by omega
      have B1 := PB.out j false hlt
      have B2 := PB.out j true hlt
      have hl : M.Lf D A C p j = _ := hL.out j
      have hn : M.Ne D A C p j = _ := hN.out j
      have B1 : ∀ W, Calls Tryz.prog 167 #[.agg #[.int .i64 D, .int .i64 A, .int .i64 C], .bool false, .int .i64 p, .int .i64 ((j : Int) + 1), .int .i64 (0 : Int), .int .i64 (0 : Int)] W (BestPost (M.bA p (M.qok D A C p) (M.qlf D A C p) false (j + 1) 0 0) (M.bB p (M.qok D A C p) false (j + 1) 0 0) W) := B1
      have B2 : ∀ W, Calls Tryz.prog 167 #[.agg #[.int .i64 D, .int .i64 A, .int .i64 C], .bool true, .int .i64 p, .int .i64 ((j : Int) + 1), .int .i64 (0 : Int), .int .i64 (0 : Int)] W (BestPost (M.bA p (M.qok D A C p) (M.qlf D A C p) true (j + 1) 0 0) (M.bB p (M.qok D A C p) true (j + 1) 0 0) W) := B2
      generalize M.bA p (M.qok D A C p) (M.qlf D A C p) false (j + 1) 0 0 = a1 at *
      generalize M.bA p (M.qok D A C p) (M.qlf D A C p) true (j + 1) 0 0 = a2 at *
      generalize M.bB p (M.qok D A C p) false (j + 1) 0 0 = b1 at *
      generalize M.bB p (M.qok D A C p) true (j + 1) 0 0 = b2 at *
      have B1 := Lib.hid B1
      have B2 := Lib.hid B2
      have hl := Lib.hid hl
      have hn := Lib.hid hn
      clear PB hL hN
      go_wp2_with (first | (go_at_call 166; (with_reducible refine (PD.out _).mono ?_); rintro e w' ⟨rfl, rfl⟩) | fail)
      with_reducible refine (B1.out _).mono ?_
      rintro e_ w5 ⟨y1, rfl, hy1, hb5⟩
      have f0 := keepCell hb5 e0
      have f1 := keepCell hb5 e1
      have f2 := keepCell hb5 e2
      have hy1 := Lib.hid hy1
      have hb1 := hbr.trans (hb5.mono z2)
      by_cases h1 : 0 ≤ y1
      · go_wp2
        refine bodyPost_ret (results_tmp4 rfl _ _ _) rfl ?_
        exact LocPost.yes hlt (by rw [hl.out, ← hy1.out]; simp [h1]) (by omega) (hbw.trans (hb1.mono hbw.size))
      · have h1n : y1 < 0 := by omega
        have h1f : (0 ≤ y1) = False := by simpa using h1n
        go_wp2_with fail
        with_reducible refine (B2.out _).mono ?_
        rintro e_ w6 ⟨y2, rfl, hy2, hb6⟩
        have g0 := keepCell hb6 f0
        have g1 := keepCell hb6 f1
        have g2 := keepCell hb6 f2
        have hy2 := Lib.hid hy2
        have hb2 := hb1.trans (hb6.mono hb1.size)
        by_cases h2 : 0 ≤ y2
        · go_wp2
          refine bodyPost_ret (results_tmp4 rfl _ _ _) rfl ?_
          exact LocPost.yes hlt (by rw [hl.out, ← hy2.out]; simp [h2]) (by omega) (hbw.trans (hb2.mono hbw.size))
        · have h2n : y2 < 0 := by omega
          have h2f : (0 ≤ y2) = False := by simpa using h2n
          have hl0 : M.Lf D A C p j = false := by rw [hl.out, ← hy1.out, ← hy2.out]; simp; omega
          have hl0 := Lib.hid hl0
          clear hl hy1 hy2
          cases b1
          · cases b2
            · go_wp2
              refine bodyPost_ret (results_tmp4 rfl _ _ _) rfl ?_
              exact LocPost.no hno.out hn.out hlt (hbw.trans (hb2.mono hbw.size))
            · go_wp2
              go_roundw
              case rel => exact ⟨j + 1, by omega, by go_num, by simp, by rw [hst.out, hno.out, hl0.out]; rfl, fun _ => hn.out, hb2⟩
              case measure => simp [intOf]; omega
          · go_wp2
            go_roundw
            case rel => exact ⟨j + 1, by omega, by go_num, by simp, by rw [hst.out, hno.out, hl0.out]; rfl, fun _ => hn.out, hb2⟩
            case measure => simp [intOf]; omega
    · obtain rfl : j = d := by omega
      have hd0 : 0 < j := by omega
      have hlt2 : ¬ ((j : Int) + 1 ≤ (j : Int)) := by omega
      clear PB hL hN
      go_wp2_with (first | (go_at_call 166; (with_reducible refine (PD.out _).mono ?_); rintro e w' ⟨rfl, rfl⟩))
      refine bodyPost_ret (results_tmp4 rfl _ _ _) rfl ?_
      have hfin := LocPost.open_ (x := 0) (y := 0) hno.out (hne.out hd0) (hbw.trans (hbr.mono hbw.size))
      simpa [hd0] using hfin
end Go.Proofs.YtgkjmjlkhnfbiaaGreat

namespace Go.Proofs.YtgkjmjlkhnfbiaaGreat
set_option linter.unusedSimpArgs false
set_option linter.unusedVariables false
open Go.RowKit
namespace M
theorem valF_uniq {p : Int} (hp : 2 ≤ p) : ∀ (v f : Nat) (a u : Int), a = ipow p v * u → ¬ u % p = 0 → a ≠ 0 → a.natAbs ≤ f → valF p f a = v
  | 0, f, a, u, h, hu, ha, hf => by
    have : a = u := by rw [h]; simp [ipow]
    rw [this]
    rw [valF_stop hu]
    rfl
  | v + 1, f, a, u, h, hu, ha, hf => by
    have e : a = p * (ipow p v * u) := by
      rw [h]
      show ipow p v * p * u = _
      rw [Int.mul_comm (ipow p v) p, Int.mul_assoc]
    have hd : a % p = 0 := by rw [e]; exact Int.mul_emod_right p _
    have hl := abs_div hp ha hd
    rw [valF_step hp ha hf hd]
    have hq : a / p = ipow p v * u := by rw [e]; exact Int.mul_ediv_cancel_left _ (by omega)
    rw [valF_uniq hp v (f - 1) (a / p) u hq hu hl.2 (by omega)]
    omega
theorem valn_uniq {p a u : Int} {v : Nat} (hp : 2 ≤ p) (h : a = ipow p v * u) (hu : ¬ u % p = 0) (ha : a ≠ 0) : valn a p = v := valF_uniq hp v _ a u h hu ha (Nat.le_refl _)
theorem valn_self {p x : Int} (hp : 2 ≤ p) (hx : x ≠ 0) (h : x % p = 0) : valn x p = valn (x / p) p + 1 := by
  have he := exact_div (by omega) h
  have hy : x / p ≠ 0 := fun q => by rw [q] at he; omega
  obtain ⟨u, h1, h2⟩ := valn_pow hp hy
  have hn := valn_nn (x / p) p
  have := valn_uniq (v := (valn (x / p) p).toNat + 1) (a := x) (u := u) hp (by
    show x = ipow p _ * p * u
    generalize (valn (x / p) p).toNat = k at *
    rw [Int.mul_assoc, Int.mul_comm p u, ← Int.mul_assoc, ← h1, he]) h2 hx
  rw [this]
  omega
theorem valn_other {p q x : Int} (hp : Prime p) (hq : Prime q) (hpq : p ≠ q) (hx : x ≠ 0) (h : x % p = 0) : valn (x / p) q = valn x q := by
  have hp2 := hp.1
  have he := exact_div (by omega) h
  have hy : x / p ≠ 0 := fun q => by rw [q] at he; omega
  obtain ⟨u, h1, h2⟩ := valn_pow hq.1 hy
  have hn := valn_nn (x / p) q
  have := valn_uniq (v := (valn (x / p) q).toNat) (a := x) (u := p * u) hq.1 (by
    generalize (valn (x / p) q).toNat = k at *
    rw [← Int.mul_assoc, Int.mul_comm (ipow q k) p, Int.mul_assoc, ← h1, Int.mul_comm, he]) (fun hz => by
    refine h2 (prime_mul hq hz fun hz' => ?_)
    exact hpq (prime_div hp hq.1 hz').symm) hx
  rw [this]
  omega
theorem valn_zero {p x : Int} (h : ¬ x % p = 0) : valn x p = 0 := valF_stop h
theorem valn_pos {p x : Int} (hp : 2 ≤ p) (hx : x ≠ 0) : 0 < valn x p ↔ x % p = 0 := by
  constructor
  · intro h
    by_cases hd : x % p = 0
    · exact hd
    · rw [valn_zero hd] at h; omega
  · intro h
    rw [valn_self hp hx h]
    have := valn_nn (x / p) p
    omega
/-- what is left keeps the exponents of the primes still to come -/
def VIn (N n p : Int) : Prop := ∀ q, Prime q → p ≤ q → valn n q = valn N q
theorem VIn.step {N n p : Int} (h : VIn N n (p + 1)) (hp : Prime p) (hn : n ≠ 0) (hd : n % p = 0) : VIn N (n / p) (p + 1) := fun q hq hpq => by
  rw [valn_other hp hq (by omega) hn hd]
  exact h q hq hpq
theorem VIn.mono {N n p p' : Int} (h : VIn N n p) (hp : p ≤ p') : VIn N n p' := fun q hq hpq => h q hq (by omega)
/-- the rows of a list of primes -/
def fac (N : Int) (l : List Int) : List (List Int) := l.map fun p => [p, valn N p]
end M
set_option maxHeartbeats 1000000 in
theorem mdFactors_c (N : Int) (w : World) (h1 : 1 ≤ N) (h2 : N ≤ 10000000) :
    Calls Tryz.prog 125 #[.int .i64 N] w fun e w' => ∃ v, e = .returned v ∧ (∃ vs, OwnV w' w.heap.size v vs (M.fac N (M.primesOf N))) ∧ Below w.heap.size w w' := by
  go_enter Tryz.func125, Tryz.ntmps125
  go_wp2
  go_loopw [0, 3, 4, 5] (fun vn vo vp _ wr => ∃ n' p : Int, ∃ (l : List Int) (vs : List Value), vn = .int .i64 n' ∧ vp = .int .i64 p ∧ OwnV wr w.heap.size vo vs (M.fac N l) ∧ Below w.heap.size w wr ∧ M.PRel N n' p l ∧ M.VIn N n' p) (fun vn _ vp _ _ => (intOf vn + 1 - intOf vp).toNat)
  case atStart => exact ⟨N, 2, [], [], rfl, rfl, OwnV.nil _ _, Below.refl _ _, M.PRel.start h1, fun _ _ _ => rfl⟩
  case round =>
    obtain ⟨n', p, l, vs, rfl, rfl, hov, hb, hr, hV⟩ := hrel
    have n1 := hr.n1
    have p2 := hr.p2
    have nN := hr.nN
    have z2 := hb.size
    by_cases c1 : 1 < n'
    · have hpn : p ≤ n' := by rcases hr.pn with k | k <;> omega
      have hll : l.length ≤ 10000001 := by rw [hr.out]; have := M.sel_le (M.pdiv N) 0 p.toNat; omega
      have hlf : (M.fac N l).length = l.length := by simp [M.fac]
      have hpp := M.mul_nn (x := p) (y := p) (m := 10000000) (n := 10000000) (by omega) (by omega) (by omega) (by omega)
      by_cases c2 : n' < p * p
      · have hr' := hr.jump c1 c2
        have hV' := hV.mono hpn
        clear hr hV
        have p2' := hr'.p2
        have PV := fun W => mdValuation_c n' n' W (by omega) p2' (by omega) (by omega)
        have hk0 := M.valn_nn n' n'
        have hvp := M.valn_pos (p := n') (x := n') p2' (by omega)
        have hkb : M.valn n' n' ≤ n' := by
          have := (M.valF_nn n' n'.natAbs n').2
          unfold M.valn
          omega
        have PV := Lib.hid PV
        by_cases c3 : 0 < M.valn n' n'
        · have hd := hvp.1 c3
          have hpr := hr'.tprime hd
          have hkey : M.valn n' n' = M.valn N n' := hV' n' hpr (Int.le_refl _)
          obtain ⟨K, hK⟩ : ∃ K : Nat, M.valn n' n' = K := ⟨(M.valn n' n').toNat, by omega⟩
          rw [hK] at PV hk0 hkb c3
          have hkey := Lib.hid hkey
          have hK := Lib.hid hK
          have hd := Lib.hid hd
          have hr' := Lib.hid hr'
          have hV' := Lib.hid hV'
          clear hvp
          go_wp2_with (first
            | (go_at_call 146; (with_reducible refine (PV.out _).mono ?_); rintro e w' ⟨rfl, rfl⟩)
            | (at_builtin; refine push_row (W := w) w.heap.size (.slice (some ⟨wr.heap.size, 0, none⟩) 2 2) [n', (K : Int)] vs _ _ (wr.heap.size + 1) (by simp) rfl _ _ rfl rfl rfl (hov.alloc _) (OwnI.lit2 _ _ _ _ (by omega)) (fun g hg z hz hzg => row_new hov (Below.refl _ _) z hz g hzg hg) (hb.alloc (by omega) _) (by simp; omega) (by omega) ?_; rintro v3 w3 hov3 hb3))
          go_loop [0, 5] (fun vn vk => ∃ (x : Int) (k : Nat), vn = .int .i64 x ∧ vk = .int .i64 k ∧ M.PIn n' n' x ∧ k ≤ K ∧ M.valn x n' = k ∧ M.VIn N x (n' + 1)) (fun _ vk => (intOf vk).toNat)
          case atStart => exact ⟨n', K, rfl, rfl, M.PIn.start n1, Nat.le_refl _, hK.out, hV'.out.mono (by omega)⟩
          case round =>
            obtain ⟨x, k, rfl, rfl, hx, hkK, hxk, hxV⟩ := hrel
            have x1 := hx.n1
            have xn := hx.nn
            by_cases c4 : 0 < k
            · have hxd := (M.valn_pos (p := n') (x := x) p2' (by omega)).1 (by omega)
              have hxs := M.valn_self p2' (show x ≠ 0 by omega) hxd
              have hlt := M.div_lt (n := x) (p := n') (by omega) x1
              have hst := hx.step hpr hxd
              have hst1 := hst.n1
              have hVs := hxV.step hpr (by omega) hxd
              have hxs := Lib.hid hxs
              have hst := Lib.hid hst
              have hVs := Lib.hid hVs
              have hxd := Lib.hid hxd
              have hx := Lib.hid hx
              have hxk := Lib.hid hxk
              have c5 : (0 : Int) < (k : Int) := by omega
              go_wp2
              go_round
              case rel => exact ⟨x / n', k - 1, rfl, by go_num, hst.out, by omega, by have := hxs.out; have := hxk.out; omega, hVs.out⟩
              case measure => simp [intOf]; omega
            · obtain rfl : k = 0 := by omega
              have hxd : ¬ x % n' = 0 := fun h => by
                have := (M.valn_pos (p := n') (x := x) p2' (by omega)).2 h
                omega
              have hnx := hr'.out.next c1 hx hxd (l' := l ++ [n']) (by rw [if_pos hd.out])
              have hnx1 := hnx.pn
              have hnx := Lib.hid hnx
              have hrow : Hid (M.fac N l ++ [[n', (K : Int)]] = M.fac N (l ++ [n'])) := Lib.hid (by unfold M.fac; rw [List.map_append, ← hK.out, hkey.out]; rfl)
              have hxV := Lib.hid hxV
              have hxd := Lib.hid hxd
              have hx := Lib.hid hx
              have hxk := Lib.hid hxk
              go_wp2
              go_roundw
              case rel => exact ⟨x, n' + 1, l ++ [n'], _, rfl, rfl, by rw [← hrow.out]; exact hov3, hb3, hnx.out, hxV.out⟩
              case measure => simp [intOf]; omega
        · have hd : ¬ n' % n' = 0 := fun h => c3 (hvp.2 h)
          have hz0 : M.valn n' n' = 0 := by omega
          rw [hz0] at PV
          have hnx := hr'.next c1 (M.PIn.start n1) hd (l' := l) (by rw [if_neg hd])
          have hnx1 := hnx.pn
          have hnx := Lib.hid hnx
          have hVn := Lib.hid (hV'.mono (show n' ≤ n' + 1 by omega))
          have hd := Lib.hid hd
          have hr' := Lib.hid hr'
          have hV' := Lib.hid hV'
          clear hvp c3
          go_wp2_with (first | (go_at_call 146; (with_reducible refine (PV.out _).mono ?_); rintro e w' ⟨rfl, rfl⟩))
          go_roundw
          case rel => exact ⟨n', n' + 1, l, vs, rfl, rfl, hov, hb, hnx.out, hVn.out⟩
          case measure => simp [intOf]; omega
      · have hr' := hr
        have hV' := hV
        clear hr hV
        have p2' := hr'.p2
        have PV := fun W => mdValuation_c n' p W (by omega) p2' (by omega) (by omega)
        have hk0 := M.valn_nn n' p
        have hvp := M.valn_pos (p := p) (x := n') p2' (by omega)
        have hkb : M.valn n' p ≤ n' := by
          have := (M.valF_nn p n'.natAbs n').2
          unfold M.valn
          omega
        have PV := Lib.hid PV
        by_cases c3 : 0 < M.valn n' p
        · have hd := hvp.1 c3
          have hpr := hr'.tprime hd
          have hkey : M.valn n' p = M.valn N p := hV' p hpr (Int.le_refl _)
          obtain ⟨K, hK⟩ : ∃ K : Nat, M.valn n' p = K := ⟨(M.valn n' p).toNat, by omega⟩
          rw [hK] at PV hk0 hkb c3
          have hkey := Lib.hid hkey
          have hK := Lib.hid hK
          have hd := Lib.hid hd
          have hr' := Lib.hid hr'
          have hV' := Lib.hid hV'
          clear hvp
          go_wp2_with (first
            | (go_at_call 146; (with_reducible refine (PV.out _).mono ?_); rintro e w' ⟨rfl, rfl⟩)
            | (at_builtin; refine push_row (W := w) w.heap.size (.slice (some ⟨wr.heap.size, 0, none⟩) 2 2) [p, (K : Int)] vs _ _ (wr.heap.size + 1) (by simp) rfl _ _ rfl rfl rfl (hov.alloc _) (OwnI.lit2 _ _ _ _ (by omega)) (fun g hg z hz hzg => row_new hov (Below.refl _ _) z hz g hzg hg) (hb.alloc (by omega) _) (by simp; omega) (by omega) ?_; rintro v3 w3 hov3 hb3))
          go_loop [0, 5] (fun vn vk => ∃ (x : Int) (k : Nat), vn = .int .i64 x ∧ vk = .int .i64 k ∧ M.PIn n' p x ∧ k ≤ K ∧ M.valn x p = k ∧ M.VIn N x (p + 1)) (fun _ vk => (intOf vk).toNat)
          case atStart => exact ⟨n', K, rfl, rfl, M.PIn.start n1, Nat.le_refl _, hK.out, hV'.out.mono (by omega)⟩
          case round =>
            obtain ⟨x, k, rfl, rfl, hx, hkK, hxk, hxV⟩ := hrel
            have x1 := hx.n1
            have xn := hx.nn
            by_cases c4 : 0 < k
            · have hxd := (M.valn_pos (p := p) (x := x) p2' (by omega)).1 (by omega)
              have hxs := M.valn_self p2' (show x ≠ 0 by omega) hxd
              have hlt := M.div_lt (n := x) (p := p) (by omega) x1
              have hst := hx.step hpr hxd
              have hst1 := hst.n1
              have hVs := hxV.step hpr (by omega) hxd
              have hxs := Lib.hid hxs
              have hst := Lib.hid hst
              have hVs := Lib.hid hVs
              have hxd := Lib.hid hxd
              have hx := Lib.hid hx
              have hxk := Lib.hid hxk
              have c5 : (0 : Int) < (k : Int) := by omega
              go_wp2
              go_round
              case rel => exact ⟨x / p, k - 1, rfl, by go_num, hst.out, by omega, by have := hxs.out; have := hxk.out; omega, hVs.out⟩
              case measure => simp [intOf]; omega
            · obtain rfl : k = 0 := by omega
              have hxd : ¬ x % p = 0 := fun h => by
                have := (M.valn_pos (p := p) (x := x) p2' (by omega)).2 h
                omega
              have hnx := hr'.out.next c1 hx hxd (l' := l ++ [p]) (by rw [if_pos hd.out])
              have hnx1 := hnx.pn
              have hnx := Lib.hid hnx
              have hrow : Hid (M.fac N l ++ [[p, (K : Int)]] = M.fac N (l ++ [p])) := Lib.hid (by unfold M.fac; rw [List.map_append, ← hK.out, hkey.out]; rfl)
              have hxV := Lib.hid hxV
              have hxd := Lib.hid hxd
              have hx := Lib.hid hx
              have hxk := Lib.hid hxk
              go_wp2
              go_roundw
              case rel => exact ⟨x, p + 1, l ++ [p], _, rfl, rfl, by rw [← hrow.out]; exact hov3, hb3, hnx.out, hxV.out⟩
              case measure => simp [intOf]; omega
        · have hd : ¬ n' % p = 0 := fun h => c3 (hvp.2 h)
          have hz0 : M.valn n' p = 0 := by omega
          rw [hz0] at PV
          have hnx := hr'.next c1 (M.PIn.start n1) hd (l' := l) (by rw [if_neg hd])
          have hnx1 := hnx.pn
          have hnx := Lib.hid hnx
          have hVn := Lib.hid (hV'.mono (show p ≤ p + 1 by omega))
          have hd := Lib.hid hd
          have hr' := Lib.hid hr'
          have hV' := Lib.hid hV'
          clear hvp c3
          go_wp2_with (first | (go_at_call 146; (with_reducible refine (PV.out _).mono ?_); rintro e w' ⟨rfl, rfl⟩))
          go_roundw
          case rel => exact ⟨n', p + 1, l, vs, rfl, rfl, hov, hb, hnx.out, hVn.out⟩
          case measure => simp [intOf]; omega
    · go_wp2
      go_ret
      exact ⟨_, rfl, ⟨vs, by rw [← hr.done (by omega)]; exact hov⟩, hb⟩
end Go.Proofs.YtgkjmjlkhnfbiaaGreat

namespace Go.Proofs.YtgkjmjlkhnfbiaaGreat
set_option linter.unusedSimpArgs false
set_option linter.unusedVariables false
namespace M
/-- lists without repetition that hold the same -/
theorem perm_of_sub : ∀ {l m : List Int}, l.Nodup → (∀ x ∈ l, x ∈ m) → m.length ≤ l.length → l.Perm m
  | [], m, _, _, h => by
    have : m = [] := List.eq_nil_of_length_eq_zero (by simpa using h)
    rw [this]
  | x :: l, m, hn, hs, h => by
    obtain ⟨h1, h2⟩ := List.nodup_cons.1 hn
    have hx : x ∈ m := hs x List.mem_cons_self
    have hp := List.perm_cons_erase hx
    have hl : (m.erase x).length + 1 = m.length := by
      have := hp.length_eq
      simp at this
      omega
    refine List.Perm.trans ?_ hp.symm
    refine List.Perm.cons x (perm_of_sub h2 (fun y hy => ?_) (by simp at h; omega))
    have hy' := hs y (List.mem_cons_of_mem _ hy)
    have hne : y ≠ x := fun e => h1 (e ▸ hy)
    exact (List.mem_erase_of_ne hne).2 hy'
def lsum (f : Int → Int) : List Int → Int
  | [] => 0
  | x :: l => f x + lsum f l
theorem lsum_perm (f : Int → Int) {l m : List Int} (h : l.Perm m) : lsum f l = lsum f m := by
  induction h with
  | nil => rfl
  | cons x _ ih => simp only [lsum, ih]
  | swap x y l => simp only [lsum]; omega
  | trans _ _ ih1 ih2 => rw [ih1, ih2]
theorem lsum_append (f : Int → Int) : ∀ l m : List Int, lsum f (l ++ m) = lsum f l + lsum f m
  | [], m => by simp [lsum]
  | x :: l, m => by simp only [List.cons_append, lsum, lsum_append f l m]; omega
theorem lsum_map (f g : Int → Int) : ∀ l : List Int, lsum f (l.map g) = lsum (fun x => f (g x)) l
  | [] => rfl
  | x :: l => by simp only [List.map_cons, lsum, lsum_map f g l]
theorem lsum_congr {f g : Int → Int} : ∀ {l : List Int}, (∀ x ∈ l, f x = g x) → lsum f l = lsum g l
  | [], _ => rfl
  | x :: l, h => by simp only [lsum]; rw [h x List.mem_cons_self, lsum_congr fun y hy => h y (List.mem_cons_of_mem _ hy)]
theorem lsum_mul (c : Int) (f : Int → Int) : ∀ l : List Int, lsum (fun x => c * f x) l = c * lsum f l
  | [] => by simp [lsum]
  | x :: l => by simp only [lsum]; rw [lsum_mul c f l, Int.mul_add]
theorem sumTo_lsum (f : Int → Int) : ∀ k : Nat, sumTo f k = lsum f (upto 0 k)
  | 0 => rfl
  | k + 1 => by
    rw [sumTo, sumTo_lsum f k, upto_succ, lsum_append]
    simp [lsum]
theorem upto_nodup (k : Nat) : (upto 0 k).Nodup := by
  unfold upto
  rw [List.nodup_iff_pairwise_ne, List.pairwise_map]
  refine List.Pairwise.imp ?_ (List.nodup_iff_pairwise_ne.1 List.nodup_range)
  intro x y h e
  apply h
  omega
theorem upto_len (lo : Int) (k : Nat) : (upto lo k).length = k := by simp [upto]
/-- the residues, permuted -/
theorem lin_perm {p l m : Int} (hp : Prime p) (hl : ¬ l % p = 0) : ((upto 0 p.toNat).map fun x => (l * x + m) % p).Perm (upto 0 p.toNat) := by
  have h2 := hp.1
  refine perm_of_sub ?_ (fun y hy => ?_) (by simp [upto_len])
  · rw [List.nodup_iff_pairwise_ne, List.pairwise_map]
    refine List.Pairwise.imp_of_mem ?_ (List.nodup_iff_pairwise_ne.1 (upto_nodup p.toNat))
    intro x y hx hy hne e
    rw [mem_upto] at hx hy
    have e1 : (l * x + m - (l * y + m)) % p = 0 := Int.emod_eq_emod_iff_emod_sub_eq_zero.1 e
    have e2 : l * (x - y) % p = 0 := by
      rw [show l * (x - y) = l * x + m - (l * y + m) by rw [Int.mul_sub]; omega]
      exact e1
    have e3 := prime_mul hp e2 hl
    apply hne
    have e4 := Int.emod_eq_emod_iff_emod_sub_eq_zero.2 e3
    rw [Int.emod_eq_of_lt (by omega) (by omega), Int.emod_eq_of_lt (by omega) (by omega)] at e4
    exact e4
  · obtain ⟨x, -, rfl⟩ := List.mem_map.1 hy
    rw [mem_upto]
    have := mod_bd (a := l * x + m) (p := p) (by omega)
    omega
/-- a sum over all residues, permuted -/
theorem sumTo_lin {p l m : Int} (hp : Prime p) (hl : ¬ l % p = 0) (f : Int → Int) : sumTo (fun x => f ((l * x + m) % p)) p.toNat = sumTo f p.toNat := by
  rw [sumTo_lsum, sumTo_lsum, ← lsum_map f (fun x => (l * x + m) % p)]
  exact lsum_perm f (lin_perm hp hl)
/-- an inverse -/
theorem inv_ex {l p : Int} (hp : Prime p) (hl : ¬ l % p = 0) : ∃ m : Int, (l * m) % p = 1 := by
  have h2 := hp.1
  have h1 : (1 : Int) ∈ upto 0 p.toNat := by rw [mem_upto]; omega
  rw [← (lin_perm (m := 0) hp hl).mem_iff] at h1
  obtain ⟨x, -, e⟩ := List.mem_map.1 h1
  exact ⟨x, by rw [← e, Int.add_zero]⟩
theorem sumTo_congr {f g : Int → Int} {k : Nat} (h : ∀ x : Int, 0 ≤ x → x < k → f x = g x) : sumTo f k = sumTo g k := by
  rw [sumTo_lsum, sumTo_lsum]
  apply lsum_congr
  intro x hx
  rw [mem_upto] at hx
  exact h x (by omega) (by omega)
theorem sumTo_mul (c : Int) (f : Int → Int) (k : Nat) : sumTo (fun x => c * f x) k = c * sumTo f k := by
  rw [sumTo_lsum, sumTo_lsum, lsum_mul]
/-- symbols -/
theorem symb_mod (z p : Int) : symb (z % p) p = symb z p := by
  unfold symb powm
  rw [pow_mod_base]
theorem powm_mul (a b n p : Int) : powm (a * b) n p = powm a n p * powm b n p % p := by
  unfold powm
  rw [Int.mul_pow, ← Int.mul_emod]
theorem symb_mul {p : Int} (hp : Prime p) (h1 : 3 ≤ p) (h2 : p ≤ 997) (a b : Int) : symb (a * b) p = symb a p * symb b p := by
  have ea := euler hp h1 h2 a
  have eb := euler hp h1 h2 b
  have hm := powm_mul a b ((p - 1) / 2) p
  have q1 : (p - 1) * (p - 1) % p = 1 := by
    rw [show (p - 1) * (p - 1) = 1 + p * (p - 2) by grind, Int.add_mul_emod_self_left]
    exact Int.emod_eq_of_lt (by omega) (by omega)
  have q2 : (p - 1) % p = p - 1 := Int.emod_eq_of_lt (by omega) (by omega)
  have q3 : (1 : Int) % p = 1 := Int.emod_eq_of_lt (by omega) (by omega)
  unfold symb
  rw [hm]
  rcases ea with ea | ea | ea <;> rcases eb with eb | eb | eb <;> rw [ea, eb]
  · simp
  · simp
  · have n0 : ¬ p - 1 = 0 := by omega
    have n1 : ¬ p - 1 = 1 := by omega
    simp [n0, n1]
  · simp
  · simp [q3]
  · have n0 : ¬ p - 1 = 0 := by omega
    have n1 : ¬ p - 1 = 1 := by omega
    simp [n0, n1, q2]
  · have n0 : ¬ p - 1 = 0 := by omega
    have n1 : ¬ p - 1 = 1 := by omega
    simp [n0, n1]
  · have n0 : ¬ p - 1 = 0 := by omega
    have n1 : ¬ p - 1 = 1 := by omega
    simp [n0, n1, q2]
  · have n0 : ¬ p - 1 = 0 := by omega
    have n1 : ¬ p - 1 = 1 := by omega
    simp [n0, n1, q1]
theorem pow_ne {p a : Int} (hp : Prime p) (ha : ¬ a % p = 0) : ∀ n : Nat, ¬ a ^ n % p = 0
  | 0 => by
    have := hp.1
    rw [Int.pow_zero, Int.emod_eq_of_lt (by omega) (by omega)]
    omega
  | n + 1 => fun h => by
    rw [Int.pow_succ, Int.mul_comm] at h
    exact pow_ne hp ha n (prime_mul hp h ha)
theorem symb_unit {p a : Int} (hp : Prime p) (h1 : 3 ≤ p) (h2 : p ≤ 997) (ha : ¬ a % p = 0) : symb a p = 1 ∨ symb a p = -1 := by
  have h0 : ¬ powm a ((p - 1) / 2) p = 0 := pow_ne hp ha _
  unfold symb
  rw [if_neg h0]
  split
  · exact Or.inl rfl
  · exact Or.inr rfl
theorem symb_sq {p a : Int} (hp : Prime p) (h1 : 3 ≤ p) (h2 : p ≤ 997) (ha : ¬ a % p = 0) : symb a p * symb a p = 1 := by
  rcases symb_unit hp h1 h2 ha with h | h <;> rw [h] <;> rfl
/-- the sum over a polynomial's symbols -/
def psum (f : Int → Int) (p : Int) : Int := sumTo (fun x => symb (f x) p) p.toNat
theorem count_psum (a b p : Int) : count a b p = p + 1 + psum (val a b) p := by
  unfold count psum
  congr 1
  apply sumTo_congr
  intro x _ _
  unfold chi rhs
  rw [symb_mod]
theorem trace_psum (a b p : Int) : trace a b p = -psum (val a b) p := by
  unfold trace
  rw [count_psum]
  omega
theorem psum_congr {f g : Int → Int} {p : Int} (h : ∀ x, f x % p = g x % p) : psum f p = psum g p := by
  unfold psum
  apply sumTo_congr
  intro x _ _
  rw [← symb_mod, h x, symb_mod]
theorem psum_lin {p l m : Int} (hp : Prime p) (hl : ¬ l % p = 0) {f : Int → Int} (hf : ∀ x, f (x % p) % p = f x % p) : psum (fun x => f (l * x + m)) p = psum f p := by
  unfold psum
  rw [← sumTo_lin (m := m) hp hl fun x => symb (f x) p]
  apply sumTo_congr
  intro x _ _
  rw [← symb_mod (f (l * x + m)), ← hf, symb_mod]
theorem psum_mul {p c : Int} (hp : Prime p) (h1 : 3 ≤ p) (h2 : p ≤ 997) (f : Int → Int) : psum (fun x => c * f x) p = symb c p * psum f p := by
  unfold psum
  rw [← sumTo_mul]
  apply sumTo_congr
  intro x _ _
  exact symb_mul hp h1 h2 c (f x)
theorem val_mod (a b p x : Int) : val a b (x % p) % p = val a b x % p := by
  unfold val
  have e : x % p = x - p * (x / p) := by have := Int.emod_add_mul_ediv x p; omega
  generalize hq : x / p = q at e
  rw [e]
  apply Int.emod_eq_emod_iff_emod_sub_eq_zero.2
  rw [show (x - p * q) * (x - p * q) * (x - p * q) + a * (x - p * q) + b - (x * x * x + a * x + b) = p * (-q * (3 * x * x - 3 * x * p * q + p * p * q * q + a)) by grind]
  exact Int.mul_emod_right _ _
/-- counts of a twist -/
theorem tw_psum {a b d p : Int} (hp : Prime p) (h1 : 3 ≤ p) (h2 : p ≤ 997) (hd : ¬ d % p = 0) : psum (val (a * d * d) (b * d * d * d)) p = symb d p * psum (val a b) p := by
  rw [← psum_lin (l := d) (m := 0) hp hd (val_mod (a * d * d) (b * d * d * d) p)]
  rw [show (fun x => val (a * d * d) (b * d * d * d) (d * x + 0)) = fun x => d * (d * (d * val a b x)) by funext x; unfold val; grind]
  rw [psum_mul hp h1 h2, psum_mul hp h1 h2, psum_mul hp h1 h2, ← Int.mul_assoc, symb_sq hp h1 h2 hd, Int.one_mul]
/-- counts of a scaled curve -/
theorem sc_psum {a b u p : Int} (hp : Prime p) (h1 : 3 ≤ p) (h2 : p ≤ 997) (hu : ¬ u % p = 0) : psum (val (a * (u * u * u * u)) (b * (u * u * u * u * u * u))) p = psum (val a b) p := by
  have hu2 : ¬ (u * u) % p = 0 := fun h => hu (prime_mul hp h hu)
  have h := tw_psum (a := a) (b := b) hp h1 h2 hu2
  rw [symb_mul hp h1 h2, symb_sq hp h1 h2 hu, Int.one_mul] at h
  rw [← h, show a * (u * u) * (u * u) = a * (u * u * u * u) by grind, show b * (u * u) * (u * u) * (u * u) = b * (u * u * u * u * u * u) by grind]
end M
end Go.Proofs.YtgkjmjlkhnfbiaaGreat

namespace Go.Proofs.YtgkjmjlkhnfbiaaGreat
set_option linter.unusedSimpArgs false
set_option linter.unusedVariables false
open Go.RowKit
namespace M
/-- congruent -/
def Cg (q x y : Int) : Prop := ∃ c, x = y + q * c
theorem Cg.refl (q x : Int) : Cg q x x := ⟨0, by simp⟩
theorem Cg.symm {q x y : Int} (h : Cg q x y) : Cg q y x := by
  obtain ⟨c, rfl⟩ := h
  exact ⟨-c, by grind⟩
theorem Cg.trans {q x y z : Int} (h : Cg q x y) (k : Cg q y z) : Cg q x z := by
  obtain ⟨c, rfl⟩ := h
  obtain ⟨d, rfl⟩ := k
  exact ⟨c + d, by grind⟩
theorem Cg.add {q x y u v : Int} (h : Cg q x y) (k : Cg q u v) : Cg q (x + u) (y + v) := by
  obtain ⟨c, rfl⟩ := h
  obtain ⟨d, rfl⟩ := k
  exact ⟨c + d, by grind⟩
theorem Cg.mul {q x y u v : Int} (h : Cg q x y) (k : Cg q u v) : Cg q (x * u) (y * v) := by
  obtain ⟨c, rfl⟩ := h
  obtain ⟨d, rfl⟩ := k
  exact ⟨y * d + v * c + q * c * d, by grind⟩
theorem Cg.mod {q x y : Int} (h : Cg q x y) : x % q = y % q := by
  obtain ⟨c, rfl⟩ := h
  exact Int.add_mul_emod_self_left y q c
theorem Cg.emod (q x : Int) : Cg q (x % q) x := ⟨-(x / q), by have := Int.emod_add_mul_ediv x q; grind⟩
theorem Cg.of_mod {q x y : Int} (h : x % q = y % q) : Cg q x y := (Cg.emod q x).symm.trans (h ▸ Cg.emod q y)
theorem Cg.down {q r x y : Int} (h : Cg (q * r) x y) : Cg q x y := by
  obtain ⟨c, rfl⟩ := h
  exact ⟨r * c, by grind⟩
theorem Cg.pow {p x y : Int} {i j : Nat} (hij : i ≤ j) (h : Cg (ipow p j) x y) : Cg (ipow p i) x y := by
  obtain ⟨d, rfl⟩ : ∃ d, j = i + d := ⟨j - i, by omega⟩
  rw [ipow_add] at h
  exact h.down
theorem qval_cg {q D A C m e m' e' : Int} (h : Cg q m m') (k : Cg q e e') : Cg q (qval D A C m e) (qval D A C m' e') :=
  (((Cg.refl q D).mul (((h.mul h).mul h).mul h)).add ((Cg.refl q A).mul (((h.mul h).mul k).mul k))).add ((Cg.refl q C).mul (((k.mul k).mul k).mul k))
theorem byM_cg {q D A m e m' e' : Int} (h : Cg q m m') (k : Cg q e e') : Cg q (byM D A m e) (byM D A m' e') :=
  ((Cg.refl q 4).mul ((Cg.refl q D).mul ((h.mul h).mul h))).add ((Cg.refl q 2).mul ((Cg.refl q A).mul ((h.mul k).mul k)))
theorem byE_cg {q A C m e m' e' : Int} (h : Cg q m m') (k : Cg q e e') : Cg q (byE A C m e) (byE A C m' e') :=
  ((Cg.refl q 2).mul ((Cg.refl q A).mul ((h.mul h).mul k))).add ((Cg.refl q 4).mul ((Cg.refl q C).mul ((k.mul k).mul k)))
theorem poss_cg {D A C m e m' e' p : Int} {k : Nat} (h : Cg (ipow p k) m m') (g : Cg (ipow p k) e e') : poss D A C m e p k = poss D A C m' e' p k := by
  unfold poss
  rw [(qval_cg h g).mod]
theorem lift_cg {D A C m e m' e' p : Int} {k : Nat} (h : Cg (ipow p k) m m') (g : Cg (ipow p k) e e') : lift D A C m e p k = lift D A C m' e' p k := by
  unfold lift
  rw [poss_cg h g, (qval_cg h g).mod, (byM_cg h g).mod, (byE_cg h g).mod]
theorem qok_cg {D A C : Int} {p : Nat} {b : Bool} {i : Nat} {x y : Int} (h : Cg (ipow p i) x y) : qok D A C p b i x = qok D A C p b i y := by
  unfold qok
  cases b
  · exact poss_cg h (Cg.refl _ _)
  · exact poss_cg (Cg.refl _ _) h
theorem qlf_cg {D A C : Int} {p : Nat} {b : Bool} {i : Nat} {x y : Int} (h : Cg (ipow p i) x y) : qlf D A C p b i x = qlf D A C p b i y := by
  unfold qlf
  cases b
  · exact lift_cg h (Cg.refl _ _)
  · exact lift_cg (Cg.refl _ _) h
/-- a residue of a power, digit by digit -/
theorem res_next {u q p : Int} (hq : 1 ≤ q) (hp : 1 ≤ p) : u % (q * p) = u % q + (u / q % p) * q := by
  have h1 := Int.emod_add_mul_ediv u q
  have h2 := Int.emod_add_mul_ediv (u / q) p
  have h3 := mod_bd (a := u) (p := q) hq
  have h4 := mod_bd (a := u / q) (p := p) hp
  have h5 : (u / q % p) * q ≤ (p - 1) * q := Int.mul_le_mul_of_nonneg_right (by omega) (by omega)
  have h6 : 0 ≤ (u / q % p) * q := Int.mul_nonneg (by omega) (by omega)
  have h7 : (p - 1) * q = q * p - q := by grind
  have h8 : u = (u % q + (u / q % p) * q) + q * p * (u / q / p) := by
    generalize u % q = r at *
    generalize u / q = s at *
    generalize s % p = t at *
    generalize s / p = z at *
    grind
  have h9 : u % (q * p) = (u % q + (u / q % p) * q) % (q * p) := by
    generalize u % q + (u / q % p) * q = r at *
    rw [h8]
    exact Int.add_mul_emod_self_left _ _ _
  rw [h9]
  exact Int.emod_eq_of_lt (by omega) (by omega)
theorem desc_of {D A C : Int} {p : Nat} (hp : 2 ≤ p) (b : Bool) (u : Int) (hb : b = true → u % p = 0) : ∀ d : Nat, (∀ i, 1 ≤ i → i ≤ d → qok D A C p b i u = true) → Desc p (qok D A C p) b d 0 0 (u % ipow p d)
  | 0, _ => by
    show u % 1 = 0
    exact Int.emod_one u
  | d + 1, h => by
    have hq := ipow_pos (p := p) (by omega) d
    have hm := mod_bd (a := u / ipow p d) (p := (p : Int)) (by omega)
    refine (desc_last b d 0 0 _).2 ⟨u % ipow p d, desc_of hp b u hb d (fun i h1 h2 => h i h1 (by omega)), (u / ipow p d % p).toNat, ?_, ?_, ?_⟩
    · unfold cnt
      split
      · rename_i hz
        simp only [Nat.zero_add, Bool.and_eq_true, beq_iff_eq] at hz
        obtain ⟨hz, rfl⟩ := hz
        have h0 := hb hz
        have : u / ipow p 0 = u := Int.ediv_one u
        rw [this, h0]
        decide
      · omega
    · rw [Nat.zero_add, Int.toNat_of_nonneg hm.1]
      exact res_next hq (by omega)
    · rw [Nat.zero_add, qok_cg (Cg.emod _ _)]
      exact h _ (by omega) (by omega)
theorem desc_ok {D A C : Int} {p : Nat} (b : Bool) : ∀ (d : Nat) (y : Int), Desc p (qok D A C p) b d 0 0 y → ∀ i, 1 ≤ i → i ≤ d → qok D A C p b i y = true
  | 0, y, _, i, h1, h2 => by omega
  | d + 1, y, h, i, h1, h2 => by
    obtain ⟨z, hz, t, ht, rfl, ho⟩ := (desc_last b d 0 0 y).1 h
    rw [Nat.zero_add] at *
    by_cases hi : i = d + 1
    · subst hi; exact ho
    · have ih := desc_ok b d z hz i h1 (by omega)
      rw [← ih]
      refine qok_cg (Cg.pow (j := d) (by omega) ⟨t, ?_⟩)
      rw [Int.mul_comm]
/-- a chain of pairs: a number that is possible at each level up to one -/
def Chn (D A C : Int) (p : Nat) (b : Bool) (u : Int) (k : Nat) : Prop := (b = true → u % p = 0) ∧ ∀ i, 1 ≤ i → i ≤ k → qok D A C p b i u = true
theorem Ne_of {D A C : Int} {p j : Nat} {b : Bool} {u : Int} (hp : 2 ≤ p) (h : Chn D A C p b u (j + 1)) : Ne D A C p j = true := by
  have hd := desc_of hp b u h.1 _ h.2
  unfold Ne
  rw [lst_some hp, Bool.or_eq_true]
  cases b
  · exact Or.inl ((bB_iff _ _ _ _).2 ⟨Or.inl rfl, _, hd⟩)
  · exact Or.inr ((bB_iff _ _ _ _).2 ⟨Or.inl rfl, _, hd⟩)
theorem Ne_to {D A C : Int} {p j : Nat} (hp : 2 ≤ p) (h : Ne D A C p j = true) : ∃ b u, Chn D A C p b u (j + 1) := by
  unfold Ne at h
  rw [lst_some hp, Bool.or_eq_true] at h
  rcases h with h | h
  · obtain ⟨-, y, hy⟩ := (bB_iff _ _ _ _).1 h
    exact ⟨false, y, fun h => Bool.noConfusion h, desc_ok _ _ _ hy⟩
  · obtain ⟨-, y, hy⟩ := (bB_iff _ _ _ _).1 h
    exact ⟨true, y, fun _ => (desc_true hp (i := 0) (v := 0) hy).1, desc_ok _ _ _ hy⟩
theorem Lf_of {D A C : Int} {p j : Nat} {b : Bool} {u : Int} (hp : 2 ≤ p) (h : Chn D A C p b u (j + 1)) (hl : qlf D A C p b (j + 1) u = true) : Lf D A C p j = true := by
  have hd := desc_of hp b u h.1 _ h.2
  have hl' : qlf D A C p b (0 + (j + 1)) (u % ipow p (j + 1)) = true := by
    rw [Nat.zero_add, qlf_cg (Cg.emod _ _)]
    exact hl
  unfold Lf
  rw [lst_lift hp, Bool.or_eq_true]
  cases b
  · exact Or.inl ((bA_iff _ _ _ _).2 ⟨Or.inl rfl, _, hd, hl'⟩)
  · exact Or.inr ((bA_iff _ _ _ _).2 ⟨Or.inl rfl, _, hd, hl'⟩)
theorem Lf_to {D A C : Int} {p j : Nat} (hp : 2 ≤ p) (h : Lf D A C p j = true) : ∃ b u, Chn D A C p b u (j + 1) ∧ qlf D A C p b (j + 1) u = true := by
  unfold Lf at h
  rw [lst_lift hp, Bool.or_eq_true] at h
  rcases h with h | h
  · obtain ⟨-, y, hy, hl⟩ := (bA_iff _ _ _ _).1 h
    rw [Nat.zero_add] at hl
    exact ⟨false, y, ⟨fun h => Bool.noConfusion h, desc_ok _ _ _ hy⟩, hl⟩
  · obtain ⟨-, y, hy, hl⟩ := (bA_iff _ _ _ _).1 h
    rw [Nat.zero_add] at hl
    exact ⟨true, y, ⟨fun _ => (desc_true hp (i := 0) (v := 0) hy).1, desc_ok _ _ _ hy⟩, hl⟩
/-- squares modulo powers: units -/
theorem sqm_unit {p x : Int} {k : Nat} (hp : 2 ≤ p) (h0 : 0 ≤ x) (h1 : x < ipow p k) (h : ¬ x % p = 0) : sqm x p k = if 2 < p then symb x p == 1 else x % 8 == 1 := by
  have hx : x ≠ 0 := fun e => h (by rw [e]; rfl)
  have hv := valn_zero h
  unfold sqm
  rw [if_neg hx, hv, if_neg (by decide)]
  have e : x / ipow p (0 : Int).toNat = x := Int.ediv_one x
  rw [e]
  split
  · rfl
  · obtain rfl : p = 2 := by omega
    cases k with
    | zero => exact absurd h1 (show ¬ x < 1 by omega)
    | succ k =>
      cases k with
      | zero =>
        have h1 : x < 1 * 2 := h1
        obtain rfl : x = 1 := by omega
        rfl
      | succ k =>
        cases k with
        | zero =>
          have h1 : x < 1 * 2 * 2 := h1
          rw [if_neg (by omega), if_pos (by omega)]
          have h3 : x = 1 ∨ x = 3 := by omega
          rcases h3 with rfl | rfl <;> rfl
        | succ k =>
          rw [if_neg (by omega), if_neg (by omega)]
theorem sqm_step {p x : Int} {k : Nat} (hp : 2 ≤ p) : sqm (p * p * x) p (k + 2) = sqm x p k := by
  by_cases hx : x = 0
  · subst hx
    unfold sqm
    simp
  · have hpx : p * p * x ≠ 0 := Int.mul_ne_zero (Int.mul_ne_zero (by omega) (by omega)) hx
    obtain ⟨u, h1, h2⟩ := valn_pow hp hx
    have hv := valn_nn x p
    have hpos := ipow_pos (p := p) (by omega) (valn x p).toNat
    have e : valn (p * p * x) p = valn x p + 2 := by
      have := valn_uniq (v := (valn x p).toNat + 2) hp (a := p * p * x) (u := u) (by
        show p * p * x = ipow p (valn x p).toNat * p * p * u
        generalize ipow p (valn x p).toNat = q at *
        rw [h1]
        grind) h2 hpx
      omega
    have e2 : p * p * x / ipow p (valn (p * p * x) p).toNat = x / ipow p (valn x p).toNat := by
      have e3 : (valn (p * p * x) p).toNat = (valn x p).toNat + 2 := by omega
      rw [e3]
      show p * p * x / (ipow p (valn x p).toNat * p * p) = _
      generalize ipow p (valn x p).toNat = q at *
      rw [show q * p * p = p * p * q by grind]
      exact Int.mul_ediv_mul_of_pos _ _ (Int.mul_pos (by omega) (by omega))
    unfold sqm
    rw [if_neg hx, if_neg hpx, e2, e]
    have a1 : ((valn x p + 2) % 2 = 1) ↔ (valn x p % 2 = 1) := by omega
    have a2 : (((k + 2 : Nat) : Int) - (valn x p + 2) = 1) ↔ ((k : Int) - valn x p = 1) := by omega
    have a3 : (((k + 2 : Nat) : Int) - (valn x p + 2) = 2) ↔ ((k : Int) - valn x p = 2) := by omega
    simp only [a1, a2, a3]
theorem sqm_odd {p x : Int} {k : Nat} (hp : 2 ≤ p) (h1 : x % p = 0) (h2 : ¬ x % (p * p) = 0) : sqm x p k = false := by
  have hx : x ≠ 0 := fun e => h2 (by rw [e]; rfl)
  obtain ⟨y, rfl⟩ := Int.dvd_of_emod_eq_zero h1
  have hy : ¬ y % p = 0 := fun h => h2 (by
    obtain ⟨z, rfl⟩ := Int.dvd_of_emod_eq_zero h
    rw [← Int.mul_assoc]
    exact Int.mul_emod_right _ _)
  have := valn_uniq (v := 1) hp (a := p * y) (u := y) (by simp [ipow]) hy hx
  unfold sqm
  rw [if_neg hx, this]
  rfl
theorem odd_sq {y : Int} (h : ¬ y % 2 = 0) : y * y % 8 = 1 := by
  have h1 : y % 8 = 1 ∨ y % 8 = 3 ∨ y % 8 = 5 ∨ y % 8 = 7 := by omega
  rw [Int.mul_emod]
  rcases h1 with h1 | h1 | h1 | h1 <;> rw [h1] <;> rfl
theorem symb_one {p : Int} (hp : Prime p) (h1 : 3 ≤ p) (h2 : p ≤ 997) {y : Int} (hy : ¬ y % p = 0) : symb (y * y) p = 1 := by
  rw [symb_mul hp h1 h2]
  exact symb_sq hp h1 h2 hy
theorem ipow_dvd {p : Int} {k : Nat} (hk : 1 ≤ k) : ∃ c, ipow p k = p * c := by
  obtain ⟨d, rfl⟩ : ∃ d, k = d + 1 := ⟨k - 1, by omega⟩
  exact ⟨ipow p d, by rw [ipow, Int.mul_comm]⟩
theorem mod_mod {p x : Int} {k : Nat} (hk : 1 ≤ k) : x % ipow p k % p = x % p := by
  obtain ⟨c, hc⟩ := ipow_dvd (p := p) hk
  rw [hc]
  exact Int.emod_emod_of_dvd x ⟨c, rfl⟩
/-- a square is one modulo every power -/
theorem sqm_sq {p : Int} (hp : Prime p) (hp2 : p ≤ 997) : ∀ (k : Nat) (y : Int), sqm (y * y % ipow p k) p k = true := by
  have h2 := hp.1
  intro k
  induction k using Nat.strongRecOn with
  | _ k ih =>
    intro y
    have hpos := ipow_pos (p := p) (by omega) k
    have hm := mod_bd (a := y * y) hpos
    cases k with
    | zero =>
      have : y * y % ipow p 0 = 0 := Int.emod_one _
      rw [this]
      rfl
    | succ k =>
      by_cases hy : y % p = 0
      · obtain ⟨z, rfl⟩ := Int.dvd_of_emod_eq_zero hy
        cases k with
        | zero =>
          have : p * z * (p * z) % ipow p 1 = 0 := by
            rw [show ipow p 1 = p by simp [ipow], show p * z * (p * z) = p * (z * (p * z)) by grind]
            exact Int.mul_emod_right _ _
          rw [this]
          rfl
        | succ k =>
          have : p * z * (p * z) % ipow p (k + 1 + 1) = p * p * (z * z % ipow p k) := by
            rw [show ipow p (k + 1 + 1) = p * p * ipow p k by simp only [ipow]; grind, show p * z * (p * z) = p * p * (z * z) by grind]
            exact Int.mul_emod_mul_of_pos _ _ (Int.mul_pos (by omega) (by omega))
          rw [this, sqm_step h2]
          exact ih k (by omega) z
      · have hu : ¬ y * y % p = 0 := fun h => hy (prime_mul hp h hy)
        have hu' : ¬ y * y % ipow p (k + 1) % p = 0 := by rw [mod_mod (by omega)]; exact hu
        rw [sqm_unit h2 hm.1 hm.2 hu']
        split
        · rename_i h3
          have e : symb (y * y % ipow p (k + 1)) p = symb (y * y) p := by
            rw [← symb_mod, mod_mod (by omega), symb_mod]
          rw [e, symb_one hp (by omega) hp2 hy]
          rfl
        · obtain rfl : p = 2 := by omega
          rw [beq_iff_eq]
          have h8 := odd_sq hy
          generalize y * y = z at *
          cases k with
          | zero =>
            show z % (1 * 2) % 8 = 1
            omega
          | succ k =>
            cases k with
            | zero =>
              show z % (1 * 2 * 2) % 8 = 1
              omega
            | succ k =>
              rw [Int.emod_emod_of_dvd z ⟨ipow 2 k, by simp only [ipow]; grind⟩]
              exact h8
/-- inverses modulo powers -/
theorem inv_pow {p l : Int} (hp : Prime p) (hl : ¬ l % p = 0) : ∀ k : Nat, ∃ m, Cg (ipow p k) (l * m) 1
  | 0 => ⟨0, 0 - 1, by simp [ipow]⟩
  | 1 => by
    obtain ⟨m, hm⟩ := inv_ex hp hl
    refine ⟨m, Cg.of_mod ?_⟩
    have := hp.1
    rw [show ipow p 1 = p by simp [ipow], hm, Int.emod_eq_of_lt (by omega) (by omega)]
  | k + 2 => by
    obtain ⟨m, c, hm⟩ := inv_pow hp hl (k + 1)
    refine ⟨m * (2 - l * m), -(ipow p k * c * c), ?_⟩
    rw [show l * (m * (2 - l * m)) = (l * m) * (2 - (l * m)) by grind, hm]
    simp only [ipow]
    generalize ipow p k = q
    grind
/-- a point of a quartic makes pairs possible at every prime and level -/
theorem pt_Ne {D A C m e n : Int} {p : Nat} (hp : Prime (p : Int)) (hp2 : (p : Int) ≤ 997) (h : qval D A C m e = n * n) (hg : ¬ (m % p = 0 ∧ e % p = 0)) (j : Nat) : Ne D A C p j = true := by
  have h2 := hp.1
  have key : ∀ (k i : Nat) (x y l : Int), i ≤ k → Cg (ipow p k) x (l * m) → Cg (ipow p k) y (l * e) → poss D A C x y p i = true := fun k i x y l hi hx hy => by
    have e1 := (qval_cg (D := D) (A := A) (C := C) (Cg.pow hi hx) (Cg.pow hi hy)).mod
    have e2 : qval D A C (l * m) (l * e) = (l * l * n) * (l * l * n) := by
      rw [show l * l * n * (l * l * n) = l * l * l * l * (n * n) by grind, ← h]
      unfold qval
      grind
    unfold poss
    rw [e1, e2]
    exact sqm_sq hp hp2 i _
  by_cases he : e % p = 0
  · have hm : ¬ m % p = 0 := fun q => hg ⟨q, he⟩
    obtain ⟨l, hl⟩ := inv_pow hp hm (j + 1)
    refine Ne_of (b := true) (u := l * e) (by omega) ⟨fun _ => ?_, fun i h1 h2 => ?_⟩
    · rw [Int.mul_emod, he, Int.mul_zero]; rfl
    · unfold qok
      rw [if_pos rfl]
      exact key (j + 1) i 1 (l * e) l h2 (by rw [Int.mul_comm]; exact hl.symm) (Cg.refl _ _)
  · obtain ⟨l, hl⟩ := inv_pow hp he (j + 1)
    refine Ne_of (b := false) (u := l * m) (by omega) ⟨fun h => Bool.noConfusion h, fun i h1 h2 => ?_⟩
    unfold qok
    rw [if_neg (by decide)]
    exact key (j + 1) i (l * m) 1 l h2 (Cg.refl _ _) (by rw [Int.mul_comm]; exact hl.symm)
end M
end Go.Proofs.YtgkjmjlkhnfbiaaGreat
