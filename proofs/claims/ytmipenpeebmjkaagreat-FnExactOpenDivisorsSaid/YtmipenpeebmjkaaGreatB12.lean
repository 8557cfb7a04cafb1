/-
  Joined texts: contracts and plain laws.
-/
import Derived.Test.YtmipenpeebmjkaaGreatB4
import Derived.Test.YtmipenpeebmjkaaGreatB2
import Derived.Test.YtmipenpeebmjkaaGreatB3
import Derived.Shelf.SlSortCmp.Whole1
namespace Go.Proofs.YtmipenpeebmjkaaGreat
set_option linter.unusedSimpArgs false
set_option linter.unusedVariables false
open Go.RowKit
namespace M
theorem valF_uniq {p : Int} (hp : 2 ≤ p) : ∀ (v f : Nat) (a u : Int), a = ipow p v * u → ¬ u % p = 0 → a ≠ 0 → a.natAbs ≤ f → valF p f a = v
  | 0, f, a, u, h, hu, ha, hf => by
    have : a = u := by rw [h]; simp [ipow]
    rw [this]
    rw [valF_stop hu]
    rfl
  | v + 1, f, a, u, h, hu, ha, hf => by
    have e : a = p * (ipow p v * u) := by
      rw [h]
      show ipow p v * p * u = _
      rw [Int.mul_comm (ipow p v) p, Int.mul_assoc]
    have hd : a % p = 0 := by rw [e]; exact Int.mul_emod_right p _
    have hl := abs_div hp ha hd
    rw [valF_step hp ha hf hd]
    have hq : a / p = ipow p v * u := by rw [e]; exact Int.mul_ediv_cancel_left _ (by omega)
    rw [valF_uniq hp v (f - 1) (a / p) u hq hu hl.2 (by omega)]
    omega
theorem valn_uniq {p a u : Int} {v : Nat} (hp : 2 ≤ p) (h : a = ipow p v * u) (hu : ¬ u % p = 0) (ha : a ≠ 0) : valn a p = v := valF_uniq hp v _ a u h hu ha (Nat.le_refl _)
theorem valn_self {p x : Int} (hp : 2 ≤ p) (hx : x ≠ 0) (h : x % p = 0) : valn x p = valn (x / p) p + 1 := by
  have he := exact_div (by omega) h
  have hy : x / p ≠ 0 := fun q => by rw [q] at he; omega
  obtain ⟨u, h1, h2⟩ := valn_pow hp hy
  have hn := valn_nn (x / p) p
  have := valn_uniq (v := (valn (x / p) p).toNat + 1) (a := x) (u := u) hp (by
    show x = ipow p _ * p * u
    generalize (valn (x / p) p).toNat = k at *
    rw [Int.mul_assoc, Int.mul_comm p u, ← Int.mul_assoc, ← h1, he]) h2 hx
  rw [this]
  omega
theorem valn_other {p q x : Int} (hp : Prime p) (hq : Prime q) (hpq : p ≠ q) (hx : x ≠ 0) (h : x % p = 0) : valn (x / p) q = valn x q := by
  have hp2 := hp.1
  have he := exact_div (by omega) h
  have hy : x / p ≠ 0 := fun q => by rw [q] at he; omega
  obtain ⟨u, h1, h2⟩ := valn_pow hq.1 hy
  have hn := valn_nn (x / p) q
  have := valn_uniq (v := (valn (x / p) q).toNat) (a := x) (u := p * u) hq.1 (by
    generalize (valn (x / p) q).toNat = k at *
    rw [← Int.mul_assoc, Int.mul_comm (ipow q k) p, Int.mul_assoc, ← h1, Int.mul_comm, he]) (fun hz => by
    refine h2 (prime_mul hq hz fun hz' => ?_)
    exact hpq (prime_div hp hq.1 hz').symm) hx
  rw [this]
  omega
theorem valn_zero {p x : Int} (h : ¬ x % p = 0) : valn x p = 0 := valF_stop h
theorem valn_pos {p x : Int} (hp : 2 ≤ p) (hx : x ≠ 0) : 0 < valn x p ↔ x % p = 0 := by
  constructor
  · intro h
    by_cases hd : x % p = 0
    · exact hd
    · rw [valn_zero hd] at h; omega
  · intro h
    rw [valn_self hp hx h]
    have := valn_nn (x / p) p
    omega
/-- what is left keeps the exponents of the primes still to come -/
def VIn (N n p : Int) : Prop := ∀ q, Prime q → p ≤ q → valn n q = valn N q
theorem VIn.step {N n p : Int} (h : VIn N n (p + 1)) (hp : Prime p) (hn : n ≠ 0) (hd : n % p = 0) : VIn N (n / p) (p + 1) := fun q hq hpq => by
  rw [valn_other hp hq (by omega) hn hd]
  exact h q hq hpq
theorem VIn.mono {N n p p' : Int} (h : VIn N n p) (hp : p ≤ p') : VIn N n p' := fun q hq hpq => h q hq (by omega)
/-- the rows of a list of primes -/
def fac (N : Int) (l : List Int) : List (List Int) := l.map fun p => [p, valn N p]
end M
set_option maxHeartbeats 1000000 in
theorem mdFactors_c (N : Int) (w : World) (h1 : 1 ≤ N) (h2 : N ≤ 10000000) :
    Calls Tryz.prog 79 #[.int .i64 N] w fun e w' => ∃ v, e = .returned v ∧ (∃ vs, OwnV w' w.heap.size v vs (M.fac N (M.primesOf N))) ∧ Below w.heap.size w w' := by
  go_enter Tryz.func79, Tryz.ntmps79
  go_wp2
  go_loopw [0, 3, 4, 5] (fun vn vo vp _ wr => ∃ n' p : Int, ∃ (l : List Int) (vs : List Value), vn = .int .i64 n' ∧ vp = .int .i64 p ∧ OwnV wr w.heap.size vo vs (M.fac N l) ∧ Below w.heap.size w wr ∧ M.PRel N n' p l ∧ M.VIn N n' p) (fun vn _ vp _ _ => (intOf vn + 1 - intOf vp).toNat)
  case atStart => exact ⟨N, 2, [], [], rfl, rfl, OwnV.nil _ _, Below.refl _ _, M.PRel.start h1, fun _ _ _ => rfl⟩
  case round =>
    obtain ⟨n', p, l, vs, rfl, rfl, hov, hb, hr, hV⟩ := hrel
    have n1 := hr.n1
    have p2 := hr.p2
    have nN := hr.nN
    have z2 := hb.size
    by_cases c1 : 1 < n'
    · have hpn : p ≤ n' := by rcases hr.pn with k | k <;> omega
      have hll : l.length ≤ 10000001 := by rw [hr.out]; have := M.sel_le (M.pdiv N) 0 p.toNat; omega
      have hlf : (M.fac N l).length = l.length := by simp [M.fac]
      have hpp := M.mul_nn (x := p) (y := p) (m := 10000000) (n := 10000000) (by omega) (by omega) (by omega) (by omega)
      by_cases c2 : n' < p * p
      · have hr' := hr.jump c1 c2
        have hV' := hV.mono hpn
        clear hr hV
        have p2' := hr'.p2
        have PV := fun W => mdValuation_c n' n' W (by omega) p2' (by omega) (by omega)
        have hk0 := M.valn_nn n' n'
        have hvp := M.valn_pos (p := n') (x := n') p2' (by omega)
        have hkb : M.valn n' n' ≤ n' := by
          have := (M.valF_nn n' n'.natAbs n').2
          unfold M.valn
          omega
        have PV := Lib.hid PV
        by_cases c3 : 0 < M.valn n' n'
        · have hd := hvp.1 c3
          have hpr := hr'.tprime hd
          have hkey : M.valn n' n' = M.valn N n' := hV' n' hpr (Int.le_refl _)
          obtain ⟨K, hK⟩ : ∃ K : Nat, M.valn n' n' = K := ⟨(M.valn n' n').toNat, by omega⟩
          rw [hK] at PV hk0 hkb c3
          have hkey := Lib.hid hkey
          have hK := Lib.hid hK
          have hd := Lib.hid hd
          have hr' := Lib.hid hr'
          have hV' := Lib.hid hV'
          clear hvp
          go_wp2_with (first
            | (go_at_call 100; (with_reducible refine (PV.out _).mono ?_); rintro e w' ⟨rfl, rfl⟩)
            | (at_builtin; refine push_row (W := w) w.heap.size (.slice (some ⟨wr.heap.size, 0, none⟩) 2 2) [n', (K : Int)] vs _ _ (wr.heap.size + 1) (by simp) rfl _ _ rfl rfl rfl (hov.alloc _) (OwnI.lit2 _ _ _ _ (by omega)) (fun g hg z hz hzg => row_new hov (Below.refl _ _) z hz g hzg hg) (hb.alloc (by omega) _) (by simp; omega) (by omega) ?_; rintro v3 w3 hov3 hb3))
          go_loop [0, 5] (fun vn vk => ∃ (x : Int) (k : Nat), vn = .int .i64 x ∧ vk = .int .i64 k ∧ M.PIn n' n' x ∧ k ≤ K ∧ M.valn x n' = k ∧ M.VIn N x (n' + 1)) (fun _ vk => (intOf vk).toNat)
          case atStart => exact ⟨n', K, rfl, rfl, M.PIn.start n1, Nat.le_refl _, hK.out, hV'.out.mono (by omega)⟩
          case round =>
            obtain ⟨x, k, rfl, rfl, hx, hkK, hxk, hxV⟩ := hrel
            have x1 := hx.n1
            have xn := hx.nn
            by_cases c4 : 0 < k
            · have hxd := (M.valn_pos (p := n') (x := x) p2' (by omega)).1 (by omega)
              have hxs := M.valn_self p2' (show x ≠ 0 by omega) hxd
              have hlt := M.div_lt (n := x) (p := n') (by omega) x1
              have hst := hx.step hpr hxd
              have hst1 := hst.n1
              have hVs := hxV.step hpr (by omega) hxd
              have hxs := Lib.hid hxs
              have hst := Lib.hid hst
              have hVs := Lib.hid hVs
              have hxd := Lib.hid hxd
              have hx := Lib.hid hx
              have hxk := Lib.hid hxk
              have c5 : (0 : Int) < (k : Int) := by omega
              go_wp2
              go_round
              case rel => exact ⟨x / n', k - 1, rfl, by go_num, hst.out, by omega, by have := hxs.out; have := hxk.out; omega, hVs.out⟩
              case measure => simp [intOf]; omega
            · obtain rfl : k = 0 := by omega
              have hxd : ¬ x % n' = 0 := fun h => by
                have := (M.valn_pos (p := n') (x := x) p2' (by omega)).2 h
                omega
              have hnx := hr'.out.next c1 hx hxd (l' := l ++ [n']) (by rw [if_pos hd.out])
              have hnx1 := hnx.pn
              have hnx := Lib.hid hnx
              have hrow : Hid (M.fac N l ++ [[n', (K : Int)]] = M.fac N (l ++ [n'])) := Lib.hid (by unfold M.fac; rw [List.map_append, ← hK.out, hkey.out]; rfl)
              have hxV := Lib.hid hxV
              have hxd := Lib.hid hxd
              have hx := Lib.hid hx
              have hxk := Lib.hid hxk
              go_wp2
              go_roundw
              case rel => exact ⟨x, n' + 1, l ++ [n'], _, rfl, rfl, by rw [← hrow.out]; exact hov3, hb3, hnx.out, hxV.out⟩
              case measure => simp [intOf]; omega
        · have hd : ¬ n' % n' = 0 := fun h => c3 (hvp.2 h)
          have hz0 : M.valn n' n' = 0 := by omega
          rw [hz0] at PV
          have hnx := hr'.next c1 (M.PIn.start n1) hd (l' := l) (by rw [if_neg hd])
          have hnx1 := hnx.pn
          have hnx := Lib.hid hnx
          have hVn := Lib.hid (hV'.mono (show n' ≤ n' + 1 by omega))
          have hd := Lib.hid hd
          have hr' := Lib.hid hr'
          have hV' := Lib.hid hV'
          clear hvp c3
          go_wp2_with (first | (go_at_call 100; (with_reducible refine (PV.out _).mono ?_); rintro e w' ⟨rfl, rfl⟩))
          go_roundw
          case rel => exact ⟨n', n' + 1, l, vs, rfl, rfl, hov, hb, hnx.out, hVn.out⟩
          case measure => simp [intOf]; omega
      · have hr' := hr
        have hV' := hV
        clear hr hV
        have p2' := hr'.p2
        have PV := fun W => mdValuation_c n' p W (by omega) p2' (by omega) (by omega)
        have hk0 := M.valn_nn n' p
        have hvp := M.valn_pos (p := p) (x := n') p2' (by omega)
        have hkb : M.valn n' p ≤ n' := by
          have := (M.valF_nn p n'.natAbs n').2
          unfold M.valn
          omega
        have PV := Lib.hid PV
        by_cases c3 : 0 < M.valn n' p
        · have hd := hvp.1 c3
          have hpr := hr'.tprime hd
          have hkey : M.valn n' p = M.valn N p := hV' p hpr (Int.le_refl _)
          obtain ⟨K, hK⟩ : ∃ K : Nat, M.valn n' p = K := ⟨(M.valn n' p).toNat, by omega⟩
          rw [hK] at PV hk0 hkb c3
          have hkey := Lib.hid hkey
          have hK := Lib.hid hK
          have hd := Lib.hid hd
          have hr' := Lib.hid hr'
          have hV' := Lib.hid hV'
          clear hvp
          go_wp2_with (first
            | (go_at_call 100; (with_reducible refine (PV.out _).mono ?_); rintro e w' ⟨rfl, rfl⟩)
            | (at_builtin; refine push_row (W := w) w.heap.size (.slice (some ⟨wr.heap.size, 0, none⟩) 2 2) [p, (K : Int)] vs _ _ (wr.heap.size + 1) (by simp) rfl _ _ rfl rfl rfl (hov.alloc _) (OwnI.lit2 _ _ _ _ (by omega)) (fun g hg z hz hzg => row_new hov (Below.refl _ _) z hz g hzg hg) (hb.alloc (by omega) _) (by simp; omega) (by omega) ?_; rintro v3 w3 hov3 hb3))
          go_loop [0, 5] (fun vn vk => ∃ (x : Int) (k : Nat), vn = .int .i64 x ∧ vk = .int .i64 k ∧ M.PIn n' p x ∧ k ≤ K ∧ M.valn x p = k ∧ M.VIn N x (p + 1)) (fun _ vk => (intOf vk).toNat)
          case atStart => exact ⟨n', K, rfl, rfl, M.PIn.start n1, Nat.le_refl _, hK.out, hV'.out.mono (by omega)⟩
          case round =>
            obtain ⟨x, k, rfl, rfl, hx, hkK, hxk, hxV⟩ := hrel
            have x1 := hx.n1
            have xn := hx.nn
            by_cases c4 : 0 < k
            · have hxd := (M.valn_pos (p := p) (x := x) p2' (by omega)).1 (by omega)
              have hxs := M.valn_self p2' (show x ≠ 0 by omega) hxd
              have hlt := M.div_lt (n := x) (p := p) (by omega) x1
              have hst := hx.step hpr hxd
              have hst1 := hst.n1
              have hVs := hxV.step hpr (by omega) hxd
              have hxs := Lib.hid hxs
              have hst := Lib.hid hst
              have hVs := Lib.hid hVs
              have hxd := Lib.hid hxd
              have hx := Lib.hid hx
              have hxk := Lib.hid hxk
              have c5 : (0 : Int) < (k : Int) := by omega
              go_wp2
              go_round
              case rel => exact ⟨x / p, k - 1, rfl, by go_num, hst.out, by omega, by have := hxs.out; have := hxk.out; omega, hVs.out⟩
              case measure => simp [intOf]; omega
            · obtain rfl : k = 0 := by omega
              have hxd : ¬ x % p = 0 := fun h => by
                have := (M.valn_pos (p := p) (x := x) p2' (by omega)).2 h
                omega
              have hnx := hr'.out.next c1 hx hxd (l' := l ++ [p]) (by rw [if_pos hd.out])
              have hnx1 := hnx.pn
              have hnx := Lib.hid hnx
              have hrow : Hid (M.fac N l ++ [[p, (K : Int)]] = M.fac N (l ++ [p])) := Lib.hid (by unfold M.fac; rw [List.map_append, ← hK.out, hkey.out]; rfl)
              have hxV := Lib.hid hxV
              have hxd := Lib.hid hxd
              have hx := Lib.hid hx
              have hxk := Lib.hid hxk
              go_wp2
              go_roundw
              case rel => exact ⟨x, p + 1, l ++ [p], _, rfl, rfl, by rw [← hrow.out]; exact hov3, hb3, hnx.out, hxV.out⟩
              case measure => simp [intOf]; omega
        · have hd : ¬ n' % p = 0 := fun h => c3 (hvp.2 h)
          have hz0 : M.valn n' p = 0 := by omega
          rw [hz0] at PV
          have hnx := hr'.next c1 (M.PIn.start n1) hd (l' := l) (by rw [if_neg hd])
          have hnx1 := hnx.pn
          have hnx := Lib.hid hnx
          have hVn := Lib.hid (hV'.mono (show p ≤ p + 1 by omega))
          have hd := Lib.hid hd
          have hr' := Lib.hid hr'
          have hV' := Lib.hid hV'
          clear hvp c3
          go_wp2_with (first | (go_at_call 100; (with_reducible refine (PV.out _).mono ?_); rintro e w' ⟨rfl, rfl⟩))
          go_roundw
          case rel => exact ⟨n', p + 1, l, vs, rfl, rfl, hov, hb, hnx.out, hVn.out⟩
          case measure => simp [intOf]; omega
    · go_wp2
      go_ret
      exact ⟨_, rfl, ⟨vs, by rw [← hr.done (by omega)]; exact hov⟩, hb⟩
end Go.Proofs.YtmipenpeebmjkaaGreat

namespace Go.Proofs.YtmipenpeebmjkaaGreat
set_option linter.unusedSimpArgs false
set_option linter.unusedVariables false
open Go.RowKit
namespace M
theorem valn_abs {n p : Int} (hp : 2 ≤ p) (hn : n ≠ 0) : valn (n.natAbs : Int) p = valn n p := by
  rcases Int.lt_or_le n 0 with h | h
  · have e : (n.natAbs : Int) = -n := by omega
    obtain ⟨u, h1, h2⟩ := valn_pow hp hn
    have hnn := valn_nn n p
    have := valn_uniq (v := (valn n p).toNat) (a := -n) (u := -u) hp (by
      generalize (valn n p).toNat = k at *
      rw [Int.mul_neg, ← h1]) (fun hz => h2 (by
        have := Int.dvd_of_emod_eq_zero hz
        exact Int.emod_eq_zero_of_dvd (Int.dvd_neg.1 this))) (by omega)
    rw [e, this]
    omega
  · rw [show (n.natAbs : Int) = n from by omega]
theorem fac_get {N : Int} {l : List Int} {k : Nat} {r : List Int} (h : (fac N l)[k]? = some r) : ∃ p, l[k]? = some p ∧ r = [p, valn N p] := by
  unfold fac at h
  rw [List.getElem?_map] at h
  cases hp : l[k]? with
  | none => rw [hp] at h; cases h
  | some p =>
    rw [hp] at h
    exact ⟨p, rfl, (Option.some.inj h).symm⟩
end M
theorem l1Sign_c (n : Int) (w : World) (h : n ≠ 0) :
    Calls Tryz.prog 78 #[.int .i64 n] w fun e w' => e = .returned (.int .i64 (M.sgn1 n)) ∧ w = w' := by
  by_cases h1 : 0 < n
  · have h2 : ¬ n < 0 := by omega
    go_enter Tryz.func78, Tryz.ntmps78
    go_wp2
    go_ret
    exact ⟨ret_i (by simp [M.sgn1, h2]), rfl⟩
  · have h2 : n < 0 := by omega
    go_enter Tryz.func78, Tryz.ntmps78
    go_wp2
    go_ret
    exact ⟨ret_i (by simp [M.sgn1, h2]), rfl⟩
set_option maxHeartbeats 1000000 in
theorem tcClass_c (n : Int) (w : World) (h0 : n ≠ 0) (h2 : -10000000 ≤ n) (h3 : n ≤ 10000000) :
    Calls Tryz.prog 51 #[.int .i64 n] w fun e w' => e = .returned (.int .i64 (M.sqfree n)) ∧ Below w.heap.size w w' := by
  have PF := fun W => mdFactors_c n.natAbs W (by omega) (by omega)
  rw [← M.primesOf_abs n] at PF
  have hval := fun p (hp : p ∈ M.primesOf n) => M.valn_abs (n := n) (mem_primesOf hp).1 h0
  have hval := Lib.hid hval
  have hlen : (M.fac n.natAbs (M.primesOf n)).length = (M.primesOf n).length := by simp [M.fac]
  have PA := fun W => l1Abs_c n W (by omega) (by omega)
  have PS := fun W => l1Sign_c n W h0
  have PF := Lib.hid PF
  have PA := Lib.hid PA
  have PS := Lib.hid PS
  go_enter Tryz.func51, Tryz.ntmps51
  go_wp2_with (first
    | (go_at_call 80; (with_reducible refine (PA.out _).mono ?_); rintro e w' ⟨rfl, rfl⟩)
    | (go_at_call 78; (with_reducible refine (PS.out _).mono ?_); rintro e w' ⟨rfl, rfl⟩)
    | (go_at_call 79; (with_reducible refine (PF.out _).mono ?_); rintro e w1 ⟨v, rfl, ⟨vs, hov⟩, hb⟩; obtain ⟨a, cap, rfl, hm, hv⟩ := hov.view))
  have hv := Lib.hid hv

  go_loop [3, 5, 12] (fun vo _ vi => ∃ k : Nat, k ≤ (M.primesOf n).length ∧ vi = .int .i64 k ∧ vo = .int .i64 (((M.primesOf n).take k).foldl (M.sfStep n) (M.sgn1 n))) (fun _ _ vi => (M.primesOf n).length - (intOf vi).toNat)
  case atStart => exact ⟨0, by omega, rfl, by simp⟩
  case round =>
    obtain ⟨k, hk, rfl, rfl⟩ := hrel
    by_cases hlt : k < (M.primesOf n).length
    · obtain ⟨g, u, r, rfl, hg, hr, -, hcell, hown⟩ := hv.out k (by rw [hlen]; exact hlt)
      obtain ⟨p, hp, rfl⟩ := M.fac_get hr.out
      have hvp := hval.out p (List.mem_of_getElem? hp)
      rw [hvp] at hown
      obtain ⟨a2, cap2, rfl, hm2, hv2⟩ := hown.view
      obtain ⟨g2, x0, rfl, hg2, hx0, hc0⟩ := hv2 0 (by simp)
      obtain ⟨g3, x1, e3, hg3, hx1, hc1⟩ := hv2 1 (by simp)
      obtain rfl : p = x0 := by simpa using hx0.out
      obtain rfl : M.valn n p = x1 := by simpa using hx1.out
      injection e3 with e3
      injection e3 with e3
      subst e3
      have hf := Lib.hid (foldl_next (M.sfStep n) (M.sgn1 n) hp)
      have hnn := M.valn_nn n p
      clear hv2 hr hvp hown hx0 hx1 hp hm2
      by_cases ho : M.valn n p % 2 = 1
      · have ho' := Lib.hid ho
        go_wp2
        go_round
        case rel => exact ⟨k + 1, by omega, by go_num, by rw [hf.out]; rw [M.sfStep_odd ho'.out]⟩
        case measure => simp [intOf]; omega
      · go_wp2
        go_round
        case rel => exact ⟨k + 1, by omega, by go_num, by rw [hf.out]; rw [M.sfStep_even ho]⟩
        case measure => simp [intOf]; omega
    · obtain rfl : k = (M.primesOf n).length := by omega
      go_wp2
      go_ret
      exact ⟨ret_i rfl, hb⟩
end Go.Proofs.YtmipenpeebmjkaaGreat

namespace Go.Proofs.YtmipenpeebmjkaaGreat
set_option linter.unusedSimpArgs false
set_option linter.unusedVariables false
namespace M
/-- strictly increasing -/
def Inc (l : List Int) : Prop := l.Pairwise (· < ·)
theorem Inc.ext : ∀ {l m : List Int}, Inc l → Inc m → (∀ x, x ∈ l ↔ x ∈ m) → l = m
  | [], [], _, _, _ => rfl
  | [], y :: m, _, _, h => absurd ((h y).2 List.mem_cons_self) (by simp)
  | x :: l, [], _, _, h => absurd ((h x).1 List.mem_cons_self) (by simp)
  | x :: l, y :: m, h1, h2, h => by
    obtain ⟨a1, b1⟩ := List.pairwise_cons.1 h1
    obtain ⟨a2, b2⟩ := List.pairwise_cons.1 h2
    have hxy : x = y := by
      rcases List.mem_cons.1 ((h x).1 List.mem_cons_self) with e | e
      · exact e
      · rcases List.mem_cons.1 ((h y).2 List.mem_cons_self) with e' | e'
        · exact e'.symm
        · have := a1 y e'
          have := a2 x e
          omega
    subst hxy
    congr 1
    refine Inc.ext b1 b2 fun z => ⟨fun hz => ?_, fun hz => ?_⟩
    · rcases List.mem_cons.1 ((h z).1 (List.mem_cons_of_mem _ hz)) with e | e
      · have := a1 z hz; omega
      · exact e
    · rcases List.mem_cons.1 ((h z).2 (List.mem_cons_of_mem _ hz)) with e | e
      · have := a2 z hz; omega
      · exact e
theorem inc_upto (lo : Int) (k : Nat) : Inc (upto lo k) := by
  unfold Inc upto
  rw [List.pairwise_map]
  exact List.Pairwise.imp (fun h => by omega) List.pairwise_lt_range
theorem inc_sel (p : Int → Bool) (lo : Int) (k : Nat) : Inc (sel p lo k) := List.Pairwise.filter _ (inc_upto lo k)
/-- the place of a number, and the list with it -/
def place (xs : List Int) (n : Int) : Nat := (xs.takeWhile (decide <| · < n)).length
def put (xs : List Int) (n : Int) : List Int := if xs[place xs n]? = some n then xs else xs.take (place xs n) ++ [n] ++ xs.drop (place xs n)
theorem place_le (xs : List Int) (n : Int) : place xs n ≤ xs.length := by
  have := (List.takeWhile_prefix (decide <| · < n) (l := xs)).length_le
  exact this
theorem place_eq : ∀ (xs : List Int) (n : Int) (k : Nat), k ≤ xs.length → (∀ j y, j < k → xs[j]? = some y → y < n) → (∀ y, xs[k]? = some y → ¬ y < n) → k = place xs n
  | [], n, k, hk, _, _ => by simp at hk; simp [place, hk]
  | x :: xs, n, 0, _, _, h => by
    have := h x rfl
    simp [place, List.takeWhile_cons, this]
  | x :: xs, n, k + 1, hk, h1, h2 => by
    have hx := h1 0 x (by omega) rfl
    have ih := place_eq xs n k (by simpa using hk) (fun j y hj hy => h1 (j + 1) y (by omega) (by simpa using hy)) (fun y hy => h2 y (by simpa using hy))
    simp only [place, List.takeWhile_cons, hx, decide_true, if_true, List.length_cons]
    unfold place at ih
    omega
theorem inc_put {xs : List Int} {n : Int} (h : Inc xs) : Inc (put xs n) ∧ ∀ x, x ∈ put xs n ↔ x ∈ xs ∨ x = n := by
  have hp := place_le xs n
  have h1 : ∀ y ∈ xs.take (place xs n), y < n := by
    intro y hy
    have e : xs.take (place xs n) = xs.takeWhile (decide <| · < n) := by
      have := List.takeWhile_prefix (decide <| · < n) (l := xs)
      exact (List.prefix_iff_eq_take.1 this).symm
    rw [e] at hy
    have := List.all_takeWhile (p := (decide <| · < n)) (l := xs)
    have := List.all_eq_true.1 this y hy
    simpa using this
  have h2 : ∀ y, xs[place xs n]? = some y → ¬ y < n := by
    intro y hy
    have hd : xs.dropWhile (decide <| · < n) = xs.drop (place xs n) := by
      have e1 := List.takeWhile_append_dropWhile (p := (decide <| · < n)) (l := xs)
      have e2 : (xs.takeWhile (decide <| · < n) ++ xs.dropWhile (decide <| · < n)).drop (place xs n) = xs.dropWhile (decide <| · < n) := List.drop_left' rfl
      rw [e1] at e2
      exact e2.symm
    have hh := List.head?_dropWhile_not (p := (decide <| · < n)) (l := xs)
    rw [hd, List.head?_drop, hy] at hh
    simpa using hh
  have hs : xs = xs.take (place xs n) ++ xs.drop (place xs n) := (List.take_append_drop _ _).symm
  unfold put
  split
  · rename_i he
    refine ⟨h, fun x => ⟨Or.inl, fun hx => ?_⟩⟩
    rcases hx with hx | rfl
    · exact hx
    · exact List.mem_of_getElem? he
  · rename_i he
    have hgt : ∀ y ∈ xs.drop (place xs n), n < y := by
      intro y hy
      cases hd : xs.drop (place xs n) with
      | nil => rw [hd] at hy; cases hy
      | cons z zs =>
        have hz : xs[place xs n]? = some z := by rw [← List.head?_drop, hd]; rfl
        have hzn : n < z := by
          have := h2 z hz
          have : z ≠ n := fun e => he (by rw [hz, e])
          omega
        have hinc : Inc (xs.drop (place xs n)) := List.Pairwise.sublist (List.drop_sublist _ _) h
        rw [hd] at hinc hy
        rcases List.mem_cons.1 hy with e | e
        · omega
        · have := (List.pairwise_cons.1 hinc).1 y e
          omega
    refine ⟨?_, fun x => ?_⟩
    · unfold Inc
      rw [List.append_assoc, List.pairwise_append]
      refine ⟨List.Pairwise.sublist (List.take_sublist _ _) h, ?_, fun a ha b hb => ?_⟩
      · rw [List.pairwise_append]
        refine ⟨by simp, List.Pairwise.sublist (List.drop_sublist _ _) h, fun a ha b hb => ?_⟩
        simp only [List.mem_singleton] at ha
        subst ha
        exact hgt b hb
      · have ha' := h1 a ha
        rcases List.mem_append.1 hb with hb | hb
        · simp only [List.mem_singleton] at hb
          omega
        · have := hgt b hb; omega
    · simp only [List.mem_append, List.mem_singleton]
      constructor
      · rintro ((hx | hx) | hx)
        · exact Or.inl (List.mem_of_mem_take hx)
        · exact Or.inr hx
        · exact Or.inl (List.mem_of_mem_drop hx)
      · rintro (hx | hx)
        · rw [hs, List.mem_append] at hx
          rcases hx with hx | hx
          · exact Or.inl (Or.inl hx)
          · exact Or.inr hx
        · exact Or.inl (Or.inr hx)
theorem put_le (xs : List Int) (n : Int) : (put xs n).length ≤ xs.length + 1 := by
  have hp := place_le xs n
  unfold put
  split
  · omega
  · simp only [List.length_append, List.length_take, List.length_drop, List.length_singleton]
    omega
/-- put one after the other, those that pass a test -/
def puts (f : Int → Bool) (l : List Int) : List Int := l.foldl (fun acc d => if f d then put acc d else acc) []
theorem inc_puts (f : Int → Bool) : ∀ (l : List Int) (acc : List Int), Inc acc → Inc (l.foldl (fun acc d => if f d then put acc d else acc) acc) ∧ ∀ x, x ∈ l.foldl (fun acc d => if f d then put acc d else acc) acc ↔ x ∈ acc ∨ x ∈ l ∧ f x = true
  | [], acc, h => ⟨h, by simp⟩
  | d :: l, acc, h => by
    have hs : Inc (if f d then put acc d else acc) ∧ ∀ x, x ∈ (if f d then put acc d else acc) ↔ x ∈ acc ∨ x = d ∧ f d = true := by
      split
      · rename_i hf
        have := inc_put (n := d) h
        exact ⟨this.1, fun x => by rw [this.2]; simp [hf]⟩
      · rename_i hf
        exact ⟨h, fun x => by simp [hf]⟩
    have ih := inc_puts f l _ hs.1
    rw [List.foldl_cons]
    refine ⟨ih.1, fun x => ?_⟩
    rw [ih.2, hs.2, List.mem_cons]
    constructor
    · rintro ((h | ⟨rfl, h⟩) | ⟨h, h'⟩)
      · exact Or.inl h
      · exact Or.inr ⟨Or.inl rfl, h⟩
      · exact Or.inr ⟨Or.inr h, h'⟩
    · rintro (h | ⟨rfl | h, h'⟩)
      · exact Or.inl (Or.inl h)
      · exact Or.inl (Or.inr ⟨rfl, h'⟩)
      · exact Or.inr ⟨h, h'⟩
/-- twist numbers, the nearest to 0 first, negative ones before -/
def near : Nat → List Int
  | 0 => []
  | k + 1 => near k ++ if tw ((k : Int) + 1) then [-((k : Int) + 1), (k : Int) + 1] else []
theorem tw_neg (d : Int) : tw (-d) = tw d := by
  rw [Bool.eq_iff_iff, tw_iff, tw_iff]
  omega
theorem mem_near : ∀ (k : Nat) (x : Int), x ∈ near k ↔ tw x = true ∧ x.natAbs ≤ k
  | 0, x => by
    simp only [near, List.not_mem_nil, false_iff]
    rintro ⟨h1, h2⟩
    have := (tw_iff.1 h1).1
    omega
  | k + 1, x => by
    rw [near, List.mem_append, mem_near k x]
    split
    · rename_i ht
      simp only [List.mem_cons, List.not_mem_nil, or_false]
      constructor
      · rintro (⟨h1, h2⟩ | rfl | rfl)
        · exact ⟨h1, by omega⟩
        · exact ⟨by rw [tw_neg]; exact ht, by omega⟩
        · exact ⟨ht, by omega⟩
      · rintro ⟨h1, h2⟩
        rcases Nat.lt_or_ge x.natAbs (k + 1) with h | h
        · exact Or.inl ⟨h1, by omega⟩
        · right; omega
    · rename_i ht
      simp only [List.not_mem_nil, or_false]
      constructor
      · rintro ⟨h1, h2⟩
        exact ⟨h1, by omega⟩
      · rintro ⟨h1, h2⟩
        refine ⟨h1, ?_⟩
        rcases Nat.lt_or_ge x.natAbs (k + 1) with h | h
        · omega
        · exfalso
          apply ht
          rcases (show x = (k : Int) + 1 ∨ x = -((k : Int) + 1) by omega) with e | e
          · rw [← e]; exact h1
          · rw [← tw_neg, ← e]; exact h1
theorem near_le : ∀ k : Nat, (near k).length ≤ 2 * k
  | 0 => by simp [near]
  | k + 1 => by
    have := near_le k
    rw [near, List.length_append]
    split <;> simp <;> omega
/-- those with a valid twist -/
def twOk (a b d : Int) : Bool := good (a * d * d) (b * d * d * d)
def twp (a b d : Int) : Bool := tw d && twOk a b d
def tws (a b : Int) : List Int := sel (twp a b) (-30) 61
theorem tws_puts (a b : Int) : puts (twOk a b) (near 30) = tws a b := by
  have h := inc_puts (twOk a b) (near 30) [] List.Pairwise.nil
  refine Inc.ext h.1 (inc_sel _ _ _) fun x => ?_
  refine (h.2 x).trans ?_
  rw [mem_near, tws, mem_sel]
  simp only [List.not_mem_nil, false_or, twp, Bool.and_eq_true]
  constructor
  · rintro ⟨⟨h1, h2⟩, h3⟩
    exact ⟨by omega, h1, h3⟩
  · rintro ⟨h1, h2, h3⟩
    have := tw_iff.1 h2
    exact ⟨⟨h2, by omega⟩, h3⟩
end M
end Go.Proofs.YtmipenpeebmjkaaGreat

namespace Go.Proofs.YtmipenpeebmjkaaGreat
set_option linter.unusedSimpArgs false
set_option linter.unusedVariables false
open Go.RowKit

theorem seen_take {w : World} {hi : Nat} {g : Option Addr} {n : Nat} {xs : List Int} (h : ∀ k, k < xs.length → ∃ b x, g = some ⟨b, 0, none⟩ ∧ b < hi ∧ Hid (xs[k]? = some x) ∧ w.cell? ⟨b, k, none⟩ = some (.int .i64 x)) {w' : World} (hb : Below hi w w') :
    ∀ j y, (xs.take n)[j]? = some y → ∃ ad, g = some ad ∧ w'.cell? (ad.add j) = some (.int .i64 y) := by
  have hadd : ∀ b i : Nat, (⟨b, 0, none⟩ : Addr).add i = ⟨b, i, none⟩ := fun b i => by unfold Addr.add; split <;> simp_all
  intro j y hy
  rw [List.getElem?_take] at hy
  split at hy
  · have hj := (List.getElem?_eq_some_iff.1 hy).1
    obtain ⟨b, x, e1, e2, e3, e4⟩ := h j hj
    obtain rfl := Option.some.inj (e3.out.symm.trans hy)
    exact ⟨_, e1, by rw [hadd]; exact (hb.cell (p := ⟨b, j, none⟩) e2).trans e4⟩
  · cases hy
theorem seen_drop {w : World} {hi g n : Nat} {xs : List Int} (h : ∀ k, k < xs.length → ∃ b x, some (⟨g, 0, none⟩ : Addr) = some ⟨b, 0, none⟩ ∧ b < hi ∧ Hid (xs[k]? = some x) ∧ w.cell? ⟨b, k, none⟩ = some (.int .i64 x)) {w' : World} (hb : Below hi w w') :
    ∀ j y, (xs.drop n)[j]? = some y → ∃ ad, some (⟨g, n, none⟩ : Addr) = some ad ∧ w'.cell? (ad.add j) = some (.int .i64 y) := by
  have hadd2 : ∀ b i j : Nat, (⟨b, i, none⟩ : Addr).add j = ⟨b, i + j, none⟩ := fun b i j => by unfold Addr.add; split <;> simp_all
  intro j y hy
  rw [List.getElem?_drop] at hy
  have hj := (List.getElem?_eq_some_iff.1 hy).1
  obtain ⟨b, x, e1, e2, e3, e4⟩ := h (n + j) hj
  obtain rfl := Option.some.inj (e3.out.symm.trans hy)
  simp only [Option.some.injEq, Addr.mk.injEq, and_true] at e1
  subst e1
  exact ⟨_, rfl, by rw [hadd2]; exact (hb.cell (p := ⟨g, n + j, none⟩) e2).trans e4⟩

set_option maxHeartbeats 400000 in
theorem l1Put_c (xs : List Int) (v : Value) (n : Int) (w : World) (base : Nat) (hown : OwnI w base v xs) (hbs : base ≤ w.heap.size) (hlen : xs.length ≤ 1000000000) :
    Calls Tryz.prog 60 #[v, .int .i64 n] w fun e w' => ∃ v', e = .returned v' ∧ OwnI w' base v' (M.put xs n) ∧ Below w.heap.size w w' := by
  obtain ⟨a, cap, rfl, hm, hv⟩ := hown.seen
  go_enter Tryz.func60, Tryz.ntmps60
  go_wp2
  have hcap := hown.cap
  go_loop [5] (fun vi => ∃ k : Nat, k ≤ xs.length ∧ vi = .int .i64 k ∧ ∀ j y, j < k → xs[j]? = some y → y < n) (fun vi => xs.length - (intOf vi).toNat)
  case atStart => exact ⟨0, by omega, rfl, fun j y h => by omega⟩
  case round =>
    obtain ⟨k, hk, rfl, hall⟩ := hrel
    have Hall := Lib.hid hall
    clear hall
    have hkc : (k : Int) ≤ cap := by omega
    by_cases hlt : k < xs.length
    · obtain ⟨g, x, rfl, hg, hx, hcell⟩ := hv k hlt
      by_cases hxn : x < n
      · have hnx : Hid (∀ j y, j < k + 1 → xs[j]? = some y → y < n) := Lib.hid fun j y hj hy => by
          rcases Nat.lt_or_ge j k with q | q
          · exact Hall.out j y q hy
          · obtain rfl : j = k := by omega
            obtain rfl := Option.some.inj (hx.out.symm.trans hy)
            exact hxn
        clear hv
        go_wp2
        go_round
        case rel => exact ⟨k + 1, by omega, by go_num, hnx.out⟩
        case measure => simp [intOf]; omega
      · have hpl : Hid (k = M.place xs n) := Lib.hid (M.place_eq xs n k (by omega) Hall.out fun y hy => by
          obtain rfl := Option.some.inj (hx.out.symm.trans hy)
          exact hxn)
        by_cases hxe : x = n
        · have hb : (x == n) = true := by simpa using hxe
          have hput : Hid (M.put xs n = xs) := Lib.hid (by unfold M.put; rw [← hpl.out, hx.out, hxe, if_pos rfl])
          clear hv
          have hxe := Lib.hid hxe
          go_wp2
          go_ret
          exact ⟨_, rfl, by rw [hput.out]; exact hown, Below.refl _ _⟩
        · have hb : (x == n) = false := by simpa using hxe
          have hput : Hid (M.put xs n = xs.take k ++ [n] ++ xs.drop k) := Lib.hid (by unfold M.put; rw [← hpl.out, hx.out, if_neg (by intro h; exact hxe (Option.some.inj h))])
          have hs1 := Lib.hid fun w' (hb : Below w.heap.size w w') => seen_take (n := k) hv hb
          have hs2 := Lib.hid fun w' (hb : Below w.heap.size w w') => seen_drop (n := k) hv hb
          clear hv
          have hc0 : ¬ cap = k := by omega
          have hl1 : Hid ((xs.take k).length = k) := Lib.hid (by rw [List.length_take]; omega)
          have hl2 : Hid ((xs.drop k).length = xs.length - k) := Lib.hid (by rw [List.length_drop])
          go_wp2_with (first
            | (at_builtin; refine push_seg (W := w) w.heap.size (xs.take k) [] _ (some ⟨g, 0, none⟩) k cap hl1.out rfl (.tmp 34) (.tmp 37) rfl rfl rfl (hs1.out _ (by repeat (first | exact Below.refl _ _ | refine below_alloc ?_ _ | refine below_step ?_ (by assumption) | refine Below.drew ?_ | refine Below.setCell ?_ (by first | exact Nat.le_refl _ | exact Nat.le_add_right _ _ | (simp <;> omega)) _ | refine below_drewN ?_ _))) (OwnI.lit0 _ _ (Nat.le_refl _)) (by repeat (first | exact Below.refl _ _ | refine below_alloc ?_ _ | refine below_step ?_ (by assumption) | refine Below.drew ?_ | refine Below.setCell ?_ (by first | exact Nat.le_refl _ | exact Nat.le_add_right _ _ | (simp <;> omega)) _ | refine below_drewN ?_ _)) (by simp) (by rw [hl1.out]; simp; omega) ?_; rintro v1 w1 hown1 hb1)
            | (at_builtin; refine push_int w.heap.size n (xs.take k) v1 rfl (.tmp 39) (.tmp 41) rfl rfl rfl hown1 hb1 hb1.size (by rw [hl1.out]; omega) ?_; rintro v2 w2 hown2 hb2)
            | (at_builtin; refine push_seg (W := w) w.heap.size (xs.drop k) (xs.take k ++ [n]) v2 (some ⟨g, k, none⟩) (xs.length - k) (cap - k) hl2.out rfl (.tmp 43) (.tmp 46) rfl rfl rfl (hs2.out _ hb2) hown2 hb2 hb2.size (by rw [List.length_append, hl1.out, hl2.out]; simp; omega) ?_; rintro v3 w3 hown3 hb3))
          go_ret
          exact ⟨_, rfl, by rw [hput.out]; exact hown3.base hbs, hb3⟩
    · obtain rfl : k = xs.length := by omega
      have hpl : Hid (xs.length = M.place xs n) := Lib.hid (M.place_eq xs n xs.length (by omega) Hall.out fun y hy => by simp at hy)
      have hput : Hid (M.put xs n = xs.take xs.length ++ [n] ++ []) := Lib.hid (by unfold M.put; rw [← hpl.out]; simp)
      have hs1 := Lib.hid fun w' (hb : Below w.heap.size w w') => seen_take (n := xs.length) hv hb
      clear hv
      have hl1 : Hid ((xs.take xs.length).length = xs.length) := Lib.hid (by rw [List.length_take]; omega)
      have h00 : Hid (([] : List Int).length = xs.length - xs.length) := Lib.hid (by simp)
      rcases hown.forms with ⟨h1, h2⟩ | ⟨g, cap', h1, hg⟩
      · injection h1 with e1 e2 e3
        subst e1 e3 h2
        clear e2
        go_wp2_with (first
          | (at_builtin; refine push_seg (W := w) w.heap.size [] [] _ none 0 0 rfl rfl (.tmp 34) (.tmp 37) rfl rfl rfl (by intro j y hy; cases hy) (OwnI.lit0 _ _ (Nat.le_refl _)) (by repeat (first | exact Below.refl _ _ | refine below_alloc ?_ _ | refine below_step ?_ (by assumption) | refine Below.drew ?_ | refine Below.setCell ?_ (by first | exact Nat.le_refl _ | exact Nat.le_add_right _ _ | (simp <;> omega)) _ | refine below_drewN ?_ _)) (by simp) (by simp) ?_; rintro v1 w1 hown1 hb1)
          | (at_builtin; refine push_int w.heap.size n [] v1 rfl (.tmp 39) (.tmp 41) rfl rfl rfl hown1 hb1 hb1.size (by simp) ?_; rintro v2 w2 hown2 hb2)
          | (at_builtin; refine push_seg (W := w) w.heap.size [] [n] v2 none 0 0 rfl rfl (.tmp 43) (.tmp 46) rfl rfl rfl (by intro j y hy; cases hy) hown2 hb2 hb2.size (by simp) ?_; rintro v3 w3 hown3 hb3))
        go_ret
        exact ⟨_, rfl, by rw [hput.out]; exact hown3.base hbs, hb3⟩
      · injection h1 with e1 e2 e3
        subst e1 e3
        clear e2
        by_cases hcx : cap = xs.length
        all_goals
          go_wp2_with (first
            | (at_builtin; refine push_seg (W := w) w.heap.size (xs.take xs.length) [] _ (some ⟨g, 0, none⟩) xs.length _ hl1.out rfl (.tmp 34) (.tmp 37) rfl rfl rfl (hs1.out _ (by repeat (first | exact Below.refl _ _ | refine below_alloc ?_ _ | refine below_step ?_ (by assumption) | refine Below.drew ?_ | refine Below.setCell ?_ (by first | exact Nat.le_refl _ | exact Nat.le_add_right _ _ | (simp <;> omega)) _ | refine below_drewN ?_ _))) (OwnI.lit0 _ _ (Nat.le_refl _)) (by repeat (first | exact Below.refl _ _ | refine below_alloc ?_ _ | refine below_step ?_ (by assumption) | refine Below.drew ?_ | refine Below.setCell ?_ (by first | exact Nat.le_refl _ | exact Nat.le_add_right _ _ | (simp <;> omega)) _ | refine below_drewN ?_ _)) (by simp) (by rw [hl1.out]; simp; omega) ?_; rintro v1 w1 hown1 hb1)
            | (at_builtin; refine push_int w.heap.size n (xs.take xs.length) v1 rfl (.tmp 39) (.tmp 41) rfl rfl rfl hown1 hb1 hb1.size (by rw [hl1.out]; omega) ?_; rintro v2 w2 hown2 hb2)
            | (at_builtin; refine push_seg (W := w) w.heap.size [] (xs.take xs.length ++ [n]) v2 _ 0 _ rfl rfl (.tmp 43) (.tmp 46) rfl rfl rfl (by intro j y hy; cases hy) hown2 hb2 hb2.size (by rw [List.length_append, hl1.out]; simp; omega) ?_; rintro v3 w3 hown3 hb3))
          go_ret
          exact ⟨_, rfl, by rw [hput.out]; exact hown3.base hbs, hb3⟩
end Go.Proofs.YtmipenpeebmjkaaGreat

namespace Go.Proofs.YtmipenpeebmjkaaGreat
set_option linter.unusedSimpArgs false
set_option linter.unusedVariables false
open Go.RowKit Go.Shelf Go.Sort
variable {α : Type} [Inhabited α]

/-- the elements of d lie as numbers -/
theorem OwnI.holds {w : World} {base g n cap : Nat} {xs : List Int} (f : α → Int) (d : Array α) (hd : d.toList.map f = xs) (hn : n = xs.length) (h : OwnI w base (.slice (some ⟨g, 0, none⟩) n cap) xs) : Holds (fun x => Value.int .i64 (f x)) w g 0 d := by
  intro j hj
  subst hn hd
  have hj' : j < (d.toList.map f).length := by simpa using hj
  have h1 := World.ownsRow.cellAt (g := g) (cap := cap) (n := (d.toList.map f).length) h j (by omega)
  have h2 := World.ownsRow.frozenAt (g := g) (cap := cap) (n := (d.toList.map f).length) h j
  rw [Nat.zero_add]
  refine ⟨?_, h2⟩
  rw [h1, List.getElem?_map, List.getElem?_map, Array.getElem?_toList, Array.getElem?_eq_getElem hj, getElem!_pos d j hj]
  rfl

theorem OwnI.sorted {w : World} {base g cap n m : Nat} {xs : List Int} (f : α → Int) {d' : Array α} {os : Array Obj} (hn : n = xs.length) (h : OwnI w base (.slice (some ⟨g, 0, none⟩) n cap) xs) (hd : d'.size = xs.length) (hbs : base ≤ w.heap.size) :
    OwnI (sortWorld (fun x => Value.int .i64 (f x)) w g 0 m d' os) base (.slice (some ⟨g, 0, none⟩) n cap) (d'.toList.map f) ∧ Below base w (sortWorld (fun x => Value.int .i64 (f x)) w g 0 m d' os) := by
  subst hn
  have hlt := (OwnI.lt h g rfl)
  obtain ⟨h1, h2⟩ := h
  rcases h2 with ⟨e, -⟩ | ⟨g', cap', cur, e, hg, hh, hc, hm, hs, ht⟩
  · cases e
  · injection e with e1 e2 e3
    simp only [Option.some.injEq, Addr.mk.injEq, and_true] at e1
    subst e1 e3
    have hheap : ∀ k, k < w.heap.size → (sortWorld (fun x => Value.int .i64 (f x)) w g 0 m d' os).heap[k]? = if g = k then some (.cells (Sort.putCells (fun x => Value.int .i64 (f x)) 0 d' cur) 3 (0, 0)) else w.heap[k]? := by
      intro k hk
      unfold sortWorld Sort.grow Sort.putRow Sort.mapBlock
      rw [Array.getElem?_append_left (by simpa [Sort.ahead] using hk)]
      simp only [Array.getElem?_modify, Sort.ahead]
      by_cases hgk : g = k
      · subst hgk
        simp [hh, Sort.onCells]
      · simp [hgk]
    refine ⟨⟨by simp, Or.inr ⟨g, cap, _, by simp [hd], hg, (hheap g hlt.2).trans (if_pos rfl), by simpa [hd] using hc, hm, by simp [Sort.putCells, hs], ?_⟩⟩, ?_⟩
    · refine List.ext_getElem? fun t => ?_
      rw [List.getElem?_take]
      simp only [List.length_map, Array.length_toList, hd, Nat.mul_one]
      have hcs : xs.length ≤ cur.size := by rw [hs]; omega
      split
      · rename_i htl
        simp only [Array.getElem?_toList, Sort.putCells, Array.getElem?_mapIdx, List.getElem?_map]
        rw [Array.getElem?_eq_getElem (by omega), Array.getElem?_eq_getElem (by omega)]
        simp only [Option.map_some, Nat.sub_zero]
        rw [if_pos ⟨by omega, by omega⟩, getElem!_pos _ _ (by omega)]
      · rename_i htl
        rw [List.getElem?_eq_none (by simp; omega)]
    · refine ⟨rfl, rfl, rfl, ?_, fun k hk => ?_⟩
      · unfold sortWorld Sort.grow Sort.putRow Sort.mapBlock
        simp [Sort.ahead]
      · rw [hheap k (by omega), if_neg (by omega)]
end Go.Proofs.YtmipenpeebmjkaaGreat
