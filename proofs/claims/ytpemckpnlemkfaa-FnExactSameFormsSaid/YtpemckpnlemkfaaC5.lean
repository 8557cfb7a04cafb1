/-
  Contracts: valuations, prime divisors, squarefree parts.
-/
import Derived.Test.YtpemckpnlemkfaaPlain3
import Derived.Test.YtpemckpnlemkfaaC3
import Derived.Test.YtpemckpnlemkfaaC4
import Derived.Deep.DeepCutAuto
namespace Go.Proofs.Ytpemckpnlemkfaa
set_option linter.unusedSimpArgs false
set_option linter.unusedVariables false
open Go.RowKit

theorem valuation_c (a p : Int) (w : World) (ha : a ≠ 0) (h1 : 2 ≤ p) (h2 : -4000000000000000000 ≤ a) (h3 : a ≤ 4000000000000000000) :
    Calls Try.prog 100 #[.int .i64 a, .int .i64 p] w fun e w' => e = .returned (.int .i64 (M.valn a p)) ∧ w = w' := by
  go_enter Try.func100, Try.ntmps100
  go_wp2
  go_loop [0, 5] (fun va vn => ∃ x n : Int, ∃ f : Nat, va = .int .i64 x ∧ vn = .int .i64 n ∧ x ≠ 0 ∧ x.natAbs ≤ 4000000000000000000 ∧ x.natAbs ≤ f ∧ f ≤ 4000000000000000000 ∧ 0 ≤ n ∧ n + f ≤ 4000000000000000000 ∧ n + M.valF p f x = M.valn a p) (fun va _ => (intOf va).natAbs)
  case atStart => exact ⟨a, 0, a.natAbs, rfl, rfl, ha, by omega, by omega, by omega, by omega, by omega, by simp [M.valn]⟩
  case round =>
    obtain ⟨x, n, f, rfl, rfl, hx, hx2, hf, hf2, hn, hnf, hv⟩ := hrel
    have Hv := Lib.hid hv
    clear hv
    by_cases hd : x % p = 0
    · have hlt := M.abs_div h1 hx hd
      have e1 := M.tmod_zero.2 hd
      have e2 := M.tdiv_exact (by omega) hd
      have hs := Lib.hid (M.valF_step h1 hx hf hd)
      have hd' := Lib.hid hd
      clear hd
      go_wp2
      go_round
      case rel => exact ⟨x / p, n + 1, f - 1, rfl, rfl, hlt.2, by omega, by omega, by omega, by omega, by omega, by rw [← Hv.out, hs.out]; omega⟩
      case measure => simp [intOf]; omega
    · have e1 : ¬ x.tmod p = 0 := fun h => hd (M.tmod_zero.1 h)
      have hs := Lib.hid (M.valF_stop (f := f) hd)
      go_wp2
      go_ret; exact ⟨ret_i (by rw [← Hv.out, hs.out]; omega), rfl⟩

set_option maxHeartbeats 400000 in
theorem primesOf_c (n : Int) (w : World) (h0 : n ≠ 0) (h2 : -1000000000000000000 ≤ n) (h3 : n ≤ 1000000000000000000) :
    Calls Try.prog 99 #[.int .i64 n] w fun e w' => ∃ v, e = .returned v ∧ OwnI w' w.heap.size v (M.primesOf n) ∧ Below w.heap.size w w' := by
  have hN : M.primesOf n = M.primesOf n.natAbs := M.primesOf_abs n
  generalize hNN : (n.natAbs : Int) = N at hN
  have hN1 : 1 ≤ N := by omega
  have hN2 : N ≤ 1000000000000000000 := by omega
  have hmx : max n (-n) = N := by omega
  have Hmx := Lib.hid hmx
  have HNN := Lib.hid hNN
  have HN := Lib.hid hN
  clear hmx hNN hN
  go_enter Try.func99, Try.ntmps99
  go_wp2
  all_goals
    go_loopw [0, 3, 4] (fun vn vo vp wr => ∃ n' p : Int, ∃ l : List Int, vn = .int .i64 n' ∧ vp = .int .i64 p ∧ OwnI wr w.heap.size vo l ∧ Below w.heap.size w wr ∧ M.PRel N n' p l ∧ (n' = 1 ∨ (p - 1) * (p - 1) ≤ N)) (fun vn _ vp _ => (intOf vn + 1 - intOf vp).toNat)
    case atStart => exact ⟨N, 2, [], by congr 1; have := Hmx.out; omega, rfl, OwnI.nil _ _, Below.refl _ _, M.PRel.start hN1, Or.inr (by omega)⟩
    case round =>
      obtain ⟨n', p, l, rfl, rfl, hown, hb, hr, hq⟩ := hrel
      have n1 := hr.n1
      have p2 := hr.p2
      have nN := hr.nN
      by_cases c1 : 1 < n'
      · have hpn : p ≤ n' := by rcases hr.pn with k | k <;> omega
        have hp9 : p - 1 < 1000000001 := M.sq_lt (by omega) (by rcases hq with k | k <;> omega)
        have hll : l.length ≤ 1000000001 := by rw [hr.out]; have := M.sel_le (M.pdiv N) 0 p.toNat; omega
        have hpp := M.mul_nn (x := p) (y := p) (m := 1000000001) (n := 1000000001) (by omega) (by omega) (by omega) (by omega)
        clear hq
        by_cases c2 : n' < p * p
        · have hj := hr.jump c1 c2
          have hs := Int.emod_self (a := n')
          go_wp2_with (at_builtin; refine push_int w.heap.size n' l _ rfl _ _ rfl rfl rfl hown hb hb.size (by omega) ?_; rintro v2 w2 hown2 hb2)
          go_loop [0] (fun v => ∃ x : Int, v = .int .i64 x ∧ M.PIn n' n' x) (fun v => (intOf v).toNat)
          case atStart => exact ⟨n', rfl, M.PIn.start n1⟩
          case round =>
            obtain ⟨x, rfl, hx⟩ := hrel
            have x1 := hx.n1
            have xn := hx.nn
            by_cases c4 : x % n' = 0
            · have hlt := M.div_lt (n := x) (p := n') (by omega) x1
              have hst := (hx.step (hj.tprime hs) c4).n1
              go_wp2
              go_round
              case rel => exact ⟨x / n', rfl, hx.step (hj.tprime hs) c4⟩
              case measure => simp [intOf]; omega
            · go_wp2
              go_roundw
              case rel => exact ⟨x, n' + 1, l ++ [n'], rfl, rfl, hown2, hb2, hj.next c1 hx c4 (by rw [if_pos hs]), Or.inl (by have := (hj.next c1 hx c4 rfl).pn; have := hx.nn; omega)⟩
              case measure => simp [intOf]; omega
        · by_cases c3 : n' % p = 0
          · have c3' := Lib.hid c3
            go_wp2_with (at_builtin; refine push_int w.heap.size p l _ rfl _ _ rfl rfl rfl hown hb hb.size (by omega) ?_; rintro v2 w2 hown2 hb2)
            go_loop [0] (fun v => ∃ x : Int, v = .int .i64 x ∧ M.PIn n' p x) (fun v => (intOf v).toNat)
            case atStart => exact ⟨n', rfl, M.PIn.start n1⟩
            case round =>
              obtain ⟨x, rfl, hx⟩ := hrel
              have x1 := hx.n1
              have xn := hx.nn
              by_cases c4 : x % p = 0
              · have hlt := M.div_lt (n := x) (p := p) (by omega) x1
                have hst := (hx.step (hr.tprime c3'.out) c4).n1
                go_wp2
                go_round
                case rel => exact ⟨x / p, rfl, hx.step (hr.tprime c3'.out) c4⟩
                case measure => simp [intOf]; omega
              · go_wp2
                go_roundw
                case rel => exact ⟨x, p + 1, l ++ [p], rfl, rfl, hown2, hb2, hr.next c1 hx c4 (by rw [if_pos c3'.out]), Or.inr (by rw [show p + 1 - 1 = p from by omega]; omega)⟩
                case measure => simp [intOf]; omega
          · go_wp2
            go_loop [0] (fun v => ∃ x : Int, v = .int .i64 x ∧ M.PIn n' p x) (fun v => (intOf v).toNat)
            case atStart => exact ⟨n', rfl, M.PIn.start n1⟩
            case round =>
              obtain ⟨x, rfl, hx⟩ := hrel
              have x1 := hx.n1
              have xn := hx.nn
              by_cases c4 : x % p = 0
              · have hlt := M.div_lt (n := x) (p := p) (by omega) x1
                have hst := (hx.step (hr.tprime (M.dvd_tr hx.dvd c4)) c4).n1
                go_wp2
                go_round
                case rel => exact ⟨x / p, rfl, hx.step (hr.tprime (M.dvd_tr hx.dvd c4)) c4⟩
                case measure => simp [intOf]; omega
              · go_wp2
                go_roundw
                case rel => exact ⟨x, p + 1, l, rfl, rfl, hown, hb, hr.next c1 hx c4 (by rw [if_neg c3]), Or.inr (by rw [show p + 1 - 1 = p from by omega]; omega)⟩
                case measure => simp [intOf]; omega
      · go_wp2
        go_ret
        exact ⟨_, rfl, by rw [HN.out, ← hr.done (by omega)]; exact hown, hb⟩
theorem mem_primesOf {n x : Int} (h : x ∈ M.primesOf n) : M.Prime x := by
  have := M.mem_sel.1 h
  have h2 := this.2
  unfold M.pdiv at h2
  exact M.prime_iff.1 (Bool.and_eq_true_iff.1 h2).1

theorem squarefree_c (n : Int) (w : World) (h0 : n ≠ 0) (h2 : -1000000000000000000 ≤ n) (h3 : n ≤ 1000000000000000000) :
    Calls Try.prog 88 #[.int .i64 n] w fun e w' => e = .returned (.int .i64 (M.sqfree n)) ∧ Below w.heap.size w w' := by
  have n2 : -4000000000000000000 ≤ n := by omega
  have n3 : n ≤ 4000000000000000000 := by omega
  by_cases hneg : n < 0
  all_goals
    go_enter Try.func88, Try.ntmps88
    go_wp2_with (go_at_call 99; refine (primesOf_c _ _ h0 h2 h3).mono ?_; rintro e w' ⟨v, rfl, hown, hb⟩; obtain ⟨a, cap, rfl, hm, hv⟩ := hown.view)
    go_loop [3, 5, 11] (fun vo _ vi => ∃ k : Nat, k ≤ (M.primesOf n).length ∧ vi = .int .i64 k ∧ vo = .int .i64 (((M.primesOf n).take k).foldl (M.sfStep n) (M.sgn1 n))) (fun _ _ vi => (M.primesOf n).length - (intOf vi).toNat)
    case atStart => exact ⟨0, by omega, rfl, by simp [M.sgn1, hneg]⟩
    case round =>
      obtain ⟨k, hk, rfl, rfl⟩ := hrel
      by_cases hlt : k < (M.primesOf n).length
      · obtain ⟨g, p, rfl, hg, hx, hcell⟩ := hv k hlt
        have hp := (mem_primesOf (List.mem_of_getElem? hx.out)).1
        have hf := Lib.hid (foldl_next (M.sfStep n) (M.sgn1 n) hx.out)
        clear hv
        by_cases ho : M.valn n p % 2 = 1
        · have ho' := Lib.hid ho
          have hnn := (M.valF_nn p n.natAbs n).1
          have hnn : 0 ≤ M.valn n p := hnn
          go_wp2_with (go_at_call 100; refine (valuation_c _ _ _ h0 hp n2 n3).mono ?_; rintro e w' ⟨rfl, rfl⟩)
          go_round
          case rel => exact ⟨k + 1, by omega, by go_num, by rw [hf.out]; rw [M.sfStep_odd ho'.out]⟩
          case measure => simp [intOf]; omega
        · have hnn := (M.valF_nn p n.natAbs n).1
          have hnn : 0 ≤ M.valn n p := hnn
          go_wp2_with (go_at_call 100; refine (valuation_c _ _ _ h0 hp n2 n3).mono ?_; rintro e w' ⟨rfl, rfl⟩)
          go_round
          case rel => exact ⟨k + 1, by omega, by go_num, by rw [hf.out]; rw [M.sfStep_even ho]⟩
          case measure => simp [intOf]; omega
      · obtain rfl : k = (M.primesOf n).length := by omega
        go_wp2
        go_ret
        exact ⟨ret_i rfl, hb⟩

theorem isTwist_c (d : Int) (w : World) :
    Calls Try.prog 80 #[.int .i64 d] w fun e w' => e = .returned (.bool (M.tw d)) ∧ Below w.heap.size w w' := by
  by_cases h0 : d = 0
  · subst h0
    go_enter Try.func80, Try.ntmps80
    go_wp2_with (go_at_call 62; refine (inside_c _ _ _ _).mono ?_; rintro e w' ⟨rfl, rfl⟩)
    go_ret; exact ⟨ret_b (by rfl), (by repeat (first | exact Below.refl _ _ | refine below_alloc ?_ _ | refine below_step ?_ (by assumption) | refine Below.drew ?_ | refine Below.setCell ?_ (by first | exact Nat.le_refl _ | exact Nat.le_add_right _ _ | (simp <;> omega)) _ | refine below_drewN ?_ _))⟩
  · cases hi : M.ins d (-30) 30
    · go_enter Try.func80, Try.ntmps80
      go_wp2_with (go_at_call 62; refine (inside_c _ _ _ _).mono ?_; rintro e w' ⟨rfl, rfl⟩)
      go_ret; exact ⟨ret_b (by simp [M.tw, hi]), (by repeat (first | exact Below.refl _ _ | refine below_alloc ?_ _ | refine below_step ?_ (by assumption) | refine Below.drew ?_ | refine Below.setCell ?_ (by first | exact Nat.le_refl _ | exact Nat.le_add_right _ _ | (simp <;> omega)) _ | refine below_drewN ?_ _))⟩
    · obtain ⟨h1, h2⟩ := M.ins_t hi
      have ht := Lib.hid (M.tw_sqf h0 h1 h2)
      go_enter Try.func80, Try.ntmps80
      go_wp2_with (first | (go_at_call 62; refine (inside_c _ _ _ _).mono ?_; rintro e w' ⟨rfl, rfl⟩) | (go_at_call 88; refine (squarefree_c _ _ h0 (by omega) (by omega)).mono ?_; rintro e w' ⟨rfl, hb⟩; obtain ⟨hc_, hf_, hz_⟩ := bcell hb; (try simp only [World.size_alloc, heap_drew, World.heap_drewN, size_setCell] at hz_)))
      go_ret; exact ⟨ret_b (by rw [ht.out]; simp [h0]), (by repeat (first | exact Below.refl _ _ | refine below_alloc ?_ _ | refine below_step ?_ (by assumption) | refine Below.drew ?_ | refine Below.setCell ?_ (by first | exact Nat.le_refl _ | exact Nat.le_add_right _ _ | (simp <;> omega)) _ | refine below_drewN ?_ _))⟩

theorem twFree_c (d : Int) (w : World) (h0 : d ≠ 0) (h1 : -30 ≤ d) (h2 : d ≤ 30) :
    Calls Try.prog 74 #[.int .i64 d] w fun e w' => e = .returned (.bool (M.tw d)) ∧ w = w' := by
  go_enter Try.func74, Try.ntmps74
  go_wp2
  go_loop [3] (fun v => ∃ k : Nat, 2 ≤ k ∧ k ≤ 6 ∧ v = .int .i64 k ∧ ∀ j : Nat, 2 ≤ j → j < k → ¬ d % ((j : Int) * j) = 0) (fun v => 6 - (intOf v).toNat)
  case atStart => exact ⟨2, by omega, by omega, rfl, fun j h k => by omega⟩
  case round =>
    obtain ⟨k, hk2, hk, rfl, hall⟩ := hrel
    have Hall := Lib.hid hall
    clear hall
    have hkk := M.mul_nn (x := (k : Int)) (y := (k : Int)) (m := 6) (n := 6) (by omega) (by omega) (by omega) (by omega)
    have hkp := M.mul_nn (x := 2) (y := (k : Int)) (m := 2) (n := 6) (by omega) (by omega) (by omega) (by omega)
    have hk1 : 1 ≤ (k : Int) * k := by have := Int.mul_le_mul (show (1 : Int) ≤ k by omega) (show (1 : Int) ≤ k by omega) (by omega) (by omega); omega
    by_cases c1 : (k : Int) * k ≤ d.natAbs
    · have hk6 : (k : Int) < 6 := M.sq_lt (by omega) (by omega)
      by_cases c2 : d % ((k : Int) * k) = 0
      · have e1 := M.tmod_zero.2 c2
        have Hd : Hid (M.tw d = false) := by
          refine Lib.hid ?_
          cases ht : M.tw d
          · rfl
          · exfalso
            have := M.tw_iff.1 ht
            rcases (show k = 2 ∨ k = 3 ∨ k = 4 ∨ k = 5 by omega) with rfl | rfl | rfl | rfl
            · have c3 : d % 4 = 0 := c2
              omega
            · have c3 : d % 9 = 0 := c2
              omega
            · have c3 : d % 16 = 0 := c2
              omega
            · have c3 : d % 25 = 0 := c2
              omega
        clear c2
        go_wp2_with (go_at_call 58; refine (l1Abs_c _ _ (by omega) (by omega)).mono ?_; rintro e w' ⟨rfl, rfl⟩)
        go_ret; exact ⟨ret_b Hd.out.symm, rfl⟩
      · have e1 : ¬ d.tmod ((k : Int) * k) = 0 := fun h => c2 (M.tmod_zero.1 h)
        go_wp2_with (go_at_call 58; refine (l1Abs_c _ _ (by omega) (by omega)).mono ?_; rintro e w' ⟨rfl, rfl⟩)
        go_round
        case rel => exact ⟨k + 1, by omega, by omega, by go_num, fun j h h' => if q : j = k then by rw [q]; exact c2 else Hall.out j h (by omega)⟩
        case measure => simp [intOf]; omega
    · have Hd : Hid (M.tw d = true) := by
        refine Lib.hid (M.tw_iff.2 ⟨h0, h1, h2, ?_, ?_, ?_⟩)
        · by_cases hk2 : 2 < k
          · exact Hall.out 2 (by omega) hk2
          · obtain rfl : k = 2 := by omega
            have c3 : ¬ (4 : Int) ≤ d.natAbs := c1
            omega
        · by_cases hk3 : 3 < k
          · exact Hall.out 3 (by omega) hk3
          · rcases (show k = 2 ∨ k = 3 by omega) with rfl | rfl
            · have c3 : ¬ (4 : Int) ≤ d.natAbs := c1
              omega
            · have c3 : ¬ (9 : Int) ≤ d.natAbs := c1
              omega
        · by_cases hk5 : 5 < k
          · exact Hall.out 5 (by omega) hk5
          · rcases (show k = 2 ∨ k = 3 ∨ k = 4 ∨ k = 5 by omega) with rfl | rfl | rfl | rfl
            · have c3 : ¬ (4 : Int) ≤ d.natAbs := c1
              omega
            · have c3 : ¬ (9 : Int) ≤ d.natAbs := c1
              omega
            · have c3 : ¬ (16 : Int) ≤ d.natAbs := c1
              omega
            · have c3 : ¬ (25 : Int) ≤ d.natAbs := c1
              omega
      go_wp2_with (go_at_call 58; refine (l1Abs_c _ _ (by omega) (by omega)).mono ?_; rintro e w' ⟨rfl, rfl⟩)
      go_ret; exact ⟨ret_b Hd.out.symm, rfl⟩

end Go.Proofs.Ytpemckpnlemkfaa
