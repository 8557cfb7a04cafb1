/-
  Joined texts: contracts and plain laws.
-/
import Derived.Test.YtgkjmjlkhnfbiaaGreatB2
import Derived.Test.YtgkjmjlkhnfbiaaGreatB1
import Derived.Deep.DeepCutAuto
import Derived.Deep.RegionWith
import Derived.BigQuiet
import Derived.Maps.AppendAt
import Derived.OwnWalk
import Derived.Deep.RegionHeld3
namespace Go.Proofs.YtgkjmjlkhnfbiaaGreat
set_option linter.unusedSimpArgs false
set_option linter.unusedVariables false
open Go.RowKit

theorem valuation_c (a p : Int) (w : World) (ha : a ≠ 0) (h1 : 2 ≤ p) (h2 : -4000000000000000000 ≤ a) (h3 : a ≤ 4000000000000000000) :
    Calls Tryz.prog 135 #[.int .i64 a, .int .i64 p] w fun e w' => e = .returned (.int .i64 (M.valn a p)) ∧ w = w' := by
  go_enter Tryz.func135, Tryz.ntmps135
  go_wp2
  go_loop [0, 5] (fun va vn => ∃ x n : Int, ∃ f : Nat, va = .int .i64 x ∧ vn = .int .i64 n ∧ x ≠ 0 ∧ x.natAbs ≤ 4000000000000000000 ∧ x.natAbs ≤ f ∧ f ≤ 4000000000000000000 ∧ 0 ≤ n ∧ n + f ≤ 4000000000000000000 ∧ n + M.valF p f x = M.valn a p) (fun va _ => (intOf va).natAbs)
  case atStart => exact ⟨a, 0, a.natAbs, rfl, rfl, ha, by omega, by omega, by omega, by omega, by omega, by simp [M.valn]⟩
  case round =>
    obtain ⟨x, n, f, rfl, rfl, hx, hx2, hf, hf2, hn, hnf, hv⟩ := hrel
    have Hv := Lib.hid hv
    clear hv
    by_cases hd : x % p = 0
    · have hlt := M.abs_div h1 hx hd
      have e1 := M.tmod_zero.2 hd
      have e2 := M.tdiv_exact (by omega) hd
      have hs := Lib.hid (M.valF_step h1 hx hf hd)
      have hd' := Lib.hid hd
      clear hd
      go_wp2
      go_round
      case rel => exact ⟨x / p, n + 1, f - 1, rfl, rfl, hlt.2, by omega, by omega, by omega, by omega, by omega, by rw [← Hv.out, hs.out]; omega⟩
      case measure => simp [intOf]; omega
    · have e1 : ¬ x.tmod p = 0 := fun h => hd (M.tmod_zero.1 h)
      have hs := Lib.hid (M.valF_stop (f := f) hd)
      go_wp2
      go_ret; exact ⟨ret_i (by rw [← Hv.out, hs.out]; omega), rfl⟩

set_option maxHeartbeats 400000 in
theorem primesOf_c (n : Int) (w : World) (h0 : n ≠ 0) (h2 : -1000000000000000000 ≤ n) (h3 : n ≤ 1000000000000000000) :
    Calls Tryz.prog 124 #[.int .i64 n] w fun e w' => ∃ v, e = .returned v ∧ OwnI w' w.heap.size v (M.primesOf n) ∧ Below w.heap.size w w' := by
  have hN : M.primesOf n = M.primesOf n.natAbs := M.primesOf_abs n
  generalize hNN : (n.natAbs : Int) = N at hN
  have hN1 : 1 ≤ N := by omega
  have hN2 : N ≤ 1000000000000000000 := by omega
  have hmx : max n (-n) = N := by omega
  have Hmx := Lib.hid hmx
  have HNN := Lib.hid hNN
  have HN := Lib.hid hN
  clear hmx hNN hN
  go_enter Tryz.func124, Tryz.ntmps124
  go_wp2
  all_goals
    go_loopw [0, 3, 4] (fun vn vo vp wr => ∃ n' p : Int, ∃ l : List Int, vn = .int .i64 n' ∧ vp = .int .i64 p ∧ OwnI wr w.heap.size vo l ∧ Below w.heap.size w wr ∧ M.PRel N n' p l ∧ (n' = 1 ∨ (p - 1) * (p - 1) ≤ N)) (fun vn _ vp _ => (intOf vn + 1 - intOf vp).toNat)
    case atStart => exact ⟨N, 2, [], by congr 1; have := Hmx.out; omega, rfl, OwnI.nil _ _, Below.refl _ _, M.PRel.start hN1, Or.inr (by omega)⟩
    case round =>
      obtain ⟨n', p, l, rfl, rfl, hown, hb, hr, hq⟩ := hrel
      have n1 := hr.n1
      have p2 := hr.p2
      have nN := hr.nN
      by_cases c1 : 1 < n'
      · have hpn : p ≤ n' := by rcases hr.pn with k | k <;> omega
        have hp9 : p - 1 < 1000000001 := M.sq_lt (by omega) (by rcases hq with k | k <;> omega)
        have hll : l.length ≤ 1000000001 := by rw [hr.out]; have := M.sel_le (M.pdiv N) 0 p.toNat; omega
        have hpp := M.mul_nn (x := p) (y := p) (m := 1000000001) (n := 1000000001) (by omega) (by omega) (by omega) (by omega)
        clear hq
        by_cases c2 : n' < p * p
        · have hj := hr.jump c1 c2
          have hs := Int.emod_self (a := n')
          go_wp2_with (at_builtin; refine push_int w.heap.size n' l _ rfl _ _ rfl rfl rfl hown hb hb.size (by omega) ?_; rintro v2 w2 hown2 hb2)
          go_loop [0] (fun v => ∃ x : Int, v = .int .i64 x ∧ M.PIn n' n' x) (fun v => (intOf v).toNat)
          case atStart => exact ⟨n', rfl, M.PIn.start n1⟩
          case round =>
            obtain ⟨x, rfl, hx⟩ := hrel
            have x1 := hx.n1
            have xn := hx.nn
            by_cases c4 : x % n' = 0
            · have hlt := M.div_lt (n := x) (p := n') (by omega) x1
              have hst := (hx.step (hj.tprime hs) c4).n1
              go_wp2
              go_round
              case rel => exact ⟨x / n', rfl, hx.step (hj.tprime hs) c4⟩
              case measure => simp [intOf]; omega
            · go_wp2
              go_roundw
              case rel => exact ⟨x, n' + 1, l ++ [n'], rfl, rfl, hown2, hb2, hj.next c1 hx c4 (by rw [if_pos hs]), Or.inl (by have := (hj.next c1 hx c4 rfl).pn; have := hx.nn; omega)⟩
              case measure => simp [intOf]; omega
        · by_cases c3 : n' % p = 0
          · have c3' := Lib.hid c3
            go_wp2_with (at_builtin; refine push_int w.heap.size p l _ rfl _ _ rfl rfl rfl hown hb hb.size (by omega) ?_; rintro v2 w2 hown2 hb2)
            go_loop [0] (fun v => ∃ x : Int, v = .int .i64 x ∧ M.PIn n' p x) (fun v => (intOf v).toNat)
            case atStart => exact ⟨n', rfl, M.PIn.start n1⟩
            case round =>
              obtain ⟨x, rfl, hx⟩ := hrel
              have x1 := hx.n1
              have xn := hx.nn
              by_cases c4 : x % p = 0
              · have hlt := M.div_lt (n := x) (p := p) (by omega) x1
                have hst := (hx.step (hr.tprime c3'.out) c4).n1
                go_wp2
                go_round
                case rel => exact ⟨x / p, rfl, hx.step (hr.tprime c3'.out) c4⟩
                case measure => simp [intOf]; omega
              · go_wp2
                go_roundw
                case rel => exact ⟨x, p + 1, l ++ [p], rfl, rfl, hown2, hb2, hr.next c1 hx c4 (by rw [if_pos c3'.out]), Or.inr (by rw [show p + 1 - 1 = p from by omega]; omega)⟩
                case measure => simp [intOf]; omega
          · go_wp2
            go_loop [0] (fun v => ∃ x : Int, v = .int .i64 x ∧ M.PIn n' p x) (fun v => (intOf v).toNat)
            case atStart => exact ⟨n', rfl, M.PIn.start n1⟩
            case round =>
              obtain ⟨x, rfl, hx⟩ := hrel
              have x1 := hx.n1
              have xn := hx.nn
              by_cases c4 : x % p = 0
              · have hlt := M.div_lt (n := x) (p := p) (by omega) x1
                have hst := (hx.step (hr.tprime (M.dvd_tr hx.dvd c4)) c4).n1
                go_wp2
                go_round
                case rel => exact ⟨x / p, rfl, hx.step (hr.tprime (M.dvd_tr hx.dvd c4)) c4⟩
                case measure => simp [intOf]; omega
              · go_wp2
                go_roundw
                case rel => exact ⟨x, p + 1, l, rfl, rfl, hown, hb, hr.next c1 hx c4 (by rw [if_neg c3]), Or.inr (by rw [show p + 1 - 1 = p from by omega]; omega)⟩
                case measure => simp [intOf]; omega
      · go_wp2
        go_ret
        exact ⟨_, rfl, by rw [HN.out, ← hr.done (by omega)]; exact hown, hb⟩
theorem mem_primesOf {n x : Int} (h : x ∈ M.primesOf n) : M.Prime x := by
  have := M.mem_sel.1 h
  have h2 := this.2
  unfold M.pdiv at h2
  exact M.prime_iff.1 (Bool.and_eq_true_iff.1 h2).1

theorem squarefree_c (n : Int) (w : World) (h0 : n ≠ 0) (h2 : -1000000000000000000 ≤ n) (h3 : n ≤ 1000000000000000000) :
    Calls Tryz.prog 104 #[.int .i64 n] w fun e w' => e = .returned (.int .i64 (M.sqfree n)) ∧ Below w.heap.size w w' := by
  have n2 : -4000000000000000000 ≤ n := by omega
  have n3 : n ≤ 4000000000000000000 := by omega
  by_cases hneg : n < 0
  all_goals
    go_enter Tryz.func104, Tryz.ntmps104
    go_wp2_with (go_at_call 124; refine (primesOf_c _ _ h0 h2 h3).mono ?_; rintro e w' ⟨v, rfl, hown, hb⟩; obtain ⟨a, cap, rfl, hm, hv⟩ := hown.view)
    go_loop [3, 5, 11] (fun vo _ vi => ∃ k : Nat, k ≤ (M.primesOf n).length ∧ vi = .int .i64 k ∧ vo = .int .i64 (((M.primesOf n).take k).foldl (M.sfStep n) (M.sgn1 n))) (fun _ _ vi => (M.primesOf n).length - (intOf vi).toNat)
    case atStart => exact ⟨0, by omega, rfl, by simp [M.sgn1, hneg]⟩
    case round =>
      obtain ⟨k, hk, rfl, rfl⟩ := hrel
      by_cases hlt : k < (M.primesOf n).length
      · obtain ⟨g, p, rfl, hg, hx, hcell⟩ := hv k hlt
        have hp := (mem_primesOf (List.mem_of_getElem? hx.out)).1
        have hf := Lib.hid (foldl_next (M.sfStep n) (M.sgn1 n) hx.out)
        clear hv
        by_cases ho : M.valn n p % 2 = 1
        · have ho' := Lib.hid ho
          have hnn := (M.valF_nn p n.natAbs n).1
          have hnn : 0 ≤ M.valn n p := hnn
          go_wp2_with (go_at_call 135; refine (valuation_c _ _ _ h0 hp n2 n3).mono ?_; rintro e w' ⟨rfl, rfl⟩)
          go_round
          case rel => exact ⟨k + 1, by omega, by go_num, by rw [hf.out]; rw [M.sfStep_odd ho'.out]⟩
          case measure => simp [intOf]; omega
        · have hnn := (M.valF_nn p n.natAbs n).1
          have hnn : 0 ≤ M.valn n p := hnn
          go_wp2_with (go_at_call 135; refine (valuation_c _ _ _ h0 hp n2 n3).mono ?_; rintro e w' ⟨rfl, rfl⟩)
          go_round
          case rel => exact ⟨k + 1, by omega, by go_num, by rw [hf.out]; rw [M.sfStep_even ho]⟩
          case measure => simp [intOf]; omega
      · obtain rfl : k = (M.primesOf n).length := by omega
        go_wp2
        go_ret
        exact ⟨ret_i rfl, hb⟩

end Go.Proofs.YtgkjmjlkhnfbiaaGreat

namespace Go.Proofs.YtgkjmjlkhnfbiaaGreat
set_option linter.unusedSimpArgs false
set_option linter.unusedVariables false
open Go.RowKit

/-- both have one invariant -/
def sameInv (a b c d : Int) : Bool := (partN (6912 * a * a * a) (M.disc a b) == partN (6912 * c * c * c) (M.disc c d)) && (partD (6912 * a * a * a) (M.disc a b) == partD (6912 * c * c * c) (M.disc c d))

theorem tdiv_gcd_bd {d e m : Int} (h0 : M.gcd d e ≠ 0) (h1 : -m ≤ d) (h2 : d ≤ m) : -m ≤ d.tdiv (M.gcd d e) ∧ d.tdiv (M.gcd d e) ≤ m := tdiv_bd h1 h2 h0

def prodTw (d e : Int) : Int := d.tdiv (M.gcd d e) * (e.tdiv (M.gcd d e))
def prodOk (d e : Int) : Bool := M.tw d && M.tw e && M.tw (prodTw d e)

end Go.Proofs.YtgkjmjlkhnfbiaaGreat

namespace Go.Proofs.YtgkjmjlkhnfbiaaGreat
set_option linter.unusedSimpArgs false
set_option linter.unusedVariables false
open Go.RowKit

/-- the value of a function that answers with a curve or with nothing -/
def cvOk (ok : Bool) (a b : Int) : Value := .tuple #[.agg #[.int .i64 (if ok then a else 0), .int .i64 (if ok then b else 0)], .bool ok]
theorem cvOk_t (a b : Int) : cvOk true a b = .tuple #[.agg #[.int .i64 a, .int .i64 b], .bool true] := rfl
theorem cvOk_f (a b : Int) : cvOk false a b = .tuple #[.agg #[.int .i64 0, .int .i64 0], .bool false] := rfl

theorem tw_mul_bd {a b d : Int} (hg : M.inCurve a b = true) (h1 : -30 ≤ d) (h2 : d ≤ 30) :
    (-30000 ≤ a * d ∧ a * d ≤ 30000) ∧ (-900000 ≤ a * d * d ∧ a * d * d ≤ 900000) ∧ (-300000 ≤ b * d ∧ b * d ≤ 300000) ∧ (-9000000 ≤ b * d * d ∧ b * d * d ≤ 9000000) ∧ (-270000000 ≤ b * d * d * d ∧ b * d * d * d ≤ 270000000) := by
  obtain ⟨g1, g2, g3, g4⟩ := M.inCurve_bd hg
  have b1 := M.mul_bd (x := a) (y := d) (m := 1000) (n := 30) (by omega) (by omega) (by omega) (by omega)
  have b2 := M.mul_bd (x := a * d) (y := d) (m := 30000) (n := 30) (by omega) (by omega) (by omega) (by omega)
  have b3 := M.mul_bd (x := b) (y := d) (m := 10000) (n := 30) (by omega) (by omega) (by omega) (by omega)
  have b4 := M.mul_bd (x := b * d) (y := d) (m := 300000) (n := 30) (by omega) (by omega) (by omega) (by omega)
  have b5 := M.mul_bd (x := b * d * d) (y := d) (m := 9000000) (n := 30) (by omega) (by omega) (by omega) (by omega)
  refine ⟨⟨?_, ?_⟩, ⟨?_, ?_⟩, ⟨?_, ?_⟩, ⟨?_, ?_⟩, ⟨?_, ?_⟩⟩ <;> omega

/-- TwistCurve: is there one; its parts -/
def twcOk (a b d : Int) : Bool := M.good a b && M.tw d && M.good (a * d * d) (b * d * d * d)

end Go.Proofs.YtgkjmjlkhnfbiaaGreat

namespace Go.Proofs.YtgkjmjlkhnfbiaaGreat
set_option linter.unusedSimpArgs false
set_option linter.unusedVariables false
open Go.RowKit

def utOk (a b d : Int) : Bool := M.good a b && M.tw d && decide (a.tmod (d * d) = 0) && decide (b.tmod (d * d * d) = 0)

theorem ut_good {a b d : Int} (h : M.good a b = true) (h0 : d ≠ 0) (h1 : a.tmod (d * d) = 0) (h2 : b.tmod (d * d * d) = 0) : M.good (a.tdiv (d * d)) (b.tdiv (d * d * d)) = true := by
  have hin := M.inCurve_bd (M.good_in h)
  have e1 : a.tdiv (d * d) * (d * d) = a := by have := Int.tmod_add_tdiv_mul a (d * d); omega
  have e2 : b.tdiv (d * d * d) * (d * d * d) = b := by have := Int.tmod_add_tdiv_mul b (d * d * d); omega
  have hd2 : d * d ≠ 0 := Int.mul_ne_zero h0 h0
  have t1 := tdiv_bd (a := a) (d := d * d) (m := 1000) (by omega) (by omega) hd2
  have t2 := tdiv_bd (a := b) (d := d * d * d) (m := 10000) (by omega) (by omega) (Int.mul_ne_zero hd2 h0)
  generalize a.tdiv (d * d) = x at *
  generalize b.tdiv (d * d * d) = y at *
  have hdisc := M.good_disc h
  have : M.disc a b = (d * d * d * (d * d * d)) * M.disc x y := by
    unfold M.disc
    rw [← e1, ← e2]
    simp only [Int.mul_add]
    congr 1
    · simp only [Int.mul_assoc, Int.mul_comm, Int.mul_left_comm]
    · simp only [Int.mul_assoc, Int.mul_comm, Int.mul_left_comm]
  have hne : M.disc x y ≠ 0 := by
    intro hz
    rw [hz, Int.mul_zero] at this
    exact hdisc this
  simp only [M.good, M.inCurve, Bool.and_eq_true, M.ins_iff, bne_iff_ne]
  exact ⟨⟨t1, t2⟩, hne⟩

end Go.Proofs.YtgkjmjlkhnfbiaaGreat

namespace Go.Proofs.YtgkjmjlkhnfbiaaGreat
set_option linter.unusedSimpArgs false
set_option linter.unusedVariables false
open Go.RowKit

noncomputable def tsOk (d p : Int) : Bool := M.tw d && (M.ins p 3 997 && M.prime p) && decide (¬ d.tmod p = 0)

end Go.Proofs.YtgkjmjlkhnfbiaaGreat

namespace Go.Proofs.YtgkjmjlkhnfbiaaGreat
set_option linter.unusedSimpArgs false
set_option linter.unusedVariables false
namespace M
def order2 (a b e : Int) : Bool := ins e (-200) 200 && root3 a b e
/-- an integer root is small -/
theorem root_small {a b e : Int} (h : inCurve a b = true) (hr : val a b e = 0) : -100 ≤ e ∧ e ≤ 100 := by
  obtain ⟨g1, g2, g3, g4⟩ := inCurve_bd h
  unfold val at hr
  constructor
  · rcases Int.lt_or_le e (-100) with k | k
    · exfalso
      have s : 10201 ≤ e * e := by
        have : 0 ≤ (-101 - e) * (-101 - e) := Int.mul_nonneg (by omega) (by omega)
        simp only [Int.sub_mul, Int.mul_sub] at this
        omega
      have c : e * e * e ≤ 10201 * e := Int.mul_le_mul_of_nonpos_right s (by omega)
      have d : a * e ≤ -1000 * e := Int.mul_le_mul_of_nonpos_right g1 (by omega)
      omega
    · exact k
  · rcases Int.lt_or_le 100 e with k | k
    · exfalso
      have s : 10201 ≤ e * e := by
        have : 101 * 101 ≤ e * e := Int.mul_le_mul (by omega) (by omega) (by omega) (by omega)
        omega
      have c : 10201 * e ≤ e * e * e := Int.mul_le_mul_of_nonneg_right s (by omega)
      have d : -1000 * e ≤ a * e := Int.mul_le_mul_of_nonneg_right g1 (by omega)
      omega
    · exact k
theorem order2_mem {a b e : Int} (h : inCurve a b = true) : decide (e ∈ roots a b) = order2 a b e := by
  rw [Bool.eq_iff_iff]
  simp only [decide_eq_true_eq, roots, mem_sel, order2, Bool.and_eq_true, ins_iff]
  constructor
  · rintro ⟨⟨h1, h2⟩, h3⟩
    exact ⟨by omega, h3⟩
  · rintro ⟨h1, h3⟩
    have := root_small h (by simpa [root3] using h3)
    exact ⟨by omega, h3⟩
/-- the raw neighbour -/
def rawT (a e : Int) : Int := 3 * e * e + a
def rawA (a e : Int) : Int := a - 5 * rawT a e
def rawB (a b e : Int) : Int := b - 7 * e * rawT a e
/-- divided as often as both can be -/
def strip (u4 u6 : Int) : Nat → Int → Int → Int × Int
  | 0, a, b => (a, b)
  | f + 1, a, b => if a % u4 = 0 ∧ b % u6 = 0 ∧ (a ≠ 0 ∨ b ≠ 0) then strip u4 u6 f (a / u4) (b / u6) else (a, b)
theorem strip_go {u4 u6 : Int} {f : Nat} {a b : Int} (hf : a.natAbs + b.natAbs ≤ f) (h : a % u4 = 0) (h' : b % u6 = 0) (hn : a ≠ 0 ∨ b ≠ 0) : strip u4 u6 f a b = strip u4 u6 (f - 1) (a / u4) (b / u6) := by
  cases f with
  | zero => omega
  | succ f => simp [strip, h, h', hn]
theorem strip_stop {u4 u6 : Int} {f : Nat} {a b : Int} (h : ¬ (a % u4 = 0 ∧ b % u6 = 0)) : strip u4 u6 f a b = (a, b) := by
  cases f with
  | zero => rfl
  | succ f => rw [strip, if_neg (fun k => h ⟨k.1, k.2.1⟩)]
theorem abs_div0 {a p : Int} (hp : 2 ≤ p) (h : a % p = 0) : (a / p).natAbs ≤ a.natAbs ∧ (a ≠ 0 → (a / p).natAbs < a.natAbs ∧ a / p ≠ 0) := by
  by_cases ha : a = 0
  · subst ha; simp
  · have := abs_div hp ha h
    exact ⟨by omega, fun _ => this⟩
theorem strip_sum {u4 u6 a b : Int} (h4 : 2 ≤ u4) (h6 : 2 ≤ u6) (h : a % u4 = 0) (h' : b % u6 = 0) (hn : a ≠ 0 ∨ b ≠ 0) :
    (a / u4).natAbs + (b / u6).natAbs < a.natAbs + b.natAbs ∧ (a / u4 ≠ 0 ∨ b / u6 ≠ 0) := by
  have h1 := abs_div0 h4 h
  have h2 := abs_div0 h6 h'
  rcases hn with k | k
  · have := h1.2 k
    exact ⟨by omega, Or.inl this.2⟩
  · have := h2.2 k
    exact ⟨by omega, Or.inr this.2⟩
/-- what is known of the end -/
theorem strip_end {u4 u6 : Int} (h4 : 2 ≤ u4) (h6 : 2 ≤ u6) : ∀ (f : Nat) (a b : Int), a.natAbs + b.natAbs ≤ f → (a ≠ 0 ∨ b ≠ 0) →
    ((strip u4 u6 f a b).1 ≠ 0 ∨ (strip u4 u6 f a b).2 ≠ 0) ∧ ¬ ((strip u4 u6 f a b).1 % u4 = 0 ∧ (strip u4 u6 f a b).2 % u6 = 0) ∧
    (strip u4 u6 f a b).1 ∣ a ∧ (strip u4 u6 f a b).2 ∣ b ∧ (strip u4 u6 f a b).1.natAbs ≤ a.natAbs ∧ (strip u4 u6 f a b).2.natAbs ≤ b.natAbs
  | 0, a, b, hf, hn => by omega
  | f + 1, a, b, hf, hn => by
    by_cases h : a % u4 = 0 ∧ b % u6 = 0
    · rw [strip_go hf h.1 h.2 hn]
      have hs := strip_sum h4 h6 h.1 h.2 hn
      have h1 := abs_div0 h4 h.1
      have h2 := abs_div0 h6 h.2
      obtain ⟨e1, e2, e3, e4, e5, e6⟩ := strip_end h4 h6 f (a / u4) (b / u6) (by omega) hs.2
      refine ⟨e1, e2, Int.dvd_trans e3 ⟨u4, ?_⟩, Int.dvd_trans e4 ⟨u6, ?_⟩, by simp only [Nat.add_sub_cancel]; omega, by simp only [Nat.add_sub_cancel]; omega⟩
      · exact (exact_div (by omega) h.1).symm
      · exact (exact_div (by omega) h.2).symm
    · rw [strip_stop h]
      exact ⟨hn, h, Int.dvd_refl _, Int.dvd_refl _, Nat.le_refl _, Nat.le_refl _⟩
def stripT (u4 u6 : Int) (x : Int × Int) : Int × Int := strip u4 u6 (x.1.natAbs + x.2.natAbs) x.1 x.2
def nb1 (x : Int × Int) : Int × Int := stripT 16 64 x
def nb2 (x : Int × Int) : Int × Int := stripT 81 729 (nb1 x)
def nb3 (x : Int × Int) : Int × Int := stripT 625 15625 (nb2 x)
theorem nb_props {x : Int × Int} (hx : x.1 ≠ 0 ∨ x.2 ≠ 0) :
    ((nb1 x).1 ≠ 0 ∨ (nb1 x).2 ≠ 0) ∧ ((nb2 x).1 ≠ 0 ∨ (nb2 x).2 ≠ 0) ∧ ((nb3 x).1 ≠ 0 ∨ (nb3 x).2 ≠ 0) ∧
    (nb1 x).1.natAbs ≤ x.1.natAbs ∧ (nb1 x).2.natAbs ≤ x.2.natAbs ∧ (nb2 x).1.natAbs ≤ x.1.natAbs ∧ (nb2 x).2.natAbs ≤ x.2.natAbs ∧ (nb3 x).1.natAbs ≤ x.1.natAbs ∧ (nb3 x).2.natAbs ≤ x.2.natAbs ∧
    ¬ ((nb2 x).1 % 256 = 0 ∧ (nb2 x).2 % 4096 = 0) := by
  obtain ⟨a1, a2, a3, a4, a5, a6⟩ := strip_end (u4 := 16) (u6 := 64) (by omega) (by omega) _ x.1 x.2 (Nat.le_refl _) hx
  obtain ⟨b1, b2, b3, b4, b5, b6⟩ := strip_end (u4 := 81) (u6 := 729) (by omega) (by omega) _ (nb1 x).1 (nb1 x).2 (Nat.le_refl _) a1
  obtain ⟨c1, c2, c3, c4, c5, c6⟩ := strip_end (u4 := 625) (u6 := 15625) (by omega) (by omega) _ (nb2 x).1 (nb2 x).2 (Nat.le_refl _) b1
  have a5' : (nb1 x).1.natAbs ≤ x.1.natAbs := a5
  have a6' : (nb1 x).2.natAbs ≤ x.2.natAbs := a6
  have b5' : (nb2 x).1.natAbs ≤ (nb1 x).1.natAbs := b5
  have b6' : (nb2 x).2.natAbs ≤ (nb1 x).2.natAbs := b6
  have c5' : (nb3 x).1.natAbs ≤ (nb2 x).1.natAbs := c5
  have c6' : (nb3 x).2.natAbs ≤ (nb2 x).2.natAbs := c6
  refine ⟨a1, b1, c1, a5', a6', by omega, by omega, by omega, by omega, fun ⟨k1, k2⟩ => a2 ⟨?_, ?_⟩⟩
  · exact Int.emod_eq_zero_of_dvd (Int.dvd_trans (Int.dvd_of_emod_eq_zero (show (nb2 x).1 % 16 = 0 by omega)) b3)
  · exact Int.emod_eq_zero_of_dvd (Int.dvd_trans (Int.dvd_of_emod_eq_zero (show (nb2 x).2 % 64 = 0 by omega)) b4)
/-- the numbers behind k rounds: of the program; of the reference, which tries 4, too -/
def nbI (x : Int × Int) : Nat → Int × Int
  | 0 => x
  | 1 => nb1 x
  | 2 => nb2 x
  | _ => nb3 x
def nbS (x : Int × Int) : Nat → Int × Int
  | 0 => x
  | 1 => nb1 x
  | 2 => nb2 x
  | 3 => nb2 x
  | _ => nb3 x
theorem nb_noop {x : Int × Int} (h : ¬ (x.1 % 256 = 0 ∧ x.2 % 4096 = 0)) : stripT 256 4096 x = x := by
  unfold stripT
  rw [strip_stop h]
/-- the inner loop's relation -/
structure SRel (u4 u6 : Int) (p : Int × Int) (x y : Int) : Prop where
  ne : x ≠ 0 ∨ y ≠ 0
  bx : x.natAbs ≤ p.1.natAbs
  bY : y.natAbs ≤ p.2.natAbs
  st : ∃ f, x.natAbs + y.natAbs ≤ f ∧ strip u4 u6 f x y = stripT u4 u6 p
theorem SRel.start {u4 u6 x y : Int} {p : Int × Int} (hp : (x, y) = p) (h : x ≠ 0 ∨ y ≠ 0) : SRel u4 u6 p x y := by
  subst hp
  exact ⟨h, Nat.le_refl _, Nat.le_refl _, _, Nat.le_refl _, rfl⟩
theorem SRel.step {u4 u6 x y : Int} {p : Int × Int} (h4 : 2 ≤ u4) (h6 : 2 ≤ u6) (h : SRel u4 u6 p x y) (hx : x % u4 = 0) (hy : y % u6 = 0) : SRel u4 u6 p (x / u4) (y / u6) := by
  obtain ⟨f, hf, hs⟩ := h.st
  have hsum := strip_sum h4 h6 hx hy h.ne
  have h1 := (abs_div0 h4 hx).1
  have h2 := (abs_div0 h6 hy).1
  refine ⟨hsum.2, Nat.le_trans h1 h.bx, Nat.le_trans h2 h.bY, f - 1, by omega, ?_⟩
  rw [← strip_go hf hx hy h.ne]
  exact hs
theorem SRel.stop {u4 u6 x y : Int} {p : Int × Int} (h : SRel u4 u6 p x y) (hn : ¬ (x % u4 = 0 ∧ y % u6 = 0)) : (x, y) = stripT u4 u6 p := by
  obtain ⟨f, -, hs⟩ := h.st
  rw [← hs, strip_stop hn]
theorem SRel.less {u4 u6 x y : Int} {p : Int × Int} (h4 : 2 ≤ u4) (h6 : 2 ≤ u6) (h : SRel u4 u6 p x y) (hx : x % u4 = 0) (hy : y % u6 = 0) : (x / u4).natAbs + (y / u6).natAbs < x.natAbs + y.natAbs :=
  (strip_sum h4 h6 hx hy h.ne).1
/-- the raw neighbour of a curve is not 0, 0 -/
theorem raw_ne {a b e : Int} (hg : good a b = true) (hr : val a b e = 0) : rawA a e ≠ 0 ∨ rawB a b e ≠ 0 := by
  by_cases h1 : rawA a e = 0
  · right
    intro h2
    unfold rawA rawT at h1
    unfold rawB rawT at h2
    unfold val at hr
    have e1 : 3 * e * e = 3 * (e * e) := Int.mul_assoc 3 e e
    have ha : 4 * a = -(15 * (e * e)) := by omega
    have hu : 4 * (a * e) = -(15 * (e * e * e)) := by
      rw [← Int.mul_assoc, ha, Int.neg_mul, Int.mul_assoc]
    have e2 : 7 * e * (3 * e * e + a) = 21 * (e * e * e) + 7 * (a * e) := by
      rw [Int.mul_add, e1]
      have f1 : 7 * e * (3 * (e * e)) = 21 * (e * e * e) := by
        rw [show (7 : Int) * e * (3 * (e * e)) = 7 * 3 * (e * (e * e)) from by simp only [Int.mul_assoc, Int.mul_left_comm], ← Int.mul_assoc e e e]
        rfl
      have f2 : 7 * e * a = 7 * (a * e) := by rw [Int.mul_assoc, Int.mul_comm e a]
      omega
    have ht : e * e * e = 0 := by omega
    have he : e = 0 := by
      rcases Int.mul_eq_zero.1 ht with k | k
      · rcases Int.mul_eq_zero.1 k with k | k <;> exact k
      · exact k
    subst he
    have a0 : a = 0 := by omega
    subst a0
    have b0 : b = 0 := by omega
    subst b0
    exact good_disc hg rfl
  · exact Or.inl h1
theorem raw_bd {a b e : Int} (h : inCurve a b = true) (h1 : -200 ≤ e) (h2 : e ≤ 200) :
    (0 ≤ e * e ∧ e * e ≤ 40000) ∧ (-600 ≤ 3 * e ∧ 3 * e ≤ 600) ∧ (-120000 ≤ 3 * e * e ∧ 3 * e * e ≤ 120000) ∧ (-121000 ≤ rawT a e ∧ rawT a e ≤ 121000) ∧ (-169400000 ≤ 7 * e * rawT a e ∧ 7 * e * rawT a e ≤ 169400000) ∧
    (-1000000 ≤ rawA a e ∧ rawA a e ≤ 1000000) ∧ (-170000000 ≤ rawB a b e ∧ rawB a b e ≤ 170000000) := by
  obtain ⟨g1, g2, g3, g4⟩ := inCurve_bd h
  have s := sq_bd (x := e) (m := 200) (by omega) h2
  have b1 := mul_bd (x := 3 * e) (y := e) (m := 600) (n := 200) (by omega) (by omega) (by omega) (by omega)
  have ht : -121000 ≤ rawT a e ∧ rawT a e ≤ 121000 := by unfold rawT; omega
  have b2 := mul_bd (x := 7 * e) (y := rawT a e) (m := 1400) (n := 121000) (by omega) (by omega) (by omega) (by omega)
  refine ⟨by omega, by omega, by omega, ht, by omega, ?_, ?_⟩
  · unfold rawA; omega
  · unfold rawB; omega
end M
end Go.Proofs.YtgkjmjlkhnfbiaaGreat

namespace Go.Proofs.YtgkjmjlkhnfbiaaGreat
set_option linter.unusedSimpArgs false
set_option linter.unusedVariables false
namespace M
/-- good primes from 5 on -/
noncomputable def goods (a b n : Int) : List Int := sel (goodp a b) 5 (n - 4).toNat
theorem mem_goods {a b n p : Int} (h : p ∈ goods a b n) : goodp a b p = true ∧ 5 ≤ p ∧ p ≤ n := by
  have := mem_sel.1 h
  exact ⟨this.2, this.1.1, by have := this.1; omega⟩
/-- powers -/
def ipow (p : Int) : Nat → Int
  | 0 => 1
  | k + 1 => ipow p k * p
theorem ipow_bd {p : Int} (h1 : 0 ≤ p) (h2 : p ≤ 1000) : ∀ k : Nat, 0 ≤ ipow p k ∧ ipow p k ≤ 1000 ^ k
  | 0 => by simp [ipow]
  | k + 1 => by
    obtain ⟨a, b⟩ := ipow_bd h1 h2 k
    have := mul_nn a b h1 h2
    simp only [ipow, Int.pow_succ]
    exact this
theorem ipow_bd4 {p : Int} (h1 : 0 ≤ p) (h2 : p ≤ 1000) {k : Nat} (hk : k ≤ 5) : 0 ≤ ipow p k ∧ ipow p k ≤ 1000000000000000 := by
  have := ipow_bd h1 h2 k
  have e : (1000 : Int) ^ k ≤ 1000000000000000 := by
    rcases (show k = 0 ∨ k = 1 ∨ k = 2 ∨ k = 3 ∨ k = 4 ∨ k = 5 by omega) with rfl | rfl | rfl | rfl | rfl | rfl <;> decide
  omega
/-- the first good prime with different traces, or 0 -/
noncomputable def differ (a b c d p : Int) : Bool := goodp c d p && (trace a b p != trace c d p)
noncomputable def firstD (a b c d n : Int) : Option Int := (goods a b n).find? (differ a b c d)

/-- a list of different numbers below n that is n long is all of them -/
theorem nodup_len : ∀ (n : Nat) (l : List Nat), l.Nodup → (∀ x ∈ l, x < n) → l.length ≤ n
  | 0, l, _, h => by
    cases l with
    | nil => simp
    | cons x l => have := h x List.mem_cons_self; omega
  | n + 1, l, hd, h => by
    have h1 : (l.erase n).Nodup := hd.erase n
    have h2 : ∀ x ∈ l.erase n, x < n := fun x hx => by
      have hxl := List.mem_of_mem_erase hx
      have := h x hxl
      have hne : x ≠ n := fun e => by
        rw [e] at hx
        exact hd.not_mem_erase hx
      omega
    have := nodup_len n (l.erase n) h1 h2
    by_cases hm : n ∈ l
    · rw [List.length_erase_of_mem hm] at this
      omega
    · rw [List.erase_of_not_mem hm] at this
      omega
theorem perm_range : ∀ (n : Nat) (l : List Nat), l.Nodup → (∀ x ∈ l, x < n) → l.length = n → l.Perm (List.range n)
  | 0, l, _, h, hl => by
    have : l = [] := List.eq_nil_of_length_eq_zero hl
    rw [this]
    exact List.Perm.refl _
  | n + 1, l, hd, h, hl => by
    have h1 : (l.erase n).Nodup := hd.erase n
    have h2 : ∀ x ∈ l.erase n, x < n := fun x hx => by
      have hxl := List.mem_of_mem_erase hx
      have := h x hxl
      have hne : x ≠ n := fun e => by
        rw [e] at hx
        exact hd.not_mem_erase hx
      omega
    have hm : n ∈ l := by
      by_cases hm : n ∈ l
      · exact hm
      · exfalso
        rw [List.erase_of_not_mem hm] at h1 h2
        have := nodup_len n l h1 h2
        omega
    have h3 : (l.erase n).length = n := by rw [List.length_erase_of_mem hm]; omega
    have ih := perm_range n (l.erase n) h1 h2 h3
    rw [List.range_succ]
    refine (List.perm_cons_erase hm).trans ?_
    exact (ih.cons n).trans (List.perm_append_singleton n (List.range n)).symm
theorem sumTo_list (f : Int → Int) : ∀ n : Nat, sumTo f n = ((List.range n).map fun x : Nat => f (x : Int)).sum
  | 0 => rfl
  | n + 1 => by
    rw [List.range_succ, List.map_append, List.sum_append, sumTo, sumTo_list f n]
    simp
theorem perm_sum {l l' : List Int} (h : l.Perm l') : l.sum = l'.sum := by
  induction h with
  | nil => rfl
  | cons x _ ih => simp only [List.sum_cons, ih]
  | swap x y l => simp only [List.sum_cons]; omega
  | trans _ _ h1 h2 => exact h1.trans h2
/-- multiplying the residues by a unit permutes them -/
theorem sum_mul {p : Nat} (hp : Prime p) {u : Int} (hu : ¬ u % p = 0) (f : Int → Int) : sumTo (fun x => f (u * x % p)) p = sumTo f p := by
  have hp2 := hp.1
  rw [sumTo_list, sumTo_list]
  have e : (List.range p).map (fun x : Nat => f (u * (x : Int) % p)) = ((List.range p).map fun x : Nat => (u * (x : Int) % p).toNat).map fun x : Nat => f (x : Int) := by
    rw [List.map_map]
    refine List.map_congr_left fun x _ => ?_
    have := mod_bd (a := u * (x : Int)) (p := (p : Int)) (by omega)
    simp only [Function.comp]
    rw [Int.toNat_of_nonneg this.1]
  rw [e]
  refine perm_sum (List.Perm.map _ (perm_range p _ ?_ ?_ (by simp)))
  · refine List.nodup_iff_pairwise_ne.2 ?_
    rw [List.pairwise_map]
    refine List.Pairwise.imp_of_mem ?_ (List.nodup_iff_pairwise_ne.1 List.nodup_range)
    intro x y hx hy hne he
    have hx := List.mem_range.1 hx
    have hy := List.mem_range.1 hy
    have b1 := mod_bd (a := u * (x : Int)) (p := (p : Int)) (by omega)
    have b2 := mod_bd (a := u * (y : Int)) (p := (p : Int)) (by omega)
    have he' : u * (x : Int) % p = u * (y : Int) % p := by omega
    have hd : (u * ((x : Int) - y)) % p = 0 := by
      rw [Int.mul_sub]
      exact Int.emod_eq_emod_iff_emod_sub_eq_zero.1 he'
    have := prime_mul hp hd hu
    have hdv := Int.dvd_of_emod_eq_zero this
    obtain ⟨c, hc⟩ := hdv
    rcases Int.lt_trichotomy c 0 with k | k | k
    · have : (p : Int) * c ≤ p * (-1) := Int.mul_le_mul_of_nonneg_left (by omega) (by omega)
      omega
    · rw [k] at hc; omega
    · have : (p : Int) * 1 ≤ p * c := Int.mul_le_mul_of_nonneg_left (by omega) (by omega)
      omega
  · intro x hx
    obtain ⟨y, _, rfl⟩ := List.mem_map.1 hx
    have := mod_bd (a := u * (y : Int)) (p := (p : Int)) (by omega)
    omega
end M
end Go.Proofs.YtgkjmjlkhnfbiaaGreat

namespace Go.Proofs.YtgkjmjlkhnfbiaaGreat
set_option linter.unusedSimpArgs false
set_option linter.unusedVariables false
open Go.RowKit

end Go.Proofs.YtgkjmjlkhnfbiaaGreat

namespace Go.Proofs.YtgkjmjlkhnfbiaaGreat
set_option linter.unusedSimpArgs false
set_option linter.unusedVariables false
open Go.RowKit

noncomputable def trOk (a b p : Int) : Bool := M.good a b && M.goodp a b p

end Go.Proofs.YtgkjmjlkhnfbiaaGreat

namespace Go.Proofs.YtgkjmjlkhnfbiaaGreat
set_option linter.unusedSimpArgs false
set_option linter.unusedVariables false
open Go.RowKit

theorem goodp_trace {a b p : Int} (hp : M.goodp a b p = true) : -1000 ≤ M.trace a b p ∧ M.trace a b p ≤ 1000 ∧ 0 ≤ p ∧ p ≤ 1000 := by
  obtain ⟨p1, p2, -⟩ := M.goodp_bd hp
  have := M.trace_bd a b (p := p) (by omega)
  omega

/-- the trace over the field with p^k elements, k from 1 on -/
def trp (t p k : Int) : Int := (M.tpw t p (k - 1).toNat).2

noncomputable def tfOk (a b p k : Int) : Bool := M.good a b && M.goodp a b p && M.ins k 1 4

end Go.Proofs.YtgkjmjlkhnfbiaaGreat

namespace Go.Proofs.YtgkjmjlkhnfbiaaGreat
set_option linter.unusedSimpArgs false
set_option linter.unusedVariables false
open Go.RowKit

theorem intPower_c (p k : Int) (w : World) (p1 : 0 ≤ p) (p2 : p ≤ 1000) (k1 : 0 ≤ k) (k2 : k ≤ 5) :
    Calls Tryz.prog 149 #[.int .i64 p, .int .i64 k] w fun e w' => e = .returned (.int .i64 (M.ipow p k.toNat)) ∧ w = w' := by
  go_enter Tryz.func149, Tryz.ntmps149
  go_wp2
  go_loop [5, 7] (fun vo vi => ∃ j : Nat, (j : Int) ≤ k ∧ vi = .int .i64 j ∧ vo = .int .i64 (M.ipow p j)) (fun _ vi => (k - intOf vi).toNat)
  case atStart => exact ⟨0, by omega, rfl, rfl⟩
  case round =>
    obtain ⟨j, hj, rfl, rfl⟩ := hrel
    by_cases hlt : (j : Int) < k
    · have hb := M.ipow_bd4 p1 p2 (k := j) (by omega)
      have hm := M.mul_nn hb.1 hb.2 p1 p2
      go_wp2
      go_round
      case rel => exact ⟨j + 1, by omega, by go_num, rfl⟩
      case measure => simp [intOf]; omega
    · have hjk : k.toNat = j := by omega
      have hjk := Lib.hid hjk
      go_wp2
      go_ret
      exact ⟨ret_i (by first | rfl | rw [hjk.out]), rfl⟩

theorem loPower_c (p k : Int) (w : World) (p1 : 0 ≤ p) (p2 : p ≤ 1000) (k1 : 0 ≤ k) (k2 : k ≤ 5) :
    Calls Tryz.prog 179 #[.int .i64 p, .int .i64 k] w fun e w' => e = .returned (.int .i64 (M.ipow p k.toNat)) ∧ w = w' := by
  go_enter Tryz.func179, Tryz.ntmps179
  go_wp2
  go_loop [1, 5] (fun vi vo => ∃ j : Nat, (j : Int) ≤ k ∧ vi = .int .i64 (k - j) ∧ vo = .int .i64 (M.ipow p j)) (fun vi _ => (intOf vi).toNat)
  case atStart => exact ⟨0, by omega, by simp, rfl⟩
  case round =>
    obtain ⟨j, hj, rfl, rfl⟩ := hrel
    by_cases hlt : 0 < k - (j : Int)
    · have hb := M.ipow_bd4 p1 p2 (k := j) (by omega)
      have hm := M.mul_nn hb.1 hb.2 p1 p2
      go_wp2
      go_round
      case rel => exact ⟨j + 1, by omega, by congr 1; omega, rfl⟩
      case measure => simp [intOf]; omega
    · have hjk : k.toNat = j := by omega
      have hjk := Lib.hid hjk
      go_wp2
      go_ret
      exact ⟨ret_i (by first | rfl | rw [hjk.out]), rfl⟩

def cntOver (t p k : Int) : Int := M.ipow p k.toNat + 1 - trp t p k
theorem trp_bd {t p k : Int} (h1 : -1000 ≤ t) (h2 : t ≤ 1000) (h3 : 0 ≤ p) (h4 : p ≤ 1000) (k1 : 1 ≤ k) (k2 : k ≤ 4) : -8000000000000 ≤ trp t p k ∧ trp t p k ≤ 8000000000000 := by
  have := M.tpw_bd4 h1 h2 h3 h4 (k := (k - 1).toNat) (by omega)
  exact this.2.2

end Go.Proofs.YtgkjmjlkhnfbiaaGreat

namespace Go.Proofs.YtgkjmjlkhnfbiaaGreat
set_option linter.unusedSimpArgs false
set_option linter.unusedVariables false
open Go.RowKit

end Go.Proofs.YtgkjmjlkhnfbiaaGreat

namespace Go.Proofs.YtgkjmjlkhnfbiaaGreat
set_option linter.unusedSimpArgs false
set_option linter.unusedVariables false
open Go.RowKit

noncomputable def fitOk (a b p : Int) : Bool := (M.good a b && M.goodp a b p) && decide (p ≤ 199)

noncomputable def tcOk (a b d p : Int) : Bool := fitOk a b p && M.tw d && decide (¬ d.tmod p = 0) && M.good (a * d * d) (b * d * d * d)
noncomputable def tcVal (a b d p : Int) : Value := .tuple #[.int .i64 (M.pick (tcOk a b d p) (M.count a b p)), .int .i64 (M.pick (tcOk a b d p) (M.count (a * d * d) (b * d * d * d) p)), .bool (tcOk a b d p)]

end Go.Proofs.YtgkjmjlkhnfbiaaGreat

namespace Go.Proofs.YtgkjmjlkhnfbiaaGreat
set_option linter.unusedSimpArgs false
set_option linter.unusedVariables false
open Go.RowKit

noncomputable def frOk (n d : Int) : Bool := M.ins d 1 1000000000 && M.ins n (-1000000000) 1000000000 && (M.gcd n d == 1)

theorem quiet_l {P : Program} {f : FuncId} {args : Array Value} {w : World} {n : Nat} {v : Value} (h : Calls P f args (w.drewN n) fun e w' => e = .returned v ∧ w.drewN n = w') :
    Calls P f args (w.drewN n) fun e w'' => e = .returned v ∧ ∃ m, w'' = w.drewN m := h.mono fun _ _ ⟨he, hm⟩ => ⟨he, n, hm.symm⟩
theorem quiet_al {P : Program} {f : FuncId} {args : Array Value} {w : World} {a n : Nat} {v : Value} (h : Calls P f args (w.drewN (a + n)) fun e w' => e = .returned v ∧ w.drewN (a + n) = w') :
    Calls P f args (w.drewN (a + n)) fun e w'' => e = .returned v ∧ ∃ m, w'' = w.drewN (a + m) := h.mono fun _ _ ⟨he, hm⟩ => ⟨he, n, hm.symm⟩

end Go.Proofs.YtgkjmjlkhnfbiaaGreat

namespace Go.Proofs.YtgkjmjlkhnfbiaaGreat
set_option linter.unusedSimpArgs false
set_option linter.unusedVariables false
open Go.RowKit

/-- a quotient in lowest terms, or nothing -/
noncomputable def frq (n d : Int) : Bool := frOk (partN n d) (partD n d)

theorem bgCommonAbs_c (a b : Int) (w : World) (h1 : -4000000000000000000 ≤ a) (h2 : a ≤ 4000000000000000000) (h3 : -4000000000000000000 ≤ b) (h4 : b ≤ 4000000000000000000) :
    Calls Tryz.prog 138 #[.int .i64 (a.natAbs : Int), .int .i64 (b.natAbs : Int)] w fun e w' => e = .returned (.int .i64 (M.gcd a b)) ∧ w = w' := by
  rw [show M.gcd a b = M.gcd a.natAbs b.natAbs from by simp [M.gcd, Int.gcd]]
  exact bgCommon_c _ _ _ (by omega) (by omega) (by omega) (by omega)

end Go.Proofs.YtgkjmjlkhnfbiaaGreat

namespace Go.Proofs.YtgkjmjlkhnfbiaaGreat
set_option linter.unusedSimpArgs false
set_option linter.unusedVariables false
open Go.RowKit

theorem OwnI.lit0 (w : World) (base : Nat) (hb : base ≤ w.heap.size) : OwnI (w.alloc (.cells #[] 3)) base (.slice (some ⟨w.heap.size, 0, none⟩) 0 0) [] :=
  World.ownsRow_made w #[] 0 hb (by unfold maxLen; omega) rfl

theorem OwnI.lt {w : World} {base : Nat} {v : Value} {xs : List Int} (h : OwnI w base v xs) : ∀ k, v.ownBlock = some k → base ≤ k ∧ k < w.heap.size := World.ownsRow.lt h
theorem OwnI.alloc {w : World} {base : Nat} {v : Value} {xs : List Int} (h : OwnI w base v xs) (o : Obj) : OwnI (w.alloc o) base v xs := World.ownsRow.alloc h o
theorem OwnI.forms {w : World} {base : Nat} {v : Value} {xs : List Int} (h : OwnI w base v xs) : (v = .slice none 0 0 ∧ xs = []) ∨ ∃ g cap, v = .slice (some ⟨g, 0, none⟩) xs.length cap ∧ base ≤ g := by
  rcases h.2 with ⟨e, h2⟩ | ⟨g, cap', cur, e, hg, -⟩
  · exact Or.inl ⟨e, List.eq_nil_of_length_eq_zero h2⟩
  · exact Or.inr ⟨g, cap', e, hg⟩
theorem OwnI.cap {w : World} {base : Nat} {a : Option Addr} {n cap : Nat} {xs : List Int} (h : OwnI w base (.slice a n cap) xs) : xs.length ≤ cap ∧ cap ≤ 9223372036854775807 := by
  rcases h.2 with ⟨e, h2⟩ | ⟨g, cap', cur, e, -, -, h3, h4, -⟩
  · injection e with e1 e2 e3
    exact ⟨by omega, by omega⟩
  · injection e with e1 e2 e3
    unfold maxLen at h4
    exact ⟨by omega, by omega⟩

theorem run_append_of_nil {P : Program} (w : World) (base : Nat) (t ty e : TypeId) (i : TypeInfo) (size : Nat) (ht : P.underlying t = some (.slice e)) (hi : P.info? e = some i)
    (v : Value) (n : Nat) (xs : List Value) (hown : w.ownsRow base e size v n xs) (c : Nat) : (Builtin.append_ #[t, t] ty #[v, .slice none 0 c]).run P w = .ok v w := by
  rcases hown.2 with ⟨rfl, rfl⟩ | ⟨g, cap, cur, rfl, _, _, hnc, _⟩
  · simp [Builtin.append_, run_underlying ht, sizeOf, typeInfo, hi, Builtin.lenOf, Builtin.firstCells]
  · simp [Builtin.append_, run_underlying ht, sizeOf, typeInfo, hi, Builtin.lenOf, Builtin.firstCells, hnc, storeCells]

/-- 'append(out, src...)': some numbers that are read from A on -/
theorem run_push_seg {w W : World} (base : Nat) (ty : TypeId) (ys xs : List Int) (v : Value) (A : Option Addr) (c : Nat)
    (hr : ∀ j y, ys[j]? = some y → ∃ ad, A = some ad ∧ w.cell? (ad.add j) = some (.int .i64 y)) (hown : OwnI w base v xs) (hW : Below base W w) (hB : base ≤ w.heap.size) (hl : xs.length + ys.length ≤ 10000000000) :
    ∃ v' w', (Builtin.append_ #[28, 28] ty #[v, .slice A ys.length c]).run Tryz.prog w = .ok v' w' ∧ OwnI w' base v' (xs ++ ys) ∧ Below base W w' := by
  obtain ⟨i0, hi, hz0, hz1, hz2⟩ := info_parts info_int
  cases A with
  | none =>
    have he : ys = [] := by
      cases ys with
      | nil => rfl
      | cons y ys => obtain ⟨ad, h, -⟩ := hr 0 y rfl; cases h
    subst he
    exact ⟨v, w, run_append_of_nil w base _ _ _ i0 1 Tryz.underlying28 hi _ _ _ hown c, by simpa using hown, hW⟩
  | some ad =>
    obtain ⟨v', w', h1, h2, h3, -, -⟩ := run_append_own_at (P := Tryz.prog) w base 28 ty 3 i0 (.int .i64 0) 1 8 Tryz.underlying28 hi hz0 hz1 hz2 rfl (by decide) v xs.length (xs.map (Value.int .i64)) hown ad ys.length c (ys.map (Value.int .i64))
      (by simp) (fun j u hu => by
        rw [List.getElem?_map] at hu
        cases hy : ys[j]? with
        | none => rw [hy] at hu; cases hu
        | some y =>
          rw [hy] at hu
          obtain ⟨ad', h1, h2⟩ := hr j y hy
          obtain rfl := Option.some.inj h1
          obtain rfl := Option.some.inj hu
          exact h2) (fun u hu => by
        obtain ⟨y, -, rfl⟩ := List.mem_map.1 hu
        rfl) (by unfold maxLen; omega) (by omega) hB
    refine ⟨v', w', h1, ?_, hW.grown h3 hB fun k hk => (hown.lt k hk).1⟩
    unfold OwnI
    rw [List.map_append, List.length_append]
    exact h2

theorem push_seg {ops : Array Oper} {rest : List Oper} {o : Oper} {a : Act} {Q : Exit → Act → World → Prop} {w W : World} (base : Nat) (ys xs : List Int) (v : Value) (A : Option Addr) (m c : Nat) (hm : ys.length = m) (hgd : o.guard = none) (s x : Operand)
    (ho : o.op = .call { callee := .builtin .append, args := #[s, x], argTypes := #[28, 28] }) (hs : a.eval s = v) (hx : a.eval x = .slice A m c)
    (hr : ∀ j y, ys[j]? = some y → ∃ ad, A = some ad ∧ w.cell? (ad.add j) = some (.int .i64 y)) (hown : OwnI w base v xs) (hW : Below base W w) (hB : base ≤ w.heap.size) (hl : xs.length + ys.length ≤ 10000000000)
    (h : ∀ v' w', OwnI w' base v' (xs ++ ys) → Below base W w' → wpList Tryz.prog ops Q rest (a.put o.dst v') w') :
    wpList Tryz.prog ops Q (o :: rest) a w := by
  subst hm
  refine wpList_plain hgd fun _ hK => ?_
  obtain ⟨v', w', h1, h2, h3⟩ := run_push_seg (w := w) (W := W) base o.type ys xs v A c hr hown hW hB hl
  unfold Oper.wp execOp
  simp only [ho, resolve, invoke, builtin, Sem.run_bind, Sem.run_pure, Result.andThen_ok, List.map_toArray, List.map_cons, List.map_nil, hs, hx, h1]
  exact hK _ _ (h v' w' h2 h3)

/-- 'out = append(out, y)' behind other new blocks -/
theorem push_intH {ops : Array Oper} {rest : List Oper} {o : Oper} {a : Act} {Q : Exit → Act → World → Prop} {w W : World} (base : Nat) (y : Int) (xs : List Int) (v : Value) (H : Nat) (hH : w.heap.size = H) (hgd : o.guard = none) (s x : Operand)
    (ho : o.op = .call { callee := .builtin .append, args := #[s, x], argTypes := #[28, 28] }) (hs : a.eval s = v) (hx : a.eval x = .slice (some ⟨H, 0, none⟩) 1 1)
    (hown : OwnI w base v xs) (hW : Below base W w) (hB : base ≤ w.heap.size) (hl : xs.length ≤ 10000000000)
    (h : ∀ v' w', OwnI w' base v' (xs ++ [y]) → Below base W w' → wpList Tryz.prog ops Q rest (a.put o.dst v') w') :
    wpList Tryz.prog ops Q (o :: rest) a (w.alloc (.cells #[.int .i64 y] 3)) := by
  subst hH
  exact push_int base y xs v hgd s x ho hs hx hown hW hB hl h
end Go.Proofs.YtgkjmjlkhnfbiaaGreat

namespace Go.Proofs.YtgkjmjlkhnfbiaaGreat
set_option linter.unusedSimpArgs false
set_option linter.unusedVariables false
open Go.RowKit

theorem info_ints : (Tryz.prog.info? 28).map (fun i => (i.zero, i.size, i.bytes)) = some (some (.slice none 0 0), 1, 24) := by kernel_rfl
theorem ints_ne_int : (28 : TypeId) ≠ 3 := by decide

theorem OwnI.kept {w w' : World} {base : Nat} {v : Value} {xs : List Int} {r : Option Nat} (h : OwnI w base v xs) (hg : w.grownBy w' r) (hr : ∀ g, r = some g → v.ownBlock ≠ some g) : OwnI w' base v xs := by
  refine World.ownsRow.kept h hg ?_
  cases r with
  | none =>
    cases hv : v.ownBlock
    · exact Or.inl rfl
    · exact Or.inr (by simp)
  | some g => exact Or.inr (hr g rfl)
theorem own_ne {w : World} {b1 b2 n1 n2 s1 s2 : Nat} {t1 t2 : TypeId} {v1 v2 : Value} {x1 x2 : List Value} (h1 : w.ownsRow b1 t1 s1 v1 n1 x1) (h2 : w.ownsRow b2 t2 s2 v2 n2 x2) (ht : t1 ≠ t2) : ∀ g, v2.ownBlock = some g → v1.ownBlock ≠ some g := by
  intro g hg hg'
  rcases h1.2 with ⟨rfl, -⟩ | ⟨g1, c1, cur1, rfl, -, hh1, -⟩
  · cases hg'
  · rcases h2.2 with ⟨rfl, -⟩ | ⟨g2, c2, cur2, rfl, -, hh2, -⟩
    · cases hg
    · simp only [Value.ownBlock, Option.some.injEq] at hg hg'
      subst hg hg'
      rw [hh1] at hh2
      injection hh2 with hh2
      injection hh2 with _ ht' _
      exact ht ht'

/-- a slice of slices of numbers, its elements vs: all its blocks lie from base on, no two are one -/
def OwnV (w : World) (base : Nat) (v : Value) (vs : List Value) (rows : List (List Int)) : Prop :=
  w.ownsRow base 28 1 v rows.length vs ∧ vs.length = rows.length ∧ (∀ (i : Nat) (u : Value) (r : List Int), vs[i]? = some u → rows[i]? = some r → OwnI w base u r) ∧
    vs.Pairwise (fun u u' => ∀ g, u.ownBlock = some g → u'.ownBlock ≠ some g)
theorem OwnV.nil (w : World) (base : Nat) : OwnV w base (.slice none 0 0) [] [] := ⟨World.ownsRow_nil w base _ 1, rfl, fun i u r h => by simp at h, List.Pairwise.nil⟩
theorem OwnV.base {w : World} {base base' : Nat} {v : Value} {vs : List Value} {rows : List (List Int)} (h : OwnV w base v vs rows) (hb : base' ≤ base) : OwnV w base' v vs rows := by
  obtain ⟨h1, h2, h3, h4⟩ := h
  refine ⟨?_, h2, fun i u r hu hr => (h3 i u r hu hr).base hb, h4⟩
  obtain ⟨a1, a2⟩ := h1
  refine ⟨a1, ?_⟩
  rcases a2 with a2 | ⟨g, cap, cur, hv, hg, hh, r⟩
  · exact Or.inl a2
  · exact Or.inr ⟨g, cap, cur, hv, Nat.le_trans hb hg, hh, r⟩
theorem OwnV.below {w w' : World} {base : Nat} {v : Value} {vs : List Value} {rows : List (List Int)} (h : OwnV w base v vs rows) (hb : Below w.heap.size w w') : OwnV w' base v vs rows := by
  obtain ⟨h1, h2, h3, h4⟩ := h
  exact ⟨World.ownsRow.kept h1 (below_grown hb none) (by cases v.ownBlock <;> simp), h2, fun i u r hu hr => (h3 i u r hu hr).below hb, h4⟩
theorem OwnV.alloc {w : World} {base : Nat} {v : Value} {vs : List Value} {rows : List (List Int)} (h : OwnV w base v vs rows) (o : Obj) : OwnV (w.alloc o) base v vs rows :=
  h.below ((Below.refl _ _).alloc (Nat.le_refl _) _)
theorem OwnV.lt {w : World} {base : Nat} {v : Value} {vs : List Value} {rows : List (List Int)} (h : OwnV w base v vs rows) : ∀ z ∈ vs, ∀ g, z.ownBlock = some g → base ≤ g ∧ g < w.heap.size := by
  obtain ⟨h1, h2, h3, h4⟩ := h
  intro z hz g hg
  obtain ⟨i, hi⟩ := List.getElem?_of_mem hz
  have hil := (List.getElem?_eq_some_iff.1 hi).1
  exact World.ownsRow.lt (h3 i z _ hi (List.getElem?_eq_getElem (by omega))) g hg

theorem one_cell_slice {v : Value} {w : World} {base : Nat} {xs : List Int} (h : OwnI w base v xs) : v.oneCell' = true := by
  rcases h.2 with ⟨rfl, -⟩ | ⟨g, cap, cur, rfl, -⟩ <;> rfl

/-- 'out = append(out, row)', the row in a block of its own -/
theorem push_row {ops : Array Oper} {rest : List Oper} {o : Oper} {a : Act} {Q : Exit → Act → World → Prop} {w W : World} (base : Nat) (u : Value) (r : List Int) (vs : List Value) (rows : List (List Int)) (v : Value) (H : Nat) (hH : w.heap.size = H) (hgd : o.guard = none) (s x : Operand)
    (ho : o.op = .call { callee := .builtin .append, args := #[s, x], argTypes := #[88, 88] }) (hs : a.eval s = v) (hx : a.eval x = .slice (some ⟨H, 0, none⟩) 1 1)
    (hown : OwnV w base v vs rows) (hu : OwnI w base u r) (hnew : ∀ g, u.ownBlock = some g → ∀ z ∈ vs, z.ownBlock ≠ some g)
    (hW : Below base W w) (hB : base ≤ w.heap.size) (hl : rows.length ≤ 1000000000)
    (h : ∀ v' w', OwnV w' base v' (vs ++ [u]) (rows ++ [r]) → Below base W w' → wpList Tryz.prog ops Q rest (a.put o.dst v') w') :
    wpList Tryz.prog ops Q (o :: rest) a (w.alloc (.cells #[u] 28)) := by
  subst hH
  obtain ⟨i0, hi, hz0, hz1, hz2⟩ := info_parts info_ints
  obtain ⟨h1, h2, h3, h4⟩ := hown
  refine wpList_append_own _ hgd s x 88 ho base 28 i0 (.slice none 0 0) 1 24 Tryz.underlying88 hi hz0 hz1 hz2 rfl (by decide) v rows.length vs hs (h1.alloc _) ⟨w.heap.size, 0, none⟩ 1 1 [u] hx rfl (fun j z hz => by
    have hadd : (⟨w.heap.size, 0, none⟩ : Addr).add j = ⟨w.heap.size, j, none⟩ := by unfold Addr.add; split <;> simp_all
    rw [hadd, World.cell?_alloc_at _ _ _ _ rfl]
    simpa using hz) (fun z hz => by simp only [List.mem_singleton] at hz; subst hz; exact one_cell_slice hu) ?_ ?_ ?_ ?_
  · unfold maxLen; omega
  · omega
  · simp; omega
  · intro v' w' k1 k2 _
    refine h v' w' ⟨by rw [List.length_append]; exact k1, by rw [List.length_append, List.length_append, h2]; rfl, ?_, ?_⟩ ((hW.alloc hB _).grown k2 (by simp; omega) fun k hk => (h1.lt k hk).1)
    · have hal : ∀ {z : Value} {q : List Int}, OwnI w base z q → OwnI w' base z q := by
        intro z q hz
        have hz' : OwnI (w.alloc (.cells #[u] 28)) base z q := World.ownsRow.alloc hz _
        refine hz'.kept k2 fun g hg => ?_
        exact own_ne (t1 := 3) (t2 := 28) hz' (World.ownsRow.alloc h1 _) (Ne.symm ints_ne_int) g hg
      intro i z q hz hq
      by_cases hlt : i < vs.length
      · rw [List.getElem?_append_left hlt] at hz
        rw [List.getElem?_append_left (by omega)] at hq
        exact hal (h3 i z q hz hq)
      · rw [List.getElem?_append_right (by omega)] at hz
        rw [List.getElem?_append_right (by omega), ← h2] at hq
        have hi0 : i - vs.length = 0 := by
          rcases Nat.eq_zero_or_pos (i - vs.length) with e | e
          · exact e
          · rw [List.getElem?_eq_none (by simp; omega)] at hz; cases hz
        rw [hi0] at hz hq
        simp only [List.getElem?_cons_zero, Option.some.injEq] at hz hq
        subst hz hq
        exact hal hu
    · rw [List.pairwise_append]
      refine ⟨h4, by simp, fun z hz z' hz' g hg hg' => ?_⟩
      simp only [List.mem_singleton] at hz'
      subst hz'
      exact hnew g hg' z hz hg

/-- how such a slice is read -/
theorem OwnV.view {w : World} {base : Nat} {v : Value} {vs : List Value} {rows : List (List Int)} (h : OwnV w base v vs rows) : ∃ (a : Option Addr) (cap : Nat), v = .slice a rows.length cap ∧ (rows.length : Int) ≤ 9223372036854775807 ∧
    ∀ k, k < rows.length → ∃ g u r, a = some ⟨g, 0, none⟩ ∧ g < w.heap.size ∧ Hid (rows[k]? = some r) ∧ Hid (vs[k]? = some u) ∧ w.cell? ⟨g, k, none⟩ = some u ∧ OwnI w base u r := by
  obtain ⟨⟨h1, h2⟩, h3, h4, h5⟩ := h
  rcases h2 with ⟨rfl, hn⟩ | ⟨g, cap, cur, rfl, hg, hh, hc, hm, hs, ht⟩
  · exact ⟨none, 0, by rw [hn], by omega, fun k hk => by omega⟩
  · refine ⟨some ⟨g, 0, none⟩, cap, rfl, by unfold maxLen at hm; omega, fun k hk => ⟨g, vs[k]'(by omega), rows[k], rfl, (Array.getElem?_eq_some_iff.1 hh).1, List.getElem?_eq_getElem hk, List.getElem?_eq_getElem (by omega), ?_, h4 k _ _ (List.getElem?_eq_getElem (by omega)) (List.getElem?_eq_getElem hk)⟩⟩
    rw [cell_of_row w g k cur _ (0, 0) hh]
    have e : vs[k]? = some (vs[k]'(by omega)) := List.getElem?_eq_getElem (by omega)
    generalize vs[k]'(by omega) = q at e ⊢
    rw [← ht, List.getElem?_take] at e
    split at e
    · simpa using e
    · cases e
/-- a slice of slices that can be read -/
def SeenII (w : World) (hi : Nat) (v : Value) (rows : List (List Int)) : Prop :=
  ∃ (a : Option Addr) (cap : Nat), v = .slice a rows.length cap ∧ (rows.length : Int) ≤ 9223372036854775807 ∧
    ∀ k, k < rows.length → ∃ g u r, a = some ⟨g, 0, none⟩ ∧ g < hi ∧ Hid (rows[k]? = some r) ∧ w.cell? ⟨g, k, none⟩ = some u ∧ SeenI w hi u r
theorem SeenII.below {w w' : World} {hi : Nat} {v : Value} {rows : List (List Int)} (h : SeenII w hi v rows) (hb : Below hi w w') : SeenII w' hi v rows := by
  obtain ⟨a, cap, h1, h2, h3⟩ := h
  refine ⟨a, cap, h1, h2, fun k hk => ?_⟩
  obtain ⟨g, u, r, e1, e2, e3, e4, e5⟩ := h3 k hk
  exact ⟨g, u, r, e1, e2, e3, (hb.cell (p := ⟨g, k, none⟩) e2).trans e4, e5.below hb⟩
theorem OwnV.seen {w : World} {base : Nat} {v : Value} {vs : List Value} {rows : List (List Int)} (h : OwnV w base v vs rows) : SeenII w w.heap.size v rows := by
  obtain ⟨a, cap, h1, h2, h3⟩ := h.view
  refine ⟨a, cap, h1, h2, fun k hk => ?_⟩
  obtain ⟨g, u, r, e1, e2, e3, -, e4, e5⟩ := h3 k hk
  exact ⟨g, u, r, e1, e2, e3, e4, e5.seen⟩

end Go.Proofs.YtgkjmjlkhnfbiaaGreat
