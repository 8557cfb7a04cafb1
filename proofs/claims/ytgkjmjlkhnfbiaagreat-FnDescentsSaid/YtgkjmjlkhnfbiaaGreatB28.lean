/-
  Joined texts: contracts and plain laws.
-/
import Derived.Test.YtgkjmjlkhnfbiaaGreatB22
import Derived.Test.YtgkjmjlkhnfbiaaGreatB24
import Derived.Test.YtgkjmjlkhnfbiaaGreatB27
import Derived.Deep.DeepCutAuto
import Derived.Deep.CutRange
import Derived.Outline
namespace Go.Proofs.YtgkjmjlkhnfbiaaGreat
set_option linter.unusedSimpArgs false
set_option linter.unusedVariables false
open Go.RowKit
namespace M
theorem log2_four {x y : Nat} (h : 4 ≤ x * y) : 2 ≤ Nat.log2 x + Nat.log2 y := by
  have hx : x ≠ 0 := fun e => by rw [e] at h; omega
  have hy : y ≠ 0 := fun e => by rw [e] at h; omega
  by_cases h1 : x = 1
  · subst h1
    have := (Nat.le_log2 hy (k := 2)).2 (by omega)
    omega
  · by_cases h2 : y = 1
    · subst h2
      have := (Nat.le_log2 hx (k := 2)).2 (by omega)
      omega
    · have a1 := (Nat.le_log2 hx (k := 1)).2 (by omega)
      have a2 := (Nat.le_log2 hy (k := 1)).2 (by omega)
      omega
theorem gN_is {A B n : Int} {s : Bool} (h : gN A B n s = true) : tc A B ∧ (1 ≤ n ∧ n ≤ 60) ∧ s = true := by
  unfold gN at h
  rw [Bool.and_eq_true, Bool.and_eq_true] at h
  exact ⟨tcb_t h.1.1, ins_t h.1.2, h.2⟩
theorem gT_is {A B : Int} {s : Bool} (h : gT A B s = true) : tc A B ∧ s = true := by
  unfold gT at h
  rw [Bool.and_eq_true] at h
  exact ⟨tcb_t h.1, h.2⟩
theorem rb_is (a b m : Int) : rb a b m = (gN a b m (fOk a b m.toNat) && gT a b (sOk a b)) := by
  unfold rb gN gT bOk
  cases tcb a b <;> cases ins m 1 60 <;> cases fOk a b m.toNat <;> rfl
theorem sOk_is {a b : Int} (h : sOk a b = true) : (∀ dual, slk a b dual = true) ∧ ∀ dual, isg (slm a b dual) = true := by
  unfold sOk at h
  simp only [Bool.and_eq_true] at h
  obtain ⟨⟨h1, h2⟩, h3, h4⟩ := h
  exact ⟨fun d => by cases d <;> assumption, fun d => by cases d <;> assumption⟩
theorem fOk_is {a b : Int} {n : Nat} (h : fOk a b n = true) : ∀ dual, fgk a b dual n = true := by
  unfold fOk at h
  rw [Bool.and_eq_true] at h
  exact fun d => by cases d; exact h.1; exact h.2
theorem rb_vals (a b m : Int) (hD : tc a b → Dr a b) : ∃ (lo hi f1 f2 s1 s2 lo2 : Int) (one three one2 : Bool),
    gN a b m (fOk a b m.toNat) = one ∧ gT a b (sOk a b) = three ∧ rb a b m = (one && three) ∧ gN a b (m + 1) (fOk a b (m + 1).toNat) = one2 ∧
    low a b m.toNat = lo ∧ up a b = hi ∧ fR a b false m.toNat = f1 ∧ fR a b true m.toNat = f2 ∧ sR a b false = s1 ∧ sR a b true = s2 ∧ low a b (m + 1).toNat = lo2 ∧
    ((0 ≤ f1 ∧ f1 ≤ 64) ∧ (0 ≤ f2 ∧ f2 ≤ 64) ∧ (0 ≤ s1 ∧ s1 ≤ 64) ∧ (0 ≤ s2 ∧ s2 ≤ 64)) ∧ (lo = max (f1 + f2 - 2) 0 ∧ hi = s1 + s2 - 2) ∧
    (one = true → three = true → lo ≤ hi) ∧ (one = true → one2 = true → lo ≤ lo2) ∧ (one = true → 1 ≤ m ∧ m ≤ 60) := by
  refine ⟨_, _, _, _, _, _, _, _, _, _, rfl, rfl, rb_is a b m, rfl, rfl, rfl, rfl, rfl, rfl, rfl, rfl, ⟨rkc_bd _, rkc_bd _, rkc_bd _, rkc_bd _⟩, ⟨rfl, rfl⟩, fun h1 h2 => ?_, fun h1 h2 => ?_, fun h => (gN_is h).2.1⟩
  · obtain ⟨ht, -, hf⟩ := gN_is h1
    obtain ⟨-, hs⟩ := gT_is h2
    obtain ⟨k1, k2⟩ := sOk_is hs
    have sp := Dr.sel ht (hD ht)
    have l1 := fR_le (k1 false) ht (sp.closed false (k1 false)) (k2 false) m.toNat
    have l2 := fR_le (k1 true) ht (sp.closed true (k1 true)) (k2 true) m.toNat
    have h4 := log2_four (sp.four (k1 false) (k1 true))
    have e1 : sR a b false = (Nat.log2 (slm a b false).length : Int) := by unfold sR rkc; rw [k2 false, if_pos rfl]
    have e2 : sR a b true = (Nat.log2 (slm a b true).length : Int) := by unfold sR rkc; rw [k2 true, if_pos rfl]
    unfold low up
    omega
  · obtain ⟨ht, hm, hf⟩ := gN_is h1
    obtain ⟨-, -, hf2⟩ := gN_is h2
    have e : (m + 1).toNat = m.toNat + 1 := by omega
    rw [e] at hf2 ⊢
    have l1 := fR_mono ht (fOk_is hf false) (fOk_is hf2 false)
    have l2 := fR_mono ht (fOk_is hf true) (fOk_is hf2 true)
    unfold low
    omega
theorem fg_vals (a b n : Int) (q : Bool) (hD : tc a b → Dr a b) : ∃ (G S : List Int) (nine has : Bool),
    gN a b n (fgk a b q n.toNat) = nine ∧ gT a b (slk a b q) = has ∧ optL (gN a b n (fgk a b q n.toNat)) (fg a b q n.toNat) = G ∧ optL (gT a b (slk a b q)) (slm a b q) = S ∧
    (nine = true → isg G = true ∧ (∃ k : Nat, k ≤ 6 ∧ rkc G = k ∧ G.length = 2 ^ k) ∧ (∀ x ∈ G, x.natAbs ≤ 1000000) ∧ Inc G ∧ (has = true → ∀ x ∈ G, x ∈ S)) := by
  refine ⟨_, _, _, _, rfl, rfl, rfl, rfl, fun h => ?_⟩
  rw [h]
  obtain ⟨ht, hn, hk⟩ := gN_is h
  have hi := fg_isg ht q n.toNat hk
  have hp := fg_pow hk
  have hl := isg_len hi
  unfold optL
  rw [if_pos rfl]
  refine ⟨hi, ⟨Nat.log2 (fg a b q n.toNat).length, ?_, ?_, hp⟩, fg_bd ht q _, fg_inc ht q _, fun hh x hx => ?_⟩
  · have := log2_mono hl.2
    have e : Nat.log2 64 = 6 := by decide
    omega
  · unfold rkc
    rw [hi, if_pos rfl]
  · rw [hh, if_pos rfl]
    obtain ⟨-, hs⟩ := gT_is hh
    exact fg_slm hs ht ((Dr.sel ht (hD ht)).closed q hs) _ x hx
end M
end Go.Proofs.YtgkjmjlkhnfbiaaGreat

namespace Go.Proofs.YtgkjmjlkhnfbiaaGreat
set_option linter.unusedSimpArgs false
set_option linter.unusedVariables false
open Go.RowKit

set_option maxRecDepth 100000 in
set_option maxHeartbeats 8000000 in
theorem law_RankBounds (v u : Value) (n m : Nat) (w : World) (hv : Bytes w w.heap.size v n) (hu : Bytes w w.heap.size u m) :
    Calls Tryz.prog 4 #[v, u] w fun e w' => e = .returned (.bool true) ∧ Below w.heap.size w w' := by
  have Hv := Lib.hid hv
  have Hu := Lib.hid hu
  obtain ⟨Av, cv, rfl, hn, -⟩ := hv
  obtain ⟨Au, cu, rfl, hm, -⟩ := hu
  have BX : Below w.heap.size w w := Below.refl _ _
  by_cases hbig : 1048576 < wrap64 ((n : Int) + (m : Int))
  · go_enter Tryz.func4, Tryz.ntmps4
    go_wp2
    go_ret
    exact ⟨rfl, BX⟩
  · go_enter Tryz.func4, Tryz.ntmps4
    go_wp2_with fail
    refine (drawRankBounds_c _ n _ Hv.out).mono ?_; rintro e w1 ⟨a, b, k, rfl, hDr, hb_⟩
    replace BX := BX.trans hb_
    clear hb_ hbig hn hm
    have t5 := Box.new w1 (a) (b) 25
    replace BX := below_alloc BX (.cells #[.int .i64 (a), .int .i64 (b)] 25)
    obtain ⟨lo, hi, f1, f2, s1, s2, lo2, one, three, one2, e1, e2, e3, e4, e5, e6, e7, e8, e9, e10, e11, hok⟩ := M.rb_vals a b k hDr.out
    have E1 := fun w => implRankBounds_c a b k w
    rw [e3, e5, e6] at E1
    replace E1 := Lib.hid E1
    have E2 := fun w => specRankBounds_c a b k w
    rw [e3, e5, e6] at E2
    replace E2 := Lib.hid E2
    have E3 := fun w => implLowerRank_c a b k w
    rw [e1, e5] at E3
    replace E3 := Lib.hid E3
    have E4 := fun w => specLowerRank_c a b k w
    rw [e1, e5] at E4
    replace E4 := Lib.hid E4
    have E5 := fun w => implUpperRank_c a b w
    rw [e2, e6] at E5
    replace E5 := Lib.hid E5
    have E6 := fun w => specUpperRank_c a b w
    rw [e2, e6] at E6
    replace E6 := Lib.hid E6
    have E7 := fun w => implSelmerRanks_c a b w
    rw [e2, e9, e10] at E7
    replace E7 := Lib.hid E7
    have E8 := fun w => specSelmerRanks_c a b w
    rw [e2, e9, e10] at E8
    replace E8 := Lib.hid E8
    have E9 := fun w => implFoundRanks_c a b k w
    rw [e1, e7, e8] at E9
    replace E9 := Lib.hid E9
    have E10 := fun w => specFoundRanks_c a b k w
    rw [e1, e7, e8] at E10
    replace E10 := Lib.hid E10
    have E11 := fun w => implLowerRank_c a b (k + 1) w
    rw [e4, e11] at E11
    replace E11 := Lib.hid E11
    have E12 := fun w => specLowerRank_c a b (k + 1) w
    rw [e4, e11] at E12
    replace E12 := Lib.hid E12
    have Hok := Lib.hid hok
    clear hok hDr e1 e2 e3 e4 e5 e6 e7 e8 e9 e10 e11
    have q_t50 := t5.c0
    have q_t51 := t5.c1
    have q_t5s := t5.size
    go_wp2_with fail
    refine (E1.out _).mono ?_; rintro r w2 ⟨rfl, hb_⟩
    clear q_t50 q_t51 q_t5s
    replace t5 := t5.keep hb_
    replace BX := BX.trans (hb_.mono BX.size)
    clear hb_
    have q_t50 := t5.c0
    have q_t51 := t5.c1
    have q_t5s := t5.size
    go_wp2_with fail
    refine (E2.out _).mono ?_; rintro r w3 ⟨rfl, hb_⟩
    clear q_t50 q_t51 q_t5s
    replace t5 := t5.keep hb_
    replace BX := BX.trans (hb_.mono BX.size)
    clear hb_
    have q_t50 := t5.c0
    have q_t51 := t5.c1
    have q_t5s := t5.size
    go_wp2_with fail
    refine (E3.out _).mono ?_; rintro r w4 ⟨rfl, hb_⟩
    clear q_t50 q_t51 q_t5s
    replace t5 := t5.keep hb_
    replace BX := BX.trans (hb_.mono BX.size)
    clear hb_
    have q_t50 := t5.c0
    have q_t51 := t5.c1
    have q_t5s := t5.size
    go_wp2_with fail
    refine (E4.out _).mono ?_; rintro r w5 ⟨rfl, hb_⟩
    clear q_t50 q_t51 q_t5s
    replace t5 := t5.keep hb_
    replace BX := BX.trans (hb_.mono BX.size)
    clear hb_
    have q_t50 := t5.c0
    have q_t51 := t5.c1
    have q_t5s := t5.size
    go_wp2_with fail
    refine (E5.out _).mono ?_; rintro r w6 ⟨rfl, hb_⟩
    clear q_t50 q_t51 q_t5s
    replace t5 := t5.keep hb_
    replace BX := BX.trans (hb_.mono BX.size)
    clear hb_
    have q_t50 := t5.c0
    have q_t51 := t5.c1
    have q_t5s := t5.size
    go_wp2_with fail
    refine (E6.out _).mono ?_; rintro r w7 ⟨rfl, hb_⟩
    clear q_t50 q_t51 q_t5s
    replace t5 := t5.keep hb_
    replace BX := BX.trans (hb_.mono BX.size)
    clear hb_
    have q_t50 := t5.c0
    have q_t51 := t5.c1
    have q_t5s := t5.size
    go_wp2_with fail
    refine (E7.out _).mono ?_; rintro r w8 ⟨rfl, hb_⟩
    clear q_t50 q_t51 q_t5s
    replace t5 := t5.keep hb_
    replace BX := BX.trans (hb_.mono BX.size)
    clear hb_
    have q_t50 := t5.c0
    have q_t51 := t5.c1
    have q_t5s := t5.size
    go_wp2_with fail
    refine (E8.out _).mono ?_; rintro r w9 ⟨rfl, hb_⟩
    clear q_t50 q_t51 q_t5s
    replace t5 := t5.keep hb_
    replace BX := BX.trans (hb_.mono BX.size)
    clear hb_
    have q_t50 := t5.c0
    have q_t51 := t5.c1
    have q_t5s := t5.size
    go_wp2_with fail
    refine (E9.out _).mono ?_; rintro r w10 ⟨rfl, hb_⟩
    clear q_t50 q_t51 q_t5s
    replace t5 := t5.keep hb_
    replace BX := BX.trans (hb_.mono BX.size)
    clear hb_
    have q_t50 := t5.c0
    have q_t51 := t5.c1
    have q_t5s := t5.size
    go_wp2_with fail
    refine (E10.out _).mono ?_; rintro r w11 ⟨rfl, hb_⟩
    clear q_t50 q_t51 q_t5s
    replace t5 := t5.keep hb_
    replace BX := BX.trans (hb_.mono BX.size)
    clear hb_
    clear E1 E2 E3 E4 E5 E6 E7 E8 E9 E10
    have q_t50 := t5.c0
    have q_t51 := t5.c1
    have q_t5s := t5.size
    go_wp2_with fail
    refine (drawFoundGroup_c _ m _ ((Hu.out.keepB BX).mono BX.size)).mono ?_; rintro e w12 ⟨a2, b2, q, k2, rfl, hDr, hb_⟩
    clear q_t50 q_t51 q_t5s
    replace t5 := t5.keep hb_
    replace BX := BX.trans (hb_.mono BX.size)
    clear hb_
    replace t5 := t5.alloc (.cells #[.int .i64 (a2), .int .i64 (b2)] 25)
    have t33 := Box.new w12 (a2) (b2) 25
    replace BX := below_alloc BX (.cells #[.int .i64 (a2), .int .i64 (b2)] 25)
    obtain ⟨G, S, nine, has, g1, g2, g3, g4, hgr⟩ := M.fg_vals a2 b2 k2 q hDr.out
    have G1 := fun w => implFoundGroup_c a2 b2 q k2 w
    rw [g3, g1] at G1
    replace G1 := Lib.hid G1
    have G2 := fun w => specFoundGroup_c a2 b2 q k2 w
    rw [g3, g1] at G2
    replace G2 := Lib.hid G2
    have G3 := fun w => implSelmerDivisors_c a2 b2 q w
    rw [g4, g2] at G3
    replace G3 := Lib.hid G3
    have G4 := fun w => specSelmerDivisors_c a2 b2 q w
    rw [g4, g2] at G4
    replace G4 := Lib.hid G4
    have Hgr := Lib.hid hgr
    clear hgr hDr g1 g2 g3 g4
    have q_t50 := t5.c0
    have q_t51 := t5.c1
    have q_t5s := t5.size
    have q_t330 := t33.c0
    have q_t331 := t33.c1
    have q_t33s := t33.size
    go_wp2_with fail
    refine (G1.out _).mono ?_; rintro r w13 ⟨sl_, rfl, Oh, hb_⟩
    obtain ⟨Ah, ch, rfl⟩ := Oh.nil_form
    replace Oh := Lib.hid (Oh.low (base' := w.heap.size) BX.size)
    clear q_t50 q_t51 q_t5s q_t330 q_t331 q_t33s
    replace t5 := t5.keep hb_
    replace t33 := t33.keep hb_
    replace BX := BX.trans (hb_.mono BX.size)
    clear hb_
    have q_t50 := t5.c0
    have q_t51 := t5.c1
    have q_t5s := t5.size
    have q_t330 := t33.c0
    have q_t331 := t33.c1
    have q_t33s := t33.size
    go_wp2_with fail
    refine (G2.out _).mono ?_; rintro r w14 ⟨sl_, rfl, Og, hb_⟩
    obtain ⟨Ag, cg, rfl⟩ := Og.nil_form
    replace Og := Lib.hid (Og.low (base' := w.heap.size) BX.size)
    clear q_t50 q_t51 q_t5s q_t330 q_t331 q_t33s
    replace t5 := t5.keep hb_
    replace t33 := t33.keep hb_
    replace Oh := Lib.hid (Oh.out.below hb_)
    replace BX := BX.trans (hb_.mono BX.size)
    clear hb_
    clear G1 G2
    go_upto_region 17 with fail
    go_cut [236] from 145 to 236 (fun s wx => s = .bool false ∧ Below w14.heap.size w14 wx)
    case first => as_aux_lemma =>
      have Q1 := Lib.hid (qInts_c _ _ G _ _ w14 Oh.out.seen Og.out.seen)
      clear Hv Hu Hok Hgr E11 E12 G3 G4 t5 t33 Oh Og BX
      cases one
      all_goals
        simp only [M.pick_t, M.pick_f, Bool.true_and, Bool.and_true, Bool.false_and, Bool.and_false]
        go_wp2_with (go_at_call 41; (refine (Q1.out).mono ?_); rintro r wq_ ⟨rfl, hq_⟩)
        go_meet
        exact ⟨rfl, hq_⟩
    case rest => as_aux_lemma =>
      obtain ⟨rfl, hb_⟩ := hcut
      replace t5 := t5.keep hb_
      replace t33 := t33.keep hb_
      replace Oh := Lib.hid (Oh.out.below hb_)
      replace Og := Lib.hid (Og.out.below hb_)
      replace BX := BX.trans (hb_.mono BX.size)
      clear hb_
      generalize wc = wp at *
      go_upto_if 237 with fail
      go_cut [40, 41, 42, 43, 44, 45, 46, 47] from 238 to 287 (fun _ _ _ _ _ _ _ _ wx => Below wp.heap.size wp wx)
      case first => as_aux_lemma =>
        cases nine
        case false =>
          go_wp2
          go_meet
          exact Below.refl _ _
        case true =>
          obtain ⟨hi_, ⟨kk, hk6, hrk, hlen⟩, hbd, hinc, hsub⟩ := Hgr.out rfl
          have hl_ : G.length ≤ 1000000 := by have := M.isg_len hi_; omega
          have R1 := fun (w : World) (v : Value) (bs : Nat) (h : OwnI w bs v G) => implRankOfClasses_c G v w bs h hbd hinc hl_
          rw [hi_, hrk] at R1
          replace R1 := Lib.hid R1
          have Hsub := Lib.hid hsub
          have Hlen := Lib.hid hlen
          have Bp : Below wp.heap.size wp wp := Below.refl _ _
          clear hi_ hrk hlen hbd hinc hl_ hsub Hok Hgr E11 E12 Hu Hv BX t5
          go_wp2_with fail
          refine (R1.out _ _ _ Oh.out).mono ?_; rintro r x1 ⟨rfl, hb_⟩
          replace t33 := t33.keep hb_
          replace Oh := Lib.hid (Oh.out.below hb_)
          replace Og := Lib.hid (Og.out.below hb_)
          replace Bp := Bp.trans (hb_.mono Bp.size)
          clear hb_ R1
          go_upto_region 21 with fail
          go_cut [252] from 243 to 252 (fun s wx => s = .bool false ∧ x1 = wx)
          case first => as_aux_lemma =>
            clear Oh Og Hsub G3 G4 t33 Bp
            have hk7 : kk = 0 ∨ kk = 1 ∨ kk = 2 ∨ kk = 3 ∨ kk = 4 ∨ kk = 5 ∨ kk = 6 := by omega
            clear hk6
            rcases hk7 with rfl | rfl | rfl | rfl | rfl | rfl | rfl
            · have hlb : ((G.length : Int) != 1) = false := by rw [show G.length = 1 from Hlen.out]; rfl
              clear Hlen
              go_wp2_with fail
              go_meet
              exact ⟨rfl, rfl⟩
            · have hlb : ((G.length : Int) != 2) = false := by rw [show G.length = 2 from Hlen.out]; rfl
              clear Hlen
              go_wp2_with fail
              go_meet
              exact ⟨rfl, rfl⟩
            · have hlb : ((G.length : Int) != 4) = false := by rw [show G.length = 4 from Hlen.out]; rfl
              clear Hlen
              go_wp2_with fail
              go_meet
              exact ⟨rfl, rfl⟩
            · have hlb : ((G.length : Int) != 8) = false := by rw [show G.length = 8 from Hlen.out]; rfl
              clear Hlen
              go_wp2_with fail
              go_meet
              exact ⟨rfl, rfl⟩
            · have hlb : ((G.length : Int) != 16) = false := by rw [show G.length = 16 from Hlen.out]; rfl
              clear Hlen
              go_wp2_with fail
              go_meet
              exact ⟨rfl, rfl⟩
            · have hlb : ((G.length : Int) != 32) = false := by rw [show G.length = 32 from Hlen.out]; rfl
              clear Hlen
              go_wp2_with fail
              go_meet
              exact ⟨rfl, rfl⟩
            · have hlb : ((G.length : Int) != 64) = false := by rw [show G.length = 64 from Hlen.out]; rfl
              clear Hlen
              go_wp2_with fail
              go_meet
              exact ⟨rfl, rfl⟩
          case rest => as_aux_lemma =>
            obtain ⟨rfl, rfl⟩ := hcut
            clear hk6
            have q_t330 := t33.c0
            have q_t331 := t33.c1
            have q_t33s := t33.size
            go_wp2_with fail
            refine (G3.out _).mono ?_; rintro r x2 ⟨sl_, rfl, Os, hb_⟩
            obtain ⟨As, cs, rfl⟩ := Os.nil_form
            replace Os := Lib.hid (Os.low (base' := wp.heap.size) Bp.size)
            clear q_t330 q_t331 q_t33s
            replace t33 := t33.keep hb_
            replace Oh := Lib.hid (Oh.out.below hb_)
            replace Og := Lib.hid (Og.out.below hb_)
            replace Bp := Bp.trans (hb_.mono Bp.size)
            clear hb_
            have q_t330 := t33.c0
            have q_t331 := t33.c1
            have q_t33s := t33.size
            go_wp2_with fail
            refine (G4.out _).mono ?_; rintro r x3 ⟨sl_, rfl, Ok, hb_⟩
            obtain ⟨Ak, ck, rfl⟩ := Ok.nil_form
            replace Ok := Lib.hid (Ok.low (base' := wp.heap.size) Bp.size)
            clear q_t330 q_t331 q_t33s
            replace t33 := t33.keep hb_
            replace Oh := Lib.hid (Oh.out.below hb_)
            replace Og := Lib.hid (Og.out.below hb_)
            replace Os := Lib.hid (Os.out.below hb_)
            replace Bp := Bp.trans (hb_.mono Bp.size)
            clear hb_
            clear G3 G4 t33
            go_upto_region 25 with fail
            go_cut [273] from 265 to 273 (fun s wx => s = .bool false ∧ Below x3.heap.size x3 wx)
            case first => as_aux_lemma =>
              have Q2 := Lib.hid (qInts_c _ _ S _ _ x3 Os.out.seen Ok.out.seen)
              clear Oh Og Os Ok Bp Hlen Hsub
              cases has <;> (go_wp2_with (go_at_call 41; (refine (Q2.out).mono ?_); rintro r wq_ ⟨rfl, hq_⟩); go_meet; exact ⟨rfl, hq_⟩)
            case rest => as_aux_lemma =>
              obtain ⟨rfl, hb_⟩ := hcut
              replace Oh := Lib.hid (Oh.out.below hb_)
              replace Og := Lib.hid (Og.out.below hb_)
              replace Os := Lib.hid (Os.out.below hb_)
              replace Ok := Lib.hid (Ok.out.below hb_)
              replace Bp := Bp.trans (hb_.mono Bp.size)
              clear hb_ Oh Os Hlen
              generalize wc = y0 at *
              have hgs := Og.out.seen
              have hks := Ok.out.seen
              obtain ⟨A_, c_, e_, hmx, hgv⟩ := hgs
              injection e_ with e1_ e2_ e3_
              subst e1_ e3_
              clear e2_
              have Hks := Lib.hid hks
              clear hks Og Ok
              go_wp2
              go_loop [276] (fun vi => ∃ j : Nat, j ≤ G.length ∧ vi = .int .i64 j) (fun vi => G.length - (intOf vi).toNat)
              case atStart => exact ⟨0, by omega, rfl⟩
              case round =>
                obtain ⟨j, hj, rfl⟩ := hrel
                by_cases hlt : j < G.length
                · obtain ⟨g_, x, rfl, hg_, hx_, hcell⟩ := hgv j hlt
                  clear hgv
                  cases has
                  · go_wp2
                    go_round
                    case rel => exact ⟨j + 1, by omega, by go_num⟩
                    case measure => simp [intOf]; omega
                  · have QH := Lib.hid (qHas_c _ S x _ y0 Hks.out (Hsub.out rfl x (List.mem_of_getElem? hx_.out)))
                    go_wp2_with (go_at_call 43; (refine QH.out.mono ?_); rintro r wq_ ⟨rfl, rfl⟩)
                    go_round
                    case rel => exact ⟨j + 1, by omega, by go_num⟩
                    case measure => simp [intOf]; omega
                · obtain rfl : j = G.length := by omega
                  clear hgv
                  go_wp2
                  go_meet
                  exact Bp
      case rest => as_aux_lemma =>
        clear t33 Oh Og G3 G4 Hgr
        replace t5 := t5.keep hcut
        replace BX := BX.trans (hcut.mono BX.size)
        clear hcut
        generalize wc = wr at *
        skip
        go_upto_region 33 with fail
        go_cut [314] from 288 to 314 (fun s wx => s = .bool false ∧ wr = wx)
        case first => as_aux_lemma =>
          obtain ⟨⟨⟨b1, b2⟩, ⟨b3, b4⟩, ⟨b5, b6⟩, b7, b8⟩, ⟨v1, v2⟩, v3, -, -⟩ := Hok.out
          clear Hok E11 E12 t5 BX Hu Hv
          cases one
          · clear v1 v2 v3
            go_wp2_with fail
            go_meet
            exact ⟨rfl, rfl⟩
          · cases three
            · clear v1 v2 v3
              go_wp2_with fail
              go_meet
              exact ⟨rfl, rfl⟩
            · have v4 := v3 rfl rfl
              have QM := Lib.hid (fun W => qMost_c 0 (f1 + f2 - 2) W)
              have c1 : ¬ hi < lo := by omega
              have c2 : ¬ lo < 0 := by omega
              have c3 : lo = max 0 (f1 + f2 - 2) := by omega
              have c4 : (hi != s1 + s2 - 2) = false := by simp [v2]
              have c5 : (lo != max 0 (f1 + f2 - 2)) = false := by rw [← c3]; simp
              clear v1 v2 v3 v4 c3
              simp only [M.pick_t, M.pick_f, Bool.true_and, Bool.and_true, Bool.false_and, Bool.and_false]
              go_wp2_with (go_at_call 44; (refine (QM.out _).mono ?_); rintro r wq_ ⟨rfl, rfl⟩)
              go_meet
              exact ⟨rfl, rfl⟩
        case rest => as_aux_lemma =>
          obtain ⟨rfl, rfl⟩ := hcut
          cases one
          case false =>
            go_wp2
            go_ret
            exact ⟨rfl, BX⟩
          case true =>
            by_cases hk60 : k < 60
            · skip
              obtain ⟨-, -, -, v3, v4⟩ := Hok.out
              obtain ⟨v5, v6⟩ := v4 rfl
              have V3 := Lib.hid (v3 rfl)
              clear v3 v4 Hok
              have q_t50 := t5.c0
              have q_t51 := t5.c1
              have q_t5s := t5.size
              go_wp2_with fail
              refine (E11.out _).mono ?_; rintro r w15 ⟨rfl, hb_⟩
              clear q_t50 q_t51 q_t5s
              replace t5 := t5.keep hb_
              replace BX := BX.trans (hb_.mono BX.size)
              clear hb_
              have q_t50 := t5.c0
              have q_t51 := t5.c1
              have q_t5s := t5.size
              go_wp2_with fail
              refine (E12.out _).mono ?_; rintro r w16 ⟨rfl, hb_⟩
              clear q_t50 q_t51 q_t5s
              replace t5 := t5.keep hb_
              replace BX := BX.trans (hb_.mono BX.size)
              clear hb_
              clear E11 E12 t5
              cases one2
              · go_wp2
                go_ret
                exact ⟨rfl, BX⟩
              · have c1 : ¬ lo2 < lo := by have := V3.out rfl; omega
                simp only [M.pick_t]
                go_wp2
                go_ret
                exact ⟨rfl, BX⟩
            · go_wp2
              go_ret
              exact ⟨rfl, BX⟩
end Go.Proofs.YtgkjmjlkhnfbiaaGreat

namespace Go.Proofs.YtgkjmjlkhnfbiaaGreat
set_option linter.unusedSimpArgs false
set_option linter.unusedVariables false
open Go.RowKit

set_option maxRecDepth 100000 in
set_option maxHeartbeats 1000000 in
theorem dsAsked_c (A B d : Int) (dual : Bool) (w : World) (ht : M.tcb A B = true) (hd : d ∈ M.dvs (M.sB A B dual)) :
    Calls Tryz.prog 54 #[.agg #[.int .i64 A, .int .i64 B], .bool dual, .int .i64 d] w fun e w' => e = .returned (.bool true) ∧ Below w.heap.size w w' := by
  have PT := fun W => tcGood_c A B W
  rw [ht] at PT
  have PD := fun W => dsDivisors_c A B dual W (M.tcb_t ht)
  have PK := fun W v b h => l1Has_c (M.dvs (M.sB A B dual)) v d W b h
  rw [decide_eq_true hd] at PK
  have bx := Box.new w A B 25
  have PT := Lib.hid PT
  have PD := Lib.hid PD
  have PK := Lib.hid PK
  clear ht hd
  generalize M.dvs (M.sB A B dual) = L at *
  go_enter Tryz.func54, Tryz.ntmps54
  go_wp2_with (first | (go_at_call 48; (with_reducible refine (PT.out _).mono ?_); rintro e w1 ⟨rfl, hb1⟩; (have bx1 := bx.keep hb1); (have c0 := bx1.c0); (have c1 := bx1.c1); (have B1 : Below w.heap.size w w1 := (by repeat (first | exact Below.refl _ _ | refine below_alloc ?_ _ | refine below_step ?_ (by assumption) | refine Below.drew ?_ | refine Below.setCell ?_ (by first | exact Nat.le_refl _ | exact Nat.le_add_right _ _ | (simp <;> omega)) _ | refine below_drewN ?_ _)))) | (go_at_call 51; (with_reducible refine (PD.out _).mono ?_); rintro e w2 ⟨v, rfl, ho, hb2⟩; obtain ⟨a_, cap_, rfl, hm_, hv_⟩ := ho.view; clear hm_ hv_; (have bx2 := bx1.keep hb2); (have d0 := bx2.c0); (have d1 := bx2.c1); (have B2 := B1.trans (hb2.mono B1.size))) | (go_at_call 74; (with_reducible refine (PK.out _ _ _ ho).mono ?_); rintro e w3 ⟨rfl, rfl⟩))
  exact bodyPost_ret (v := .bool true) (by simp [results, Tryz.results54, go_sem, *]) rfl (⟨rfl, B2⟩)
set_option maxRecDepth 100000 in
set_option maxHeartbeats 1000000 in
theorem implReasonAgainst_c (A B d : Int) (dual : Bool) (w : World) (ht : M.tcb A B = true) (hd : d ∈ M.dvs (M.sB A B dual)) :
    Calls Tryz.prog 12 #[.agg #[.int .i64 A, .int .i64 B], .bool dual, .int .i64 d] w fun e w' => e = .returned (.tuple #[.int .i64 (M.rsn A B dual d), .bool (M.rsk A B dual d)]) ∧ Below w.heap.size w w' := by
  have PT := fun W => isTwoCurve_c A B W
  rw [ht] at PT
  have PD := fun W => descentDivisors_c A B dual W (M.tcb_t ht)
  have PK := fun W v b h => containsInts_c (M.dvs (M.sB A B dual)) v d W b h
  rw [decide_eq_true hd] at PK
  have P := fun W => reasonAgainst_c A B d dual W (M.tcb_t ht) hd
  have bx := Box.new w A B 25
  have PT := Lib.hid PT
  have PD := Lib.hid PD
  have PK := Lib.hid PK
  have P := Lib.hid P
  clear ht hd
  generalize M.rsn A B dual d = g0 at *
  generalize M.rsk A B dual d = g1 at *
  generalize M.dvs (M.sB A B dual) = L at *
  go_enter Tryz.func12, Tryz.ntmps12
  go_wp2_with (first | (go_at_call 46; (with_reducible refine (PT.out _).mono ?_); rintro e w1 ⟨rfl, hb1⟩; (have bx1 := bx.keep hb1); (have c0 := bx1.c0); (have c1 := bx1.c1); (have B1 : Below w.heap.size w w1 := (by repeat (first | exact Below.refl _ _ | refine below_alloc ?_ _ | refine below_step ?_ (by assumption) | refine Below.drew ?_ | refine Below.setCell ?_ (by first | exact Nat.le_refl _ | exact Nat.le_add_right _ _ | (simp <;> omega)) _ | refine below_drewN ?_ _)))) | (go_at_call 50; (with_reducible refine (PD.out _).mono ?_); rintro e w2 ⟨v, rfl, ho, hb2⟩; obtain ⟨a_, cap_, rfl, hm_, hv_⟩ := ho.view; clear hm_ hv_; (have bx2 := bx1.keep hb2); (have d0 := bx2.c0); (have d1 := bx2.c1); (have B2 := B1.trans (hb2.mono B1.size))) | (go_at_call 52; (with_reducible refine (PK.out _ _ _ ho).mono ?_); rintro e w3 ⟨rfl, rfl⟩) | (go_at_call 53; (with_reducible refine (P.out _).mono ?_); rintro e w4 ⟨rfl, hb4⟩; (have B4 := B2.trans (hb4.mono B2.size))))
  exact bodyPost_ret (v := .tuple #[.int .i64 g0, .bool g1]) (by simp [results, Tryz.results12, go_sem, *]) rfl (⟨rfl, B4⟩)
set_option maxRecDepth 100000 in
set_option maxHeartbeats 1000000 in
theorem specReasonAgainst_c (A B d : Int) (dual : Bool) (w : World) (ht : M.tcb A B = true) (hd : d ∈ M.dvs (M.sB A B dual)) :
    Calls Tryz.prog 13 #[.agg #[.int .i64 A, .int .i64 B], .bool dual, .int .i64 d] w fun e w' => e = .returned (.tuple #[.int .i64 (M.rsn A B dual d), .bool (M.rsk A B dual d)]) ∧ Below w.heap.size w w' := by
  have PT := fun W => dsAsked_c A B d dual W ht hd
  have P := fun W => dsReason_c A B d dual W (M.tcb_t ht) hd
  have bx := Box.new w A B 25
  have PT := Lib.hid PT
  have P := Lib.hid P
  clear ht hd
  generalize M.rsn A B dual d = g0 at *
  generalize M.rsk A B dual d = g1 at *
  go_enter Tryz.func13, Tryz.ntmps13
  go_wp2_with (first | (go_at_call 54; (with_reducible refine (PT.out _).mono ?_); rintro e w1 ⟨rfl, hb1⟩; (have bx1 := bx.keep hb1); (have c0 := bx1.c0); (have c1 := bx1.c1); (have B1 : Below w.heap.size w w1 := (by repeat (first | exact Below.refl _ _ | refine below_alloc ?_ _ | refine below_step ?_ (by assumption) | refine Below.drew ?_ | refine Below.setCell ?_ (by first | exact Nat.le_refl _ | exact Nat.le_add_right _ _ | (simp <;> omega)) _ | refine below_drewN ?_ _)))) | (go_at_call 55; (with_reducible refine (P.out _).mono ?_); rintro e w4 ⟨rfl, hb4⟩; (have B4 := B1.trans (hb4.mono B1.size))))
  exact bodyPost_ret (v := .tuple #[.int .i64 g0, .bool g1]) (by simp [results, Tryz.results13, go_sem, *]) rfl (⟨rfl, B4⟩)
set_option maxRecDepth 100000 in
set_option maxHeartbeats 1000000 in
theorem implDescentQuartic_c (A B d : Int) (dual : Bool) (w : World) (ht : M.tcb A B = true) (hd : d ∈ M.dvs (M.sB A B dual)) :
    Calls Tryz.prog 14 #[.agg #[.int .i64 A, .int .i64 B], .bool dual, .int .i64 d] w fun e w' => e = .returned (.tuple #[.agg #[.int .i64 d, .int .i64 (M.sA A dual), .int .i64 (M.dC A B dual d)], .bool true]) ∧ Below w.heap.size w w' := by
  have PT := fun W => isTwoCurve_c A B W
  rw [ht] at PT
  have PD := fun W => descentDivisors_c A B dual W (M.tcb_t ht)
  have PK := fun W v b h => containsInts_c (M.dvs (M.sB A B dual)) v d W b h
  rw [decide_eq_true hd] at PK
  have P := fun W => descentQuartic_c A B d dual W (M.tcb_t ht) hd
  have bx := Box.new w A B 25
  replace bx := bx.alloc (.cells #[.int .i64 0, .int .i64 0, .int .i64 0] 35)
  have b3 := Box3.new (w.alloc (.cells #[.int .i64 A, .int .i64 B] 25)) 0 0 0 35
  rw [World.size_alloc] at b3
  have PT := Lib.hid PT
  have PD := Lib.hid PD
  have PK := Lib.hid PK
  have P := Lib.hid P
  clear ht hd
  generalize M.sA A dual = g0 at *
  generalize M.dC A B dual d = g1 at *
  generalize M.dvs (M.sB A B dual) = L at *
  go_enter Tryz.func14, Tryz.ntmps14
  go_wp2_with (first | (go_at_call 46; (with_reducible refine (PT.out _).mono ?_); rintro e w1 ⟨rfl, hb1⟩; (have bx1 := bx.keep hb1); (have c0 := bx1.c0); (have c1 := bx1.c1); (have B1 : Below w.heap.size w w1 := (by repeat (first | exact Below.refl _ _ | refine below_alloc ?_ _ | refine below_step ?_ (by assumption) | refine Below.drew ?_ | refine Below.setCell ?_ (by first | exact Nat.le_refl _ | exact Nat.le_add_right _ _ | (simp <;> omega)) _ | refine below_drewN ?_ _))); (replace b3 := b3.keep hb1)) | (go_at_call 50; (with_reducible refine (PD.out _).mono ?_); rintro e w2 ⟨v, rfl, ho, hb2⟩; obtain ⟨a_, cap_, rfl, hm_, hv_⟩ := ho.view; clear hm_ hv_; (have bx2 := bx1.keep hb2); (have d0 := bx2.c0); (have d1 := bx2.c1); (have B2 := B1.trans (hb2.mono B1.size)); (replace b3 := b3.keep hb2)) | (go_at_call 52; (with_reducible refine (PK.out _ _ _ ho).mono ?_); rintro e w3 ⟨rfl, rfl⟩) | (go_at_call 56; (with_reducible refine (P.out _).mono ?_); rintro e w4 ⟨rfl, hb4⟩; (have B4 := B2.trans (hb4.mono B2.size)); (replace b3 := b3.keep hb4); (have e0 := b3.c0); (have e1 := b3.c1); (have e2 := b3.c2); (have i0 := b3.f0); (have i1 := b3.f1); (have i2 := b3.f2)))
  exact bodyPost_ret (v := .tuple #[.agg #[.int .i64 d, .int .i64 g0, .int .i64 g1], .bool true]) (by simp [results, Tryz.results14, go_sem, *]) rfl (⟨rfl, (by repeat (first | exact Below.refl _ _ | refine below_alloc ?_ _ | refine below_step ?_ (by assumption) | refine Below.drew ?_ | refine Below.setCell ?_ (by first | exact Nat.le_refl _ | exact Nat.le_add_right _ _ | (simp <;> omega)) _ | refine below_drewN ?_ _))⟩)
set_option maxRecDepth 100000 in
set_option maxHeartbeats 1000000 in
theorem specDescentQuartic_c (A B d : Int) (dual : Bool) (w : World) (ht : M.tcb A B = true) (hd : d ∈ M.dvs (M.sB A B dual)) :
    Calls Tryz.prog 15 #[.agg #[.int .i64 A, .int .i64 B], .bool dual, .int .i64 d] w fun e w' => e = .returned (.tuple #[.agg #[.int .i64 d, .int .i64 (M.sA A dual), .int .i64 (M.dC A B dual d)], .bool true]) ∧ Below w.heap.size w w' := by
  have PT := fun W => dsAsked_c A B d dual W ht hd
  have P := fun W => dsQuartic_c A B d dual W (M.tcb_t ht) hd
  have bx := Box.new w A B 25
  replace bx := bx.alloc (.cells #[.int .i64 0, .int .i64 0, .int .i64 0] 35)
  have b3 := Box3.new (w.alloc (.cells #[.int .i64 A, .int .i64 B] 25)) 0 0 0 35
  rw [World.size_alloc] at b3
  have PT := Lib.hid PT
  have P := Lib.hid P
  clear ht hd
  generalize M.sA A dual = g0 at *
  generalize M.dC A B dual d = g1 at *
  go_enter Tryz.func15, Tryz.ntmps15
  go_wp2_with (first | (go_at_call 54; (with_reducible refine (PT.out _).mono ?_); rintro e w1 ⟨rfl, hb1⟩; (have bx1 := bx.keep hb1); (have c0 := bx1.c0); (have c1 := bx1.c1); (have B1 : Below w.heap.size w w1 := (by repeat (first | exact Below.refl _ _ | refine below_alloc ?_ _ | refine below_step ?_ (by assumption) | refine Below.drew ?_ | refine Below.setCell ?_ (by first | exact Nat.le_refl _ | exact Nat.le_add_right _ _ | (simp <;> omega)) _ | refine below_drewN ?_ _))); (replace b3 := b3.keep hb1)) | (go_at_call 57; (with_reducible refine (P.out _).mono ?_); rintro e w4 ⟨rfl, hb4⟩; (have B4 := B1.trans (hb4.mono B1.size)); (replace b3 := b3.keep hb4); (have e0 := b3.c0); (have e1 := b3.c1); (have e2 := b3.c2); (have i0 := b3.f0); (have i1 := b3.f1); (have i2 := b3.f2)))
  exact bodyPost_ret (v := .tuple #[.agg #[.int .i64 d, .int .i64 g0, .int .i64 g1], .bool true]) (by simp [results, Tryz.results15, go_sem, *]) rfl (⟨rfl, (by repeat (first | exact Below.refl _ _ | refine below_alloc ?_ _ | refine below_step ?_ (by assumption) | refine Below.drew ?_ | refine Below.setCell ?_ (by first | exact Nat.le_refl _ | exact Nat.le_add_right _ _ | (simp <;> omega)) _ | refine below_drewN ?_ _))⟩)
set_option maxRecDepth 100000 in
set_option maxHeartbeats 1000000 in
theorem implDescentCoefficients_c (A B : Int) (dual : Bool) (w : World) :
    Calls Tryz.prog 25 #[.agg #[.int .i64 A, .int .i64 B], .bool dual] w fun e w' => e = .returned (.tuple #[.int .i64 (M.pick (M.tcb A B) (M.sA A dual)), .int .i64 (M.pick (M.tcb A B) (M.sB A B dual)), .bool (M.tcb A B)]) ∧ Below w.heap.size w w' := by
  have PT := fun W => isTwoCurve_c A B W
  have bx := Box.new w A B 25
  cases h1 : M.tcb A B
  · simp only [h1, M.pick_f] at PT ⊢
    have PT := Lib.hid PT
    go_enter Tryz.func25, Tryz.ntmps25
    go_wp2_with (go_at_call 46; (with_reducible refine (PT.out _).mono ?_); rintro e w1 ⟨rfl, hb1⟩; (have bx1 := bx.keep hb1); (have c0 := bx1.c0); (have c1 := bx1.c1); (have B1 : Below w.heap.size w w1 := (by repeat (first | exact Below.refl _ _ | refine below_alloc ?_ _ | refine below_step ?_ (by assumption) | refine Below.drew ?_ | refine Below.setCell ?_ (by first | exact Nat.le_refl _ | exact Nat.le_add_right _ _ | (simp <;> omega)) _ | refine below_drewN ?_ _))))
    exact bodyPost_ret (v := .tuple #[.int .i64 0, .int .i64 0, .bool false]) (by simp [results, Tryz.results25, go_sem, *]) rfl (⟨rfl, B1⟩)
  · have P := fun W => side_c A B dual W (M.tcb_t h1)
    simp only [h1, M.pick_t] at PT ⊢
    have PT := Lib.hid PT
    have P := Lib.hid P
    generalize M.sA A dual = g0 at *
    generalize M.sB A B dual = g1 at *
    go_enter Tryz.func25, Tryz.ntmps25
    go_wp2_with (first | (go_at_call 46; (with_reducible refine (PT.out _).mono ?_); rintro e w1 ⟨rfl, hb1⟩; (have bx1 := bx.keep hb1); (have c0 := bx1.c0); (have c1 := bx1.c1); (have B1 : Below w.heap.size w w1 := (by repeat (first | exact Below.refl _ _ | refine below_alloc ?_ _ | refine below_step ?_ (by assumption) | refine Below.drew ?_ | refine Below.setCell ?_ (by first | exact Nat.le_refl _ | exact Nat.le_add_right _ _ | (simp <;> omega)) _ | refine below_drewN ?_ _)))) | (go_at_call 75; (with_reducible refine (P.out _).mono ?_); rintro e w4 ⟨rfl, hb4⟩; (have B4 := B1.trans (hb4.mono B1.size))))
    exact bodyPost_ret (v := .tuple #[.int .i64 g0, .int .i64 g1, .bool true]) (by simp [results, Tryz.results25, go_sem, *]) rfl (⟨rfl, B4⟩)
set_option maxRecDepth 100000 in
set_option maxHeartbeats 1000000 in
theorem specDescentCoefficients_c (A B : Int) (dual : Bool) (w : World) :
    Calls Tryz.prog 26 #[.agg #[.int .i64 A, .int .i64 B], .bool dual] w fun e w' => e = .returned (.tuple #[.int .i64 (M.pick (M.tcb A B) (M.sA A dual)), .int .i64 (M.pick (M.tcb A B) (M.sB A B dual)), .bool (M.tcb A B)]) ∧ Below w.heap.size w w' := by
  have PT := fun W => tcGood_c A B W
  have bx := Box.new w A B 25
  cases h1 : M.tcb A B
  · simp only [h1, M.pick_f] at PT ⊢
    have PT := Lib.hid PT
    go_enter Tryz.func26, Tryz.ntmps26
    go_wp2_with (go_at_call 48; (with_reducible refine (PT.out _).mono ?_); rintro e w1 ⟨rfl, hb1⟩; (have bx1 := bx.keep hb1); (have c0 := bx1.c0); (have c1 := bx1.c1); (have B1 : Below w.heap.size w w1 := (by repeat (first | exact Below.refl _ _ | refine below_alloc ?_ _ | refine below_step ?_ (by assumption) | refine Below.drew ?_ | refine Below.setCell ?_ (by first | exact Nat.le_refl _ | exact Nat.le_add_right _ _ | (simp <;> omega)) _ | refine below_drewN ?_ _))))
    exact bodyPost_ret (v := .tuple #[.int .i64 0, .int .i64 0, .bool false]) (by simp [results, Tryz.results26, go_sem, *]) rfl (⟨rfl, B1⟩)
  · have P := fun W => dsSide_c A B dual W (M.tcb_t h1)
    simp only [h1, M.pick_t] at PT ⊢
    have PT := Lib.hid PT
    have P := Lib.hid P
    generalize M.sA A dual = g0 at *
    generalize M.sB A B dual = g1 at *
    go_enter Tryz.func26, Tryz.ntmps26
    go_wp2_with (first | (go_at_call 48; (with_reducible refine (PT.out _).mono ?_); rintro e w1 ⟨rfl, hb1⟩; (have bx1 := bx.keep hb1); (have c0 := bx1.c0); (have c1 := bx1.c1); (have B1 : Below w.heap.size w w1 := (by repeat (first | exact Below.refl _ _ | refine below_alloc ?_ _ | refine below_step ?_ (by assumption) | refine Below.drew ?_ | refine Below.setCell ?_ (by first | exact Nat.le_refl _ | exact Nat.le_add_right _ _ | (simp <;> omega)) _ | refine below_drewN ?_ _)))) | (go_at_call 76; (with_reducible refine (P.out _).mono ?_); rintro e w4 ⟨rfl, hb4⟩; (have B4 := B1.trans (hb4.mono B1.size))))
    exact bodyPost_ret (v := .tuple #[.int .i64 g0, .int .i64 g1, .bool true]) (by simp [results, Tryz.results26, go_sem, *]) rfl (⟨rfl, B4⟩)
end Go.Proofs.YtgkjmjlkhnfbiaaGreat

namespace Go.Proofs.YtgkjmjlkhnfbiaaGreat
set_option linter.unusedSimpArgs false
set_option linter.unusedVariables false
open Go.RowKit
namespace M
theorem isCl_of {x : Int} (h0 : x ≠ 0) (hn : nosq x) (hb : x.natAbs ≤ 1000000) : isCl x = true := by
  obtain ⟨t, ht⟩ := sqfree_sq h0 (by omega)
  have hs := sqfree_ok h0 (by omega)
  have ht0 : t ≠ 0 := fun e => h0 (by rw [ht, e]; simp)
  have : x = sqfree x := rel.eq ⟨1, t, by decide, ht0, by rw [Int.mul_one, Int.mul_one]; exact ht⟩ hn hs.1
  exact isCl_iff.2 ⟨⟨h0, by omega, by omega⟩, this.symm⟩
theorem dvs_cl {A B : Int} (h : tc A B) {dual : Bool} {x : Int} (hx : x ∈ dvs (sB A B dual)) : isCl x = true := by
  obtain ⟨⟨h1, h2⟩, h3⟩ := dvs_bd h dual x hx
  exact isCl_of h1 h2 h3
theorem slm_dvs {A B : Int} {dual : Bool} {x : Int} (hx : x ∈ slm A B dual) : x ∈ dvs (sB A B dual) := (List.mem_filter.1 hx).1
/-- what the reasons against the divisors of a side say -/
structure DsR (A B : Int) (dual : Bool) (d : Int) : Prop where
  told : rsk A B dual d = true
  stay : rsn A B dual d = 0 → d ∈ slm A B dual
  gone : rsn A B dual d ≠ 0 → d ∉ slm A B dual
  fok : fok d (sA A dual) (dC A B dual d) = true
  none : rsn A B dual d = 0 → (real d (sA A dual) (dC A B dual d) && decide ((fl d (sA A dual) (dC A B dual d)).length = 0)) = true
  some : rsn A B dual d ≠ 0 → (real d (sA A dual) (dC A B dual d) && decide ((fl d (sA A dual) (dC A B dual d)).length = 0)) = false
  prime : 0 < rsn A B dual d → (Prime (rsn A B dual d) ∧ rsn A B dual d ≤ 997) ∧ sv d (sA A dual) (dC A B dual d) (rsn A B dual d) = false ∧ td d (sA A dual) (dC A B dual d) (rsn A B dual d) = true
theorem dsR {A B d : Int} {dual : Bool} (hk : slk A B dual = true) (hd : d ∈ dvs (sB A B dual)) : DsR A B dual d := by
  have h1 : fok d (sA A dual) (dC A B dual d) = true := List.all_eq_true.1 hk d hd
  have e : rsn A B dual d = rsOf d (sA A dual) (dC A B dual d) := by unfold rsn; rw [if_pos h1]
  have hs : rs0 A B dual d = (rsn A B dual d == 0) := rfl
  have hall := List.all_eq_true.1 h1
  have hfl : ∀ x ∈ fl d (sA A dual) (dC A B dual d), x ∈ bads d (sA A dual) (dC A B dual d) ∧ sv d (sA A dual) (dC A B dual d) x = false := fun x hx => by
    obtain ⟨q1, q2⟩ := List.mem_filter.1 hx
    refine ⟨q1, ?_⟩
    unfold nsv at q2
    simpa using q2
  have hp : 0 < rsn A B dual d → rsn A B dual d ∈ fl d (sA A dual) (dC A B dual d) := fun q => by
    rw [e] at q ⊢
    unfold rsOf at q ⊢
    cases hr : real d (sA A dual) (dC A B dual d) with
    | false => rw [hr] at q; simp at q
    | true =>
      rw [hr] at q
      simp only [if_true] at q ⊢
      cases hl : fl d (sA A dual) (dC A B dual d) with
      | nil => rw [hl] at q; simp at q
      | cons y ys => simp
  have hz : rsn A B dual d = 0 ↔ (real d (sA A dual) (dC A B dual d) && decide ((fl d (sA A dual) (dC A B dual d)).length = 0)) = true := by
    rw [e]
    unfold rsOf
    cases hr : real d (sA A dual) (dC A B dual d) with
    | false => simp
    | true =>
      cases hl : fl d (sA A dual) (dC A B dual d) with
      | nil => simp
      | cons y ys =>
        have := (bads_prime (hfl y (by rw [hl]; simp)).1).1
        simp
        omega
  refine ⟨h1, fun q => List.mem_filter.2 ⟨hd, by rw [hs, q]; rfl⟩, fun q hm => q ?_, h1, hz.1, fun q => ?_, fun q => ?_⟩
  · have := (List.mem_filter.1 hm).2
    rw [hs] at this
    exact eq_of_beq this
  · cases hc : (real d (sA A dual) (dC A B dual d) && decide ((fl d (sA A dual) (dC A B dual d)).length = 0)) with
    | false => rfl
    | true => exact absurd (hz.2 hc) q
  · have hm := hfl _ (hp q)
    have hk := hall _ hm.1
    unfold pok at hk
    rw [Bool.and_eq_true, decide_eq_true_eq] at hk
    exact ⟨⟨bads_prime hm.1, hk.1⟩, hm.2, hk.2⟩
theorem od_not {A B : Int} {dual : Bool} {n : Int} (ht : tc A B) : ∀ x ∈ odL A B dual n, x ∉ fnd A B dual n.toNat := fun x hx hf => by
  unfold odL opt at hx
  cases ho : odO A B dual n with
  | false => rw [ho] at hx; simp at hx
  | true =>
    rw [ho] at hx
    simp only [if_true] at hx
    obtain ⟨-, h2⟩ := List.mem_filter.1 hx
    unfold odO odk at ho
    simp only [Bool.and_eq_true] at ho
    have hg := ho.2.2
    unfold odG ncl at h2
    have : x ∉ grp (fnd A B dual n.toNat) := by simpa using h2
    refine this ?_
    obtain ⟨acc, ha⟩ : ∃ acc, gfo (fnd A B dual n.toNat) = some acc := by
      unfold gok at hg
      exact Option.isSome_iff_exists.1 hg
    unfold grp
    rw [ha]
    exact (srt_perm _).mem_iff.2 ((gfo_has _ [1] acc (by simp) ha x (Or.inl hf)))
end M
set_option maxRecDepth 100000 in
set_option maxHeartbeats 1000000 in
theorem isQuartic_c (D A C : Int) (w : World) (h : M.dsc D A C) :
    Calls Tryz.prog 58 #[.agg #[.int .i64 D, .int .i64 A, .int .i64 C]] w fun e w' => e = .returned (.bool true) ∧ Below w.heap.size w w' := by
  obtain ⟨⟨⟨d1, d2⟩, ⟨a1, a2⟩, e1, e2⟩, -, hD, hC⟩ := h
  have PD := fun W => inside_c D (-100000) 100000 W
  have PA := fun W => inside_c A (-100000) 100000 W
  have PC := fun W => inside_c C (-100000) 100000 W
  rw [M.ins_iff.2 ⟨d1, d2⟩] at PD
  rw [M.ins_iff.2 ⟨by omega, by omega⟩] at PA
  rw [M.ins_iff.2 ⟨e1, e2⟩] at PC
  have PD := Lib.hid PD
  have PA := Lib.hid PA
  have PC := Lib.hid PC
  obtain ⟨c0, c1, c2⟩ := box3 w D A C 35
  clear d1 d2 a1 a2 e1 e2
  go_enter Tryz.func58, Tryz.ntmps58
  go_wp2_with (go_at_call 61; (first | (with_reducible refine (PD.out _).mono ?_) | (with_reducible refine (PA.out _).mono ?_) | (with_reducible refine (PC.out _).mono ?_)); rintro e w1 ⟨rfl, rfl⟩)
  exact bodyPost_ret (v := .bool true) (by simp [results, Tryz.results58, go_sem, *]) rfl (⟨rfl, (by repeat (first | exact Below.refl _ _ | refine below_alloc ?_ _ | refine below_step ?_ (by assumption) | refine Below.drew ?_ | refine Below.setCell ?_ (by first | exact Nat.le_refl _ | exact Nat.le_add_right _ _ | (simp <;> omega)) _ | refine below_drewN ?_ _))⟩)
set_option maxRecDepth 100000 in
set_option maxHeartbeats 1000000 in
theorem implIsEverywhereSoluble_c (D A C : Int) (w : World) (h : M.dsc D A C) (hd : M.qdisc D A C ≠ 0) (hk : M.fok D A C = true) :
    Calls Tryz.prog 16 #[.agg #[.int .i64 D, .int .i64 A, .int .i64 C]] w fun e w' => e = .returned (.tuple #[.bool (M.real D A C && decide ((M.fl D A C).length = 0)), .bool true]) ∧ Below w.heap.size w w' := by
  have PQ := fun W => isQuartic_c D A C W h
  have PF := fun W => failing_c D A C W h hd
  rw [hk] at PF
  simp only [M.opt_t] at PF
  have PR := fun W => isReal_c D A C W h.1
  have PQ := Lib.hid PQ
  have PF := Lib.hid PF
  have b3 := Box3.new w D A C 35
  clear h hd hk
  generalize M.real D A C = r at *
  generalize M.fl D A C = L at *
  have hL : L.length = 0 ∨ ∃ m, L.length = m + 1 := by cases hl : L.length with | zero => exact Or.inl rfl | succ m => exact Or.inr ⟨m, rfl⟩
  have hL := Lib.hid hL
  cases r
  · have PR := Lib.hid PR
    rw [Bool.false_and]
    go_enter Tryz.func16, Tryz.ntmps16
    go_wp2_with (first | (go_at_call 58; (with_reducible refine (PQ.out _).mono ?_); rintro e w1 ⟨rfl, hb1⟩; (replace b3 := b3.keep hb1); (have c0 := b3.c0); (have c1 := b3.c1); (have c2 := b3.c2); (have B1 : Below w.heap.size w w1 := (by repeat (first | exact Below.refl _ _ | refine below_alloc ?_ _ | refine below_step ?_ (by assumption) | refine Below.drew ?_ | refine Below.setCell ?_ (by first | exact Nat.le_refl _ | exact Nat.le_add_right _ _ | (simp <;> omega)) _ | refine below_drewN ?_ _)))) | (go_at_call 59; (with_reducible refine (PF.out _).mono ?_); rintro e w2 ⟨v, rfl, ho, hb2⟩; obtain ⟨a_, cap_, rfl, hm_, hv_⟩ := ho.view; clear hm_ hv_; (have b4 := b3.keep hb2); (have d0 := b4.c0); (have d1 := b4.c1); (have d2 := b4.c2); (have B2 := B1.trans (hb2.mono B1.size))) | (go_at_call 60; (with_reducible refine (PR.out _).mono ?_); rintro e w3 ⟨rfl, hb3⟩; (have B3 := B2.trans (hb3.mono B2.size))))
    exact bodyPost_ret (v := .tuple #[.bool false, .bool true]) (by simp [results, Tryz.results16, go_sem, *]) rfl (⟨rfl, B3⟩)
  · have PR := Lib.hid PR
    rcases hL.out with h0 | ⟨m, h0⟩
    · obtain rfl : L = [] := List.length_eq_zero_iff.1 h0
      rw [show (true && decide ((([] : List Int)).length = 0)) = true from rfl]
      clear hL h0
      go_enter Tryz.func16, Tryz.ntmps16
      go_wp2_with (first | (go_at_call 58; (with_reducible refine (PQ.out _).mono ?_); rintro e w1 ⟨rfl, hb1⟩; (replace b3 := b3.keep hb1); (have c0 := b3.c0); (have c1 := b3.c1); (have c2 := b3.c2); (have B1 : Below w.heap.size w w1 := (by repeat (first | exact Below.refl _ _ | refine below_alloc ?_ _ | refine below_step ?_ (by assumption) | refine Below.drew ?_ | refine Below.setCell ?_ (by first | exact Nat.le_refl _ | exact Nat.le_add_right _ _ | (simp <;> omega)) _ | refine below_drewN ?_ _)))) | (go_at_call 59; (with_reducible refine (PF.out _).mono ?_); rintro e w2 ⟨v, rfl, ho, hb2⟩; obtain ⟨a_, cap_, rfl, hm_, hv_⟩ := ho.view; clear hm_ hv_; (have b4 := b3.keep hb2); (have d0 := b4.c0); (have d1 := b4.c1); (have d2 := b4.c2); (have B2 := B1.trans (hb2.mono B1.size))) | (go_at_call 60; (with_reducible refine (PR.out _).mono ?_); rintro e w3 ⟨rfl, hb3⟩; (have B3 := B2.trans (hb3.mono B2.size))))
      exact bodyPost_ret (v := .tuple #[.bool true, .bool true]) (by simp [results, Tryz.results16, go_sem, *]) rfl (⟨rfl, B3⟩)
    · have h1 : ¬ (L.length : Int) = 0 := by omega
      have h2 : ¬ L = [] := by rintro rfl; simp at h0
      rw [show (true && decide (L.length = 0)) = false from by rw [h0]; rfl]
      clear hL h0
      go_enter Tryz.func16, Tryz.ntmps16
      go_wp2_with (first | (go_at_call 58; (with_reducible refine (PQ.out _).mono ?_); rintro e w1 ⟨rfl, hb1⟩; (replace b3 := b3.keep hb1); (have c0 := b3.c0); (have c1 := b3.c1); (have c2 := b3.c2); (have B1 : Below w.heap.size w w1 := (by repeat (first | exact Below.refl _ _ | refine below_alloc ?_ _ | refine below_step ?_ (by assumption) | refine Below.drew ?_ | refine Below.setCell ?_ (by first | exact Nat.le_refl _ | exact Nat.le_add_right _ _ | (simp <;> omega)) _ | refine below_drewN ?_ _)))) | (go_at_call 59; (with_reducible refine (PF.out _).mono ?_); rintro e w2 ⟨v, rfl, ho, hb2⟩; obtain ⟨a_, cap_, rfl, hm_, hv_⟩ := ho.view; clear hm_ hv_; (have b4 := b3.keep hb2); (have d0 := b4.c0); (have d1 := b4.c1); (have d2 := b4.c2); (have B2 := B1.trans (hb2.mono B1.size))) | (go_at_call 60; (with_reducible refine (PR.out _).mono ?_); rintro e w3 ⟨rfl, hb3⟩; (have B3 := B2.trans (hb3.mono B2.size))))
      exact bodyPost_ret (v := .tuple #[.bool false, .bool true]) (by simp [results, Tryz.results16, go_sem, *]) rfl (⟨rfl, B3⟩)
set_option maxRecDepth 100000 in
set_option maxHeartbeats 1000000 in
theorem implIsLocallySoluble_c (D A C p : Int) (w : World) (h : M.dsc D A C) (hp : M.Prime p) (hp2 : p ≤ 997) :
    Calls Tryz.prog 18 #[.agg #[.int .i64 D, .int .i64 A, .int .i64 C], .int .i64 p] w fun e w' => e = .returned (.tuple #[.bool (M.sv D A C p), .bool (M.td D A C p)]) ∧ Below w.heap.size w w' := by
  have PQ := fun W => isQuartic_c D A C W h
  have PI := fun W => inside_c p 2 997 W
  rw [M.ins_iff.2 ⟨hp.1, hp2⟩] at PI
  have PP := fun W => isPrime_c p W hp.1 hp2
  rw [M.prime_iff.2 hp] at PP
  have PS := fun W => solubleP_c D A C p W hp.1 hp2
  have PQ := Lib.hid PQ
  have PI := Lib.hid PI
  have PP := Lib.hid PP
  have PS := Lib.hid PS
  have b3 := Box3.new w D A C 35
  clear h hp hp2
  generalize M.sv D A C p = r at *
  generalize M.td D A C p = L at *
  go_enter Tryz.func18, Tryz.ntmps18
  go_wp2_with (first | (go_at_call 58; (with_reducible refine (PQ.out _).mono ?_); rintro e w1 ⟨rfl, hb1⟩; (replace b3 := b3.keep hb1); (have c0 := b3.c0); (have c1 := b3.c1); (have c2 := b3.c2); (have B1 : Below w.heap.size w w1 := (by repeat (first | exact Below.refl _ _ | refine below_alloc ?_ _ | refine below_step ?_ (by assumption) | refine Below.drew ?_ | refine Below.setCell ?_ (by first | exact Nat.le_refl _ | exact Nat.le_add_right _ _ | (simp <;> omega)) _ | refine below_drewN ?_ _)))) | (go_at_call 61; (with_reducible refine (PI.out _).mono ?_); rintro e w2 ⟨rfl, rfl⟩) | (go_at_call 62; (with_reducible refine (PP.out _).mono ?_); rintro e w2 ⟨rfl, rfl⟩) | (go_at_call 63; (with_reducible refine (PS.out _).mono ?_); rintro e w3 ⟨rfl, hb3⟩; (have B3 := B1.trans (hb3.mono B1.size))))
  exact bodyPost_ret (v := .tuple #[.bool r, .bool L]) (by simp [results, Tryz.results18, go_sem, *]) rfl (⟨rfl, B3⟩)
set_option maxRecDepth 100000 in
set_option maxHeartbeats 1000000 in
theorem implProductClass_c (d e : Int) (w : World) (hd : M.isCl d = true) (he : M.isCl e = true) (hr : M.isCl (M.prd d e) = true) :
    Calls Tryz.prog 19 #[.int .i64 d, .int .i64 e] w fun r w' => r = .returned (.tuple #[.int .i64 (M.prd d e), .bool true]) ∧ Below w.heap.size w w' := by
  obtain ⟨⟨d0, d1, d2⟩, -⟩ := M.isCl_iff.1 hd
  obtain ⟨⟨e0, e1, e2⟩, -⟩ := M.isCl_iff.1 he
  have PD := fun W => isClass_c d W (by omega) (by omega)
  have PE := fun W => isClass_c e W (by omega) (by omega)
  have PP := fun W => productClass_c d e W d0 (by omega) (by omega)
  rw [hd] at PD
  rw [he] at PE
  rw [hr] at PP
  simp only [if_true] at PP
  have PD := Lib.hid PD
  have PE := Lib.hid PE
  have PP := Lib.hid PP
  clear hd he hr d0 d1 d2 e0 e1 e2
  generalize M.prd d e = x at *
  go_enter Tryz.func19, Tryz.ntmps19
  go_wp2_with (first | (go_at_call 64; (with_reducible refine (PD.out _).mono ?_); rintro r w1 ⟨rfl, hb1⟩) | (go_at_call 64; (with_reducible refine (PE.out _).mono ?_); rintro r w2 ⟨rfl, hb2⟩) | (go_at_call 65; (with_reducible refine (PP.out _).mono ?_); rintro r w3 ⟨rfl, hb3⟩))
  exact bodyPost_ret (v := .tuple #[.int .i64 x, .bool true]) (by simp [results, Tryz.results19, go_sem, *]) rfl (⟨rfl, (by repeat (first | exact Below.refl _ _ | refine below_alloc ?_ _ | refine below_step ?_ (by assumption) | refine Below.drew ?_ | refine Below.setCell ?_ (by first | exact Nat.le_refl _ | exact Nat.le_add_right _ _ | (simp <;> omega)) _ | refine below_drewN ?_ _))⟩)
end Go.Proofs.YtgkjmjlkhnfbiaaGreat
