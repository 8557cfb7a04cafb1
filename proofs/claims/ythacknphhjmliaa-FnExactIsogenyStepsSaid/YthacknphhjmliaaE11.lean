/-
  Contracts: the class of a curve.
-/
import Derived.Test.YthacknphhjmliaaE10
import Derived.Test.YthacknphhjmliaaS10
import Derived.Test.YthacknphhjmliaaPlain8
namespace Go.Proofs.Ythacknphhjmliaa
set_option linter.unusedSimpArgs false
set_option linter.unusedVariables false
open Go.RowKit Go.Shelf

def M.okc (c : Int × Int) : Bool := M.nbOk c.1 c.2
def M.nbc (c : Int × Int) : List (Int × Int) := M.nbs c.1 c.2
def M.cls (a b : Int) : Option (List (Int × Int) × List Int) := M.bfs M.okc M.nbc 10 0 ([(M.smA a b, M.smB a b)], [0])
def M.clsL (a b : Int) : List (Int × Int) × List Int := (M.cls a b).getD ([], [])
theorem M.nbc_good {c : Int × Int} (h : M.nbOk c.1 c.2 = true) : ∀ n ∈ M.nbc c, M.good n.1 n.2 = true := by
  intro n hn
  unfold M.nbc M.nbs at hn
  rw [if_pos h] at hn
  have := ((M.inc_cputs _ [] List.Pairwise.nil).2 n).1 hn
  rcases this with h' | h'
  · cases h'
  · obtain ⟨e, he, rfl⟩ := List.mem_map.1 h'
    exact List.all_eq_true.1 h e he
theorem M.nbc_le (c : Int × Int) : (M.nbc c).length ≤ 201 := by
  unfold M.nbc M.nbs
  split
  · have h1 := cputs_le ((M.roots c.1 c.2).map (M.nbl c.1 c.2)) []
    have h2 := M.roots_le c.1 c.2
    rw [List.length_map, List.length_nil] at h1
    unfold M.cputs
    omega
  · simp
theorem M.cls_start {a b : Int} (h : M.good a b = true) : M.BInv ((0 : Nat) : Int) ([(M.smA a b, M.smB a b)], [0]) where
  good := fun c hc => by simp only [List.mem_singleton] at hc; subst hc; exact M.sm_good h
  nd := by simp
  len := rfl
  bd := fun s hs => by simp only [List.mem_singleton] at hs; subst hs; omega
theorem int_ne_C : (3 : TypeId) ≠ EC.t := by show (3 : TypeId) ≠ 27; decide
theorem C_ne_int : EC.t ≠ (3 : TypeId) := fun h => int_ne_C h.symm
theorem keep8 {W w4 : World} {base base7 : Nat} {v7 v8 : Value} {cs : List (Int × Int)} {ss : List Int} (h8 : OwnI W base v8 ss) (h7 : Rw.Own EC W base7 v7 cs) (hg : W.grownBy w4 v7.ownBlock) : OwnI w4 base v8 ss :=
  ownI_iff.2 (Rw.Own.kept (ownI_iff.1 h8) hg fun g hg' => own_apart h8 h7 int_ne_C g hg')
theorem keep7 {W w4 : World} {base base7 : Nat} {v7 v8 : Value} {cs : List (Int × Int)} {ss : List Int} (h7 : Rw.Own EC W base7 v7 cs) (h8 : OwnI W base v8 ss) (hg : W.grownBy w4 v8.ownBlock) : Rw.Own EC w4 base7 v7 cs :=
  Rw.Own.kept h7 hg fun g hg' => own_apart h7 h8 C_ne_int g hg'
theorem fromI {w : World} {H : Nat} (c : Int) (hH : w.heap.size = H) : Rw.From EI (w.alloc (.cells #[.int .i64 c] 3)) (some ⟨H, 0, none⟩) [c] := Rw.From.lit EI w c H hH
theorem start7 (w : World) (c : Int × Int) (H : Nat) {base : Nat} {o : Obj} (hH : w.heap.size = H) (hb : base ≤ w.heap.size) : Rw.Own EC ((w.alloc (.cells #[.int .i64 c.1, .int .i64 c.2] 27)).alloc o) base (.slice (some ⟨H, 0, none⟩) 1 1) [c] := by
  subst hH
  exact (Rw.Own.lit1 EC c w base hb).alloc o
theorem start8 (w : World) (c : Int) (H : Nat) {base : Nat} (hH : w.heap.size = H) (hb : base ≤ w.heap.size) : OwnI (w.alloc (.cells #[.int .i64 c] 3)) base (.slice (some ⟨H, 0, none⟩) 1 1) [c] := by
  subst hH
  exact ownI_iff.2 (Rw.Own.lit1 EI c w base hb)

set_option maxHeartbeats 4000000 in
theorem isogenyClass_c (a b : Int) (w : World) (hg : M.good a b = true) :
    Calls Try.prog 29 #[.agg #[.int .i64 a, .int .i64 b]] w fun e w' => ∃ q : Value × Value, e = .returned (.tuple #[q.1, q.2, .bool (M.cls a b).isSome]) ∧ Rw.Own EC w' w.heap.size q.1 (M.clsL a b).1 ∧ OwnI w' w.heap.size q.2 (M.clsL a b).2 ∧ Below w.heap.size w w' := by
  have HS := Lib.hid fun w => smallest_c a b w hg
  go_enter Try.func29, Try.ntmps29
  go_wp2_with fail
  refine (HS.out _).mono ?_; rintro e w1 ⟨rfl, hb1⟩
  have z1 : w.heap.size < w1.heap.size := by have := hb1.size; simp at this; omega
  have B1 : Below w.heap.size w w1 := (by repeat (first | exact Below.refl _ _ | refine below_alloc ?_ _ | refine below_step ?_ (by assumption) | refine Below.drew ?_ | refine Below.setCell ?_ (by first | exact Nat.le_refl _ | exact Nat.le_add_right _ _ | (simp <;> omega)) _ | refine below_drewN ?_ _))
  have hst := Lib.hid (M.cls_start hg)
  clear hb1
  go_wp2
  go_loopw [7, 8, 9] (fun v7 v8 vi wr => ∃ (i : Nat) (p : List (Int × Int) × List Int), vi = .int .i64 i ∧ i ≤ p.1.length ∧ p.1.length ≤ 8 ∧ M.bfs M.okc M.nbc (10 - i) i p = M.cls a b ∧ M.BInv i p ∧ Rw.Own EC wr w1.heap.size v7 p.1 ∧ OwnI wr w1.heap.size v8 p.2 ∧ Below w1.heap.size w1 wr) (fun _ _ vi _ => 8 - (intOf vi).toNat)
  case atStart =>
    exact ⟨0, ([(M.smA a b, M.smB a b)], [0]), rfl, by simp, by simp, rfl, hst.out, start7 _ (M.smA a b, M.smB a b) _ (by simp) (by simp), start8 _ 0 _ (by simp) (by simp; omega), below_alloc (below_alloc (below_alloc (Below.refl _ _) _) _) _⟩
  case round =>
    obtain ⟨i, p, rfl, hip, hp8, hbf, hinv, hown7, hown8, hbr⟩ := hrel
    have hzr := hbr.size
    have Hbf := Lib.hid hbf
    have Hinv := Lib.hid hinv
    have hpl := hinv.len
    clear hbf hinv
    by_cases hlt : i < p.1.length
    · obtain ⟨A, cap, rfl, hm, hm2, hv⟩ := hown7.seen
      obtain ⟨g, c, rfl, hgl, hc, hcell⟩ := hv i hlt
      have e0 : wr.cell? ⟨g, i * 2, none⟩ = some (.int .i64 c.1) := hcell 0 _ rfl
      have e1 : wr.cell? ⟨g, i * 2 + 1, none⟩ = some (.int .i64 c.2) := hcell 1 _ rfl
      clear hv hcell
      obtain ⟨t, ht⟩ : ∃ t, Hid (p.2[i]? = some t) := ⟨_, Lib.hid (List.getElem?_eq_getElem (by omega))⟩
      have htb := Hinv.out.bd t (List.mem_of_getElem? ht.out)
      have hcg := Lib.hid (Hinv.out.good c (List.mem_of_getElem? hc.out))
      have HT := fun w => twoNeighbours_c c.1 c.2 w hcg.out
      have hfu : Hid (10 - i = (9 - i) + 1) := Lib.hid (by omega)
      cases hn : M.nbOk c.1 c.2 <;> simp only [hn] at HT <;> have HT := Lib.hid HT
      · have hcl : Hid (M.cls a b = none ∧ M.clsL a b = ([], [])) := Lib.hid (by
          have : M.cls a b = none := by rw [← Hbf.out, hfu.out, M.bfs_not hc.out hn]
          exact ⟨this, by unfold M.clsL; rw [this]; rfl⟩)
        go_wp2_with fail
        refine (HT.out _).mono ?_; rintro e w2 ⟨v2, rfl, hown2, hb2⟩
        go_wp2
        go_ret3
        exact ⟨(.slice none 0 0, .slice none 0 0), by rw [hcl.out.1]; rfl, by rw [hcl.out.2]; exact Rw.Own.nil _ _ _, by rw [hcl.out.2]; exact OwnI.nil _ _, B1.trans ((hbr.trans (hb2.mono hzr)).mono (by omega))⟩
      · have hng := Lib.hid (M.nbc_good hn)
        have hnl := M.nbc_le c
        go_wp2_with fail
        refine (HT.out _).mono ?_; rintro e w2 ⟨v2, rfl, hown2, hb2⟩
        have hown2 : Rw.Own EC w2 wr.heap.size v2 (M.nbc c) := hown2
        have z2 := hb2.size
        have hap : Apart (.slice (some ⟨g, 0, none⟩) p.1.length cap) v2 := fun g' h1 h2 => by
          have r1 := (hown7.lt g' h1).2
          have r2 := (hown2.lt g' h2).1
          omega
        obtain ⟨A2, cap2, rfl, hm', hm2', -⟩ := hown2.seen
        go_wp2
        go_loopw [7, 8, 40] (fun v7 v8 vk wi => ∃ k : Nat, vk = .int .i64 k ∧ k ≤ (M.nbc c).length ∧ (M.addAll (t + 1) p ((M.nbc c).take k)).1.length ≤ p.1.length + k ∧ M.BInv (i + 1) (M.addAll (t + 1) p ((M.nbc c).take k)) ∧ (M.addAll (t + 1) p ((M.nbc c).take k)).2[i]? = some t ∧ Rw.Own EC wi w1.heap.size v7 (M.addAll (t + 1) p ((M.nbc c).take k)).1 ∧ OwnI wi w1.heap.size v8 (M.addAll (t + 1) p ((M.nbc c).take k)).2 ∧ Rw.Own EC wi wr.heap.size (.slice A2 (M.nbc c).length cap2) (M.nbc c) ∧ Apart v7 (.slice A2 (M.nbc c).length cap2) ∧ Below w1.heap.size w1 wi) (fun _ _ vk _ => (M.nbc c).length - (intOf vk).toNat)
        case atStart => exact ⟨0, rfl, by omega, by simp [M.addAll], by simpa [M.addAll] using Hinv.out.mono (by omega), by simpa [M.addAll] using ht.out, by simpa [M.addAll] using hown7.below hb2, by simpa [M.addAll] using hown8.below hb2, hown2, hap, hbr.trans (hb2.mono hzr)⟩
        case round =>
          obtain ⟨k, rfl, hk, hql, hqi, hqt, h7, h8, h2, hapk, hbi⟩ := hrel
          have Hqi := Lib.hid hqi
          have hq2 := hqi.len
          clear hqi
          have zi := hbi.size
          by_cases hlk : k < (M.nbc c).length
          · obtain ⟨g8, cap8, rfl, hg8, hgs8⟩ := h8.form (by have := (List.getElem?_eq_some_iff.1 hqt).1; omega)
            obtain ⟨A3, cap3, e3, hm3, hm4, hv3⟩ := h2.seen
            injection e3 with e31 e32 e33
            subst e31 e33
            clear e32
            obtain ⟨gx, x, rfl, hgx, hx, hcx⟩ := hv3 k hlk
            have f0 : wr.cell? ⟨gx, k * 2, none⟩ = some (.int .i64 x.1) := hcx 0 _ rfl
            have f1 : wr.cell? ⟨gx, k * 2 + 1, none⟩ = some (.int .i64 x.2) := hcx 1 _ rfl
            clear hv3 hcx
            have hqp := Lib.hid (M.addAll_next (t + 1) p hx.out)
            have hxg := Lib.hid (hng.out x (List.mem_of_getElem? hx.out))
            have hqt := Lib.hid hqt
            generalize hq : M.addAll (t + 1) p ((M.nbc c).take k) = q at *
            clear hq
            rw [hq2] at h8
            have hilq : i < q.1.length := by have := (List.getElem?_eq_some_iff.1 hqt.out).1; omega
            have hqi' := Lib.hid (Hqi.out.one (s := t + 1) (n := x) (by omega) (by omega) hxg.out)
            have hqt' := Lib.hid (M.addOne_get (t + 1) q x hqt.out)
            by_cases hcd : 0 ≤ M.cidx x q.1
            · have hone : Hid (M.addOne (t + 1) q x = q) := Lib.hid (by unfold M.addOne; rw [if_neg (by omega)])
              go_wp2_with fail
              refine (containsC_c q.1 _ x _ _ ((h7.alloc _).seen) (Nat.le_refl _)).mono ?_; rintro e w3 ⟨rfl, hb3⟩
              go_wp2
              go_roundw
              case rel => exact ⟨k + 1, by go_num, by omega, by rw [hqp.out, hone.out]; omega, by rw [hqp.out]; exact hqi'.out, by rw [hqp.out]; exact hqt'.out, by rw [hqp.out, hone.out]; exact (h7.alloc _).below hb3, by rw [hqp.out, hone.out]; exact (OwnI.alloc h8 _).below hb3, (h2.alloc _).below hb3, hapk, (below_alloc hbi _).trans (hb3.mono (by simp; omega))⟩
              case measure => simp [intOf]; omega
            · have hone : Hid (M.addOne (t + 1) q x = (q.1 ++ [x], q.2 ++ [t + 1])) := Lib.hid (by unfold M.addOne; rw [if_pos (by omega)])
              go_wp2_with fail
              refine (containsC_c q.1 _ x _ _ ((h7.alloc _).seen) (Nat.le_refl _)).mono ?_; rintro e w3 ⟨he, hb3⟩; obtain rfl : e = .returned (.bool false) := by rw [he, decide_eq_false (show ¬ 0 ≤ M.cidx x q.1 by omega)]
              have d0 : w3.cell? ⟨wr.heap.size, 0, none⟩ = some (.int .i64 x.1) := (hb3.cell (by simp)).trans (box_cell _ _ _ _)
              have d1 : w3.cell? ⟨wr.heap.size, 1, none⟩ = some (.int .i64 x.2) := (hb3.cell (by simp)).trans (box_cell _ _ _ _)
              have z3 : wr.heap.size + 1 ≤ w3.heap.size := by have := hb3.size; simpa using this
              have h7a := (h7.alloc _).below hb3
              have h8a := (OwnI.alloc h8 _).below hb3
              have h2a := (h2.alloc _).below hb3
              have hba : Below w1.heap.size w1 w3 := (below_alloc hbi _).trans (hb3.mono (by simp; omega))
              go_wp2_with (first
                | (at_builtin; refine Rw.push3 fitsC w1.heap.size [x] q.1 _ ⟨_, 0, none⟩ 1 1 (by rfl) (by rfl) (.tmp 48) (.tmp 50) (by rfl) (by rfl) (by rfl) (fromH x (by simp)) (h7a.alloc _) (by simp; omega) (by simp; omega) ?_; intro v4 w4 hown4 hg4 hbl4; (have h8b := keep8 (OwnI.alloc h8a _) (h7a.alloc _) hg4); (have e8 := OwnI.cellAt hq2.symm h8b hqt.out))
                | (at_builtin; refine Rw.push3 fitsI w1.heap.size [t + 1] q.2 _ ⟨_, 0, none⟩ 1 1 (by rfl) (by rfl) (.tmp 52) (.tmp 58) (by rfl) (by rfl) (by rfl) (fromI (t + 1) (by simp)) ((ownI_iff.1 h8b).alloc _) (by have := hg4.size; simp at this ⊢; omega) (by simp; omega) ?_; intro v5 w5 hown5 hg5 hbl5))
              have h7c := keep7 (hown4.alloc (.cells #[.int .i64 (t + 1)] 3)) (OwnI.alloc h8b _) hg5
              have h2b := (h2a.alloc (.cells #[.int .i64 x.1, .int .i64 x.2] 27)).kept hg4 hapk
              have h2c := keep7 (h2b.alloc (.cells #[.int .i64 (t + 1)] 3)) (OwnI.alloc h8b _) hg5
              have hb4 := (below_alloc hba (.cells #[.int .i64 x.1, .int .i64 x.2] 27)).grown hg4 (by simp; omega) (fun k hk => (h7a.lt k hk).1)
              have hb5 := (below_alloc hb4 (.cells #[.int .i64 (t + 1)] 3)).grown hg5 (by have := hg4.size; simp at this ⊢; omega) (fun k hk => (h8b.lt k hk).1)
              have hap4 : Apart v4 (.slice (some ⟨gx, 0, none⟩) (M.nbc c).length cap2) := by
                rcases hbl4 with hbl4 | hbl4
                · intro g' h1; rw [hbl4] at h1; exact hapk g' h1
                · intro g' h1 h2'
                  rw [hbl4] at h1
                  obtain rfl := Option.some.inj h1
                  have := ((h2a.alloc (.cells #[.int .i64 x.1, .int .i64 x.2] 27)).lt _ h2').2
                  omega
              go_roundw
              case rel => exact ⟨k + 1, by go_num, by omega, by rw [hqp.out, hone.out]; simp; omega, by rw [hqp.out]; exact hqi'.out, by rw [hqp.out]; exact hqt'.out, by rw [hqp.out, hone.out]; exact h7c, by rw [hqp.out, hone.out]; exact ownI_iff.2 hown5, h2c, hap4, hb5⟩
              case measure => simp [intOf]; omega
          · obtain rfl : k = (M.nbc c).length := by omega
            rw [List.take_length] at h7 h8 hqt hql hq2 Hqi
            have hil := (List.getElem?_eq_some_iff.1 hqt).1
            obtain ⟨A7, cap7, e7, -⟩ := h7.seen
            subst e7
            obtain ⟨A8, cap8, e8⟩ := h8.nil_form
            subst e8
            have hqt := Lib.hid hqt
            by_cases h8x : 8 < (M.addAll (t + 1) p (M.nbc c)).1.length
            · have hcl : Hid (M.cls a b = none ∧ M.clsL a b = ([], [])) := Lib.hid (by
                have : M.cls a b = none := by rw [← Hbf.out, hfu.out, M.bfs_many hc.out hn ht.out h8x]
                exact ⟨this, by unfold M.clsL; rw [this]; rfl⟩)
              generalize M.addAll (t + 1) p (M.nbc c) = q at *
              go_wp2
              go_ret3
              exact ⟨(.slice none 0 0, .slice none 0 0), by rw [hcl.out.1]; rfl, by rw [hcl.out.2]; exact Rw.Own.nil _ _ _, by rw [hcl.out.2]; exact OwnI.nil _ _, B1.trans (hbi.mono (by omega))⟩
            · have hnb : Hid (M.bfs M.okc M.nbc (10 - (i + 1)) (i + 1) (M.addAll (t + 1) p (M.nbc c)) = M.cls a b) := Lib.hid (by
                rw [← Hbf.out, hfu.out, M.bfs_next hc.out hn ht.out h8x, show 10 - (i + 1) = 9 - i by omega])
              generalize M.addAll (t + 1) p (M.nbc c) = q at *
              go_wp2
              go_roundw
              case rel => exact ⟨i + 1, q, by go_num, by omega, by omega, hnb.out, Hqi.out, h7, h8, hbi⟩
              case measure => simp [intOf]; omega
    · obtain rfl : i = p.1.length := by omega
      have hcl : Hid (M.cls a b = some p ∧ M.clsL a b = p) := Lib.hid (by
        have : M.cls a b = some p := by rw [← Hbf.out, show 10 - p.1.length = (9 - p.1.length) + 1 by omega, M.bfs_end (Nat.le_refl _)]
        exact ⟨this, by unfold M.clsL; rw [this]; rfl⟩)
      obtain ⟨A7, cap7, e7, -⟩ := hown7.seen
      subst e7
      obtain ⟨A8, cap8, e8⟩ := hown8.nil_form
      subst e8
      go_wp2
      go_ret3
      exact ⟨(.slice A7 p.1.length cap7, .slice A8 p.2.length cap8), by rw [hcl.out.1]; rfl, by rw [hcl.out.2]; exact hown7.down (by omega), by rw [hcl.out.2]; exact hown8.base (by omega), B1.trans (hbr.mono (by omega))⟩

set_option maxHeartbeats 4000000 in
theorem icClass_c (a b : Int) (w : World) (hg : M.good a b = true) :
    Calls Try.prog 28 #[.agg #[.int .i64 a, .int .i64 b]] w fun e w' => ∃ q : Value × Value, e = .returned (.tuple #[q.1, q.2, .bool (M.cls a b).isSome]) ∧ Rw.Own EC w' w.heap.size q.1 (M.clsL a b).1 ∧ OwnI w' w.heap.size q.2 (M.clsL a b).2 ∧ Below w.heap.size w w' := by
  have HS := Lib.hid fun w => ecSmallest_c a b w hg
  go_enter Try.func28, Try.ntmps28
  go_wp2_with fail
  refine (HS.out _).mono ?_; rintro e w1 ⟨rfl, hb1⟩
  have z1 : w.heap.size < w1.heap.size := by have := hb1.size; simp at this; omega
  have B1 : Below w.heap.size w w1 := (by repeat (first | exact Below.refl _ _ | refine below_alloc ?_ _ | refine below_step ?_ (by assumption) | refine Below.drew ?_ | refine Below.setCell ?_ (by first | exact Nat.le_refl _ | exact Nat.le_add_right _ _ | (simp <;> omega)) _ | refine below_drewN ?_ _))
  have hst := Lib.hid (M.cls_start hg)
  clear hb1
  go_wp2
  go_loopw [7, 8, 9] (fun v7 v8 vi wr => ∃ (i : Nat) (p : List (Int × Int) × List Int), vi = .int .i64 i ∧ i ≤ p.1.length ∧ p.1.length ≤ 8 ∧ M.bfs M.okc M.nbc (10 - i) i p = M.cls a b ∧ M.BInv i p ∧ Rw.Own EC wr w1.heap.size v7 p.1 ∧ OwnI wr w1.heap.size v8 p.2 ∧ Below w1.heap.size w1 wr) (fun _ _ vi _ => 8 - (intOf vi).toNat)
  case atStart =>
    exact ⟨0, ([(M.smA a b, M.smB a b)], [0]), rfl, by simp, by simp, rfl, hst.out, start7 _ (M.smA a b, M.smB a b) _ (by simp) (by simp), start8 _ 0 _ (by simp) (by simp; omega), below_alloc (below_alloc (below_alloc (Below.refl _ _) _) _) _⟩
  case round =>
    obtain ⟨i, p, rfl, hip, hp8, hbf, hinv, hown7, hown8, hbr⟩ := hrel
    have hzr := hbr.size
    have Hbf := Lib.hid hbf
    have Hinv := Lib.hid hinv
    have hpl := hinv.len
    clear hbf hinv
    by_cases hlt : i < p.1.length
    · obtain ⟨A, cap, rfl, hm, hm2, hv⟩ := hown7.seen
      obtain ⟨g, c, rfl, hgl, hc, hcell⟩ := hv i hlt
      have e0 : wr.cell? ⟨g, i * 2, none⟩ = some (.int .i64 c.1) := hcell 0 _ rfl
      have e1 : wr.cell? ⟨g, i * 2 + 1, none⟩ = some (.int .i64 c.2) := hcell 1 _ rfl
      clear hv hcell
      obtain ⟨t, ht⟩ : ∃ t, Hid (p.2[i]? = some t) := ⟨_, Lib.hid (List.getElem?_eq_getElem (by omega))⟩
      have htb := Hinv.out.bd t (List.mem_of_getElem? ht.out)
      have hcg := Lib.hid (Hinv.out.good c (List.mem_of_getElem? hc.out))
      have HT := fun w => icAll_c c.1 c.2 w hcg.out
      have hfu : Hid (10 - i = (9 - i) + 1) := Lib.hid (by omega)
      cases hn : M.nbOk c.1 c.2 <;> simp only [hn] at HT <;> have HT := Lib.hid HT
      · have hcl : Hid (M.cls a b = none ∧ M.clsL a b = ([], [])) := Lib.hid (by
          have : M.cls a b = none := by rw [← Hbf.out, hfu.out, M.bfs_not hc.out hn]
          exact ⟨this, by unfold M.clsL; rw [this]; rfl⟩)
        go_wp2_with fail
        refine (HT.out _).mono ?_; rintro e w2 ⟨v2, rfl, hown2, hb2⟩
        go_wp2
        go_ret3
        exact ⟨(.slice none 0 0, .slice none 0 0), by rw [hcl.out.1]; rfl, by rw [hcl.out.2]; exact Rw.Own.nil _ _ _, by rw [hcl.out.2]; exact OwnI.nil _ _, B1.trans ((hbr.trans (hb2.mono hzr)).mono (by omega))⟩
      · have hng := Lib.hid (M.nbc_good hn)
        have hnl := M.nbc_le c
        go_wp2_with fail
        refine (HT.out _).mono ?_; rintro e w2 ⟨v2, rfl, hown2, hb2⟩
        have hown2 : Rw.Own EC w2 wr.heap.size v2 (M.nbc c) := hown2
        have z2 := hb2.size
        have hap : Apart (.slice (some ⟨g, 0, none⟩) p.1.length cap) v2 := fun g' h1 h2 => by
          have r1 := (hown7.lt g' h1).2
          have r2 := (hown2.lt g' h2).1
          omega
        obtain ⟨A2, cap2, rfl, hm', hm2', -⟩ := hown2.seen
        go_wp2
        go_loopw [7, 8, 40] (fun v7 v8 vk wi => ∃ k : Nat, vk = .int .i64 k ∧ k ≤ (M.nbc c).length ∧ (M.addAll (t + 1) p ((M.nbc c).take k)).1.length ≤ p.1.length + k ∧ M.BInv (i + 1) (M.addAll (t + 1) p ((M.nbc c).take k)) ∧ (M.addAll (t + 1) p ((M.nbc c).take k)).2[i]? = some t ∧ Rw.Own EC wi w1.heap.size v7 (M.addAll (t + 1) p ((M.nbc c).take k)).1 ∧ OwnI wi w1.heap.size v8 (M.addAll (t + 1) p ((M.nbc c).take k)).2 ∧ Rw.Own EC wi wr.heap.size (.slice A2 (M.nbc c).length cap2) (M.nbc c) ∧ Apart v7 (.slice A2 (M.nbc c).length cap2) ∧ Below w1.heap.size w1 wi) (fun _ _ vk _ => (M.nbc c).length - (intOf vk).toNat)
        case atStart => exact ⟨0, rfl, by omega, by simp [M.addAll], by simpa [M.addAll] using Hinv.out.mono (by omega), by simpa [M.addAll] using ht.out, by simpa [M.addAll] using hown7.below hb2, by simpa [M.addAll] using hown8.below hb2, hown2, hap, hbr.trans (hb2.mono hzr)⟩
        case round =>
          obtain ⟨k, rfl, hk, hql, hqi, hqt, h7, h8, h2, hapk, hbi⟩ := hrel
          have Hqi := Lib.hid hqi
          have hq2 := hqi.len
          clear hqi
          have zi := hbi.size
          by_cases hlk : k < (M.nbc c).length
          · obtain ⟨g8, cap8, rfl, hg8, hgs8⟩ := h8.form (by have := (List.getElem?_eq_some_iff.1 hqt).1; omega)
            obtain ⟨A3, cap3, e3, hm3, hm4, hv3⟩ := h2.seen
            injection e3 with e31 e32 e33
            subst e31 e33
            clear e32
            obtain ⟨gx, x, rfl, hgx, hx, hcx⟩ := hv3 k hlk
            have f0 : wr.cell? ⟨gx, k * 2, none⟩ = some (.int .i64 x.1) := hcx 0 _ rfl
            have f1 : wr.cell? ⟨gx, k * 2 + 1, none⟩ = some (.int .i64 x.2) := hcx 1 _ rfl
            clear hv3 hcx
            have hqp := Lib.hid (M.addAll_next (t + 1) p hx.out)
            have hxg := Lib.hid (hng.out x (List.mem_of_getElem? hx.out))
            have hqt := Lib.hid hqt
            generalize hq : M.addAll (t + 1) p ((M.nbc c).take k) = q at *
            clear hq
            rw [hq2] at h8
            have hilq : i < q.1.length := by have := (List.getElem?_eq_some_iff.1 hqt.out).1; omega
            have hqi' := Lib.hid (Hqi.out.one (s := t + 1) (n := x) (by omega) (by omega) hxg.out)
            have hqt' := Lib.hid (M.addOne_get (t + 1) q x hqt.out)
            by_cases hcd : 0 ≤ M.cidx x q.1
            · have hone : Hid (M.addOne (t + 1) q x = q) := Lib.hid (by unfold M.addOne; rw [if_neg (by omega)])
              go_wp2_with fail
              refine (icAt_c q.1 _ x _ _ ((h7.alloc _).seen) (Nat.le_refl _)).mono ?_; rintro e w3 ⟨rfl, hb3⟩
              go_wp2
              go_roundw
              case rel => exact ⟨k + 1, by go_num, by omega, by rw [hqp.out, hone.out]; omega, by rw [hqp.out]; exact hqi'.out, by rw [hqp.out]; exact hqt'.out, by rw [hqp.out, hone.out]; exact (h7.alloc _).below hb3, by rw [hqp.out, hone.out]; exact (OwnI.alloc h8 _).below hb3, (h2.alloc _).below hb3, hapk, (below_alloc hbi _).trans (hb3.mono (by simp; omega))⟩
              case measure => simp [intOf]; omega
            · have hone : Hid (M.addOne (t + 1) q x = (q.1 ++ [x], q.2 ++ [t + 1])) := Lib.hid (by unfold M.addOne; rw [if_pos (by omega)])
              go_wp2_with fail
              refine (icAt_c q.1 _ x _ _ ((h7.alloc _).seen) (Nat.le_refl _)).mono ?_; rintro e w3 ⟨rfl, hb3⟩
              have d0 : w3.cell? ⟨wr.heap.size, 0, none⟩ = some (.int .i64 x.1) := (hb3.cell (by simp)).trans (box_cell _ _ _ _)
              have d1 : w3.cell? ⟨wr.heap.size, 1, none⟩ = some (.int .i64 x.2) := (hb3.cell (by simp)).trans (box_cell _ _ _ _)
              have z3 : wr.heap.size + 1 ≤ w3.heap.size := by have := hb3.size; simpa using this
              have h7a := (h7.alloc _).below hb3
              have h8a := (OwnI.alloc h8 _).below hb3
              have h2a := (h2.alloc _).below hb3
              have hba : Below w1.heap.size w1 w3 := (below_alloc hbi _).trans (hb3.mono (by simp; omega))
              go_wp2_with (first
                | (at_builtin; refine Rw.push3 fitsC w1.heap.size [x] q.1 _ ⟨_, 0, none⟩ 1 1 (by rfl) (by rfl) (.tmp 48) (.tmp 50) (by rfl) (by rfl) (by rfl) (fromH x (by simp)) (h7a.alloc _) (by simp; omega) (by simp; omega) ?_; intro v4 w4 hown4 hg4 hbl4; (have h8b := keep8 (OwnI.alloc h8a _) (h7a.alloc _) hg4); (have e8 := OwnI.cellAt hq2.symm h8b hqt.out))
                | (at_builtin; refine Rw.push3 fitsI w1.heap.size [t + 1] q.2 _ ⟨_, 0, none⟩ 1 1 (by rfl) (by rfl) (.tmp 52) (.tmp 58) (by rfl) (by rfl) (by rfl) (fromI (t + 1) (by simp)) ((ownI_iff.1 h8b).alloc _) (by have := hg4.size; simp at this ⊢; omega) (by simp; omega) ?_; intro v5 w5 hown5 hg5 hbl5))
              have h7c := keep7 (hown4.alloc (.cells #[.int .i64 (t + 1)] 3)) (OwnI.alloc h8b _) hg5
              have h2b := (h2a.alloc (.cells #[.int .i64 x.1, .int .i64 x.2] 27)).kept hg4 hapk
              have h2c := keep7 (h2b.alloc (.cells #[.int .i64 (t + 1)] 3)) (OwnI.alloc h8b _) hg5
              have hb4 := (below_alloc hba (.cells #[.int .i64 x.1, .int .i64 x.2] 27)).grown hg4 (by simp; omega) (fun k hk => (h7a.lt k hk).1)
              have hb5 := (below_alloc hb4 (.cells #[.int .i64 (t + 1)] 3)).grown hg5 (by have := hg4.size; simp at this ⊢; omega) (fun k hk => (h8b.lt k hk).1)
              have hap4 : Apart v4 (.slice (some ⟨gx, 0, none⟩) (M.nbc c).length cap2) := by
                rcases hbl4 with hbl4 | hbl4
                · intro g' h1; rw [hbl4] at h1; exact hapk g' h1
                · intro g' h1 h2'
                  rw [hbl4] at h1
                  obtain rfl := Option.some.inj h1
                  have := ((h2a.alloc (.cells #[.int .i64 x.1, .int .i64 x.2] 27)).lt _ h2').2
                  omega
              go_roundw
              case rel => exact ⟨k + 1, by go_num, by omega, by rw [hqp.out, hone.out]; simp; omega, by rw [hqp.out]; exact hqi'.out, by rw [hqp.out]; exact hqt'.out, by rw [hqp.out, hone.out]; exact h7c, by rw [hqp.out, hone.out]; exact ownI_iff.2 hown5, h2c, hap4, hb5⟩
              case measure => simp [intOf]; omega
          · obtain rfl : k = (M.nbc c).length := by omega
            rw [List.take_length] at h7 h8 hqt hql hq2 Hqi
            have hil := (List.getElem?_eq_some_iff.1 hqt).1
            obtain ⟨A7, cap7, e7, -⟩ := h7.seen
            subst e7
            obtain ⟨A8, cap8, e8⟩ := h8.nil_form
            subst e8
            have hqt := Lib.hid hqt
            by_cases h8x : 8 < (M.addAll (t + 1) p (M.nbc c)).1.length
            · have hcl : Hid (M.cls a b = none ∧ M.clsL a b = ([], [])) := Lib.hid (by
                have : M.cls a b = none := by rw [← Hbf.out, hfu.out, M.bfs_many hc.out hn ht.out h8x]
                exact ⟨this, by unfold M.clsL; rw [this]; rfl⟩)
              generalize M.addAll (t + 1) p (M.nbc c) = q at *
              go_wp2
              go_ret3
              exact ⟨(.slice none 0 0, .slice none 0 0), by rw [hcl.out.1]; rfl, by rw [hcl.out.2]; exact Rw.Own.nil _ _ _, by rw [hcl.out.2]; exact OwnI.nil _ _, B1.trans (hbi.mono (by omega))⟩
            · have hnb : Hid (M.bfs M.okc M.nbc (10 - (i + 1)) (i + 1) (M.addAll (t + 1) p (M.nbc c)) = M.cls a b) := Lib.hid (by
                rw [← Hbf.out, hfu.out, M.bfs_next hc.out hn ht.out h8x, show 10 - (i + 1) = 9 - i by omega])
              generalize M.addAll (t + 1) p (M.nbc c) = q at *
              go_wp2
              go_roundw
              case rel => exact ⟨i + 1, q, by go_num, by omega, by omega, hnb.out, Hqi.out, h7, h8, hbi⟩
              case measure => simp [intOf]; omega
    · obtain rfl : i = p.1.length := by omega
      have hcl : Hid (M.cls a b = some p ∧ M.clsL a b = p) := Lib.hid (by
        have : M.cls a b = some p := by rw [← Hbf.out, show 10 - p.1.length = (9 - p.1.length) + 1 by omega, M.bfs_end (Nat.le_refl _)]
        exact ⟨this, by unfold M.clsL; rw [this]; rfl⟩)
      obtain ⟨A7, cap7, e7, -⟩ := hown7.seen
      subst e7
      obtain ⟨A8, cap8, e8⟩ := hown8.nil_form
      subst e8
      go_wp2
      go_ret3
      exact ⟨(.slice A7 p.1.length cap7, .slice A8 p.2.length cap8), by rw [hcl.out.1]; rfl, by rw [hcl.out.2]; exact hown7.down (by omega), by rw [hcl.out.2]; exact hown8.base (by omega), B1.trans (hbr.mono (by omega))⟩
end Go.Proofs.Ythacknphhjmliaa
