/-
  Joined texts: contracts and plain laws.
-/
import Derived.Test.YtgkjmjlkhnfbiaaGreatB17
import Derived.Test.YtgkjmjlkhnfbiaaGreatB3
import Derived.Test.YtgkjmjlkhnfbiaaGreatB16
namespace Go.Proofs.YtgkjmjlkhnfbiaaGreat
set_option linter.unusedSimpArgs false
set_option linter.unusedVariables false
open Go.RowKit
theorem M.isCl_zero : M.isCl 0 = false := by unfold M.isCl; rfl
theorem M.isCl_far {d : Int} (h : M.ins d (-1000000) 1000000 = false) : M.isCl d = false := by
  unfold M.ins at h
  unfold M.isCl
  rw [show (decide (-1000000 ≤ d) && decide (d ≤ 1000000)) = false from by rw [← h, Bool.decide_and]]
  simp
theorem M.isCl_in {d : Int} (h0 : d ≠ 0) (h : M.ins d (-1000000) 1000000 = true) : M.isCl d = decide (M.sqfree d = d) := by
  unfold M.ins at h
  unfold M.isCl
  rw [show (decide (-1000000 ≤ d) && decide (d ≤ 1000000)) = true from by rw [← h, Bool.decide_and]]
  simp [h0]
theorem isClass_c (d : Int) (w : World) (h1 : -1000000000000000000 ≤ d) (h2 : d ≤ 1000000000000000000) :
    Calls Tryz.prog 64 #[.int .i64 d] w fun e w' => e = .returned (.bool (M.isCl d)) ∧ Below w.heap.size w w' := by
  by_cases h0 : d = 0
  · subst h0
    rw [M.isCl_zero]
    go_enter Tryz.func64, Tryz.ntmps64
    go_wp2
    go_ret
    exact ⟨rfl, (by repeat (first | exact Below.refl _ _ | refine below_alloc ?_ _ | refine below_step ?_ (by assumption) | refine Below.drew ?_ | refine Below.setCell ?_ (by first | exact Nat.le_refl _ | exact Nat.le_add_right _ _ | (simp <;> omega)) _ | refine below_drewN ?_ _))⟩
  · have PI := fun W => inside_c d (-1000000) 1000000 W
    cases hi : M.ins d (-1000000) 1000000
    · rw [M.isCl_far hi]
      simp only [hi] at PI
      have PI := Lib.hid PI
      go_enter Tryz.func64, Tryz.ntmps64
      go_wp2_with (go_at_call 61; (with_reducible refine (PI.out _).mono ?_); rintro e w' ⟨rfl, rfl⟩)
      go_ret
      exact ⟨rfl, (by repeat (first | exact Below.refl _ _ | refine below_alloc ?_ _ | refine below_step ?_ (by assumption) | refine Below.drew ?_ | refine Below.setCell ?_ (by first | exact Nat.le_refl _ | exact Nat.le_add_right _ _ | (simp <;> omega)) _ | refine below_drewN ?_ _))⟩
    · rw [M.isCl_in h0 hi]
      simp only [hi] at PI
      have PI := Lib.hid PI
      have PS := fun W => squarefree_c d W h0 h1 h2
      have PS := Lib.hid PS
      generalize M.sqfree d = s at *
      by_cases hs : s = d
      · subst hs
        go_enter Tryz.func64, Tryz.ntmps64
        go_wp2_with (first
          | (go_at_call 61; (with_reducible refine (PI.out _).mono ?_); rintro e w' ⟨rfl, rfl⟩)
          | (go_at_call 104; (with_reducible refine (PS.out _).mono ?_); rintro e w1 ⟨rfl, hb1⟩))
        go_ret
        exact ⟨ret_b (by simp [h0]), (by repeat (first | exact Below.refl _ _ | refine below_alloc ?_ _ | refine below_step ?_ (by assumption) | refine Below.drew ?_ | refine Below.setCell ?_ (by first | exact Nat.le_refl _ | exact Nat.le_add_right _ _ | (simp <;> omega)) _ | refine below_drewN ?_ _))⟩
      · go_enter Tryz.func64, Tryz.ntmps64
        go_wp2_with (first
          | (go_at_call 61; (with_reducible refine (PI.out _).mono ?_); rintro e w' ⟨rfl, rfl⟩)
          | (go_at_call 104; (with_reducible refine (PS.out _).mono ?_); rintro e w1 ⟨rfl, hb1⟩))
        go_ret
        exact ⟨ret_b (by simp [hs]), (by repeat (first | exact Below.refl _ _ | refine below_alloc ?_ _ | refine below_step ?_ (by assumption) | refine Below.drew ?_ | refine Below.setCell ?_ (by first | exact Nat.le_refl _ | exact Nat.le_add_right _ _ | (simp <;> omega)) _ | refine below_drewN ?_ _))⟩
theorem dsClass_c (d : Int) (w : World) :
    Calls Tryz.prog 114 #[.int .i64 d] w fun e w' => e = .returned (.bool (M.isCl d)) ∧ Below w.heap.size w w' := by
  have PI := fun W => l1In_c d (-1000000) 1000000 W
  cases hi : M.ins d (-1000000) 1000000
  · rw [M.isCl_far hi]
    simp only [hi] at PI
    have PI := Lib.hid PI
    go_enter Tryz.func114, Tryz.ntmps114
    go_wp2_with (go_at_call 96; (with_reducible refine (PI.out _).mono ?_); rintro e w' ⟨rfl, rfl⟩)
    go_ret
    exact ⟨rfl, (by repeat (first | exact Below.refl _ _ | refine below_alloc ?_ _ | refine below_step ?_ (by assumption) | refine Below.drew ?_ | refine Below.setCell ?_ (by first | exact Nat.le_refl _ | exact Nat.le_add_right _ _ | (simp <;> omega)) _ | refine below_drewN ?_ _))⟩
  · simp only [hi] at PI
    have PI := Lib.hid PI
    by_cases h0 : d = 0
    · subst h0
      rw [M.isCl_zero]
      go_enter Tryz.func114, Tryz.ntmps114
      go_wp2_with (go_at_call 96; (with_reducible refine (PI.out _).mono ?_); rintro e w' ⟨rfl, rfl⟩)
      go_ret
      exact ⟨rfl, (by repeat (first | exact Below.refl _ _ | refine below_alloc ?_ _ | refine below_step ?_ (by assumption) | refine Below.drew ?_ | refine Below.setCell ?_ (by first | exact Nat.le_refl _ | exact Nat.le_add_right _ _ | (simp <;> omega)) _ | refine below_drewN ?_ _))⟩
    · rw [M.isCl_in h0 hi]
      have PS := fun W => tcClass_c d W h0 (by unfold M.ins at hi; simp at hi; omega) (by unfold M.ins at hi; simp at hi; omega)
      have PS := Lib.hid PS
      generalize M.sqfree d = s at *
      by_cases hs : s = d
      · subst hs
        go_enter Tryz.func114, Tryz.ntmps114
        go_wp2_with (first
          | (go_at_call 96; (with_reducible refine (PI.out _).mono ?_); rintro e w' ⟨rfl, rfl⟩)
          | (go_at_call 120; (with_reducible refine (PS.out _).mono ?_); rintro e w1 ⟨rfl, hb1⟩))
        go_ret
        exact ⟨ret_b (by simp [h0]), (by repeat (first | exact Below.refl _ _ | refine below_alloc ?_ _ | refine below_step ?_ (by assumption) | refine Below.drew ?_ | refine Below.setCell ?_ (by first | exact Nat.le_refl _ | exact Nat.le_add_right _ _ | (simp <;> omega)) _ | refine below_drewN ?_ _))⟩
      · go_enter Tryz.func114, Tryz.ntmps114
        go_wp2_with (first
          | (go_at_call 96; (with_reducible refine (PI.out _).mono ?_); rintro e w' ⟨rfl, rfl⟩)
          | (go_at_call 120; (with_reducible refine (PS.out _).mono ?_); rintro e w1 ⟨rfl, hb1⟩))
        go_ret
        exact ⟨ret_b (by simp [hs]), (by repeat (first | exact Below.refl _ _ | refine below_alloc ?_ _ | refine below_step ?_ (by assumption) | refine Below.drew ?_ | refine Below.setCell ?_ (by first | exact Nat.le_refl _ | exact Nat.le_add_right _ _ | (simp <;> omega)) _ | refine below_drewN ?_ _))⟩
theorem M.prd_parts {d e : Int} (hd : d ≠ 0) (hdb : d.natAbs ≤ 1000000) (heb : e.natAbs ≤ 1000000) : 1 ≤ M.gcd d e ∧ d.tdiv (M.gcd d e) = d / M.gcd d e ∧ e.tdiv (M.gcd d e) = e / M.gcd d e ∧ (d / M.gcd d e).natAbs ≤ 1000000 ∧ (e / M.gcd d e).natAbs ≤ 1000000 := by
  have hg := M.gcd_pos (e := e) hd
  obtain ⟨a, ha⟩ : M.gcd d e ∣ d := Int.gcd_dvd_left ..
  obtain ⟨b, hb⟩ : M.gcd d e ∣ e := Int.gcd_dvd_right ..
  refine ⟨hg, Int.tdiv_eq_ediv_of_dvd ⟨a, ha⟩, Int.tdiv_eq_ediv_of_dvd ⟨b, hb⟩, ?_, ?_⟩
  · exact Nat.le_trans (Int.natAbs_ediv_le_natAbs _ _) hdb
  · exact Nat.le_trans (Int.natAbs_ediv_le_natAbs _ _) heb
theorem productClass_c (d e : Int) (w : World) (hd : d ≠ 0) (hdb : d.natAbs ≤ 1000000) (heb : e.natAbs ≤ 1000000) :
    Calls Tryz.prog 65 #[.int .i64 d, .int .i64 e] w fun r w' => r = .returned (.tuple #[.int .i64 (if M.isCl (M.prd d e) then M.prd d e else 0), .bool (M.isCl (M.prd d e))]) ∧ Below w.heap.size w w' := by
  obtain ⟨p1, p2, p3, p4, p5⟩ := M.prd_parts hd hdb heb
  have PG := fun W => gcd_c d e W (by omega) (by omega) (by omega) (by omega)
  have PG := Lib.hid PG
  have hpr : d / M.gcd d e * (e / M.gcd d e) = M.prd d e := rfl
  have hml := M.mul_bd (x := d / M.gcd d e) (y := e / M.gcd d e) (m := 1000000) (n := 1000000) (by omega) (by omega) (by omega) (by omega)
  rw [hpr] at hml
  have PC := fun W => isClass_c (M.prd d e) W (by omega) (by omega)
  generalize M.prd d e = pr at *
  generalize M.gcd d e = g at *
  generalize d / g = x at *
  generalize e / g = y at *
  generalize M.isCl pr = c at *
  have PC := Lib.hid PC
  have hp0 : ¬ g = 0 := by omega
  have hp1 : ¬ g = -1 := by omega
  cases c
  all_goals
    go_enter Tryz.func65, Tryz.ntmps65
    go_wp2_with (go_at_call 105; (with_reducible refine (PG.out _).mono ?_); rintro _ _ ⟨rfl, m, rfl⟩)
    go_quiet (fail)
    go_wp2_with (go_at_call 64; (with_reducible refine (PC.out _).mono ?_); rintro r w2 ⟨rfl, hb2⟩)
    go_ret2
    exact ⟨rfl, (by repeat (first | exact Below.refl _ _ | refine below_alloc ?_ _ | refine below_step ?_ (by assumption) | refine Below.drew ?_ | refine Below.setCell ?_ (by first | exact Nat.le_refl _ | exact Nat.le_add_right _ _ | (simp <;> omega)) _ | refine below_drewN ?_ _))⟩
theorem dsProduct_c (d e : Int) (w : World) (hd : d ≠ 0) (hdb : d.natAbs ≤ 1000000) (heb : e.natAbs ≤ 1000000) :
    Calls Tryz.prog 113 #[.int .i64 d, .int .i64 e] w fun r w' => r = .returned (.int .i64 (M.prd d e)) ∧ Below w.heap.size w w' := by
  obtain ⟨p1, p2, p3, p4, p5⟩ := M.prd_parts hd hdb heb
  have hga : M.gcd d.natAbs e.natAbs = M.gcd d e := by unfold M.gcd Int.gcd; simp
  have PG := fun W => bgCommon_c d.natAbs e.natAbs W (by omega) (by omega) (by omega) (by omega)
  rw [hga] at PG
  have PA := fun W => l1Abs_c d W (by omega) (by omega)
  have PB := fun W => l1Abs_c e W (by omega) (by omega)
  have PG := Lib.hid PG
  have PA := Lib.hid PA
  have PB := Lib.hid PB
  have hpr : d / M.gcd d e * (e / M.gcd d e) = M.prd d e := rfl
  have hml := M.mul_bd (x := d / M.gcd d e) (y := e / M.gcd d e) (m := 1000000) (n := 1000000) (by omega) (by omega) (by omega) (by omega)
  rw [hpr] at hml
  generalize M.prd d e = pr at *
  clear hga
  generalize M.gcd d e = g at *
  generalize d / g = x at *
  generalize e / g = y at *
  have hp0 : ¬ g = 0 := by omega
  have hp1 : ¬ g = -1 := by omega
  go_enter Tryz.func113, Tryz.ntmps113
  go_wp2_with (first
    | (go_at_call 126; (with_reducible refine (PA.out _).mono ?_); rintro e w' ⟨rfl, rfl⟩)
    | (go_at_call 126; (with_reducible refine (PB.out _).mono ?_); rintro e w' ⟨rfl, rfl⟩)
    | (go_at_call 138; (with_reducible refine (PG.out _).mono ?_); rintro e w' ⟨rfl, rfl⟩))
  go_quiet (fail)
  go_wp2
  go_ret
  exact ⟨rfl, (by repeat (first | exact Below.refl _ _ | refine below_alloc ?_ _ | refine below_step ?_ (by assumption) | refine Below.drew ?_ | refine Below.setCell ?_ (by first | exact Nat.le_refl _ | exact Nat.le_add_right _ _ | (simp <;> omega)) _ | refine below_drewN ?_ _))⟩
set_option maxRecDepth 100000 in
theorem l1Own_c (xs : List Int) (v : Value) (w : World) (base : Nat) (hown : OwnI w base v xs) (hl : xs.length ≤ 1000000000) :
    Calls Tryz.prog 112 #[v] w fun e w' => ∃ v', e = .returned v' ∧ OwnI w' w.heap.size v' xs ∧ Below w.heap.size w w' := by
  obtain ⟨A, cap', rfl, hf⟩ := fromOwn' hown
  have hf := Lib.hid hf
  go_enter Tryz.func112, Tryz.ntmps112
  go_wp2_with (at_builtin; refine push_seg (W := w) w.heap.size xs [] _ A _ _ (by rfl) (by rfl) (.tmp 3) (.tmp 4) (by rfl) (by rfl) (by rfl) (hf.out _ (by repeat (first | exact Below.refl _ _ | refine below_alloc ?_ _ | refine below_step ?_ (by assumption) | refine Below.drew ?_ | refine Below.setCell ?_ (by first | exact Nat.le_refl _ | exact Nat.le_add_right _ _ | (simp <;> omega)) _ | refine below_drewN ?_ _))) (OwnI.lit0 _ _ (Nat.le_refl _)) (by repeat (first | exact Below.refl _ _ | refine below_alloc ?_ _ | refine below_step ?_ (by assumption) | refine Below.drew ?_ | refine Below.setCell ?_ (by first | exact Nat.le_refl _ | exact Nat.le_add_right _ _ | (simp <;> omega)) _ | refine below_drewN ?_ _)) (by simp) (by simp; omega) ?_; rintro v1 w1 hown1 hb1)
  go_ret
  exact ⟨_, rfl, hown1, hb1⟩
end Go.Proofs.YtgkjmjlkhnfbiaaGreat

namespace Go.Proofs.YtgkjmjlkhnfbiaaGreat
set_option linter.unusedSimpArgs false
set_option linter.unusedVariables false
open Go.RowKit

theorem l1Has_c (xs : List Int) (v : Value) (n : Int) (w : World) (base : Nat) (hown : OwnI w base v xs) :
    Calls Tryz.prog 74 #[v, .int .i64 n] w fun e w' => e = .returned (.bool (decide (n ∈ xs))) ∧ w = w' := by
  obtain ⟨a, cap, rfl, hm, hv⟩ := hown.view
  go_enter Tryz.func74, Tryz.ntmps74
  go_wp2
  go_loop [9] (fun vi => ∃ k : Nat, k ≤ xs.length ∧ vi = .int .i64 k ∧ ∀ j : Nat, j < k → ¬ xs[j]? = some n) (fun vi => xs.length - (intOf vi).toNat)
  case atStart => exact ⟨0, by omega, rfl, fun j h => by omega⟩
  case round =>
    obtain ⟨k, hk, rfl, hall⟩ := hrel
    have Hall := Lib.hid hall
    clear hall
    by_cases hlt : k < xs.length
    · obtain ⟨g, x, rfl, hg, hx, hcell⟩ := hv k hlt
      have Hv := Lib.hid hv
      clear hv
      by_cases hxn : x = n
      · subst hxn
        go_wp2
        go_ret
        exact ⟨ret_b (by simp [List.mem_of_getElem? hx.out]), rfl⟩
      · go_wp2
        go_round
        case rel => exact ⟨k + 1, by omega, by go_num, fun j hj hc => if q : j = k then by rw [q, hx.out] at hc; exact hxn (Option.some.inj hc) else Hall.out j (by omega) hc⟩
        case measure => simp [intOf]; omega
    · obtain rfl : k = xs.length := by omega
      have Hv := Lib.hid hv
      clear hv
      go_wp2
      go_ret
      refine ⟨ret_b ?_, rfl⟩
      symm
      rw [decide_eq_false_iff_not]
      intro hmem
      obtain ⟨j, hj, he⟩ := List.getElem_of_mem hmem
      exact Hall.out j hj (by rw [List.getElem?_eq_getElem hj, he])

end Go.Proofs.YtgkjmjlkhnfbiaaGreat

namespace Go.Proofs.YtgkjmjlkhnfbiaaGreat
set_option linter.unusedSimpArgs false
set_option linter.unusedVariables false
open Go.RowKit
namespace M
theorem fput_len (f : Int → Int) (l s : List Int) : (l.foldl (fun more d => put more (f d)) s).length ≤ s.length + l.length := by
  have h := foldl_put_len (l.map f) s
  rw [List.foldl_map, List.length_map] at h
  exact h
theorem Gp.grow_nodup {acc : List Int} {d : Int} (h : Gp acc) (hd : d ≠ 0) (hns : nosq d) (hn : d ∉ acc) : (acc ++ acc.map (prd d)).Nodup := by
  have ns := fun x hx => isCl_ns (h.cl x hx)
  have nz := fun x hx => isCl_nz (h.cl x hx)
  rw [List.nodup_append]
  refine ⟨h.nodup, ?_, ?_⟩
  · unfold List.Nodup
    rw [List.pairwise_map]
    exact List.Pairwise.imp_of_mem (fun ha hb hne he => hne (prd_inj hd (ns _ ha) (ns _ hb) he)) h.nodup
  · intro x hx y hy he
    obtain ⟨e, he', rfl⟩ := List.mem_map.1 hy
    subst he
    refine hn ?_
    have h1 := h.closed _ hx e he'
    have e1 : prd (prd d e) e = d := by
      refine rel.eq ?_ (ns _ h1) hns
      refine (prd_rel (nz _ hx)).trans ((((prd_rel hd).mul (rel.refl e))).trans ?_)
      have := rel.sq d (nz e he')
      rwa [show d * e * e = e * (e * d) by grind]
    rwa [e1] at h1
theorem srt_len (l : List Int) : (srt l).length = l.length := (srt_perm l).length_eq
theorem grp_len {l : List Int} (hl : ∀ x ∈ l, x ≠ 0 ∧ nosq x) : (grp l).length ≤ 64 := by
  unfold grp
  rw [srt_len]
  cases h : gfo l with
  | none => exact Nat.zero_le _
  | some acc => exact (gfo_gp hl l.length (Nat.le_refl _) acc (by rw [List.take_length]; exact h)).len
theorem gok_f {l : List Int} (h : gfo l = none) : gok l = false := by unfold gok; rw [h]; rfl
theorem gok_t {l acc : List Int} (h : gfo l = some acc) : gok l = true ∧ grp l = srt acc := by unfold gok grp; rw [h]; exact ⟨rfl, rfl⟩
theorem gfo_bad {l acc : List Int} {k : Nat} {d : Int} (hx : l[k]? = some d) (h : gfo (l.take k) = some acc) (hg : gst acc d = none) : gok l = false :=
  gok_f (gfo_fail (k := k + 1) (by rw [gfo_next hx h, hg]))
end M
set_option maxRecDepth 100000 in
set_option maxHeartbeats 2000000 in
theorem classGroup_c (L : List Int) (v : Value) (w : World) (base : Nat) (hown : OwnI w base v L) (hL : ∀ x ∈ L, (x ≠ 0 ∧ M.nosq x) ∧ x.natAbs ≤ 1000000) (hl : L.length ≤ 1000000) :
    Calls Tryz.prog 70 #[v] w fun e w' => ∃ u, e = .returned (.tuple #[u, .bool (M.gok L)]) ∧ OwnI w' w.heap.size u (M.opt (M.gok L) (M.grp L)) ∧ Below w.heap.size w w' := by
  obtain ⟨a, cap, rfl, hm, hv⟩ := hown.seen
  have hv := Lib.hid hv
  have hgp := Lib.hid fun k hk acc h => M.gfo_gp (fun x hx => (hL x hx).1) k hk acc h
  have hl2 := OwnI.litOne w w.heap.size 1 (Nat.le_refl _)
  have hL := Lib.hid hL
  clear hown hm
  go_enter Tryz.func70, Tryz.ntmps70
  go_wp2
  go_loopw [4, 6, 8, 9, 10, 14] (fun vo _ _ _ _ vi wr => ∃ (k : Nat) (acc : List Int), k ≤ L.length ∧ vi = .int .i64 k ∧ M.gfo (L.take k) = some acc ∧ OwnI wr w.heap.size vo acc ∧ Below w.heap.size w wr ∧ w.heap.size ≤ wr.heap.size) (fun _ _ _ _ _ vi _ => L.length - (intOf vi).toNat)
  case atStart => exact ⟨0, [1], by omega, rfl, rfl, hl2, (by repeat (first | exact Below.refl _ _ | refine below_alloc ?_ _ | refine below_step ?_ (by assumption) | refine Below.drew ?_ | refine Below.setCell ?_ (by first | exact Nat.le_refl _ | exact Nat.le_add_right _ _ | (simp <;> omega)) _ | refine below_drewN ?_ _)), by simp⟩
  case round =>
    clear hl2
    obtain ⟨k, acc, hk, rfl, hacc, hown, hbr, z1⟩ := hrel
    have gp := Lib.hid (hgp.out k hk acc hacc)
    have hln := gp.out.len
    have hacc := Lib.hid hacc
    by_cases hlt : k < L.length
    · obtain ⟨g3, d, rfl, hg3, hd, hcell3⟩ := hv.out k hlt
      have hc3 := keepCell hbr hcell3
      obtain ⟨⟨hd0, hdn⟩, hdb⟩ := hL.out d (List.mem_of_getElem? hd.out)
      have hd := Lib.hid hd.out
      have hdn := Lib.hid hdn
      have PK := fun W v h => containsInts_c acc v d W w.heap.size h
      clear hcell3
      by_cases hin : d ∈ acc
      · rw [decide_eq_true hin] at PK
        have PK := Lib.hid PK
        have hin := Lib.hid hin
        replace hown := Lib.hid hown
        go_wp2_with (go_at_call 52; (with_reducible refine (PK.out _ _ hown.out).mono ?_); rintro e w2 ⟨rfl, rfl⟩)
        go_roundw
        case rel => exact ⟨k + 1, acc, by omega, by go_num, by rw [M.gfo_next hd.out hacc.out]; exact M.gst_in hin.out, hown.out, hbr, z1⟩
        case measure => simp [intOf]; omega
      · rw [decide_eq_false hin] at PK
        have PK := Lib.hid PK
        have hin := Lib.hid hin
        replace hown := Lib.hid hown
        have PC := fun W v h => cloneInts_c acc v W w.heap.size h (by omega)
        have PC := Lib.hid PC
        have hcl := Lib.hid fun e he => M.isCl_iff.1 (gp.out.cl e he)
        have hlt2 : (k : Int) < L.length := by omega
        go_wp2_with (first
          | (go_at_call 52; (with_reducible refine (PK.out _ _ hown.out).mono ?_); rintro e w2 ⟨rfl, rfl⟩)
          | (go_at_call 109; (with_reducible refine (PC.out _ _ hown.out).mono ?_); rintro e w2 ⟨vc, rfl, hoc, hbc⟩; obtain ⟨a4, cap4, rfl, hm4, hv4⟩ := hoc.view))
        have hv4 := Lib.hid hv4
        have hown2 := hown.out.below hbc
        have q2 := hbc.size
        have hbr2 := hbr.trans (hbc.mono z1)
        have hap2 := apart_new hown.out hoc (Nat.le_refl _)
        replace hoc := hoc.base (base' := w.heap.size) z1
        clear hown hbc hv4 hbr
        go_loopw [4, 8, 9, 10, 24] (fun vo _ _ _ vj wq => ∃ j : Nat, j ≤ acc.length ∧ vj = .int .i64 j ∧ OwnI wq w.heap.size vo (acc ++ (acc.take j).map (M.prd d)) ∧ Below w.heap.size w wq ∧ (OwnI wq w.heap.size (.slice a4 acc.length cap4) acc ∧ Apart vo (.slice a4 acc.length cap4)) ∧ (acc.take j).all (fun e => M.isCl (M.prd d e)) = true ∧ acc.length + j ≤ 64 ∧ w.heap.size ≤ wq.heap.size) (fun _ _ _ _ vj _ => acc.length - (intOf vj).toNat)
        case atStart => exact ⟨0, by omega, rfl, by simpa using hown2, hbr2, ⟨hoc, hap2⟩, rfl, by omega, by omega⟩
        case round =>
          clear hown2 hap2 hoc
          obtain ⟨j, hj, rfl, hown, hbq, ⟨hoc, hac⟩, hall, hj64, z4⟩ := hrel
          have hall := Lib.hid hall
          by_cases hjt : j < acc.length
          · obtain ⟨a9, cap9, e9, hm9, hv9⟩ := hoc.view
            injection e9 with e9 e10 e11
            subst e9
            obtain ⟨g5, e, rfl, hg5, he, hc5⟩ := hv9 j hjt
            have hem := Lib.hid (List.mem_of_getElem? he.out)
            have hcle := hcl.out e hem.out
            have hoc := Lib.hid hoc
            have hac := Lib.hid hac
            have PP := fun W => productClass_c d e W hd0 hdb (by omega)
            have hf := Lib.hid (show acc ++ (acc.take (j + 1)).map (M.prd d) = (acc ++ (acc.take j).map (M.prd d)) ++ [M.prd d e] by rw [take_next he.out, List.map_append, List.append_assoc]; rfl)
            have ha := Lib.hid (show (acc.take (j + 1)).all (fun e => M.isCl (M.prd d e)) = ((acc.take j).all (fun e => M.isCl (M.prd d e)) && M.isCl (M.prd d e)) by rw [take_next he.out, List.all_append]; simp)
            have hln3 : (acc ++ (acc.take j).map (M.prd d)).length = acc.length + j := by rw [List.length_append, List.length_map, List.length_take]; omega
            have he := Lib.hid he.out
            clear hv9 e10 e11 hm9 hcle
            cases hc : M.isCl (M.prd d e)
            · have hno := Lib.hid (M.gfo_bad hd.out hacc.out (M.gst_bad hin.out hem.out hc))
              simp only [hc] at PP
              have PP := Lib.hid PP
              clear hf ha hc
              go_wp2_with (go_at_call 65; (with_reducible refine (PP.out _).mono ?_); rintro r w5 ⟨rfl, hb5⟩)
              go_ret2
              exact ⟨.slice none 0 0, by rw [hno.out] <;> rfl, by rw [hno.out, M.opt_f]; exact OwnI.nil _ _, hbq.trans (hb5.mono z4)⟩
            · simp only [hc, if_true] at PP
              have PP := Lib.hid PP
              have hc := Lib.hid hc
              by_cases h64 : acc.length + j = 64
              · have hno := Lib.hid (M.gfo_bad hd.out hacc.out (M.gst_big hin.out (by omega)))
                rw [← hln3] at h64
                clear hln3 hf ha
                generalize M.prd d e = x at *
                generalize acc ++ (acc.take j).map (M.prd d) = acj at *
                obtain ⟨A6, cap6, rfl, -, -⟩ := hown.view
                go_wp2_with (go_at_call 65; (with_reducible refine (PP.out _).mono ?_); rintro r w5 ⟨rfl, hb5⟩)
                go_ret2
                exact ⟨.slice none 0 0, by rw [hno.out] <;> rfl, by rw [hno.out, M.opt_f]; exact OwnI.nil _ _, hbq.trans (hb5.mono z4)⟩
              · rw [← hln3] at h64
                have hln4 := Lib.hid hln3
                clear hln3
                generalize M.prd d e = x at *
                generalize acc ++ (acc.take j).map (M.prd d) = acj at *
                obtain ⟨A6, cap6, rfl, -, -⟩ := hown.view
                replace hown := Lib.hid hown
                go_wp2_with (first
                  | (go_at_call 65; (with_reducible refine (PP.out _).mono ?_); rintro r w5 ⟨rfl, hb5⟩; (have hown5 := hown.out.below hb5); (have hoc5 := hoc.out.below hb5); (have q5 := hb5.size))
                  | (at_builtin; refine pushI w.heap.size [x] _ _ (some ⟨_, 0, none⟩) 1 1 (by rfl) (by rfl) (.tmp 41) (.tmp 43) (by rfl) (by rfl) (by rfl) (fromLit x _) (hown5.alloc _) (by simp; omega) (by have := hln4.out; simp; omega) ?_; rintro v3 w3 hown3 hg3' hbl3 hb3))
                have q3 := hg3'.size
                have hoc3 := (hoc5.alloc (.cells #[.int .i64 x] 3)).kept hg3' fun g e e' => hac.out g e e'
                have hac3 : Apart v3 (.slice (some ⟨g5, 0, none⟩) acc.length cap4) := fun g e e' => by
                  rcases hbl3 with q | q
                  · exact hac.out g (by rw [← q]; exact e) e'
                  · have := (OwnI.lt hoc5 g e').2
                    rw [q] at e
                    injection e with e
                    simp at e
                    omega
                go_roundw
                case rel => exact ⟨j + 1, by omega, by go_num, by rw [hf.out]; exact hown3, ((hbq.trans (hb5.mono z4)).alloc (by omega) _).trans hb3, ⟨hoc3, hac3⟩, by rw [ha.out, hall.out, hc.out]; rfl, by have := hln4.out; omega, by simp at q3; omega⟩
                case measure => simp [intOf]; omega
          · obtain rfl : j = acc.length := by omega
            rw [List.take_length] at hown
            have hall2 := hall.out
            rw [List.take_length] at hall2
            have hgo := Lib.hid (M.gst_out hin.out (fun e he => List.all_eq_true.1 hall2 e he) (by omega))
            clear hall2
            replace hown := Lib.hid hown
            go_wp2
            go_roundw
            case rel => exact ⟨k + 1, acc ++ acc.map (M.prd d), by omega, by go_num, by rw [M.gfo_next hd.out hacc.out]; exact hgo.out, hown.out, hbq, z4⟩
            case measure => simp [intOf]; omega
    · obtain rfl : k = L.length := by omega
      have hfo := hacc.out
      rw [List.take_length] at hfo
      obtain ⟨f1, f2⟩ := M.gok_t hfo
      have f1 := Lib.hid f1
      have f2 := Lib.hid f2
      have PS := fun W v hw hz => sortInts_c acc v W w.heap.size hw hz (by omega)
      have PS := Lib.hid PS
      replace hown := Lib.hid hown
      clear hfo
      go_wp2_with (go_at_call 110; (with_reducible refine (PS.out _ _ hown.out (by omega)).mono ?_); rintro e w5 ⟨rfl, hown5, hb5⟩)
      go_ret2
      exact ⟨_, by rw [f1.out] <;> rfl, by rw [f1.out, f2.out, M.opt_t]; exact hown5, hbr.trans hb5⟩
set_option maxRecDepth 100000 in
set_option maxHeartbeats 2000000 in
theorem dsGroup_c (L : List Int) (v : Value) (w : World) (base : Nat) (hown : OwnI w base v L) (hL : ∀ x ∈ L, (x ≠ 0 ∧ M.nosq x) ∧ x.natAbs ≤ 1000000) (hl : L.length ≤ 1000000) :
    Calls Tryz.prog 73 #[v] w fun e w' => ∃ u, e = .returned (.tuple #[u, .bool (M.gok L)]) ∧ OwnI w' w.heap.size u (M.opt (M.gok L) (M.grp L)) ∧ Below w.heap.size w w' := by
  obtain ⟨a, cap, rfl, hm, hv⟩ := hown.seen
  have hv := Lib.hid hv
  have hgp := Lib.hid fun k hk acc h => M.gfo_gp (fun x hx => (hL x hx).1) k hk acc h
  have hl2 := OwnI.litOne w w.heap.size 1 (Nat.le_refl _)
  have hs1 : M.srt [1] = [1] := List.mergeSort_singleton _
  rw [← hs1] at hl2
  have hL := Lib.hid hL
  clear hown hm
  go_enter Tryz.func73, Tryz.ntmps73
  go_wp2
  go_loopw [4, 6, 7, 9, 10, 14] (fun vo _ _ _ _ vi wr => ∃ (k : Nat) (acc : List Int), k ≤ L.length ∧ vi = .int .i64 k ∧ M.gfo (L.take k) = some acc ∧ OwnI wr w.heap.size vo (M.srt acc) ∧ Below w.heap.size w wr ∧ w.heap.size ≤ wr.heap.size) (fun _ _ _ _ _ vi _ => L.length - (intOf vi).toNat)
  case atStart => exact ⟨0, [1], by omega, rfl, rfl, hl2, (by repeat (first | exact Below.refl _ _ | refine below_alloc ?_ _ | refine below_step ?_ (by assumption) | refine Below.drew ?_ | refine Below.setCell ?_ (by first | exact Nat.le_refl _ | exact Nat.le_add_right _ _ | (simp <;> omega)) _ | refine below_drewN ?_ _)), by simp⟩
  case round =>
    clear hl2 hs1
    obtain ⟨k, acc, hk, rfl, hacc, hown, hbr, z1⟩ := hrel
    have gp := Lib.hid (hgp.out k hk acc hacc)
    have hln := gp.out.len
    have hacc := Lib.hid hacc
    have hsl := M.srt_len acc
    obtain ⟨s, hs⟩ : ∃ s, Hid (M.srt acc = s) := ⟨_, Lib.hid rfl⟩
    rw [hs.out] at hown hsl
    have hsm : Hid (∀ e, e ∈ s ↔ e ∈ acc) := Lib.hid fun e => by rw [← hs.out]; exact (M.srt_perm acc).mem_iff
    by_cases hlt : k < L.length
    · obtain ⟨g3, d, rfl, hg3, hd, hcell3⟩ := hv.out k hlt
      have hc3 := keepCell hbr hcell3
      obtain ⟨⟨hd0, hdn⟩, hdb⟩ := hL.out d (List.mem_of_getElem? hd.out)
      have hd := Lib.hid hd.out
      have hdn := Lib.hid hdn
      have PK := fun W v h => l1Has_c s v d W w.heap.size h
      clear hcell3
      by_cases hin : d ∈ acc
      · rw [decide_eq_true ((hsm.out d).2 hin)] at PK
        have PK := Lib.hid PK
        have hin := Lib.hid hin
        replace hown := Lib.hid hown
        clear hsl
        go_wp2_with (go_at_call 74; (with_reducible refine (PK.out _ _ hown.out).mono ?_); rintro e w2 ⟨rfl, rfl⟩)
        go_roundw
        case rel => exact ⟨k + 1, acc, by omega, by go_num, by rw [M.gfo_next hd.out hacc.out]; exact M.gst_in hin.out, by rw [hs.out]; exact hown.out, hbr, z1⟩
        case measure => simp [intOf]; omega
      · rw [decide_eq_false fun h => hin ((hsm.out d).1 h)] at PK
        have PK := Lib.hid PK
        have hin := Lib.hid hin
        have PC := fun W v h => l1Own_c s v W w.heap.size h (by omega)
        have PC := Lib.hid PC
        have hcl := Lib.hid fun e he => M.isCl_iff.1 (gp.out.cl e he)
        have hlt2 : (k : Int) < L.length := by omega
        have hnd := M.srt_grow (gp.out.grow_nodup hd0 hdn.out hin.out)
        rw [hs.out] at hnd
        have hnd := Lib.hid hnd
        obtain ⟨a4, cap4, rfl, hm4, hv4⟩ := hown.seen
        have hv4 := Lib.hid hv4
        replace hown := Lib.hid hown
        have hsl2 := Lib.hid hsl
        clear hsl hm4
        go_wp2_with (first
          | (go_at_call 74; (with_reducible refine (PK.out _ _ hown.out).mono ?_); rintro e w2 ⟨rfl, rfl⟩)
          | (go_at_call 112; (with_reducible refine (PC.out _ _ hown.out).mono ?_); rintro e w2 ⟨vc, rfl, hoc, hbc⟩))
        have q2 := hbc.size
        replace hoc := hoc.base (base' := w.heap.size) z1
        clear hown
        go_loopw [7, 9, 10, 25] (fun vo _ _ vj wq => ∃ j : Nat, j ≤ s.length ∧ vj = .int .i64 j ∧ OwnI wq w.heap.size vo ((s.take j).foldl (fun m e => M.put m (M.prd d e)) s) ∧ Below wr.heap.size wr wq ∧ (s.take j).all (fun e => M.isCl (M.prd d e)) = true) (fun _ _ _ vj _ => s.length - (intOf vj).toNat)
        case atStart => exact ⟨0, by omega, rfl, hoc, hbc, rfl⟩
        case round =>
          clear hoc
          obtain ⟨j, hj, rfl, hownJ, hbq, hall⟩ := hrel
          have hall := Lib.hid hall
          have z4 := hbq.size
          by_cases hjt : j < s.length
          · obtain ⟨g5, e, rfl, hg5, he, hcell5⟩ := hv4.out j hjt
            have hc5 := keepCell hbq hcell5
            have hem := Lib.hid ((hsm.out e).1 (List.mem_of_getElem? he.out))
            have hcle := hcl.out e hem.out
            have P1 := fun W => dsProduct_c d e W hd0 hdb (by omega)
            have P1 := Lib.hid P1
            have P2 := fun W => dsClass_c (M.prd d e) W
            have hf := Lib.hid (foldl_next (fun m e => M.put m (M.prd d e)) s he.out)
            have ha := Lib.hid (show (s.take (j + 1)).all (fun e => M.isCl (M.prd d e)) = ((s.take j).all (fun e => M.isCl (M.prd d e)) && M.isCl (M.prd d e)) by rw [take_next he.out, List.all_append]; simp)
            have hln2 := M.fput_len (M.prd d) (s.take j) s
            have hln3 : (s.take j).length ≤ s.length := by rw [List.length_take]; omega
            have hsl3 := hsl2.out
            have PP := fun W v hw hz => l1Put_c ((s.take j).foldl (fun m e => M.put m (M.prd d e)) s) v (M.prd d e) W w.heap.size hw hz (by omega)
            have PP := Lib.hid PP
            have hj64 : j < 64 := by omega
            have he := Lib.hid he.out
            replace hownJ := Lib.hid hownJ
            clear hcell5 hcle hln2 hln3 hsl3
            cases hc : M.isCl (M.prd d e)
            · have hno := Lib.hid (M.gfo_bad hd.out hacc.out (M.gst_bad hin.out hem.out hc))
              simp only [hc] at P2
              have P2 := Lib.hid P2
              clear hf ha hc
              go_wp2_with (first
                | (go_at_call 113; (with_reducible refine (P1.out _).mono ?_); rintro r w5 ⟨rfl, hb5⟩)
                | (go_at_call 114; (with_reducible refine (P2.out _).mono ?_); rintro r w6 ⟨rfl, hb6⟩))
              have q5 := hb5.size
              go_ret2
              exact ⟨.slice none 0 0, by rw [hno.out] <;> rfl, by rw [hno.out, M.opt_f]; exact OwnI.nil _ _, hbr.trans ((hbq.trans ((hb5.trans (hb6.mono q5)).mono z4)).mono z1)⟩
            · simp only [hc] at P2
              have P2 := Lib.hid P2
              have hc := Lib.hid hc
              go_wp2_with (first
                | (go_at_call 113; (with_reducible refine (P1.out _).mono ?_); rintro r w5 ⟨rfl, hb5⟩)
                | (go_at_call 114; (with_reducible refine (P2.out _).mono ?_); rintro r w6 ⟨rfl, hb6⟩; (have q5 := hb5.size); (have q6 := hb6.size))
                | (go_at_call 115; (with_reducible refine (PP.out _ _ ((hownJ.out.below hb5).below hb6) (by omega)).mono ?_); rintro e w7 ⟨v7, rfl, hown7, hb7⟩))
              go_roundw
              case rel => exact ⟨j + 1, by omega, by have := hsl2.out; go_num, by rw [hf.out]; exact hown7, hbq.trans (((hb5.trans (hb6.mono q5)).trans (hb7.mono (by omega))).mono z4), by rw [ha.out, hall.out, hc.out]; rfl⟩
              case measure => have := hsl2.out; simp [intOf]; omega
          · obtain rfl : j = s.length := by omega
            rw [List.take_length, hnd.out] at hownJ
            have hall2 := hall.out
            rw [List.take_length] at hall2
            have hcls : ∀ e ∈ acc, M.isCl (M.prd d e) = true := fun e he => List.all_eq_true.1 hall2 e ((hsm.out e).2 he)
            have hL2 : (M.srt (acc ++ acc.map (M.prd d))).length = acc.length + acc.length := by rw [M.srt_len, List.length_append, List.length_map]
            by_cases h32 : acc.length ≤ 32
            · have hgo := Lib.hid (M.gst_out hin.out hcls h32)
              have h64 : (M.srt (acc ++ acc.map (M.prd d))).length ≤ 64 := by omega
              clear hL2 hcls hall2
              generalize hbig : acc ++ acc.map (M.prd d) = big at *
              obtain ⟨A6, cap6, rfl, -, -⟩ := hownJ.view
              replace hownJ := Lib.hid hownJ
              have hbig := Lib.hid hbig
              go_wp2
              go_roundw
              case rel => exact ⟨k + 1, big, by omega, by go_num, by rw [M.gfo_next hd.out hacc.out]; exact hgo.out, hownJ.out, hbr.trans (hbq.mono z1), by omega⟩
              case measure => simp [intOf]; omega
            · have hno := Lib.hid (M.gfo_bad hd.out hacc.out (M.gst_big hin.out h32))
              have h64 : 64 < (M.srt (acc ++ acc.map (M.prd d))).length := by omega
              clear hL2 hcls hall2
              generalize hbig : acc ++ acc.map (M.prd d) = big at *
              obtain ⟨A6, cap6, rfl, -, -⟩ := hownJ.view
              replace hownJ := Lib.hid hownJ
              have hbig := Lib.hid hbig
              go_wp2
              go_ret2
              exact ⟨.slice none 0 0, by rw [hno.out] <;> rfl, by rw [hno.out, M.opt_f]; exact OwnI.nil _ _, hbr.trans (hbq.mono z1)⟩
    · obtain rfl : k = L.length := by omega
      have hfo := hacc.out
      rw [List.take_length] at hfo
      obtain ⟨f1, f2⟩ := M.gok_t hfo
      have f1 := Lib.hid f1
      rw [hs.out] at f2
      have f2 := Lib.hid f2
      replace hown := Lib.hid hown
      clear hfo hsl
      go_wp2
      go_ret2
      exact ⟨_, by rw [f1.out] <;> rfl, by rw [f1.out, f2.out, M.opt_t]; exact hown.out, hbr⟩
end Go.Proofs.YtgkjmjlkhnfbiaaGreat

namespace Go.Proofs.YtgkjmjlkhnfbiaaGreat
set_option linter.unusedSimpArgs false
set_option linter.unusedVariables false
open Go.RowKit
namespace M
def tcb (A B : Int) : Bool := (ins A (-300) 300 && ins B (-300) 300) && (decide (B ≠ 0) && decide (A * A ≠ 4 * B))
theorem tcb_t {A B : Int} (h : tcb A B = true) : tc A B := by
  unfold tcb at h
  simp only [Bool.and_eq_true, decide_eq_true_eq] at h
  exact ⟨ins_t h.1.1, ins_t h.1.2, h.2.1, h.2.2⟩
/-- whether a product is in the list, for all pairs -/
def cls1 (L : List Int) (d : Int) (e : Int) : Bool := decide (prd d e ∈ L)
def cls (L : List Int) (d : Int) : Bool := L.all (cls1 L d)
noncomputable def isg (L : List Int) : Bool := (ins L.length 1 64 && decide ((1 : Int) ∈ L)) && (L.all isCl && L.all (cls L))
noncomputable def lg (n : Nat) : Nat := Nat.log2 n
theorem lg_half : ∀ n, n < 65 → 1 < n → Nat.log2 n = Nat.log2 (n / 2) + 1 := by decide +kernel
theorem lg_bit : ∀ n : Nat, n < 65 → 1 ≤ n → (Go.Lib.bitLen n : Int) - 1 = Nat.log2 n := by decide +kernel
theorem isg_gp {l acc : List Int} (hl : ∀ x ∈ l, x ≠ 0 ∧ nosq x) (h : gfo l = some acc) : isg (srt acc) = true := by
  have g := gfo_gp hl l.length (Nat.le_refl _) acc (by rw [List.take_length]; exact h)
  have hm : ∀ x, x ∈ srt acc ↔ x ∈ acc := fun x => (srt_perm acc).mem_iff
  have hl : (srt acc).length = acc.length := (srt_perm acc).length_eq
  have h1 : 1 ≤ acc.length := List.length_pos_of_mem g.one
  have h2 := g.len
  unfold isg
  simp only [Bool.and_eq_true, decide_eq_true_eq, List.all_eq_true]
  refine ⟨⟨?_, (hm 1).2 g.one⟩, fun x hx => g.cl x ((hm x).1 hx), fun x hx => ?_⟩
  · rw [hl]; unfold ins; simp only [decide_eq_true_eq]; omega
  · unfold cls
    rw [List.all_eq_true]
    intro y hy
    unfold cls1
    exact decide_eq_true ((hm _).2 (g.closed _ ((hm x).1 hx) _ ((hm y).1 hy)))
theorem grp_inc {l : List Int} (hl : ∀ x ∈ l, x ≠ 0 ∧ nosq x) : Inc (grp l) := by
  unfold grp
  cases h : gfo l with
  | none => exact srt_inc List.nodup_nil
  | some acc => exact srt_inc (gfo_gp hl l.length (Nat.le_refl _) acc (by rw [List.take_length]; exact h)).nodup
theorem grp_cl {l : List Int} (hl : ∀ x ∈ l, x ≠ 0 ∧ nosq x) : ∀ x ∈ grp l, isCl x = true := by
  unfold grp
  cases h : gfo l with
  | none => intro x hx; rw [(srt_perm _).mem_iff] at hx; exact absurd hx (List.not_mem_nil)
  | some acc => intro x hx; exact (gfo_gp hl l.length (Nat.le_refl _) acc (by rw [List.take_length]; exact h)).cl x ((srt_perm _).mem_iff.1 hx)
end M
theorem tcGood_c (a b : Int) (w : World) :
    Calls Tryz.prog 48 #[.agg #[.int .i64 a, .int .i64 b]] w fun e w' => e = .returned (.bool (M.tcb a b)) ∧ Below w.heap.size w w' := by
  cases h1 : M.ins a (-300) 300
  · have hr : Hid (M.tcb a b = false) := Lib.hid (by unfold M.tcb; rw [h1]; rfl)
    go_enter Tryz.func48, Tryz.ntmps48
    go_wp2_with (go_at_call 96; refine (l1In_c _ _ _ _).mono ?_; rintro e w' ⟨rfl, rfl⟩)
    go_ret; exact ⟨by rw [hr.out] <;> rfl, (by repeat (first | exact Below.refl _ _ | refine below_alloc ?_ _ | refine below_step ?_ (by assumption) | refine Below.drew ?_ | refine Below.setCell ?_ (by first | exact Nat.le_refl _ | exact Nat.le_add_right _ _ | (simp <;> omega)) _ | refine below_drewN ?_ _))⟩
  · cases h2 : M.ins b (-300) 300
    · have hr : Hid (M.tcb a b = false) := Lib.hid (by unfold M.tcb; rw [h1, h2]; rfl)
      go_enter Tryz.func48, Tryz.ntmps48
      go_wp2_with (go_at_call 96; refine (l1In_c _ _ _ _).mono ?_; rintro e w' ⟨rfl, rfl⟩)
      go_ret; exact ⟨by rw [hr.out] <;> rfl, (by repeat (first | exact Below.refl _ _ | refine below_alloc ?_ _ | refine below_step ?_ (by assumption) | refine Below.drew ?_ | refine Below.setCell ?_ (by first | exact Nat.le_refl _ | exact Nat.le_add_right _ _ | (simp <;> omega)) _ | refine below_drewN ?_ _))⟩
    · have hr : Hid (M.tcb a b = (decide (b ≠ 0) && decide (a * a ≠ 4 * b))) := Lib.hid (by unfold M.tcb; rw [h1, h2]; rfl)
      have i1 := M.ins_t h1
      have i2 := M.ins_t h2
      have hs := M.mul_bd i1.1 i1.2 i1.1 i1.2
      by_cases hb0 : b = 0 <;> by_cases hd0 : a * a = 4 * b
      all_goals
        go_enter Tryz.func48, Tryz.ntmps48
        go_wp2_with (go_at_call 96; refine (l1In_c _ _ _ _).mono ?_; rintro e w' ⟨rfl, rfl⟩)
        go_ret; exact ⟨ret_b (by rw [hr.out]; simp_all), (by repeat (first | exact Below.refl _ _ | refine below_alloc ?_ _ | refine below_step ?_ (by assumption) | refine Below.drew ?_ | refine Below.setCell ?_ (by first | exact Nat.le_refl _ | exact Nat.le_add_right _ _ | (simp <;> omega)) _ | refine below_drewN ?_ _))⟩
theorem isTwoCurve_c (a b : Int) (w : World) :
    Calls Tryz.prog 46 #[.agg #[.int .i64 a, .int .i64 b]] w fun e w' => e = .returned (.bool (M.tcb a b)) ∧ Below w.heap.size w w' := by
  cases h1 : M.ins a (-300) 300
  · have hr : Hid (M.tcb a b = false) := Lib.hid (by unfold M.tcb; rw [h1]; rfl)
    go_enter Tryz.func46, Tryz.ntmps46
    go_wp2_with (go_at_call 61; refine (inside_c _ _ _ _).mono ?_; rintro e w' ⟨rfl, rfl⟩)
    go_ret; exact ⟨by rw [hr.out] <;> rfl, (by repeat (first | exact Below.refl _ _ | refine below_alloc ?_ _ | refine below_step ?_ (by assumption) | refine Below.drew ?_ | refine Below.setCell ?_ (by first | exact Nat.le_refl _ | exact Nat.le_add_right _ _ | (simp <;> omega)) _ | refine below_drewN ?_ _))⟩
  · cases h2 : M.ins b (-300) 300
    · have hr : Hid (M.tcb a b = false) := Lib.hid (by unfold M.tcb; rw [h1, h2]; rfl)
      go_enter Tryz.func46, Tryz.ntmps46
      go_wp2_with (go_at_call 61; refine (inside_c _ _ _ _).mono ?_; rintro e w' ⟨rfl, rfl⟩)
      go_ret; exact ⟨by rw [hr.out] <;> rfl, (by repeat (first | exact Below.refl _ _ | refine below_alloc ?_ _ | refine below_step ?_ (by assumption) | refine Below.drew ?_ | refine Below.setCell ?_ (by first | exact Nat.le_refl _ | exact Nat.le_add_right _ _ | (simp <;> omega)) _ | refine below_drewN ?_ _))⟩
    · have hr : Hid (M.tcb a b = (decide (b ≠ 0) && decide (a * a ≠ 4 * b))) := Lib.hid (by unfold M.tcb; rw [h1, h2]; rfl)
      have i1 := M.ins_t h1
      have i2 := M.ins_t h2
      have hs := M.mul_bd i1.1 i1.2 i1.1 i1.2
      by_cases hb0 : b = 0 <;> by_cases hd0 : a * a = 4 * b
      all_goals
        go_enter Tryz.func46, Tryz.ntmps46
        go_wp2_with (go_at_call 61; refine (inside_c _ _ _ _).mono ?_; rintro e w' ⟨rfl, rfl⟩)
        go_ret; exact ⟨ret_b (by rw [hr.out]; simp_all), (by repeat (first | exact Below.refl _ _ | refine below_alloc ?_ _ | refine below_step ?_ (by assumption) | refine Below.drew ?_ | refine Below.setCell ?_ (by first | exact Nat.le_refl _ | exact Nat.le_add_right _ _ | (simp <;> omega)) _ | refine below_drewN ?_ _))⟩
theorem dsMost_c (n : Int) (w : World) :
    Calls Tryz.prog 67 #[.int .i64 n] w fun e w' => e = .returned (.bool (M.ins n 1 60)) ∧ Below w.heap.size w w' := by
  go_enter Tryz.func67, Tryz.ntmps67
  go_wp2_with (go_at_call 96; refine (l1In_c _ _ _ _).mono ?_; rintro e w' ⟨rfl, rfl⟩)
  go_ret
  exact ⟨rfl, (by repeat (first | exact Below.refl _ _ | refine below_alloc ?_ _ | refine below_step ?_ (by assumption) | refine Below.drew ?_ | refine Below.setCell ?_ (by first | exact Nat.le_refl _ | exact Nat.le_add_right _ _ | (simp <;> omega)) _ | refine below_drewN ?_ _))⟩
theorem rkAsked_c (a b n : Int) (w : World) :
    Calls Tryz.prog 79 #[.agg #[.int .i64 a, .int .i64 b], .int .i64 n] w fun e w' => e = .returned (.bool (M.tcb a b && M.ins n 1 60)) ∧ Below w.heap.size w w' := by
  have P := fun W => tcGood_c a b W
  cases ht : M.tcb a b
  · rw [ht] at P
    have P := Lib.hid P
    go_enter Tryz.func79, Tryz.ntmps79
    go_wp2_with (go_at_call 48; refine (P.out _).mono ?_; rintro e w' ⟨rfl, hb⟩; have hz_ := hb.size; (try simp only [World.size_alloc, heap_drew, World.heap_drewN, size_setCell] at hz_); have hs0_ : w.heap.size < w'.heap.size := (by omega); have hk0_ := fun o => (bcell hb).1 (w.heap.size) o (by (try simp only [World.size_alloc, heap_drew, World.heap_drewN, size_setCell]); omega); have hl0_ := fun o => (bcell hb).2.1 (w.heap.size) o (by (try simp only [World.size_alloc, heap_drew, World.heap_drewN, size_setCell]); omega))
    go_ret
    exact ⟨rfl, (by repeat (first | exact Below.refl _ _ | refine below_alloc ?_ _ | refine below_step ?_ (by assumption) | refine Below.drew ?_ | refine Below.setCell ?_ (by first | exact Nat.le_refl _ | exact Nat.le_add_right _ _ | (simp <;> omega)) _ | refine below_drewN ?_ _))⟩
  · rw [ht] at P
    have P := Lib.hid P
    have P2 := Lib.hid fun W => dsMost_c n W
    generalize M.ins n 1 60 = q at P2 ⊢
    go_enter Tryz.func79, Tryz.ntmps79
    go_wp2_with (first | (go_at_call 48; refine (P.out _).mono ?_; rintro e w' ⟨rfl, hb⟩; have hz_ := hb.size; (try simp only [World.size_alloc, heap_drew, World.heap_drewN, size_setCell] at hz_); have hs0_ : w.heap.size < w'.heap.size := (by omega); have hk0_ := fun o => (bcell hb).1 (w.heap.size) o (by (try simp only [World.size_alloc, heap_drew, World.heap_drewN, size_setCell]); omega); have hl0_ := fun o => (bcell hb).2.1 (w.heap.size) o (by (try simp only [World.size_alloc, heap_drew, World.heap_drewN, size_setCell]); omega)) | (go_at_call 67; refine (P2.out _).mono ?_; rintro e w' ⟨rfl, hb2⟩; have hz_ := hb2.size; (try simp only [World.size_alloc, heap_drew, World.heap_drewN, size_setCell] at hz_)))
    all_goals (go_ret; exact ⟨by cases q <;> rfl, (by repeat (first | exact Below.refl _ _ | refine below_alloc ?_ _ | refine below_step ?_ (by assumption) | refine Below.drew ?_ | refine Below.setCell ?_ (by first | exact Nat.le_refl _ | exact Nat.le_add_right _ _ | (simp <;> omega)) _ | refine below_drewN ?_ _))⟩)
end Go.Proofs.YtgkjmjlkhnfbiaaGreat
