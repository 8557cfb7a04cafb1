/-
  Contracts: curves grouped by their models, by the reference.
-/
import Derived.Test.YtpemckpnlemkfaaT2
import Derived.Test.YtpemckpnlemkfaaF2
import Derived.Test.YtpemckpnlemkfaaS12
import Derived.Deep.DeepCutAuto
namespace Go.Proofs.Ytpemckpnlemkfaa
set_option linter.unusedSimpArgs false
set_option linter.unusedVariables false
open Go.RowKit

namespace M
noncomputable def mods (xs : List (Int × Int)) : List (Int × Int) := xs.map fun c => (smA c.1 c.2, smB c.1 c.2)
def sfOk (xs : List (Int × Int)) : Bool := decide (xs.length ≤ 20) && xs.all (fun c => good c.1 c.2)
noncomputable def sfV (xs : List (Int × Int)) : List (List Int) := if sfOk xs then grp (mods xs) xs.length else []
theorem sf_big {xs : List (Int × Int)} (h : 20 < xs.length) : sfOk xs = false ∧ sfV xs = [] := by
  have e : sfOk xs = false := by unfold sfOk; rw [decide_eq_false (by omega), Bool.false_and]
  exact ⟨e, by unfold sfV; rw [e]; rfl⟩
theorem sf_bad {xs : List (Int × Int)} {c : Int × Int} (hm : c ∈ xs) (h : good c.1 c.2 = false) : sfOk xs = false ∧ sfV xs = [] := by
  have e : sfOk xs = false := by
    unfold sfOk
    have : xs.all (fun c => good c.1 c.2) = false := List.all_eq_false.2 ⟨c, hm, by simp [h]⟩
    rw [this, Bool.and_false]
  exact ⟨e, by unfold sfV; rw [e]; rfl⟩
theorem sf_all {xs : List (Int × Int)} (hl : xs.length ≤ 20) (h : ∀ (j : Nat) (c : Int × Int), j < xs.length → xs[j]? = some c → good c.1 c.2 = true) : sfOk xs = true ∧ sfV xs = grp (mods xs) xs.length := by
  have e : sfOk xs = true := by
    unfold sfOk
    rw [decide_eq_true hl, Bool.true_and, List.all_eq_true]
    intro c hc
    obtain ⟨j, hj⟩ := List.getElem?_of_mem hc
    exact h j c (List.getElem?_eq_some_iff.1 hj).1 hj
  exact ⟨e, by unfold sfV; rw [e]; rfl⟩
theorem mods_get {xs : List (Int × Int)} {j : Nat} {c : Int × Int} (h : xs[j]? = some c) : (mods xs)[j]? = some (smA c.1 c.2, smB c.1 c.2) := by
  unfold mods
  rw [List.getElem?_map, h]
  rfl
theorem same_mrow {xs : List (Int × Int)} {h k : Nat} {t : List Int} {d c : Int × Int} (hd : xs[h]? = some d) (hc : xs[k]? = some c) : same d.1 d.2 c.1 c.2 = mrow (mods xs) k ((h : Int) :: t) := by
  unfold mrow same
  rw [List.headD_cons, Int.toNat_natCast, mods_get hd, mods_get hc]
  rfl
end M

theorem OwnI.lit1 (w : World) (base : Nat) (x : Int) (hb : base ≤ w.heap.size) : OwnI (w.alloc (.cells #[.int .i64 x] 3)) base (.slice (some ⟨w.heap.size, 0, none⟩) 1 1) [x] :=
  World.ownsRow_lit w #[.int .i64 x] 1 hb (by unfold maxLen; omega) rfl
/-- a row, how it lies -/
theorem OwnV.at {w : World} {base n cap j : Nat} {A : Option Addr} {vs : List Value} {rows : List (List Int)} (h : OwnV w base (.slice A n cap) vs rows) (hj : j < rows.length) :
    ∃ g u r, A = some ⟨g, 0, none⟩ ∧ g < w.heap.size ∧ Hid (rows[j]? = some r) ∧ Hid (vs[j]? = some u) ∧ w.cell? ⟨g, j, none⟩ = some u ∧ OwnI w base u r := by
  obtain ⟨a, c, e, -, hv⟩ := h.view
  injection e with e1 e2 e3
  subst e1
  exact hv j hj
theorem OwnV.form {w : World} {base : Nat} {v : Value} {vs : List Value} {rows : List (List Int)} (h : OwnV w base v vs rows) : ∃ A cap, v = .slice A rows.length cap := by
  obtain ⟨a, c, e, -, hv⟩ := h.view
  exact ⟨a, c, e⟩
theorem OwnV.outer {w : World} {base g n cap : Nat} {vs : List Value} {rows : List (List Int)} (h : OwnV w base (.slice (some ⟨g, 0, none⟩) n cap) vs rows) : base ≤ g ∧ g < w.heap.size := World.ownsRow.lt h.1 g rfl
/-- the header's cell stays while the row grows -/
theorem OwnV.ready {w w' : World} {base g n cap j : Nat} {vs : List Value} {rows : List (List Int)} {u : Value} (hn : n = rows.length) (h : OwnV w base (.slice (some ⟨g, 0, none⟩) n cap) vs rows) (hj : vs[j]? = some u) (hg : w.grownBy w' u.ownBlock) :
    w'.cell? ⟨g, j, none⟩ = some u ∧ w'.frozen? ⟨g, j, none⟩ = false := by
  subst hn
  obtain ⟨h1, h2, h3, h4⟩ := h
  have hjl := (List.getElem?_eq_some_iff.1 hj).1
  have hur := h3 j u _ hj (List.getElem?_eq_getElem (by omega))
  have h1' : w'.ownsRow base 54 1 (.slice (some ⟨g, 0, none⟩) rows.length cap) rows.length vs := World.ownsRow.kept h1 hg (by
    cases hb : u.ownBlock with
    | none => exact Or.inr (by simp [Value.ownBlock])
    | some q => exact Or.inr (own_ne (t1 := 54) (t2 := 3) h1 hur ints_ne_int q hb))
  exact ⟨(World.ownsRow.cellAt h1' j (by omega)).trans hj, World.ownsRow.frozenAt h1' j⟩
theorem fromI1 {w : World} {H : Nat} (x : Int) (hH : w.heap.size = H) : Rw.From EI (w.alloc (.cells #[.int .i64 x] 3)) (some ⟨H, 0, none⟩) [x] := Rw.From.lit EI w x H hH

/-- how the reference's inner loop stands -/
def InnerS (ms : List (Int × Int)) (k j : Nat) (put : Bool) (vs vs' : List Value) (rs rs' : List (List Int)) : Prop :=
  (put = false → rs' = rs ∧ vs' = vs ∧ ∀ q ∈ rs.take j, M.mrow ms k q = false) ∧ (put = true → rs' = M.addG (M.mrow ms k) k rs) ∧ rs'.length = rs.length

set_option maxHeartbeats 8000000 in
theorem specSameForms_c (xs : List (Int × Int)) (v : Value) (w : World) (hi : Nat) (hx : Rw.Seen EC w hi v xs) (hhi : hi ≤ w.heap.size) :
    Calls Try.prog 8 #[v] w fun e w' => ∃ u, e = .returned (.tuple #[u, .bool (M.sfOk xs)]) ∧ OwnII w' w.heap.size u (M.sfV xs) ∧ Below w.heap.size w w' := by
  obtain ⟨a, cap, rfl, hm, hm2, hv⟩ := hx
  by_cases hl : 20 < xs.length
  · have hs := Lib.hid (M.sf_big hl)
    clear hv
    go_enter Try.func8, Try.ntmps8
    go_wp2
    go_ret2
    exact ⟨.slice none 0 0, by rw [hs.out.1]; rfl, by rw [hs.out.2]; exact OwnII.nil _ _, Below.refl _ _⟩
  · have Hv := Lib.hid hv
    clear hv
    go_enter Try.func8, Try.ntmps8
    go_wp2
    go_loopw [5, 17] (fun _ vi wr => ∃ k : Nat, k ≤ xs.length ∧ vi = .int .i64 k ∧ (∀ (j : Nat) (c : Int × Int), j < k → xs[j]? = some c → M.good c.1 c.2 = true) ∧ Below w.heap.size w wr) (fun _ vi _ => xs.length - (intOf vi).toNat)
    case atStart => exact ⟨0, by omega, rfl, fun j c h => by omega, Below.refl _ _⟩
    case round =>
      obtain ⟨k, hk, rfl, hall, hbr⟩ := hrel
      have Hall := Lib.hid hall
      clear hall
      have hzr := hbr.size
      by_cases hlt : k < xs.length
      · obtain ⟨g, c, rfl, hg, hc, hcell⟩ := Hv.out k hlt
        have e0 : wr.cell? ⟨g, k * 2, none⟩ = some (.int .i64 c.1) := (hbr.cell (by show g < _; omega)).trans (hcell 0 _ rfl)
        have e1 : wr.cell? ⟨g, k * 2 + 1, none⟩ = some (.int .i64 c.2) := (hbr.cell (by show g < _; omega)).trans (hcell 1 _ rfl)
        have HG := fun w => ecGood_c c.1 c.2 w
        clear hcell
        cases hq : M.good c.1 c.2 <;> simp only [hq] at HG <;> have HG := Lib.hid HG
        · have hs := Lib.hid (M.sf_bad (List.mem_of_getElem? hc.out) hq)
          go_wp2_with fail
          refine (HG.out _).mono ?_; rintro e w2 ⟨rfl, hb2⟩
          go_wp2
          go_ret2
          exact ⟨.slice none 0 0, by rw [hs.out.1]; rfl, by rw [hs.out.2]; exact OwnII.nil _ _, (below_alloc hbr _).trans (hb2.mono (by simp; omega))⟩
        · have hnx : Hid (∀ (j : Nat) (y : Int × Int), j < k + 1 → xs[j]? = some y → M.good y.1 y.2 = true) := Lib.hid fun j y hj hy => by
            rcases Nat.lt_or_ge j k with q | q
            · exact Hall.out j y q hy
            · obtain rfl : j = k := by omega
              obtain rfl := Option.some.inj (hc.out.symm.trans hy)
              exact hq
          go_wp2_with fail
          refine (HG.out _).mono ?_; rintro e w2 ⟨rfl, hb2⟩
          go_wp2
          go_roundw
          case rel => exact ⟨k + 1, by omega, by go_num, hnx.out, (below_alloc hbr _).trans (hb2.mono (by simp; omega))⟩
          case measure => simp [intOf]; omega
      · obtain rfl : k = xs.length := by omega
        have hs := Lib.hid (M.sf_all (by omega) Hall.out)
        generalize hw1 : wr = w1 at *
        clear hw1
        go_wp2
        go_loopw [6, 7, 8, 9, 10, 11, 27] (fun v6 _ _ _ _ _ vi wr => ∃ (k : Nat) (vs : List Value), k ≤ xs.length ∧ vi = .int .i64 k ∧ OwnV wr w1.heap.size v6 vs (M.grp (M.mods xs) k) ∧ Below w1.heap.size w1 wr) (fun _ _ _ _ _ _ vi _ => xs.length - (intOf vi).toNat)
        case atStart => exact ⟨0, [], by omega, rfl, OwnV.nil _ _, Below.refl _ _⟩
        case round =>
          obtain ⟨k, vs, hk, rfl, hov, hb1⟩ := hrel
          have hz1 := hb1.size
          have HGI := Lib.hid (M.grp_inv (M.mods xs) k)
          by_cases hlt : k < xs.length
          · obtain ⟨g0, c, rfl, hg, hc, hcell⟩ := Hv.out k hlt
            have e0 : wr.cell? ⟨g0, k * 2, none⟩ = some (.int .i64 c.1) := (hb1.cell (by show g0 < _; omega)).trans ((hbr.cell (by show g0 < _; omega)).trans (hcell 0 _ rfl))
            have e1 : wr.cell? ⟨g0, k * 2 + 1, none⟩ = some (.int .i64 c.2) := (hb1.cell (by show g0 < _; omega)).trans ((hbr.cell (by show g0 < _; omega)).trans (hcell 1 _ rfl))
            have hcg := Lib.hid (Hall.out k c hlt hc.out)
            have hgn : Hid (M.grp (M.mods xs) (k + 1) = M.addG (M.mrow (M.mods xs) k) k (M.grp (M.mods xs) k)) := Lib.hid rfl
            clear hcell
            generalize hrs : M.grp (M.mods xs) k = rs at *
            clear hrs
            have hrl := HGI.out.len
            obtain ⟨A, cap6, rfl⟩ := hov.form
            have hrows := hov.1
            go_wp2
            have hov1 := hov.alloc (.cells #[.int .i64 c.1, .int .i64 c.2] 41)
            have c0 : (wr.alloc (.cells #[.int .i64 c.1, .int .i64 c.2] 41)).cell? ⟨wr.heap.size, 0, none⟩ = some (.int .i64 c.1) := box_cell _ _ _ _
            have c1 : (wr.alloc (.cells #[.int .i64 c.1, .int .i64 c.2] 41)).cell? ⟨wr.heap.size, 1, none⟩ = some (.int .i64 c.2) := box_cell _ _ _ _
            have hba := below_alloc hb1 (.cells #[.int .i64 c.1, .int .i64 c.2] 41)
            have hlt6 : ∀ z ∈ vs, ∀ q, z.ownBlock = some q → q < wr.heap.size := fun z hz q hq => (hov.lt z hz q hq).2
            have hlt6 := Lib.hid hlt6
            generalize hH0 : wr.heap.size = H0 at *
            go_loopw [9, 10, 11, 34] (fun v9 _ _ vj wi => ∃ (j : Nat) (put : Bool) (vs' : List Value) (rs' : List (List Int)), j ≤ rs.length ∧ vj = .int .i64 j ∧ v9 = .bool put ∧ OwnV wi w1.heap.size (.slice A rs.length cap6) vs' rs' ∧ InnerS (M.mods xs) k j put vs vs' rs rs' ∧
              wi.cell? ⟨H0, 0, none⟩ = some (.int .i64 c.1) ∧ wi.cell? ⟨H0, 1, none⟩ = some (.int .i64 c.2) ∧ H0 < wi.heap.size ∧ Below w1.heap.size w1 wi) (fun _ _ _ vj _ => rs.length - (intOf vj).toNat)
            case atStart => exact ⟨0, false, vs, rs, by omega, rfl, rfl, hov1, ⟨fun _ => ⟨rfl, rfl, by simp⟩, fun h => (by cases h), rfl⟩, c0, c1, by rw [World.size_alloc]; omega, hba⟩
            case round =>
              obtain ⟨j, put, vs', rs', hj, rfl, rfl, hov', hin, c0, c1, hzi, hbi⟩ := hrel
              have hz2 := hbi.size
              have Hin := Lib.hid hin
              have hin3 := hin.2.2
              clear hin hov1 hba e0 e1
              by_cases hlj : j < rs.length
              · obtain ⟨g, u, r, rfl, hg6, hr, hu, hcu, hou⟩ := hov'.at (j := j) (by omega)
                cases put
                case true =>
                  go_upto_region 17 with fail
                  go_cut [50] (fun s wx => s = .bool false ∧ Below wr.heap.size wr wx)
                  case first =>
                    first | go_quiet (fail) | go_region_with (fail) | fail
                    all_goals
                      go_wp2_with fail
                      go_meet
                      exact ⟨rfl, (by repeat (first | exact Below.refl _ _ | refine below_alloc ?_ _ | refine below_step ?_ (by assumption) | refine Below.drew ?_ | refine Below.setCell ?_ (by first | exact Nat.le_refl _ | exact Nat.le_add_right _ _ | (simp <;> omega)) _ | refine below_drewN ?_ _))⟩
                  case rest =>
                    obtain ⟨rfl, hbx⟩ := hcut
                    have k0 := keepCell hbx c0
                    have k1 := keepCell hbx c1
                    have hzx := hbx.size
                    go_wp2
                    go_roundw
                    case rel => exact ⟨j + 1, true, vs', rs', by omega, by go_num, rfl, hov'.below hbx, ⟨fun h => (by cases h), Hin.out.2.1, Hin.out.2.2⟩, k0, k1, by omega, hbi.trans (hbx.mono hz2)⟩
                    case measure => simp [intOf]; omega
                case false =>
                  obtain ⟨i1, i2, i3⟩ := Hin.out.1 rfl
                  have i1 := i1.symm
                  have i2 := i2.symm
                  subst i1 i2
                  have I3 := Lib.hid i3
                  obtain ⟨h, t, rfl, hh1, hh2, hh3⟩ := HGI.out.row r (List.mem_of_getElem? hr.out)
                  obtain ⟨d, hd⟩ : ∃ d, Hid (xs[h]? = some d) := ⟨_, Lib.hid (List.getElem?_eq_getElem (by omega))⟩
                  obtain ⟨g', d', eg, hg', hd', hcd⟩ := Hv.out h (by omega)
                  obtain rfl : g0 = g' := by simpa using eg
                  obtain rfl : d = d' := Option.some.inj (hd.out.symm.trans hd'.out)
                  have f0 : wr.cell? ⟨g0, h * 2, none⟩ = some (.int .i64 d.1) := (hbi.cell (by show g0 < _; omega)).trans ((hbr.cell (by show g0 < _; omega)).trans (hcd 0 _ rfl))
                  have f1 : wr.cell? ⟨g0, h * 2 + 1, none⟩ = some (.int .i64 d.2) := (hbi.cell (by show g0 < _; omega)).trans ((hbr.cell (by show g0 < _; omega)).trans (hcd 1 _ rfl))
                  have HS := fun w => ecSame_c d.1 d.2 c.1 c.2 w (Hall.out h d (by omega) hd.out) hcg.out
                  simp only [M.same_mrow (t := t) hd.out hc.out] at HS
                  have HS := Lib.hid HS
                  obtain ⟨gu, capu, rfl, hgu, hgus⟩ := OwnI.form hou (by simp)
                  have hu0 : wr.cell? ⟨gu, 0, none⟩ = some (.int .i64 h) := OwnI.cellAt rfl hou (i := 0) rfl
                  have hul : ((h : Int) :: t).length ≤ 100 := by simp; omega
                  have hul0 : 0 < ((h : Int) :: t).length := by simp
                  clear hcd eg hd'
                  have hub : gu < H0 := hlt6.out _ (List.mem_of_getElem? hu.out) gu rfl
                  generalize hrr : (h : Int) :: t = r at *
                  clear hrr
                  generalize hnr : r.length = nr at *
                  cases hq : M.mrow (M.mods xs) k r <;> simp only [hq] at HS <;> have HS := Lib.hid HS.out
                  case false =>
                    have hi3 := Lib.hid (take_memL (q := fun y => M.mrow (M.mods xs) k y = false) hr.out I3.out hq)
                    go_upto_region 17 with fail
                    go_cut [50] (fun s wx => s = .bool false ∧ Below wr.heap.size wr wx)
                    case first =>
                      first | go_region_with (go_at_call 27; (with_reducible refine (HS.out _).mono ?_); rintro e w' ⟨rfl, hb8⟩) | fail
                      all_goals
                        go_wp2_with fail
                        go_meet
                        exact ⟨rfl, (by repeat (first | exact Below.refl _ _ | refine below_alloc ?_ _ | refine below_step ?_ (by assumption) | refine Below.drew ?_ | refine Below.setCell ?_ (by first | exact Nat.le_refl _ | exact Nat.le_add_right _ _ | (simp <;> omega)) _ | refine below_drewN ?_ _))⟩
                    case rest =>
                      obtain ⟨rfl, hbx⟩ := hcut
                      have k0 := keepCell hbx c0
                      have k1 := keepCell hbx c1
                      have hzx := hbx.size
                      go_wp2
                      go_roundw
                      case rel => exact ⟨j + 1, false, vs, rs, by omega, by go_num, rfl, hov'.below hbx, ⟨fun _ => ⟨rfl, rfl, hi3.out⟩, fun h => (by cases h), rfl⟩, k0, k1, by omega, hbi.trans (hbx.mono hz2)⟩
                      case measure => simp [intOf]; omega
                  case true =>
                    have hadd := Lib.hid (M.addG_find (i := k) hr.out hq I3.out)
                    go_upto_region 17 with fail
                    go_cut [50] (fun s wx => s = .bool true ∧ Below wr.heap.size wr wx)
                    case first =>
                      first | go_region_with (go_at_call 27; (with_reducible refine (HS.out _).mono ?_); rintro e w' ⟨rfl, hb8⟩) | fail
                      all_goals
                        go_wp2_with fail
                        go_meet
                        exact ⟨rfl, (by repeat (first | exact Below.refl _ _ | refine below_alloc ?_ _ | refine below_step ?_ (by assumption) | refine Below.drew ?_ | refine Below.setCell ?_ (by first | exact Nat.le_refl _ | exact Nat.le_add_right _ _ | (simp <;> omega)) _ | refine below_drewN ?_ _))⟩
                    case rest =>
                      obtain ⟨rfl, hbx⟩ := hcut
                      have k0 := keepCell hbx c0
                      have k1 := keepCell hbx c1
                      have hzx := hbx.size
                      have hov2 := hov'.below hbx
                      have hou2 := OwnI.below hou hbx
                      have hb2 := hbi.trans (hbx.mono hz2)
                      have hz3 := hb2.size
                      have hou3 := ownI_iff.1 (OwnI.alloc hou2 (.cells #[.int .i64 (k : Int)] 3))
                      go_wp2_with (at_builtin; refine Rw.push3 fitsI w1.heap.size [(k : Int)] r _ ⟨_, 0, none⟩ 1 1 (by rfl) (by rfl) (.tmp 53) (.tmp 55) (by rfl) (by rfl) (by rfl) (fromI1 (k : Int) (by rfl)) hou3 (by simp; omega) (by simp; omega) ?_; intro u4 w4 hown4 hg4 hbl4; (have hbl4 := Lib.hid hbl4); (obtain ⟨g4, cp4, rfl, hg4b, hg4s⟩ := OwnI.form (ownI_iff.2 hown4) (by simp)); (have rd := OwnV.ready rfl (hov2.alloc (.cells #[.int .i64 (k : Int)] 3)) hu.out hg4); (have rd0 := rd.1); (have rd1 := rd.2))
                      have hpt := OwnV.put rfl (hov2.alloc (.cells #[.int .i64 (k : Int)] 3)) hu.out (ownI_iff.2 hown4) hg4 hbl4.out
                      have hgo : g < H0 := by have := hov.outer.2; omega
                      have hb4 := (below_alloc hb2 (.cells #[.int .i64 (k : Int)] 3)).grown hg4 (by simp; omega) (fun q hq => by cases hq; exact hgu)
                      have hb5 := hb4.grown hpt.2 (by have := hg4.size; simp at this; omega) (fun q hq => by cases hq; exact hov2.outer.1)
                      have k2 := hg4.cell (a := ⟨H0, 0, none⟩) (Gr.recell0 k0) (fun hh => by have := Option.some.inj hh; dsimp only at this; omega)
                      have k3 := hg4.cell (a := ⟨H0, 1, none⟩) (Gr.recell0 k1) (fun hh => by have := Option.some.inj hh; dsimp only at this; omega)
                      have k4 := hpt.2.cell k2 (fun hh => by have := Option.some.inj hh; dsimp only at this; omega)
                      have k5 := hpt.2.cell k3 (fun hh => by have := Option.some.inj hh; dsimp only at this; omega)
                      have k6 : H0 < (w4.setCell ⟨g, j, none⟩ (.slice (some ⟨g4, 0, none⟩) (r ++ [(k : Int)]).length cp4)).heap.size := by rw [size_setCell]; have := hg4.size; simp at this; omega
                      have hln : (r ++ [(k : Int)]).length = nr + 1 := by rw [List.length_append, hnr]; rfl
                      rw [hln] at hpt k4 k5 k6 hb5
                      go_roundw
                      case rel => exact ⟨j + 1, true, _, _, by omega, by go_num, rfl, hpt.1, ⟨fun h => (by cases h), fun _ => hadd.out.2.symm, by rw [List.length_set]⟩, k4, k5, k6, hb5⟩
                      case measure => simp [intOf]; omega
              · obtain rfl : j = rs.length := by omega
                cases put
                case true =>
                  have hput := Lib.hid (Hin.out.2.1 rfl)
                  rw [hput.out] at hov'
                  go_wp2
                  go_roundw
                  case rel => exact ⟨k + 1, vs', by omega, by go_num, by rw [hgn.out]; exact hov', hbi⟩
                  case measure => simp [intOf]; omega
                case false =>
                  obtain ⟨i1, i2, i3⟩ := Hin.out.1 rfl
                  have i1 := i1.symm
                  have i2 := i2.symm
                  subst i1 i2
                  rw [List.take_length] at i3
                  have hadd := Lib.hid (M.addG_none (i := k) i3)
                  clear i3
                  go_wp2_with (at_builtin; refine push_row (W := w1) w1.heap.size (.slice (some ⟨wr.heap.size, 0, none⟩) 1 1) [(k : Int)] vs rs _ (wr.heap.size + 1) (by simp) rfl _ _ rfl rfl rfl (hov'.alloc _) (OwnI.lit1 _ _ _ (by omega)) (fun q hq z hz hzg => row_new hov' (Below.refl _ _) z hz q hzg hq) (below_alloc hbi _) (by simp; omega) (by omega) ?_; rintro v3 w3 hov3 hb3)
                  go_roundw
                  case rel => exact ⟨k + 1, _, by omega, by go_num, by rw [hgn.out, hadd.out]; exact hov3, hb3⟩
                  case measure => simp [intOf]; omega
          · obtain rfl : k = xs.length := by omega
            obtain ⟨A, cap6, rfl⟩ := hov.form
            go_wp2
            go_ret2
            exact ⟨_, by rw [hs.out.1]; rfl, by rw [hs.out.2]; exact ⟨vs, hov.base hzr⟩, hbr.trans (hb1.mono hzr)⟩
end Go.Proofs.Ytpemckpnlemkfaa
