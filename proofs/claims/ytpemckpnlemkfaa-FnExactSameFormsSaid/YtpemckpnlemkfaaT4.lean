/-
  Contracts: curves grouped by their models, by the program.
-/
import Derived.Test.YtpemckpnlemkfaaT3
import Derived.Test.YtpemckpnlemkfaaE2
namespace Go.Proofs.Ytpemckpnlemkfaa
set_option linter.unusedSimpArgs false
set_option linter.unusedVariables false
open Go.RowKit

theorem M.first_ex {ms : List (Int × Int)} {c : Int × Int} : ∀ k : Nat, ms[k]? = some c → ∃ f, f ≤ k ∧ ms[f]? = some c ∧ ∀ j, j < f → ms[j]? ≠ some c := by
  intro k
  induction k using Nat.strongRecOn with
  | _ k ih =>
    intro h
    by_cases hx : ∃ j, j < k ∧ ms[j]? = some c
    · obtain ⟨j, hj, hc⟩ := hx
      obtain ⟨f, h1, h2, h3⟩ := ih j hj hc
      exact ⟨f, by omega, h2, h3⟩
    · exact ⟨k, Nat.le_refl _, h, fun j hj hc => hx ⟨j, hj, hc⟩⟩
theorem fromC1 {w : World} {H : Nat} (c : Int × Int) (hH : w.heap.size = H) : Rw.From EC (w.alloc (.cells #[.int .i64 c.1, .int .i64 c.2] 41)) (some ⟨H, 0, none⟩) [c] := Rw.From.lit EC w c H hH
theorem M.mods_len (xs : List (Int × Int)) : (M.mods xs).length = xs.length := by unfold M.mods; rw [List.length_map]
theorem M.mods_take {xs : List (Int × Int)} {k : Nat} {c : Int × Int} (h : xs[k]? = some c) : (M.mods xs).take (k + 1) = (M.mods xs).take k ++ [(M.smA c.1 c.2, M.smB c.1 c.2)] := by
  rw [List.take_add_one, M.mods_get h]
  rfl
theorem OwnV.row {w : World} {base n cap : Nat} {A : Option Addr} {vs : List Value} {rows : List (List Int)} {j : Nat} {r : List Int} (h : OwnV w base (.slice A n cap) vs rows) (hr : rows[j]? = some r) :
    ∃ g u, A = some ⟨g, 0, none⟩ ∧ g < w.heap.size ∧ Hid (vs[j]? = some u) ∧ w.cell? ⟨g, j, none⟩ = some u ∧ OwnI w base u r := by
  obtain ⟨g, u, r', h1, h2, h3, h4, h5, h6⟩ := h.at (j := j) (List.getElem?_eq_some_iff.1 hr).1
  obtain rfl : r' = r := Option.some.inj (h3.out.symm.trans hr)
  exact ⟨g, u, h1, h2, h4, h5, h6⟩
theorem push_rowG {ops : Array Oper} {rest : List Oper} {o : Oper} {a : Act} {Q : Exit → Act → World → Prop} {w : World} (base : Nat) (u : Value) (r : List Int) (vs : List Value) (rows : List (List Int)) (v : Value) (H : Nat) (hH : w.heap.size = H) (hgd : o.guard = none) (s x : Operand)
    (ho : o.op = .call { callee := .builtin .append, args := #[s, x], argTypes := #[24, 24] }) (hs : a.eval s = v) (hx : a.eval x = .slice (some ⟨H, 0, none⟩) 1 1)
    (hown : OwnV w base v vs rows) (hu : OwnI w base u r) (hnew : ∀ g, u.ownBlock = some g → ∀ z ∈ vs, z.ownBlock ≠ some g)
    (hB : base ≤ w.heap.size) (hl : rows.length ≤ 1000000000)
    (h : ∀ v' w', OwnV w' base v' (vs ++ [u]) (rows ++ [r]) → (w.alloc (.cells #[u] 54)).grownBy w' v.ownBlock → wpList Try.prog ops Q rest (a.put o.dst v') w') :
    wpList Try.prog ops Q (o :: rest) a (w.alloc (.cells #[u] 54)) := by
  subst hH
  obtain ⟨i0, hi, hz0, hz1, hz2⟩ := info_parts info_ints
  obtain ⟨h1, h2, h3, h4⟩ := hown
  refine wpList_append_own _ hgd s x 24 ho base 54 i0 (.slice none 0 0) 1 24 Try.underlying24 hi hz0 hz1 hz2 rfl (by decide) v rows.length vs hs (h1.alloc _) ⟨w.heap.size, 0, none⟩ 1 1 [u] hx rfl (fun j z hz => by
    have hadd : (⟨w.heap.size, 0, none⟩ : Addr).add j = ⟨w.heap.size, j, none⟩ := by unfold Addr.add; split <;> simp_all
    rw [hadd, World.cell?_alloc_at _ _ _ _ rfl]
    simpa using hz) (fun z hz => by simp only [List.mem_singleton] at hz; subst hz; exact one_cell_slice hu) ?_ ?_ ?_ ?_
  · unfold maxLen; omega
  · omega
  · simp; omega
  · intro v' w' k1 k2 _
    refine h v' w' ⟨by rw [List.length_append]; exact k1, by rw [List.length_append, List.length_append, h2]; rfl, ?_, ?_⟩ k2
    · have hal : ∀ {z : Value} {q : List Int}, OwnI w base z q → OwnI w' base z q := by
        intro z q hz
        have hz' : OwnI (w.alloc (.cells #[u] 54)) base z q := World.ownsRow.alloc hz _
        refine hz'.kept k2 fun g hg => ?_
        exact own_ne (t1 := 3) (t2 := 54) hz' (World.ownsRow.alloc h1 _) (Ne.symm ints_ne_int) g hg
      intro i z q hz hq
      by_cases hlt : i < vs.length
      · rw [List.getElem?_append_left hlt] at hz
        rw [List.getElem?_append_left (by omega)] at hq
        exact hal (h3 i z q hz hq)
      · rw [List.getElem?_append_right (by omega)] at hz
        rw [List.getElem?_append_right (by omega), ← h2] at hq
        have hi0 : i - vs.length = 0 := by
          rcases Nat.eq_zero_or_pos (i - vs.length) with e | e
          · exact e
          · rw [List.getElem?_eq_none (by simp; omega)] at hz; cases hz
        rw [hi0] at hz hq
        simp only [List.getElem?_cons_zero, Option.some.injEq] at hz hq
        subst hz hq
        exact hal hu
    · rw [List.pairwise_append]
      refine ⟨h4, by simp, fun z hz z' hz' g hg hg' => ?_⟩
      simp only [List.mem_singleton] at hz'
      subst hz'
      exact hnew g hg' z hz hg

set_option maxHeartbeats 8000000 in
theorem implSameForms_c (xs : List (Int × Int)) (v : Value) (w : World) (hi : Nat) (hx : Rw.Seen EC w hi v xs) (hhi : hi ≤ w.heap.size) :
    Calls Try.prog 10 #[v] w fun e w' => ∃ u, e = .returned (.tuple #[u, .bool (M.sfOk xs)]) ∧ OwnII w' w.heap.size u (M.sfV xs) ∧ Below w.heap.size w w' := by
  obtain ⟨a, cap, rfl, hm, hm2, hv⟩ := hx
  by_cases hl : 20 < xs.length
  · have hs := Lib.hid (M.sf_big hl)
    clear hv
    go_enter Try.func10, Try.ntmps10
    go_wp2
    go_ret2
    exact ⟨.slice none 0 0, by rw [hs.out.1]; rfl, by rw [hs.out.2]; exact OwnII.nil _ _, Below.refl _ _⟩
  · have Hv := Lib.hid hv
    clear hv
    go_enter Try.func10, Try.ntmps10
    go_wp2
    go_loopw [4, 6, 7, 8, 19] (fun v4 _ _ _ vi wr => ∃ k : Nat, k ≤ xs.length ∧ vi = .int .i64 k ∧ Rw.Own EC wr w.heap.size v4 ((M.mods xs).take k) ∧ (∀ (j : Nat) (c : Int × Int), j < k → xs[j]? = some c → M.good c.1 c.2 = true) ∧ Below w.heap.size w wr) (fun _ _ _ _ vi _ => xs.length - (intOf vi).toNat)
    case atStart => exact ⟨0, by omega, rfl, Rw.Own.nil _ _ _, fun j c h => by omega, Below.refl _ _⟩
    case round =>
      obtain ⟨k, hk, rfl, hown, hall, hbr⟩ := hrel
      have Hall := Lib.hid hall
      clear hall
      have hzr := hbr.size
      have hlk : Hid (((M.mods xs).take k).length = k) := Lib.hid (by rw [List.length_take, M.mods_len]; omega)
      by_cases hlt : k < xs.length
      · obtain ⟨g, c, rfl, hg, hc, hcell⟩ := Hv.out k hlt
        have e0 : wr.cell? ⟨g, k * 2, none⟩ = some (.int .i64 c.1) := (hbr.cell (by show g < _; omega)).trans (hcell 0 _ rfl)
        have e1 : wr.cell? ⟨g, k * 2 + 1, none⟩ = some (.int .i64 c.2) := (hbr.cell (by show g < _; omega)).trans (hcell 1 _ rfl)
        have HG := fun w => isCurve_c c.1 c.2 w
        clear hcell
        cases hq : M.good c.1 c.2 <;> simp only [hq] at HG <;> have HG := Lib.hid HG
        · have hs := Lib.hid (M.sf_bad (List.mem_of_getElem? hc.out) hq)
          go_wp2_with fail
          refine (HG.out _).mono ?_; rintro e w2 ⟨rfl, hb2⟩
          go_wp2
          go_ret2
          exact ⟨.slice none 0 0, by rw [hs.out.1]; rfl, by rw [hs.out.2]; exact OwnII.nil _ _, (below_alloc hbr _).trans (hb2.mono (by simp; omega))⟩
        · have hnx : Hid (∀ (j : Nat) (y : Int × Int), j < k + 1 → xs[j]? = some y → M.good y.1 y.2 = true) := Lib.hid fun j y hj hy => by
            rcases Nat.lt_or_ge j k with q | q
            · exact Hall.out j y q hy
            · obtain rfl : j = k := by omega
              obtain rfl := Option.some.inj (hc.out.symm.trans hy)
              exact hq
          have HS := fun w => smallest_c c.1 c.2 w hq
          have htk := Lib.hid (M.mods_take hc.out)
          generalize M.smA c.1 c.2 = m1 at *
          generalize M.smB c.1 c.2 = m2 at *
          generalize M.sm c.1 c.2 = m3 at *
          have HS := Lib.hid HS
          go_wp2_with fail
          refine (HG.out _).mono ?_; rintro e w2 ⟨rfl, hb2⟩
          have d0 : w2.cell? ⟨wr.heap.size, 0, none⟩ = some (.int .i64 c.1) := keepCell hb2 (box_cell _ _ _ _)
          have d1 : w2.cell? ⟨wr.heap.size, 1, none⟩ = some (.int .i64 c.2) := keepCell hb2 (box_cell _ _ _ _)
          have z2 : wr.heap.size + 1 ≤ w2.heap.size := by have := hb2.size; simpa using this
          go_wp2_with fail
          refine (HS.out _).mono ?_; rintro e w3 ⟨rfl, hb3⟩
          have z3 := hb3.size
          have hw3 : Below w.heap.size w w3 := ((below_alloc hbr _).trans (hb2.mono (by simp; omega))).trans (hb3.mono (by omega))
          have hown3 := ((hown.alloc (.cells #[.int .i64 c.1, .int .i64 c.2] 41)).below hb2).below hb3
          go_wp2_with (at_builtin; refine Rw.push fitsC (W := w) w.heap.size [(m1, m2)] _ _ (some ⟨_, 0, none⟩) 1 1 (by rfl) (by rfl) (.tmp 31) (.tmp 33) (by rfl) (by rfl) (by rfl) (fromC1 (m1, m2) (by simp)) ((hown3.alloc _).alloc _) (below_alloc (below_alloc hw3 _) _) (by simp; omega) (by rw [hlk.out]; simp; omega) ?_; intro v5 w5 hown5 hb5)
          go_roundw
          case rel => exact ⟨k + 1, by omega, by go_num, by rw [htk.out]; exact hown5, hnx.out, hb5⟩
          case measure => simp [intOf]; omega
      · obtain rfl : k = xs.length := by omega
        have hs := Lib.hid (M.sf_all (by omega) Hall.out)
        rw [List.take_of_length_le (by rw [M.mods_len]; omega)] at hown
        have hml := M.mods_len xs
        rw [← hml] at hs
        generalize M.mods xs = ms at *
        have hml20 : ms.length ≤ 20 := by omega
        clear hlk hml Hall
        obtain ⟨Am, capm, rfl, hmm, hmm2, hvm⟩ := hown.seen
        have HSn := Lib.hid hown.seen
        have Hvm := Lib.hid hvm
        clear hvm hown
        generalize hw1 : wr = w1 at *
        clear hw1
        go_wp2
        go_loopw [9, 10, 11, 12, 13, 38] (fun v9 _ _ _ _ vi wr => ∃ (k : Nat) (vs : List Value), k ≤ ms.length ∧ vi = .int .i64 k ∧ OwnV wr w1.heap.size v9 vs (M.grp ms k) ∧ Below w1.heap.size w1 wr) (fun _ _ _ _ _ vi _ => ms.length - (intOf vi).toNat)
        case atStart => exact ⟨0, [], by omega, rfl, OwnV.nil _ _, Below.refl _ _⟩
        case round =>
          obtain ⟨k, vs, hk, rfl, hov, hb1⟩ := hrel
          have hz1 := hb1.size
          have HGI := Lib.hid (M.grp_inv ms k)
          by_cases hlt : k < ms.length
          · obtain ⟨g0, c, rfl, hg, hc, hcell⟩ := Hvm.out k hlt
            have e0 : wr.cell? ⟨g0, k * 2, none⟩ = some (.int .i64 c.1) := (hb1.cell hg).trans (hcell 0 _ rfl)
            have e1 : wr.cell? ⟨g0, k * 2 + 1, none⟩ = some (.int .i64 c.2) := (hb1.cell hg).trans (hcell 1 _ rfl)
            have hseen := HSn.out.below hb1
            obtain ⟨f, hf1, hf2, hf3⟩ := M.first_ex k hc.out
            have HIx := indexC_c ms (.slice (some ⟨g0, 0, none⟩) ms.length capm) c (wr.alloc (.cells #[.int .i64 c.1, .int .i64 c.2] 41)) w1.heap.size (hseen.below ((Below.refl _ _).alloc hz1 _)) (by simp; omega)
            rw [M.cidx_hit hf2 hf3] at HIx
            have hfc : ms[f]? = ms[k]? := hf2.trans hc.out.symm
            have hfm : ∀ j, j < f → ms[j]? ≠ ms[k]? := fun j hj => by rw [hc.out]; exact hf3 j hj
            have Hfm := Lib.hid hfm
            have Hfc := Lib.hid hfc
            have HIx := Lib.hid HIx
            clear hcell hseen hf2 hf3 hfc hfm
            have hgn : Hid (M.grp ms (k + 1) = M.addG (M.mrow ms k) k (M.grp ms k)) := Lib.hid rfl
            generalize hrs : M.grp ms k = rs at *
            clear hrs
            have hrl := HGI.out.len
            obtain ⟨A, cap9, rfl⟩ := hov.form
            go_wp2_with fail
            refine HIx.out.mono ?_; rintro e w2 ⟨rfl, hb2⟩
            have z2 : wr.heap.size + 1 ≤ w2.heap.size := by have := hb2.size; simpa using this
            have hov2 := (hov.alloc (.cells #[.int .i64 c.1, .int .i64 c.2] 41)).below hb2
            have hbb2 : Below w1.heap.size w1 w2 := (below_alloc hb1 _).trans (hb2.mono (by simp; omega))
            have hov3 := hov2.alloc (.cells #[.int .i64 (f : Int)] 3)
            have hbb3 := below_alloc hbb2 (.cells #[.int .i64 (f : Int)] 3)
            have fb3 : (w2.alloc (.cells #[.int .i64 (f : Int)] 3)).cell? ⟨w2.heap.size, 0, none⟩ = some (.int .i64 (f : Int)) := box_cell _ _ _ _
            clear HIx e0 e1 hb2
            by_cases hfk : f = k
            · subst hfk
              have hnone := M.first_none HGI.out Hfm.out
              have hr : (rs ++ [[]])[rs.length]? = some ([] : List Int) := by simp
              have hfx : M.fidx (M.prow (f : Int)) (rs ++ [[]]) = rs.length := M.fidx_hit hr rfl (fun q hq => by
                rw [List.take_left] at hq
                rw [M.prow_row HGI.out Hfc.out Hfm.out hq]
                exact hnone q hq)
              have hadd : Hid (M.addG (M.mrow ms f) f rs = (rs ++ [[]]).set rs.length ([] ++ [(f : Int)])) := Lib.hid (by rw [M.addG_none hnone]; simp)
              have Hfx := Lib.hid hfx
              have Hr := Lib.hid hr
              clear hnone hfx hr
              have HP : ∀ (v5 : Value) (w5 : World), OwnV w5 w1.heap.size v5 (vs ++ [.slice none 0 0]) (rs ++ [[]]) → ((w2.alloc (.cells #[.int .i64 (f : Int)] 3)).alloc (.cells #[.slice none 0 0] 54)).grownBy w5 (Value.slice A rs.length cap9).ownBlock → (∃ A5 cap5, v5 = .slice A5 (rs.length + 1) cap5) ∧ w5.cell? ⟨w2.heap.size, 0, none⟩ = some (.int .i64 (f : Int)) ∧ w2.heap.size < w5.heap.size ∧ w1.heap.size ≤ w5.heap.size ∧ Below w1.heap.size w1 w5 := fun v5 w5 hov5 hg5 => by
                refine ⟨?_, hg5.cell (a := ⟨w2.heap.size, 0, none⟩) (Gr.recell0 fb3) (fun hh => ?_), ?_, ?_, ?_⟩
                · obtain ⟨A5, cap5, h5⟩ := hov5.form
                  exact ⟨A5, cap5, by rw [h5]; simp⟩
                · have := (World.ownsRow.lt hov.1 _ hh.symm).2
                  dsimp only at this
                  omega
                · have := hg5.size
                  simp at this
                  omega
                · have := hg5.size
                  simp at this
                  omega
                · exact (below_alloc hbb3 _).grown hg5 (by simp; omega) (fun q hq => (World.ownsRow.lt hov.1 q hq).1)
              have HP := Lib.hid HP
              go_wp2_with (first
                | (at_builtin; refine push_rowG w1.heap.size (.slice none 0 0) [] vs rs _ (w2.heap.size + 1) (by simp) rfl _ _ rfl rfl rfl hov3 (OwnI.nil _ _) (fun g hg => by cases hg) (by simp; omega) (by omega) ?_; rintro v5 w5 hov5 hg5; (obtain ⟨⟨A5, cap5, rfl⟩, fb5, z5b, z5, hb5⟩ := HP.out v5 w5 hov5 hg5); (have HX := idxRow_c (f : Int) w2.heap.size _ _ _ w5 w1.heap.size hov5 fb5 (by omega)); (rw [Hfx.out] at HX); (have HX := Lib.hid HX))
                | (go_at_call 31; refine HX.out.mono ?_; rintro e w6 ⟨rfl, hb6⟩; (have z6 := hb6.size); (have hov6 := hov5.below hb6); (obtain ⟨g, u, rfl, hg6, hu, hcu, hou⟩ := hov6.row Hr.out); (obtain ⟨au, cu, rfl⟩ := OwnI.nil_form hou); (have hb66 := hb5.trans (hb6.mono z5)); (have hou7 := ownI_iff.1 (OwnI.alloc hou (.cells #[.int .i64 (f : Int)] 3))))
                | (at_builtin; refine Rw.push3 fitsI w1.heap.size [(f : Int)] [] _ ⟨_, 0, none⟩ 1 1 (by rfl) (by rfl) (.tmp 60) (.tmp 62) (by rfl) (by rfl) (by rfl) (fromI1 (f : Int) (by rfl)) hou7 (by simp; omega) (by simp) ?_; intro u8 w8 hown8 hg8 hbl8; (have hbl8 := Lib.hid hbl8); (obtain ⟨g4, cp4, rfl, hg4b, hg4s⟩ := OwnI.form (ownI_iff.2 hown8) (by simp)); (have rd := OwnV.ready (by simp) (hov6.alloc (.cells #[.int .i64 (f : Int)] 3)) hu.out hg8); (have rd0 := rd.1); (have rd1 := rd.2)))
              have hpt := OwnV.put (by simp) (hov6.alloc (.cells #[.int .i64 (f : Int)] 3)) hu.out (ownI_iff.2 hown8) hg8 hbl8.out
              have hb8 := (below_alloc hb66 (.cells #[.int .i64 (f : Int)] 3)).grown hg8 (by simp; omega) (fun q hq => (OwnI.lt hou q hq).1)
              have hb9 := hb8.grown hpt.2 (by have := hg8.size; simp at this; omega) (fun q hq => by cases hq; exact hov6.outer.1)
              go_roundw
              case rel => exact ⟨f + 1, _, by omega, by go_num, by rw [hgn.out, hadd.out]; exact hpt.1, hb9⟩
              case measure => simp [intOf]; omega
            · have hsome := M.first_some HGI.out (by omega) Hfc.out
              have hlx : rs.findIdx (M.mrow ms k) < rs.length := List.findIdx_lt_length.2 hsome
              have h1 := List.findIdx_getElem (w := hlx)
              have h2 : ∀ q ∈ rs.take (rs.findIdx (M.mrow ms k)), M.mrow ms k q = false := fun q hq => by
                obtain ⟨j, hj, rfl⟩ := List.mem_take_iff_getElem.1 hq
                have := List.not_of_lt_findIdx (p := M.mrow ms k) (xs := rs) (i := j) (by omega)
                simpa using this
              have hr : rs[rs.findIdx (M.mrow ms k)]? = some (rs[rs.findIdx (M.mrow ms k)]'hlx) := List.getElem?_eq_getElem hlx
              generalize rs[rs.findIdx (M.mrow ms k)]'hlx = r at *
              generalize rs.findIdx (M.mrow ms k) = at_ at *
              have hadd := Lib.hid (M.addG_find (i := k) hr h1 h2).2
              have hfx : M.fidx (M.prow (f : Int)) rs = at_ := M.fidx_hit hr (by rw [M.prow_row HGI.out Hfc.out Hfm.out (List.mem_of_getElem? hr)]; exact h1) (fun q hq => by
                rw [M.prow_row HGI.out Hfc.out Hfm.out (List.mem_of_mem_take hq)]
                exact h2 q hq)
              obtain ⟨hh, tt, hrr, -, -, htl⟩ := HGI.out.row r (List.mem_of_getElem? hr)
              have hrlen : r.length ≤ 100 := by rw [hrr]; simp; omega
              have Hr := Lib.hid hr
              have HX := idxRow_c (f : Int) w2.heap.size _ _ _ _ w1.heap.size hov3 fb3 (by simp)
              rw [hfx] at HX
              have HX := Lib.hid HX
              clear hsome h1 h2 hr hfx hrr
              go_wp2_with (first
                | (go_at_call 31; refine HX.out.mono ?_; rintro e w6 ⟨rfl, hb6⟩; (have z6 := hb6.size); (have hov6 := hov3.below hb6); (obtain ⟨g, u, rfl, hg6, hu, hcu, hou⟩ := hov6.row Hr.out); (obtain ⟨au, cu, rfl⟩ := OwnI.nil_form hou); (have hb66 := hbb3.trans (hb6.mono (by simp; omega))); (have hou7 := ownI_iff.1 (OwnI.alloc hou (.cells #[.int .i64 (k : Int)] 3))))
                | (at_builtin; refine Rw.push3 fitsI w1.heap.size [(k : Int)] r _ ⟨_, 0, none⟩ 1 1 (by rfl) (by rfl) (.tmp 60) (.tmp 62) (by rfl) (by rfl) (by rfl) (fromI1 (k : Int) (by rfl)) hou7 (by simp at z6 ⊢; omega) (by simp; omega) ?_; intro u8 w8 hown8 hg8 hbl8; (have hbl8 := Lib.hid hbl8); (obtain ⟨g4, cp4, rfl, hg4b, hg4s⟩ := OwnI.form (ownI_iff.2 hown8) (by simp)); (have rd := OwnV.ready rfl (hov6.alloc (.cells #[.int .i64 (k : Int)] 3)) hu.out hg8); (have rd0 := rd.1); (have rd1 := rd.2)))
              have hpt := OwnV.put rfl (hov6.alloc (.cells #[.int .i64 (k : Int)] 3)) hu.out (ownI_iff.2 hown8) hg8 hbl8.out
              have hb8 := (below_alloc hb66 (.cells #[.int .i64 (k : Int)] 3)).grown hg8 (by simp at z6 ⊢; omega) (fun q hq => (OwnI.lt hou q hq).1)
              have hb9 := hb8.grown hpt.2 (by have := hg8.size; simp at this z6; omega) (fun q hq => by cases hq; exact hov6.outer.1)
              have hln : (r ++ [(k : Int)]).length = r.length + 1 := by rw [List.length_append]; rfl
              rw [hln] at hpt hb9
              go_roundw
              case rel => exact ⟨k + 1, _, by omega, by go_num, by rw [hgn.out, hadd.out]; exact hpt.1, hb9⟩
              case measure => simp [intOf]; omega
          · obtain rfl : k = ms.length := by omega
            obtain ⟨A, cap9, rfl⟩ := hov.form
            go_wp2
            go_ret2
            exact ⟨_, by rw [hs.out.1]; rfl, by rw [hs.out.2]; exact ⟨vs, hov.base hzr⟩, hbr.trans (hb1.mono hzr)⟩
end Go.Proofs.Ytpemckpnlemkfaa

