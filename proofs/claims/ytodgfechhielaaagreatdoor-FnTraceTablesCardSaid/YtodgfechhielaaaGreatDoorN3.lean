/-
  Contracts: traces as a text, by the program.
-/
import Derived.Test.YtodgfechhielaaaGreatDoorN2
import Derived.Test.YtodgfechhielaaaGreatDoorS7
import Derived.Test.YtodgfechhielaaaGreatDoorShS
import Derived.Lib.AppendIntMem
namespace Go.Proofs.YtodgfechhielaaaGreatDoor
set_option linter.unusedSimpArgs false
set_option linter.unusedVariables false
open Go.RowKit

/-- a string's cell -/
def EB : Rw.Enc ByteArray where
  t := 9
  k := 1
  cells := fun c => [.string c]
  len := fun _ => rfl
  one := fun x u hu => by simp only [List.mem_singleton] at hu; subst hu; rfl
  pos := by decide
theorem infoB : (Tryz.prog.info? 9).map (fun i => (i.zero, i.size, i.bytes)) = some (some (.string ⟨#[]⟩), 1, 16) := by kernel_rfl
theorem fitsB : Rw.Fits Tryz.prog EB 69 := ⟨Tryz.underlying69, by
  obtain ⟨i0, hi, hz0, hz1, hz2⟩ := info_parts infoB
  exact ⟨i0, _, hi, hz0, hz1, by omega, rfl⟩⟩
theorem fromB {w : World} {H : Nat} (c : ByteArray) (hH : w.heap.size = H) : Rw.From EB (w.alloc (.cells #[.string c] 9)) (some ⟨H, 0, none⟩) [c] := Rw.From.lit EB w c H hH
/-- the library's table, from block B on whatever is done -/
def Tab (B : Nat) (w : World) : Prop := Lib.TabBelow Tryz.prog B w "internal/strconv.uint64pow10" .u64 Lib.pow10Tab
theorem Tab.at {B : Nat} {w w' : World} (h : Tab B w) (hb : Below B w w') : Tab B w' := fun W hW => h W (hb.trans hW)
theorem itoa_c (n : Int) (B : Nat) (w : World) (ht : Tab B w) (h0 : -1000000 < n) (h1 : n < 1000000) :
    Calls Tryz.prog 43 #[.int .i64 n] w fun e w' => e = .returned (.string (bs (Lib.itoa n))) ∧ Below w.heap.size w w' :=
  (Tryz.strconv_Itoa n (by omega) (by omega) w (Lib.TabBelow.here ht)).mono fun e w' ⟨he, k, os, hw⟩ => ⟨he, by rw [hw]; exact Lib.below_grow _ _ (Nat.le_refl _) k os⟩
theorem bs_list (l : List UInt8) : (bs l).data.toList = l := by simp [bs]
theorem flat_str (xs : List ByteArray) : xs.flatMap EB.cells = xs.map Value.string := by
  induction xs with
  | nil => rfl
  | cons x xs ih => rw [List.flatMap_cons, ih]; rfl
theorem join_c (ls : List (List UInt8)) (v : Value) (B : Nat) (w : World) (ho : Rw.Own EB w B v (ls.map bs)) (hn : ls.length ≤ 1000) (hl : (Lib.join ls [32]).length ≤ 1000000) :
    Calls Tryz.prog 44 #[v, .string (ByteArray.mk #[32])] w fun e w' => e = .returned (.string (bs (Lib.join ls [32]))) ∧ Below w.heap.size w w' := by
  rcases ho.forms with ⟨rfl, hn0⟩ | ⟨g, cap, rfl, hg, hgs, hc, hc2⟩
  · have hn' : ls = [] := List.map_eq_nil_iff.1 hn0
    subst hn'
    exact (Tryz.strings_Join_none none 0 (ByteArray.mk #[32]) w).mono fun e w' ⟨he, hw⟩ => ⟨by rw [he]; rfl, by rw [hw]; exact Below.refl _ _⟩
  · have e1 : (ls.map bs).map (·.data.toList) = ls := by
      rw [List.map_map]
      conv => rhs; rw [← List.map_id ls]
      apply List.map_congr_left
      intro l _
      exact bs_list l
    have e2 : (ByteArray.mk #[32]).data.toList = [32] := rfl
    have h := Tryz.strings_Join g 0 cap (ls.map bs) (ByteArray.mk #[32]) w (fun j x hx => by
      rw [Nat.zero_add]
      exact (ho.cellAt rfl j (.string x) (by rw [flat_str, List.getElem?_map, hx]; rfl)).1) hgs (by rw [List.length_map]; omega) hc (by rw [e1, e2]; omega)
    rw [e1, e2] at h
    exact h

set_option maxHeartbeats 2000000 in
set_option maxRecDepth 20000 in
theorem implTracesText_c (a b n : Int) (w : World) (hT : Tab w.heap.size w) :
    Calls Tryz.prog 11 #[.agg #[.int .i64 a, .int .i64 b], .int .i64 n] w fun e w' => e = .returned (.tuple #[.string (bs (trText a b n)), .bool (trAsk a b n)]) ∧ Below w.heap.size w w' := by
  unfold trText trAsk
  cases h1 : M.good a b
  · have e0 : Hid (bs [] = ByteArray.mk #[]) := Lib.hid rfl
    go_enter Tryz.func11, Tryz.ntmps11
    go_wp2_with (go_at_call 29; refine (isCurve_c _ _ _).mono ?_; rintro e w' ⟨rfl, hb⟩; have hz_ := hb.size; (try simp only [World.size_alloc, heap_drew, World.heap_drewN, size_setCell] at hz_); have hs0_ : w.heap.size < w'.heap.size := (by omega); have hk0_ := fun o => (bcell hb).1 (w.heap.size) o (by (try simp only [World.size_alloc, heap_drew, World.heap_drewN, size_setCell]); omega); have hl0_ := fun o => (bcell hb).2.1 (w.heap.size) o (by (try simp only [World.size_alloc, heap_drew, World.heap_drewN, size_setCell]); omega))
    go_ret2; exact ⟨by simp [e0.out], (by repeat (first | exact Below.refl _ _ | refine below_alloc ?_ _ | refine below_step ?_ (by assumption) | refine Below.drew ?_ | refine Below.setCell ?_ (by first | exact Nat.le_refl _ | exact Nat.le_add_right _ _ | (simp <;> omega)) _ | refine below_drewN ?_ _))⟩
  · cases h2 : M.ins n 5 200
    · have e0 : Hid (bs [] = ByteArray.mk #[]) := Lib.hid rfl
      go_enter Tryz.func11, Tryz.ntmps11
      go_wp2_with (first | (go_at_call 29; refine (isCurve_c _ _ _).mono ?_; rintro e w' ⟨rfl, hb⟩; have hz_ := hb.size; (try simp only [World.size_alloc, heap_drew, World.heap_drewN, size_setCell] at hz_); have hs0_ : w.heap.size < w'.heap.size := (by omega); have hk0_ := fun o => (bcell hb).1 (w.heap.size) o (by (try simp only [World.size_alloc, heap_drew, World.heap_drewN, size_setCell]); omega); have hl0_ := fun o => (bcell hb).2.1 (w.heap.size) o (by (try simp only [World.size_alloc, heap_drew, World.heap_drewN, size_setCell]); omega)) | (go_at_call 30; refine (inside_c _ _ _ _).mono ?_; rintro e w' ⟨rfl, rfl⟩))
      go_ret2; exact ⟨by simp [e0.out], (by repeat (first | exact Below.refl _ _ | refine below_alloc ?_ _ | refine below_step ?_ (by assumption) | refine Below.drew ?_ | refine Below.setCell ?_ (by first | exact Nat.le_refl _ | exact Nat.le_add_right _ _ | (simp <;> omega)) _ | refine below_drewN ?_ _))⟩
    · obtain ⟨n1, n2⟩ := M.ins_t h2
      have h := M.good_in h1
      have hgl := goods_le a b n (by omega)
      have hpb : ∀ p ∈ M.goods a b n, 0 ≤ p ∧ p ≤ 1000 := fun p hp => by
        have := M.goodp_bd (M.mem_goods hp).1
        omega
      simp only [Bool.and_self, if_true]
      have HT0 := Lib.hid hT
      clear hT
      go_enter Tryz.func11, Tryz.ntmps11
      go_wp2_with (first | (go_at_call 29; refine (isCurve_c _ _ _).mono ?_; rintro e w' ⟨rfl, hb⟩; have hz_ := hb.size; (try simp only [World.size_alloc, heap_drew, World.heap_drewN, size_setCell] at hz_); have hs0_ : w.heap.size < w'.heap.size := (by omega); have hk0_ := fun o => (bcell hb).1 (w.heap.size) o (by (try simp only [World.size_alloc, heap_drew, World.heap_drewN, size_setCell]); omega); have hl0_ := fun o => (bcell hb).2.1 (w.heap.size) o (by (try simp only [World.size_alloc, heap_drew, World.heap_drewN, size_setCell]); omega)) | (go_at_call 30; refine (inside_c _ _ _ _).mono ?_; rintro e w' ⟨rfl, rfl⟩) | (go_at_call 31; refine (goodUpTo_c _ _ _ _ h n1 (by omega)).mono ?_; rintro e w1 ⟨v, rfl, hown, hb⟩; obtain ⟨av, cap, rfl, hm, hv⟩ := hown.seen; have hz_ := hb.size; (try simp only [World.size_alloc, heap_drew, World.heap_drewN, size_setCell] at hz_); have hs0_ : w.heap.size < w1.heap.size := (by omega); have hk0_ := fun o => (bcell hb).1 (w.heap.size) o (by (try simp only [World.size_alloc, heap_drew, World.heap_drewN, size_setCell]); omega); have hl0_ := fun o => (bcell hb).2.1 (w.heap.size) o (by (try simp only [World.size_alloc, heap_drew, World.heap_drewN, size_setCell]); omega)))
      have c0 : w1.cell? ⟨w.heap.size, 0, none⟩ = some (.int .i64 a) := (hk0_ 0).trans (by simp [go_sem, *])
      have c1 : w1.cell? ⟨w.heap.size, 1, none⟩ = some (.int .i64 b) := (hk0_ 1).trans (by simp [go_sem, *])
      have hbw : Below w.heap.size w w1 := (by repeat (first | exact Below.refl _ _ | refine below_alloc ?_ _ | refine below_step ?_ (by assumption) | refine Below.drew ?_ | refine Below.setCell ?_ (by first | exact Nat.le_refl _ | exact Nat.le_add_right _ _ | (simp <;> omega)) _ | refine below_drewN ?_ _))
      have z1 := hbw.size
      clear hb hk0_ hl0_
      have Hpb := Lib.hid hpb
      clear hpb
      go_loopw [6, 8, 21] (fun vo _ vi wr => ∃ k : Nat, k ≤ (M.goods a b n).length ∧ vi = .int .i64 k ∧ Rw.Own EB wr w1.heap.size vo ((((M.goods a b n).take k).map (trItem a b)).map bs) ∧ Below w1.heap.size w1 wr) (fun _ _ vi _ => (M.goods a b n).length - (intOf vi).toNat)
      case atStart => exact ⟨0, by omega, rfl, Rw.Own.nil _ _ _, Below.refl _ _⟩
      case round =>
        obtain ⟨k, hk, rfl, hwo, hbr⟩ := hrel
        have z2 := hbr.size
        by_cases hlt : k < (M.goods a b n).length
        · obtain ⟨g, p, rfl, hg, hx, hcell⟩ := hv k hlt
          have gp := (M.mem_goods (List.mem_of_getElem? hx.out)).1
          have e0 := keepCell hbr c0
          have e1 := keepCell hbr c1
          have e4 := keepCell hbr hcell
          have hpp := Hpb.out p (List.mem_of_getElem? hx.out)
          have hli := item_len (a := a) (b := b) hpp.1 hpp.2
          have htb := M.trace_bd a b (p := p) hpp.1
          have hl1 := dec_len (n := p.toNat) (by omega)
          have hl2 := itoa_small (n := M.trace a b p) (by omega) (by omega)
          have hip : Lib.itoa p = Lib.decDigits p.toNat := by
            have := Lib.itoa_nonneg p.toNat
            rwa [Int.toNat_of_nonneg hpp.1] at this
          have HN := fun w (ht : Tab _ w) => itoa_c p w1.heap.size w ht (by omega) (by omega)
          rw [hip] at HN
          have HI := fun w (ht : Tab _ w) => itoa_c (M.trace a b p) w1.heap.size w ht (by omega) (by omega)
          have HT := fun w => traceAt_c a b p w h gp
          have hTr : ∀ W, Below wr.heap.size wr W → Tab w1.heap.size W := fun W hW W' hW' => HT0.out W' (hbw.trans ((hbr.trans (hW.mono z2)).mono z1 |>.trans (hW'.mono z1)))
          have hTr := Lib.hid hTr
          have A1 : ∀ W, (Op.stringOp .add (bs (Lib.decDigits p.toNat)) (ByteArray.mk #[58])).run Tryz.prog W = .ok (.string (bs (Lib.decDigits p.toNat ++ [58]))) W := fun W => sadd (m := [58]) (by simp; omega) W
          have A2 : ∀ W, (Op.stringOp .add (bs (Lib.decDigits p.toNat ++ [58])) (bs (Lib.itoa (M.trace a b p)))).run Tryz.prog W = .ok (.string (bs (trItem a b p))) W := fun W => sadd (by simp; omega) W
          have hlk : Hid (((((M.goods a b n).take k).map (trItem a b)).map bs).length = k) := Lib.hid (by rw [List.length_map, List.length_map, List.length_take]; omega)
          have hnx : Hid ((((M.goods a b n).take (k + 1)).map (trItem a b)).map bs = (((M.goods a b n).take k).map (trItem a b)).map bs ++ [bs (trItem a b p)]) := Lib.hid (by rw [List.take_add_one, hx.out]; simp)
          clear hv hcell hip
          generalize bs (Lib.decDigits p.toNat) = s1 at *
          generalize bs (Lib.decDigits p.toNat ++ [58]) = s2 at *
          generalize M.trace a b p = t at *
          generalize bs (Lib.itoa t) = s3 at *
          generalize bs (trItem a b p) = s4 at *
          have HT := Lib.hid HT
          have HN := Lib.hid HN
          have HI := Lib.hid HI
          go_wp2
          go_region_held3 (fun W => W.cell? ⟨w.heap.size, 0, none⟩ = some (.int .i64 a) ∧ W.cell? ⟨w.heap.size, 1, none⟩ = some (.int .i64 b)) (first | exact ⟨keepCell (by assumption) (by assumption), keepCell (by assumption) (by assumption)⟩ | (go_split_ands; exact ⟨keepCell (by assumption) (by assumption), keepCell (by assumption) (by assumption)⟩) | go_keep)
            ((first
            | (go_at_call 43; (first | (with_reducible refine (HN.out _ (hTr.out _ (by repeat (first | exact Below.refl _ _ | refine below_alloc ?_ _ | refine below_step ?_ (by assumption) | refine Below.drew ?_ | refine Below.setCell ?_ (by first | exact Nat.le_refl _ | exact Nat.le_add_right _ _ | (simp <;> omega)) _ | refine below_drewN ?_ _)))).mono ?_) | (with_reducible refine (HI.out _ (hTr.out _ (by repeat (first | exact Below.refl _ _ | refine below_alloc ?_ _ | refine below_step ?_ (by assumption) | refine Below.drew ?_ | refine Below.setCell ?_ (by first | exact Nat.le_refl _ | exact Nat.le_add_right _ _ | (simp <;> omega)) _ | refine below_drewN ?_ _)))).mono ?_)); rintro e w' ⟨rfl, hb⟩)
            | (go_at_call 32; (with_reducible refine (HT.out _).mono ?_); rintro e w' ⟨rfl, hb⟩)
            | (refine Rw.step_push fitsB (W := w1) w1.heap.size [s4] _ _ (some ⟨_, 0, none⟩) 1 1 (by rfl) (by rfl) (.tmp 25) (.tmp 34) (by rfl) (by rfl) (by rfl) (fromB s4 (by simp)) (hwo.below (by repeat (first | exact Below.refl _ _ | refine below_alloc ?_ _ | refine below_step ?_ (by assumption) | refine Below.drew ?_ | refine Below.setCell ?_ (by first | exact Nat.le_refl _ | exact Nat.le_add_right _ _ | (simp <;> omega)) _ | refine below_drewN ?_ _))) (hbr.trans (Below.mono (by repeat (first | exact Below.refl _ _ | refine below_alloc ?_ _ | refine below_step ?_ (by assumption) | refine Below.drew ?_ | refine Below.setCell ?_ (by first | exact Nat.le_refl _ | exact Nat.le_add_right _ _ | (simp <;> omega)) _ | refine below_drewN ?_ _)) z2)) ((hbr.trans (Below.mono (by repeat (first | exact Below.refl _ _ | refine below_alloc ?_ _ | refine below_step ?_ (by assumption) | refine Below.drew ?_ | refine Below.setCell ?_ (by first | exact Nat.le_refl _ | exact Nat.le_add_right _ _ | (simp <;> omega)) _ | refine below_drewN ?_ _)) z2)).size) (by rw [hlk.out]; simp; omega) ?_; intro v' w' hown' hbP)
            | (fail "ARMS")))
          all_goals
            go_wp2
            go_roundw
            case rel => exact ⟨k + 1, by omega, by go_num, by rw [hnx.out]; exact hown', hbP⟩
            case measure => simp [intOf]; omega
        · obtain rfl : k = (M.goods a b n).length := by omega
          rw [List.take_length] at hwo
          have hln := text_len (a := a) (b := b) Hpb.out (M.goods a b n).length (Nat.le_refl _)
          rw [List.take_length] at hln
          have HJ := join_c ((M.goods a b n).map (trItem a b)) _ _ wr hwo (by rw [List.length_map]; omega) (by unfold trTextL at hln; omega)
          have hfin : Hid (bs (trTextL a b (M.goods a b n)) = bs (Lib.join ((M.goods a b n).map (trItem a b)) [32])) := Lib.hid rfl
          clear hv
          generalize bs (Lib.join ((M.goods a b n).map (trItem a b)) [32]) = sJ at *
          go_wp2_with fail
          refine HJ.mono ?_; rintro e w2 ⟨rfl, hb2⟩
          go_wp2
          go_ret2
          exact ⟨by rw [hfin.out]; rfl, hbw.trans ((hbr.trans (hb2.mono z2)).mono z1)⟩
end Go.Proofs.YtodgfechhielaaaGreatDoor
