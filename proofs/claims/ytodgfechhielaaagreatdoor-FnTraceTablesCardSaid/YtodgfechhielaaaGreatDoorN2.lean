/-
  Contracts: traces as a text, by the reference.
-/
import Derived.Test.YtodgfechhielaaaGreatDoorN1
import Derived.Test.YtodgfechhielaaaGreatDoorD7
import Derived.Lib.ItoaMem
import Derived.Lib.Join
namespace Go.Proofs.YtodgfechhielaaaGreatDoor
set_option linter.unusedSimpArgs false
set_option linter.unusedVariables false
open Go.RowKit

theorem itoa_small {n : Int} (h1 : -1000000 < n) (h2 : n < 1000000) : (Lib.itoa n).length ≤ 7 := by
  unfold Lib.itoa
  split
  · have := dec_len (n := n.natAbs) (by omega)
    simp only [List.length_cons]
    omega
  · have := dec_len (n := n.toNat) (by omega)
    omega
theorem l1Int_c (n : Int) (w : World) (h1 : -1000000 < n) (h2 : n < 1000000) :
    Calls Tryz.prog 46 #[.int .i64 n] w fun e w' => e = .returned (.string (bs (Lib.itoa n))) ∧ Below w.heap.size w w' := by
  by_cases hn : n < 0
  · obtain ⟨q, rfl⟩ : ∃ q : Nat, n = -(q : Int) := ⟨n.natAbs, by omega⟩
    have hl := dec_len (n := q) (by omega)
    have hI : ∀ (x : Int) (w : World), x = (q : Int) → Calls Tryz.prog 45 #[.int .i64 x] w fun e w' => e = .returned (.string (bs (Lib.decDigits q))) ∧ Below w.heap.size w w' := fun x w hx => by subst hx; exact l1Num_c q q w (Nat.le_refl _) (by omega)
    have hI := Lib.hid hI
    have hadd : ∀ W, (Op.stringOp .add (ByteArray.mk #[45]) (bs (Lib.decDigits q))).run Tryz.prog W = .ok (.string (bs (Lib.itoa (-(q : Int))))) W := fun W => by
      rw [Lib.itoa_neg q (by omega)]
      have e : ByteArray.mk #[45] = bs [45] := rfl
      rw [e, run_string_add_sum _ _ _ (by rw [bs_size, bs_size]; simp; omega), bs_append]
      rfl
    generalize bs (Lib.decDigits q) = s at *
    generalize bs (Lib.itoa (-(q : Int))) = t at *
    go_enter Tryz.func46, Tryz.ntmps46
    go_wp2_with (go_at_call 45; refine (hI.out _ _ (by omega)).mono ?_; rintro e w' ⟨rfl, hb⟩)
    go_ret
    exact ⟨rfl, (by repeat (first | exact Below.refl _ _ | refine below_alloc ?_ _ | refine below_step ?_ (by assumption) | refine Below.drew ?_ | refine Below.setCell ?_ (by first | exact Nat.le_refl _ | exact Nat.le_add_right _ _ | (simp <;> omega)) _ | refine below_drewN ?_ _))⟩
  · obtain ⟨q, rfl⟩ : ∃ q : Nat, n = (q : Int) := ⟨n.toNat, by omega⟩
    have hI := Lib.hid fun w => l1Num_c q q w (Nat.le_refl _) (by omega)
    rw [Lib.itoa_nonneg q]
    generalize bs (Lib.decDigits q) = s at *
    go_enter Tryz.func46, Tryz.ntmps46
    go_wp2_with (go_at_call 45; refine (hI.out _).mono ?_; rintro e w' ⟨rfl, hb⟩)
    go_ret
    exact ⟨rfl, (by repeat (first | exact Below.refl _ _ | refine below_alloc ?_ _ | refine below_step ?_ (by assumption) | refine Below.drew ?_ | refine Below.setCell ?_ (by first | exact Nat.le_refl _ | exact Nat.le_add_right _ _ | (simp <;> omega)) _ | refine below_drewN ?_ _))⟩

noncomputable def trItem (a b p : Int) : List UInt8 := Lib.decDigits p.toNat ++ [58] ++ Lib.itoa (M.trace a b p)
noncomputable def trTextL (a b : Int) (ps : List Int) : List UInt8 := Lib.join (ps.map (trItem a b)) [32]
noncomputable def trText (a b n : Int) : List UInt8 := if trAsk a b n then trTextL a b (M.goods a b n) else []
theorem join_snoc (x sep : List UInt8) : ∀ (xs : List (List UInt8)), xs ≠ [] → Lib.join (xs ++ [x]) sep = Lib.join xs sep ++ sep ++ x
  | [], h => absurd rfl h
  | [y], _ => by
    rw [List.singleton_append, Lib.join_cons, Lib.join_one]
    simp [Lib.joinTail]
  | y :: z :: r, _ => by
    have ih := join_snoc x sep (z :: r) (by simp)
    have e : ∀ (u : List UInt8) (l : List (List UInt8)), l ≠ [] → Lib.join (u :: l) sep = u ++ sep ++ Lib.join l sep := by
      intro u l hl
      unfold Lib.join
      cases l with
      | nil => exact absurd rfl hl
      | cons c l => simp [List.intercalate, List.intersperse]
    rw [List.cons_append, e y _ (by simp), ih, e y _ (by simp)]
    simp [List.append_assoc]
theorem text_next {a b : Int} {ps : List Int} {k : Nat} {p : Int} (h : ps[k]? = some p) : trTextL a b (ps.take (k + 1)) = if k = 0 then trItem a b p else trTextL a b (ps.take k) ++ [32] ++ trItem a b p := by
  have hk := (List.getElem?_eq_some_iff.1 h).1
  unfold trTextL
  rw [List.take_add_one, h, List.map_append]
  by_cases h0 : k = 0
  · subst h0
    simp [Lib.join_one]
  · rw [if_neg h0]
    exact join_snoc _ _ _ (by
      intro hn
      have h3 : ((ps.take k).map (trItem a b)).length = min k ps.length := by rw [List.length_map, List.length_take]
      rw [hn] at h3
      simp only [List.length_nil] at h3
      omega)
theorem item_len {a b p : Int} (h1 : 0 ≤ p) (h2 : p ≤ 1000) : (trItem a b p).length ≤ 20 := by
  unfold trItem
  have t := M.trace_bd a b h1
  have e1 := dec_len (n := p.toNat) (by omega)
  have e2 := itoa_small (n := M.trace a b p) (by omega) (by omega)
  simp only [List.length_append, List.length_singleton]
  omega
theorem text_len {a b : Int} {ps : List Int} (h : ∀ p ∈ ps, 0 ≤ p ∧ p ≤ 1000) : ∀ k : Nat, k ≤ ps.length → (trTextL a b (ps.take k)).length ≤ 21 * k
  | 0, _ => by simp [trTextL, Lib.join_nil]
  | k + 1, hk => by
    have hp : ps[k]? = some (ps[k]'(by omega)) := List.getElem?_eq_getElem (by omega)
    have hb := h _ (List.mem_of_getElem? hp)
    have hi := item_len (a := a) (b := b) hb.1 hb.2
    have ih := text_len (a := a) (b := b) h k (by omega)
    rw [text_next hp]
    split
    · omega
    · simp only [List.length_append, List.length_singleton]
      omega
theorem sadd {l m : List UInt8} (h : l.length + m.length ≤ 1000000) (W : World) : (Op.stringOp .add (bs l) (bs m)).run Tryz.prog W = .ok (.string (bs (l ++ m))) W := by
  rw [run_string_add_sum _ _ _ (by rw [bs_size, bs_size]; omega), bs_append]

set_option maxHeartbeats 2000000 in
theorem specTracesText_c (a b n : Int) (w : World) :
    Calls Tryz.prog 12 #[.agg #[.int .i64 a, .int .i64 b], .int .i64 n] w fun e w' => e = .returned (.tuple #[.string (bs (trText a b n)), .bool (trAsk a b n)]) ∧ Below w.heap.size w w' := by
  have T := fun w => trAsked_c a b n w
  unfold trText
  cases h2 : trAsk a b n <;> simp only [h2] at T <;> have T := Lib.hid T
  · have e0 : Hid (bs [] = ByteArray.mk #[]) := Lib.hid rfl
    go_enter Tryz.func12, Tryz.ntmps12
    go_wp2_with (go_at_call 33; refine (T.out _).mono ?_; rintro e w' ⟨rfl, hb⟩; have hz_ := hb.size; (try simp only [World.size_alloc, heap_drew, World.heap_drewN, size_setCell] at hz_); have hs0_ : w.heap.size < w'.heap.size := (by omega); have hk0_ := fun o => (bcell hb).1 (w.heap.size) o (by (try simp only [World.size_alloc, heap_drew, World.heap_drewN, size_setCell]); omega); have hl0_ := fun o => (bcell hb).2.1 (w.heap.size) o (by (try simp only [World.size_alloc, heap_drew, World.heap_drewN, size_setCell]); omega))
    go_ret2; exact ⟨by simp [e0.out], (by repeat (first | exact Below.refl _ _ | refine below_alloc ?_ _ | refine below_step ?_ (by assumption) | refine Below.drew ?_ | refine Below.setCell ?_ (by first | exact Nat.le_refl _ | exact Nat.le_add_right _ _ | (simp <;> omega)) _ | refine below_drewN ?_ _))⟩
  · obtain ⟨h1, n1, n2⟩ := trAsk_t h2
    have h := M.good_in h1
    have hgl := goods_le a b n (by omega)
    have hpb : ∀ p ∈ M.goods a b n, 0 ≤ p ∧ p ≤ 1000 := fun p hp => by
      have := M.goodp_bd (M.mem_goods hp).1
      omega
    simp only [if_true]
    go_enter Tryz.func12, Tryz.ntmps12
    go_wp2_with (first | (go_at_call 33; refine (T.out _).mono ?_; rintro e w' ⟨rfl, hb⟩; have hz_ := hb.size; (try simp only [World.size_alloc, heap_drew, World.heap_drewN, size_setCell] at hz_); have hs0_ : w.heap.size < w'.heap.size := (by omega); have hk0_ := fun o => (bcell hb).1 (w.heap.size) o (by (try simp only [World.size_alloc, heap_drew, World.heap_drewN, size_setCell]); omega); have hl0_ := fun o => (bcell hb).2.1 (w.heap.size) o (by (try simp only [World.size_alloc, heap_drew, World.heap_drewN, size_setCell]); omega)) | (go_at_call 34; refine (trPrimes_c _ _ _ _ h1 n1 (by omega)).mono ?_; rintro e w1 ⟨v, rfl, hown, hb⟩; obtain ⟨av, cap, rfl, hm, hv⟩ := hown.seen; have hz_ := hb.size; (try simp only [World.size_alloc, heap_drew, World.heap_drewN, size_setCell] at hz_); have hs0_ : w.heap.size < w1.heap.size := (by omega); have hk0_ := fun o => (bcell hb).1 (w.heap.size) o (by (try simp only [World.size_alloc, heap_drew, World.heap_drewN, size_setCell]); omega); have hl0_ := fun o => (bcell hb).2.1 (w.heap.size) o (by (try simp only [World.size_alloc, heap_drew, World.heap_drewN, size_setCell]); omega)))
    have c0 : w1.cell? ⟨w.heap.size, 0, none⟩ = some (.int .i64 a) := (hk0_ 0).trans (by simp [go_sem, *])
    have c1 : w1.cell? ⟨w.heap.size, 1, none⟩ = some (.int .i64 b) := (hk0_ 1).trans (by simp [go_sem, *])
    have hbw : Below w.heap.size w w1 := (by repeat (first | exact Below.refl _ _ | refine below_alloc ?_ _ | refine below_step ?_ (by assumption) | refine Below.drew ?_ | refine Below.setCell ?_ (by first | exact Nat.le_refl _ | exact Nat.le_add_right _ _ | (simp <;> omega)) _ | refine below_drewN ?_ _))
    have z1 := hbw.size
    clear hb hk0_ hl0_
    have Hpb := Lib.hid hpb
    clear hpb
    go_loopw [6, 7, 8, 17] (fun vs _ _ vi wr => ∃ k : Nat, k ≤ (M.goods a b n).length ∧ vi = .int .i64 k ∧ vs = .string (bs (trTextL a b ((M.goods a b n).take k))) ∧ Below w1.heap.size w1 wr) (fun _ _ _ vi _ => (M.goods a b n).length - (intOf vi).toNat)
    case atStart => exact ⟨0, by omega, rfl, rfl, Below.refl _ _⟩
    case round =>
      obtain ⟨k, hk, rfl, rfl, hbr⟩ := hrel
      have z2 := hbr.size
      by_cases hlt : k < (M.goods a b n).length
      · obtain ⟨g, p, rfl, hg, hx, hcell⟩ := hv k hlt
        have gp := (M.mem_goods (List.mem_of_getElem? hx.out)).1
        have e0 := keepCell hbr c0
        have e1 := keepCell hbr c1
        have e4 := keepCell hbr hcell
        have hl0 := text_len (a := a) (b := b) Hpb.out k hk
        have hpp := Hpb.out p (List.mem_of_getElem? hx.out)
        have hli := item_len (a := a) (b := b) hpp.1 hpp.2
        have htb := M.trace_bd a b (p := p) hpp.1
        have hnx := text_next (a := a) (b := b) hx.out
        have hl1 := dec_len (n := p.toNat) (by omega)
        have hl2 := itoa_small (n := M.trace a b p) (by omega) (by omega)
        have HN : ∀ (x : Int) (w : World), x = p → Calls Tryz.prog 45 #[.int .i64 x] w fun e w' => e = .returned (.string (bs (Lib.decDigits p.toNat))) ∧ Below w.heap.size w w' := fun x w hxp => by
          subst hxp
          have := l1Num_c x.toNat x.toNat w (Nat.le_refl _) (by omega)
          rwa [Int.toNat_of_nonneg hpp.1] at this
        have HI := fun w => l1Int_c (M.trace a b p) w (by omega) (by omega)
        have HT := fun w => trAt_c a b p w h gp
        have A1 : ∀ W, (Op.stringOp .add (bs (Lib.decDigits p.toNat)) (ByteArray.mk #[58])).run Tryz.prog W = .ok (.string (bs (Lib.decDigits p.toNat ++ [58]))) W := fun W => sadd (m := [58]) (by simp; omega) W
        have A2 : ∀ W, (Op.stringOp .add (bs (Lib.decDigits p.toNat ++ [58])) (bs (Lib.itoa (M.trace a b p)))).run Tryz.prog W = .ok (.string (bs (trItem a b p))) W := fun W => sadd (by simp; omega) W
        clear hv hcell
        generalize bs (Lib.decDigits p.toNat) = s1 at *
        generalize bs (Lib.decDigits p.toNat ++ [58]) = s2 at *
        generalize M.trace a b p = t at *
        have HT := Lib.hid HT
        generalize bs (Lib.itoa t) = s3 at *
        by_cases hk0 : k = 0
        · subst hk0
          rw [if_pos rfl] at hnx
          have A3 : ∀ W, (Op.stringOp .add (bs (trTextL a b ((M.goods a b n).take 0))) (bs (trItem a b p))).run Tryz.prog W = .ok (.string (bs (trTextL a b ((M.goods a b n).take (0 + 1))))) W := fun W => by
            rw [hnx]
            exact sadd (l := []) (by simp; omega) W
          have HN := Lib.hid HN
          have HI := Lib.hid HI
          have Hnx := Lib.hid hnx
          clear hnx
          generalize bs (trTextL a b ((M.goods a b n).take 0)) = s0 at *
          generalize hs5 : bs (trTextL a b ((M.goods a b n).take (0 + 1))) = s5 at *
          have Hs5 := Lib.hid hs5
          clear hs5
          generalize bs (trItem a b p) = s4 at *
          go_wp2
          first | go_region_held3 (fun W => W.cell? ⟨w.heap.size, 0, none⟩ = some (.int .i64 a) ∧ W.cell? ⟨w.heap.size, 1, none⟩ = some (.int .i64 b)) (first | exact ⟨keepCell (by assumption) (by assumption), keepCell (by assumption) (by assumption)⟩ | (go_split_ands; exact ⟨keepCell (by assumption) (by assumption), keepCell (by assumption) (by assumption)⟩) | go_keep) ((first | (go_at_call 45; refine (HN.out _ _ (by omega)).mono ?_; rintro e w' ⟨rfl, hb⟩) | (go_at_call 46; refine (HI.out _).mono ?_; rintro e w' ⟨rfl, hb⟩) | (go_at_call 35; refine (HT.out _).mono ?_; rintro e w' ⟨rfl, hb⟩))) | fail
          all_goals
            go_wp2
            go_roundw
            case rel => exact ⟨0 + 1, by omega, by go_num, by rw [Hs5.out], hbr.trans (Below.mono (by repeat (first | exact Below.refl _ _ | refine below_alloc ?_ _ | refine below_step ?_ (by assumption) | refine Below.drew ?_ | refine Below.setCell ?_ (by first | exact Nat.le_refl _ | exact Nat.le_add_right _ _ | (simp <;> omega)) _ | refine below_drewN ?_ _)) z2)⟩
            case measure => simp [intOf]; omega
        · rw [if_neg hk0] at hnx
          have A4 : ∀ W, (Op.stringOp .add (bs (trTextL a b ((M.goods a b n).take k))) (ByteArray.mk #[32])).run Tryz.prog W = .ok (.string (bs (trTextL a b ((M.goods a b n).take k) ++ [32]))) W := fun W => sadd (m := [32]) (by simp; omega) W
          have A3 : ∀ W, (Op.stringOp .add (bs (trTextL a b ((M.goods a b n).take k) ++ [32])) (bs (trItem a b p))).run Tryz.prog W = .ok (.string (bs (trTextL a b ((M.goods a b n).take (k + 1))))) W := fun W => by
            rw [hnx]
            exact sadd (by simp; omega) W
          have HN := Lib.hid HN
          have HI := Lib.hid HI
          have Hnx := Lib.hid hnx
          clear hnx
          generalize bs (trTextL a b ((M.goods a b n).take k) ++ [32]) = s6 at *
          generalize bs (trTextL a b ((M.goods a b n).take k)) = s0 at *
          generalize hs5 : bs (trTextL a b ((M.goods a b n).take (k + 1))) = s5 at *
          generalize bs (trItem a b p) = s4 at *
          have Hs5 := Lib.hid hs5
          clear hs5
          go_wp2
          first | go_region_held3 (fun W => W.cell? ⟨w.heap.size, 0, none⟩ = some (.int .i64 a) ∧ W.cell? ⟨w.heap.size, 1, none⟩ = some (.int .i64 b)) (first | exact ⟨keepCell (by assumption) (by assumption), keepCell (by assumption) (by assumption)⟩ | (go_split_ands; exact ⟨keepCell (by assumption) (by assumption), keepCell (by assumption) (by assumption)⟩) | go_keep) ((first | (go_at_call 45; refine (HN.out _ _ (by omega)).mono ?_; rintro e w' ⟨rfl, hb⟩) | (go_at_call 46; refine (HI.out _).mono ?_; rintro e w' ⟨rfl, hb⟩) | (go_at_call 35; refine (HT.out _).mono ?_; rintro e w' ⟨rfl, hb⟩))) | fail
          all_goals
            go_wp2
            go_roundw
            case rel => exact ⟨k + 1, by omega, by go_num, by rw [Hs5.out], hbr.trans (Below.mono (by repeat (first | exact Below.refl _ _ | refine below_alloc ?_ _ | refine below_step ?_ (by assumption) | refine Below.drew ?_ | refine Below.setCell ?_ (by first | exact Nat.le_refl _ | exact Nat.le_add_right _ _ | (simp <;> omega)) _ | refine below_drewN ?_ _)) z2)⟩
            case measure => simp [intOf]; omega
      · obtain rfl : k = (M.goods a b n).length := by omega
        rw [List.take_length]
        clear hv
        go_wp2
        go_ret2
        exact ⟨rfl, below_step hbw hbr⟩
end Go.Proofs.YtodgfechhielaaaGreatDoor
