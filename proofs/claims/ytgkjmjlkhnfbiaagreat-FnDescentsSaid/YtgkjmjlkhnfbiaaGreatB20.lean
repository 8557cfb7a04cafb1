/-
  Joined texts: contracts and plain laws.
-/
import Derived.Test.YtgkjmjlkhnfbiaaGreatB19
import Derived.Test.YtgkjmjlkhnfbiaaGreatShB
namespace Go.Proofs.YtgkjmjlkhnfbiaaGreat
set_option linter.unusedSimpArgs false
set_option linter.unusedVariables false
open Go.RowKit
namespace M
noncomputable def fgl (A B : Int) (dual : Bool) (n : Nat) : List Int := sqfree (sB A B dual) :: fnd A B dual n
noncomputable def fgk (A B : Int) (dual : Bool) (n : Nat) : Bool := gok (fgl A B dual n)
noncomputable def fg (A B : Int) (dual : Bool) (n : Nat) : List Int := grp (fgl A B dual n)
theorem dvs_bd {A B : Int} (h : tc A B) (dual : Bool) : ∀ x ∈ dvs (sB A B dual), (x ≠ 0 ∧ nosq x) ∧ x.natAbs ≤ 1000000 := by
  obtain ⟨-, h1, h2, h3⟩ := h.side dual
  intro x hx
  have hm := mem_dvs h2 hx
  refine ⟨⟨hm.1, dvs_nosq h2 hx⟩, ?_⟩
  have := Nat.le_of_dvd (by omega) (Int.natAbs_dvd_natAbs.2 (Int.dvd_of_emod_eq_zero hm.2))
  omega
theorem fnd_bd {A B : Int} (h : tc A B) (dual : Bool) (n : Nat) : ∀ x ∈ fnd A B dual n, (x ≠ 0 ∧ nosq x) ∧ x.natAbs ≤ 1000000 := fun x hx => dvs_bd h dual x (List.mem_filter.1 hx).1
theorem fnd_len {A B : Int} (h : tc A B) (dual : Bool) (n : Nat) : (fnd A B dual n).length ≤ 200000 :=
  Nat.le_trans (List.length_filter_le _ _) (dvs_side_len h dual)
theorem fgl_bd {A B : Int} (h : tc A B) (dual : Bool) (n : Nat) : ∀ x ∈ fgl A B dual n, (x ≠ 0 ∧ nosq x) ∧ x.natAbs ≤ 1000000 := by
  obtain ⟨-, h1, h2, h3⟩ := h.side dual
  intro x hx
  unfold fgl at hx
  rcases List.mem_cons.1 hx with rfl | hx
  · have hs := sqfree_ok h2 (by omega)
    refine ⟨⟨hs.2.1, hs.1⟩, ?_⟩
    have := Nat.le_of_dvd (by omega) (Int.natAbs_dvd_natAbs.2 hs.2.2)
    omega
  · exact fnd_bd h dual n x hx
end M
theorem cellDrw {W : World} {p : Addr} {v : Value} (h : W.cell? p = some v) : (W.drew).cell? p = some v := h
theorem fromAt {w : World} {base c m : Nat} {A : Option Addr} {xs : List Int} (h : OwnI w base (.slice A m c) xs) : Rw.From EI w A xs := by
  obtain ⟨A', cap, e, hr⟩ := fromOwn h
  injection e with e1 e2 e3
  rw [e1]
  exact hr
theorem stepI {ops : Array Oper} {o : Oper} {a : Act} {K : Act → World → Prop} {Q : Exit → Act → World → Prop} {B : Prop} {w : World} (base : Nat) (ys xs : List Int) (v : Value) (A : Option Addr) (m c : Nat) (hm : ys.length = m) (hgd : o.guard = none) (s x : Operand)
    (ho : o.op = .call { callee := .builtin .append, args := #[s, x], argTypes := #[28, 28] }) (hs : a.eval s = v) (hx : a.eval x = .slice A m c)
    (hr : Rw.From EI w A ys) (hown : OwnI w base v xs) (hB : base ≤ w.heap.size) (hl : xs.length + ys.length ≤ 100000000000)
    (h : ∀ v' w', OwnI w' base v' (xs ++ ys) → Below base w w' → K (a.put o.dst v') w') :
    if Region.wanted o (yielded ops a.tmps) = true then Oper.wp Tryz.prog o a w K Q else B :=
  Rw.step_push2 fitsI (W := w) base ys xs v A m c hm hgd s x ho hs hx hr (ownI_iff.1 hown) (Below.refl _ _) hB hl fun v' w' h1 h2 _ => h v' w' (ownI_iff.2 h1) h2
set_option maxRecDepth 100000 in
set_option maxHeartbeats 2000000 in
theorem foundGroup_c (A B : Int) (dual : Bool) (n : Nat) (w : World) (h : M.tc A B) (hn : n ≤ 60) :
    Calls Tryz.prog 91 #[.agg #[.int .i64 A, .int .i64 B], .bool dual, .int .i64 n] w fun e w' => ∃ u, e = .returned (.tuple #[u, .bool (M.fgk A B dual n)]) ∧ OwnI w' w.heap.size u (M.opt (M.fgk A B dual n) (M.fg A B dual n)) ∧ Below w.heap.size w w' := by
  have PS := fun W => side_c A B dual W h
  have PF := fun W => found_c A B dual n W h hn
  have hlen := M.fnd_len h dual n
  have hbd := M.fgl_bd h dual n
  obtain ⟨-, hs1, hs2, hs3⟩ := h.side dual
  have PQ := fun W => squarefree_c (M.sB A B dual) W hs2 (by omega) (by omega)
  have PG := fun v W base hown => classGroup_c (M.fgl A B dual n) v W base hown hbd (by unfold M.fgl; simp; omega)
  unfold M.fgk M.fg
  unfold M.fgl at PG ⊢
  clear hbd hs1 hs2 hs3
  generalize M.sqfree (M.sB A B dual) = sq at *
  generalize M.sB A B dual = sb at *
  generalize M.sA A dual = sa at *
  generalize M.fnd A B dual n = L at *
  generalize M.grp (sq :: L) = G at *
  generalize M.gok (sq :: L) = ok at *
  have PS := Lib.hid PS
  have PF := Lib.hid PF
  have PQ := Lib.hid PQ
  have PG := Lib.hid PG
  have bx := Box.new w A B 25
  go_enter Tryz.func91, Tryz.ntmps91
  go_wp2_with (go_at_call 75; (with_reducible refine (PS.out _).mono ?_); rintro e w1 ⟨rfl, hb1⟩)
  replace bx := bx.keep hb1
  have hbr : Below w.heap.size w w1 := (by repeat (first | exact Below.refl _ _ | refine below_alloc ?_ _ | refine below_step ?_ (by assumption) | refine Below.drew ?_ | refine Below.setCell ?_ (by first | exact Nat.le_refl _ | exact Nat.le_add_right _ _ | (simp <;> omega)) _ | refine below_drewN ?_ _))
  clear hb1
  obtain ⟨c0, c1, f0, f1, sz⟩ := bx
  go_region_held3 (fun W => W.cell? ⟨w.heap.size, 0, none⟩ = some (.int .i64 A) ∧ W.cell? ⟨w.heap.size, 1, none⟩ = some (.int .i64 B)) (first | (refine ⟨?_, ?_⟩ <;> (first | (with_reducible exact keepCell (by assumption) (by assumption)) | (with_reducible exact Gr.recell0 (by assumption)) | (with_reducible refine Gr.recell (by assumption) ?_; (intro hh_; (try simp only [World.size_alloc, heap_drew, World.heap_drewN, size_setCell] at hh_); omega)) | (with_reducible refine Gr.far2 (by assumption) ?_ ?_ <;> (intro hh_; (try simp only [World.size_alloc, heap_drew, World.heap_drewN, size_setCell] at hh_); omega)) | exact keepCell (by assumption) (by assumption) | (with_reducible exact keepFrz (by assumption) (by assumption) (by assumption)))) | (go_split_ands; (refine ⟨?_, ?_⟩ <;> (first | (with_reducible exact keepCell (by assumption) (by assumption)) | (with_reducible exact Gr.recell0 (by assumption)) | (with_reducible refine Gr.recell (by assumption) ?_; (intro hh_; (try simp only [World.size_alloc, heap_drew, World.heap_drewN, size_setCell] at hh_); omega)) | (with_reducible refine Gr.far2 (by assumption) ?_ ?_ <;> (intro hh_; (try simp only [World.size_alloc, heap_drew, World.heap_drewN, size_setCell] at hh_); omega)) | exact keepCell (by assumption) (by assumption) | (with_reducible exact keepFrz (by assumption) (by assumption) (by assumption))))) | go_keep) ((first
      | (go_at_call 104; (with_reducible refine (PQ.out _).mono ?_); rintro e ws ⟨rfl, hbs⟩; (have sz2 : w.heap.size < ws.heap.size := Nat.lt_of_lt_of_le sz hbs.size); (have hbrs := hbr.drew.trans (hbs.mono hbr.size)); (have z0_ := keepCell hbs (cellDrw c0)); (have z1_ := keepCell hbs (cellDrw c1)); (have qs : w1.heap.size ≤ ws.heap.size := hbs.size))
      | (go_at_call 66; (with_reducible refine (PF.out _).mono ?_); rintro e wf ⟨vf, rfl, howf, hbf⟩; obtain ⟨Af, capf, rfl, hmf, hvf⟩ := howf.view; (have hbrf : Below w.heap.size w wf := (by first | exact hbrs.trans (hbf.mono (by have := hbrs.size; omega)) | exact (hbrs.alloc (by have := hbrs.size; omega) _).trans (hbf.mono (by have := hbrs.size; simp; omega)))); (replace howf := howf.base (base' := w1.heap.size) (by first | omega | (simp; done) | (simp; omega))); (clear hvf hmf); (have qf : w1.heap.size ≤ wf.heap.size := (by have := hbf.size; (try simp at this); omega)); (first | (have y0_ := keepCell hbf z0_; have y1_ := keepCell hbf z1_) | (have y0_ := keepCell hbf (Gr.recell0 z0_); have y1_ := keepCell hbf (Gr.recell0 z1_))))
      | (refine stepI w1.heap.size L [sq] _ Af L.length capf (by rfl) (by rfl) (.tmp 18) (.tmp 22) (by rfl) (by rfl) (by rfl) (by first | exact fromAt howf | exact fromAt (howf.alloc _)) (by first | exact OwnI.litOne _ _ _ qf | exact (OwnI.litOne _ _ _ qs).below hbf) (by first | omega | (simp; done) | (simp; omega)) (by simp; omega) ?_; intro v3 w3 hown3 hb3; (have hbr3 : Below w.heap.size w w3 := (by first | exact hbrf.trans (hb3.mono (Nat.le_of_lt sz)) | exact (hbrf.alloc (by have := hbrf.size; omega) _).trans (hb3.mono (Nat.le_of_lt sz)))); (first | (have x0_ := (hb3.cell (p := ⟨w.heap.size, 0, none⟩) sz).trans y0_; have x1_ := (hb3.cell (p := ⟨w.heap.size, 1, none⟩) sz).trans y1_) | (have x0_ := (hb3.cell (p := ⟨w.heap.size, 0, none⟩) sz).trans (Gr.recell0 y0_); have x1_ := (hb3.cell (p := ⟨w.heap.size, 1, none⟩) sz).trans (Gr.recell0 y1_))))
      | (go_at_call 70; (with_reducible refine (PG.out _ _ _ hown3).mono ?_); rintro e w4 ⟨u4, rfl, hown4, hb4⟩; (have v0_ := keepCell hb4 x0_); (have v1_ := keepCell hb4 x1_))
      | fail "ARMS"))
  all_goals
    go_wp2
    go_ret2
    exact ⟨_, rfl, hown4.base (by have := hbr3.size; omega), hbr3.trans (hb4.mono (by have := hbr3.size; omega))⟩
set_option maxRecDepth 100000 in
set_option maxHeartbeats 2000000 in
theorem rkGroup_c (A B : Int) (dual : Bool) (n : Nat) (w : World) (h : M.tc A B) (hn : n ≤ 60) :
    Calls Tryz.prog 92 #[.agg #[.int .i64 A, .int .i64 B], .bool dual, .int .i64 n] w fun e w' => ∃ u, e = .returned (.tuple #[u, .bool (M.fgk A B dual n)]) ∧ OwnI w' w.heap.size u (M.opt (M.fgk A B dual n) (M.fg A B dual n)) ∧ Below w.heap.size w w' := by
  have PS := fun W => dsSide_c A B dual W h
  have PF := fun W => dsFound_c A B dual n W h hn
  have hlen := M.fnd_len h dual n
  have hbd := M.fgl_bd h dual n
  obtain ⟨-, hs1, hs2, hs3⟩ := h.side dual
  have PQ := fun W => tcClass_c (M.sB A B dual) W hs2 (by omega) (by omega)
  have PG := fun v W base hown => dsGroup_c (M.fgl A B dual n) v W base hown hbd (by unfold M.fgl; simp; omega)
  unfold M.fgk M.fg
  unfold M.fgl at PG ⊢
  clear hbd hs1 hs2 hs3
  generalize M.sqfree (M.sB A B dual) = sq at *
  generalize M.sB A B dual = sb at *
  generalize M.sA A dual = sa at *
  generalize M.fnd A B dual n = L at *
  generalize M.grp (sq :: L) = G at *
  generalize M.gok (sq :: L) = ok at *
  have PS := Lib.hid PS
  have PF := Lib.hid PF
  have PQ := Lib.hid PQ
  have PG := Lib.hid PG
  have bx := Box.new w A B 25
  go_enter Tryz.func92, Tryz.ntmps92
  go_wp2_with (go_at_call 76; (with_reducible refine (PS.out _).mono ?_); rintro e w1 ⟨rfl, hb1⟩)
  replace bx := bx.keep hb1
  have hbr : Below w.heap.size w w1 := (by repeat (first | exact Below.refl _ _ | refine below_alloc ?_ _ | refine below_step ?_ (by assumption) | refine Below.drew ?_ | refine Below.setCell ?_ (by first | exact Nat.le_refl _ | exact Nat.le_add_right _ _ | (simp <;> omega)) _ | refine below_drewN ?_ _))
  clear hb1
  obtain ⟨c0, c1, f0, f1, sz⟩ := bx
  go_region_held3 (fun W => W.cell? ⟨w.heap.size, 0, none⟩ = some (.int .i64 A) ∧ W.cell? ⟨w.heap.size, 1, none⟩ = some (.int .i64 B)) (first | (refine ⟨?_, ?_⟩ <;> (first | (with_reducible exact keepCell (by assumption) (by assumption)) | (with_reducible exact Gr.recell0 (by assumption)) | (with_reducible refine Gr.recell (by assumption) ?_; (intro hh_; (try simp only [World.size_alloc, heap_drew, World.heap_drewN, size_setCell] at hh_); omega)) | (with_reducible refine Gr.far2 (by assumption) ?_ ?_ <;> (intro hh_; (try simp only [World.size_alloc, heap_drew, World.heap_drewN, size_setCell] at hh_); omega)) | exact keepCell (by assumption) (by assumption) | (with_reducible exact keepFrz (by assumption) (by assumption) (by assumption)))) | (go_split_ands; (refine ⟨?_, ?_⟩ <;> (first | (with_reducible exact keepCell (by assumption) (by assumption)) | (with_reducible exact Gr.recell0 (by assumption)) | (with_reducible refine Gr.recell (by assumption) ?_; (intro hh_; (try simp only [World.size_alloc, heap_drew, World.heap_drewN, size_setCell] at hh_); omega)) | (with_reducible refine Gr.far2 (by assumption) ?_ ?_ <;> (intro hh_; (try simp only [World.size_alloc, heap_drew, World.heap_drewN, size_setCell] at hh_); omega)) | exact keepCell (by assumption) (by assumption) | (with_reducible exact keepFrz (by assumption) (by assumption) (by assumption))))) | go_keep) ((first
      | (go_at_call 120; (with_reducible refine (PQ.out _).mono ?_); rintro e ws ⟨rfl, hbs⟩; (have sz2 : w.heap.size < ws.heap.size := Nat.lt_of_lt_of_le sz hbs.size); (have hbrs := hbr.drew.trans (hbs.mono hbr.size)); (have z0_ := keepCell hbs (cellDrw c0)); (have z1_ := keepCell hbs (cellDrw c1)); (have qs : w1.heap.size ≤ ws.heap.size := hbs.size))
      | (go_at_call 68; (with_reducible refine (PF.out _).mono ?_); rintro e wf ⟨vf, rfl, howf, hbf⟩; obtain ⟨Af, capf, rfl, hmf, hvf⟩ := howf.view; (have hbrf : Below w.heap.size w wf := (by first | exact hbrs.trans (hbf.mono (by have := hbrs.size; omega)) | exact (hbrs.alloc (by have := hbrs.size; omega) _).trans (hbf.mono (by have := hbrs.size; simp; omega)))); (replace howf := howf.base (base' := w1.heap.size) (by first | omega | (simp; done) | (simp; omega))); (clear hvf hmf); (have qf : w1.heap.size ≤ wf.heap.size := (by have := hbf.size; (try simp at this); omega)); (first | (have y0_ := keepCell hbf z0_; have y1_ := keepCell hbf z1_) | (have y0_ := keepCell hbf (Gr.recell0 z0_); have y1_ := keepCell hbf (Gr.recell0 z1_))))
      | (refine stepI w1.heap.size L [sq] _ Af L.length capf (by rfl) (by rfl) (.tmp 18) (.tmp 22) (by rfl) (by rfl) (by rfl) (by first | exact fromAt howf | exact fromAt (howf.alloc _)) (by first | exact OwnI.litOne _ _ _ qf | exact (OwnI.litOne _ _ _ qs).below hbf) (by first | omega | (simp; done) | (simp; omega)) (by simp; omega) ?_; intro v3 w3 hown3 hb3; (have hbr3 : Below w.heap.size w w3 := (by first | exact hbrf.trans (hb3.mono (Nat.le_of_lt sz)) | exact (hbrf.alloc (by have := hbrf.size; omega) _).trans (hb3.mono (Nat.le_of_lt sz)))); (first | (have x0_ := (hb3.cell (p := ⟨w.heap.size, 0, none⟩) sz).trans y0_; have x1_ := (hb3.cell (p := ⟨w.heap.size, 1, none⟩) sz).trans y1_) | (have x0_ := (hb3.cell (p := ⟨w.heap.size, 0, none⟩) sz).trans (Gr.recell0 y0_); have x1_ := (hb3.cell (p := ⟨w.heap.size, 1, none⟩) sz).trans (Gr.recell0 y1_))))
      | (go_at_call 73; (with_reducible refine (PG.out _ _ _ hown3).mono ?_); rintro e w4 ⟨u4, rfl, hown4, hb4⟩; (have v0_ := keepCell hb4 x0_); (have v1_ := keepCell hb4 x1_))
      | fail "ARMS"))
  all_goals
    go_wp2
    go_ret2
    exact ⟨_, rfl, hown4.base (by have := hbr3.size; omega), hbr3.trans (hb4.mono (by have := hbr3.size; omega))⟩
end Go.Proofs.YtgkjmjlkhnfbiaaGreat

namespace Go.Proofs.YtgkjmjlkhnfbiaaGreat
set_option linter.unusedSimpArgs false
set_option linter.unusedVariables false
open Go.RowKit
namespace M
theorem isg_f1 {L : List Int} (h : ins L.length 1 64 = false) : isg L = false := by unfold isg; rw [h]; rfl
theorem isg_f2 {L : List Int} (h : (1 : Int) ∉ L) : isg L = false := by unfold isg; rw [decide_eq_false h]; simp
theorem isg_f3 {L : List Int} {d : Int} (hd : d ∈ L) (h : isCl d = false) : isg L = false := by
  cases hg : isg L with
  | false => rfl
  | true =>
    unfold isg at hg
    simp only [Bool.and_eq_true, List.all_eq_true] at hg
    rw [hg.2.1 d hd] at h
    cases h
theorem isg_f4 {L : List Int} {d e : Int} (hd : d ∈ L) (he : e ∈ L) (h : prd d e ∉ L) : isg L = false := by
  cases hg : isg L with
  | false => rfl
  | true =>
    unfold isg at hg
    simp only [Bool.and_eq_true, List.all_eq_true] at hg
    have h1 := hg.2.2 d hd
    unfold cls at h1
    rw [List.all_eq_true] at h1
    exact absurd (of_decide_eq_true (h1 e he)) h
theorem isg_f5 {L : List Int} (h : L.all isCl = false) : isg L = false := by unfold isg; rw [h]; simp
theorem isg_t {L : List Int} (h1 : ins L.length 1 64 = true) (h2 : (1 : Int) ∈ L) (h3 : L.all isCl = true) (h4 : L.all (cls L) = true) : isg L = true := by
  unfold isg
  rw [h1, h3, h4, decide_eq_true h2]
  rfl
theorem all_next (f : Int → Bool) (L : List Int) {k : Nat} {x : Int} (hx : L[k]? = some x) : (L.take (k + 1)).all f = ((L.take k).all f && f x) := by
  rw [List.take_add_one, hx, List.all_append]
  simp
theorem inc_prev {L : List Int} (h : Inc L) {k : Nat} {x y : Int} (hx : L[k]? = some x) (hy : L[k + 1]? = some y) : x < y := by
  obtain ⟨h1, rfl⟩ := List.getElem?_eq_some_iff.1 hx
  obtain ⟨h2, rfl⟩ := List.getElem?_eq_some_iff.1 hy
  exact List.pairwise_iff_getElem.1 h k (k + 1) h1 h2 (Nat.lt_succ_self k)
end M
set_option maxRecDepth 100000 in
set_option maxHeartbeats 2000000 in
theorem isClassGroup_c (L : List Int) (v : Value) (w : World) (base : Nat) (hown : OwnI w base v L) (hb : ∀ x ∈ L, x.natAbs ≤ 1000000) (hi : M.Inc L) (hl : L.length ≤ 1000000) :
    Calls Tryz.prog 93 #[v] w fun e w' => e = .returned (.bool (M.isg L)) ∧ Below w.heap.size w w' := by
  obtain ⟨a, cap, rfl, hm, hv⟩ := hown.seen
  have hv := Lib.hid hv
  have hb := Lib.hid hb
  have hi := Lib.hid hi
  replace hown := Lib.hid hown
  clear hm
  cases h1 : M.ins L.length 1 64
  · have hr := Lib.hid (M.isg_f1 h1)
    go_enter Tryz.func93, Tryz.ntmps93
    go_wp2_with (go_at_call 61; refine (inside_c _ _ _ _).mono ?_; rintro e w' ⟨rfl, rfl⟩)
    go_ret
    exact ⟨by rw [hr.out] <;> rfl, (by repeat (first | exact Below.refl _ _ | refine below_alloc ?_ _ | refine below_step ?_ (by assumption) | refine Below.drew ?_ | refine Below.setCell ?_ (by first | exact Nat.le_refl _ | exact Nat.le_add_right _ _ | (simp <;> omega)) _ | refine below_drewN ?_ _))⟩
  · by_cases h2 : (1 : Int) ∈ L
    · have PK := fun W v h => containsInts_c L v 1 W base h
      rw [decide_eq_true h2] at PK
      have PK := Lib.hid PK
      have h2 := Lib.hid h2
      go_enter Tryz.func93, Tryz.ntmps93
      go_wp2_with (first | (go_at_call 61; refine (inside_c _ _ _ _).mono ?_; rintro e w' ⟨rfl, rfl⟩) | (go_at_call 52; (with_reducible refine (PK.out _ _ hown.out).mono ?_); rintro e w2 ⟨rfl, rfl⟩))
      have h1 := Lib.hid h1
      clear PK
      go_loopw [3, 4, 22] (fun _ _ vi wr => ∃ k : Nat, k ≤ L.length ∧ vi = .int .i64 k ∧ (L.take k).all M.isCl = true ∧ Below w.heap.size w wr) (fun _ _ vi _ => L.length - (intOf vi).toNat)
      case atStart => exact ⟨0, by omega, rfl, rfl, Below.refl _ _⟩
      case round =>
        obtain ⟨k, hk, rfl, hall, hbr⟩ := hrel
        have hall := Lib.hid hall
        by_cases hlt : k < L.length
        · obtain ⟨g3, d, rfl, hg3, hd, hcell3⟩ := hv.out k hlt
          have hc3 := keepCell hbr hcell3
          have hmem := List.mem_of_getElem? hd.out
          have hdb := hb.out d hmem
          have PC := fun W => isClass_c d W (by omega) (by omega)
          have ha := Lib.hid (M.all_next M.isCl L hd.out)
          clear hcell3 hdb
          cases hc : M.isCl d
          · have hno := Lib.hid (M.isg_f3 hmem hc)
            simp only [hc] at PC
            have PC := Lib.hid PC
            clear hmem hc ha
            go_wp2_with (go_at_call 64; (with_reducible refine (PC.out _).mono ?_); rintro r w5 ⟨rfl, hb5⟩)
            go_ret
            exact ⟨by rw [hno.out] <;> rfl, hbr.trans (hb5.mono hbr.size)⟩
          · simp only [hc] at PC
            have PC := Lib.hid PC
            have hc := Lib.hid hc
            clear hmem
            cases k with
            | zero =>
              go_wp2_with (go_at_call 64; (with_reducible refine (PC.out _).mono ?_); rintro r w5 ⟨rfl, hb5⟩)
              go_roundw
              case rel => exact ⟨0 + 1, by omega, by go_num, by rw [ha.out, hall.out, hc.out]; rfl, hbr.trans (hb5.mono hbr.size)⟩
              case measure => simp [intOf]; omega
            | succ m =>
              obtain ⟨g4, d0, e4, hg4, hd0, hcell4⟩ := hv.out m (by omega)
              obtain rfl : g3 = g4 := by simpa using e4
              have hc4 := keepCell hbr hcell4
              have hlt2 := M.inc_prev hi.out hd0.out hd.out
              clear hcell4 e4
              go_wp2_with (go_at_call 64; (with_reducible refine (PC.out _).mono ?_); rintro r w5 ⟨rfl, hb5⟩; (have hc5 := keepCell hb5 hc4))
              go_roundw
              case rel => exact ⟨m + 1 + 1, by omega, by go_num, by rw [ha.out, hall.out, hc.out]; rfl, hbr.trans (hb5.mono hbr.size)⟩
              case measure => simp [intOf]; omega
        · obtain rfl : k = L.length := by omega
          have hall2 := hall.out
          rw [List.take_length] at hall2
          have hcl := Lib.hid fun d (hd : d ∈ L) => List.all_eq_true.1 hall2 d hd
          replace hall2 := Lib.hid hall2
          clear hall hlt hk
          go_wp2
          go_loopw [6, 8, 9, 10, 46] (fun _ _ _ _ vi wr => ∃ k : Nat, k ≤ L.length ∧ vi = .int .i64 k ∧ (L.take k).all (M.cls L) = true ∧ Below w.heap.size w wr) (fun _ _ _ _ vi _ => L.length - (intOf vi).toNat)
          case atStart => exact ⟨0, by omega, rfl, rfl, hbr⟩
          case round =>
            clear hbr
            obtain ⟨k, hk, rfl, hall, hbr2⟩ := hrel
            have hall := Lib.hid hall
            by_cases hlt : k < L.length
            · obtain ⟨g3, d, rfl, hg3, hd, hcell3⟩ := hv.out k hlt
              have hc3 := keepCell hbr2 hcell3
              have hmem := Lib.hid (List.mem_of_getElem? hd.out)
              have hdc := Lib.hid (M.isCl_iff.1 (hcl.out d hmem.out))
              have ha := Lib.hid (M.all_next (M.cls L) L hd.out)
              clear hcell3
              go_wp2
              go_loopw [8, 9, 10, 52] (fun _ _ _ vj wq => ∃ j : Nat, j ≤ L.length ∧ vj = .int .i64 j ∧ (L.take j).all (M.cls1 L d) = true ∧ Below w.heap.size w wq) (fun _ _ _ vj _ => L.length - (intOf vj).toNat)
              case atStart => exact ⟨0, by omega, rfl, rfl, hbr2⟩
              case round =>
                clear hbr2 hc3
                obtain ⟨j, hj, rfl, hallj, hbq⟩ := hrel
                have hallj := Lib.hid hallj
                by_cases hjt : j < L.length
                · obtain ⟨g5, e, e5, hg5, he, hcell5⟩ := hv.out j hjt
                  obtain rfl : g3 = g5 := by simpa using e5
                  have hc5 := keepCell hbq hcell5
                  have hem := Lib.hid (List.mem_of_getElem? he.out)
                  have hec := M.isCl_iff.1 (hcl.out e hem.out)
                  have hdb := hdc.out
                  have PP := fun W => productClass_c d e W hdb.1.1 (by omega) (by omega)
                  have haj := Lib.hid (M.all_next (M.cls1 L d) L he.out)
                  have hcj : Hid (M.cls1 L d e = decide (M.prd d e ∈ L)) := Lib.hid rfl
                  have he := Lib.hid he.out
                  have hno := Lib.hid fun h => M.isg_f4 hmem.out hem.out h
                  have hownq := Lib.hid (hown.out.below hbq)
                  clear hcell5 e5 hec hdb
                  generalize M.prd d e = x at *
                  cases hc : M.isCl x
                  · have hx : x ∉ L := fun h => by rw [hcl.out x h] at hc; cases hc
                    have hr := Lib.hid (hno.out hx)
                    simp only [hc] at PP
                    have PP := Lib.hid PP
                    clear hc hno haj hcj hx
                    go_wp2_with (go_at_call 65; (with_reducible refine (PP.out _).mono ?_); rintro r w5 ⟨rfl, hb5⟩)
                    go_ret
                    exact ⟨by rw [hr.out] <;> rfl, hbq.trans (hb5.mono hbq.size)⟩
                  · simp only [hc, if_true] at PP
                    have PP := Lib.hid PP
                    have PX := fun W v h => containsInts_c L v x W base h
                    by_cases hx : x ∈ L
                    · rw [decide_eq_true hx] at PX hcj
                      have PX := Lib.hid PX
                      have hx := Lib.hid hx
                      clear hc hno
                      go_wp2_with (first
                        | (go_at_call 65; (with_reducible refine (PP.out _).mono ?_); rintro r w5 ⟨rfl, hb5⟩)
                        | (go_at_call 52; (with_reducible refine (PX.out _ _ (hownq.out.below hb5)).mono ?_); rintro e w2 ⟨rfl, rfl⟩))
                      go_roundw
                      case rel => exact ⟨j + 1, by omega, by go_num, by rw [haj.out, hallj.out, hcj.out]; rfl, hbq.trans (hb5.mono hbq.size)⟩
                      case measure => simp [intOf]; omega
                    · have hr := Lib.hid (hno.out hx)
                      rw [decide_eq_false hx] at PX
                      have PX := Lib.hid PX
                      have hx := Lib.hid hx
                      clear hc hno haj hcj
                      go_wp2_with (first
                        | (go_at_call 65; (with_reducible refine (PP.out _).mono ?_); rintro r w5 ⟨rfl, hb5⟩)
                        | (go_at_call 52; (with_reducible refine (PX.out _ _ (hownq.out.below hb5)).mono ?_); rintro e w2 ⟨rfl, rfl⟩))
                      go_ret
                      exact ⟨by rw [hr.out] <;> rfl, hbq.trans (hb5.mono hbq.size)⟩
                · obtain rfl : j = L.length := by omega
                  have hcd : Hid (M.cls L d = true) := Lib.hid (by have := hallj.out; rw [List.take_length] at this; exact this)
                  go_wp2
                  go_roundw
                  case rel => exact ⟨k + 1, by omega, by go_num, by rw [ha.out, hall.out, hcd.out]; rfl, hbq⟩
                  case measure => simp [intOf]; omega
            · obtain rfl : k = L.length := by omega
              have hg : Hid (M.isg L = true) := Lib.hid (M.isg_t h1.out h2.out hall2.out (by have := hall.out; rw [List.take_length] at this; exact this))
              go_wp2
              go_ret
              exact ⟨by rw [hg.out] <;> rfl, hbr2⟩
    · have hr := Lib.hid (M.isg_f2 h2)
      have PK := fun W v h => containsInts_c L v 1 W base h
      rw [decide_eq_false h2] at PK
      have PK := Lib.hid PK
      have h2 := Lib.hid h2
      go_enter Tryz.func93, Tryz.ntmps93
      go_wp2_with (first | (go_at_call 61; refine (inside_c _ _ _ _).mono ?_; rintro e w' ⟨rfl, rfl⟩) | (go_at_call 52; (with_reducible refine (PK.out _ _ hown.out).mono ?_); rintro e w2 ⟨rfl, rfl⟩))
      go_ret
      exact ⟨by rw [hr.out] <;> rfl, (by repeat (first | exact Below.refl _ _ | refine below_alloc ?_ _ | refine below_step ?_ (by assumption) | refine Below.drew ?_ | refine Below.setCell ?_ (by first | exact Nat.le_refl _ | exact Nat.le_add_right _ _ | (simp <;> omega)) _ | refine below_drewN ?_ _))⟩
end Go.Proofs.YtgkjmjlkhnfbiaaGreat

namespace Go.Proofs.YtgkjmjlkhnfbiaaGreat
set_option linter.unusedSimpArgs false
set_option linter.unusedVariables false
open Go.RowKit
set_option maxRecDepth 100000 in
set_option maxHeartbeats 2000000 in
theorem dsList_c (L : List Int) (v : Value) (n : Int) (w : World) (base : Nat) (hown : OwnI w base v L) (hl : L.length ≤ 1000000) :
    Calls Tryz.prog 164 #[v, .int .i64 n] w fun e w' => e = .returned (.bool (L.all M.isCl && M.ins L.length 1 n)) ∧ Below w.heap.size w w' := by
  obtain ⟨a, cap, rfl, hm, hv⟩ := hown.seen
  have hv := Lib.hid hv
  clear hm hown
  have PI := fun W => l1In_c L.length 1 n W
  generalize M.ins L.length 1 n = q at PI ⊢
  have PI := Lib.hid PI
  go_enter Tryz.func164, Tryz.ntmps164
  go_wp2
  go_loopw [6, 9] (fun _ vi wr => ∃ k : Nat, k ≤ L.length ∧ vi = .int .i64 k ∧ (L.take k).all M.isCl = true ∧ Below w.heap.size w wr) (fun _ vi _ => L.length - (intOf vi).toNat)
  case atStart => exact ⟨0, by omega, rfl, rfl, Below.refl _ _⟩
  case round =>
    obtain ⟨k, hk, rfl, hall, hbr⟩ := hrel
    have hall := Lib.hid hall
    by_cases hlt : k < L.length
    · obtain ⟨g3, d, rfl, hg3, hd, hcell3⟩ := hv.out k hlt
      have hc3 := keepCell hbr hcell3
      have hmem := List.mem_of_getElem? hd.out
      have PC := fun W => dsClass_c d W
      have ha := Lib.hid (M.all_next M.isCl L hd.out)
      clear hcell3
      cases hc : M.isCl d
      · have hno : Hid (L.all M.isCl = false) := Lib.hid (by
          cases h : L.all M.isCl with
          | false => rfl
          | true => rw [List.all_eq_true] at h; rw [h d hmem] at hc; cases hc)
        simp only [hc] at PC
        have PC := Lib.hid PC
        clear hmem hc ha
        go_wp2_with (go_at_call 114; (with_reducible refine (PC.out _).mono ?_); rintro r w5 ⟨rfl, hb5⟩)
        go_ret
        exact ⟨by rw [hno.out] <;> rfl, hbr.trans (hb5.mono hbr.size)⟩
      · simp only [hc] at PC
        have PC := Lib.hid PC
        have hc := Lib.hid hc
        clear hmem
        go_wp2_with (go_at_call 114; (with_reducible refine (PC.out _).mono ?_); rintro r w5 ⟨rfl, hb5⟩)
        go_roundw
        case rel => exact ⟨k + 1, by omega, by go_num, by rw [ha.out, hall.out, hc.out]; rfl, hbr.trans (hb5.mono hbr.size)⟩
        case measure => simp [intOf]; omega
    · obtain rfl : k = L.length := by omega
      have hall2 : Hid (L.all M.isCl = true) := Lib.hid (by have := hall.out; rw [List.take_length] at this; exact this)
      go_wp2_with (go_at_call 96; (with_reducible refine (PI.out _).mono ?_); rintro r w5 ⟨rfl, rfl⟩)
      go_ret
      exact ⟨by rw [hall2.out] <;> rfl, hbr⟩
set_option maxRecDepth 100000 in
set_option maxHeartbeats 2000000 in
theorem l1Rising_c (L : List Int) (v : Value) (lo hi : Int) (w : World) (base : Nat) (hown : OwnI w base v L) (hinc : M.Inc L) (hb : ∀ x ∈ L, M.ins x lo hi = true) (hl : L.length ≤ 1000000) :
    Calls Tryz.prog 165 #[v, .int .i64 lo, .int .i64 hi] w fun e w' => e = .returned (.bool true) ∧ Below w.heap.size w w' := by
  obtain ⟨a, cap, rfl, hm, hv⟩ := hown.seen
  have hv := Lib.hid hv
  have hb := Lib.hid hb
  have hinc := Lib.hid hinc
  clear hm hown
  go_enter Tryz.func165, Tryz.ntmps165
  go_wp2
  go_loopw [7, 8, 11] (fun _ _ vi wr => ∃ k : Nat, k ≤ L.length ∧ vi = .int .i64 k ∧ Below w.heap.size w wr) (fun _ _ vi _ => L.length - (intOf vi).toNat)
  case atStart => exact ⟨0, by omega, rfl, Below.refl _ _⟩
  case round =>
    obtain ⟨k, hk, rfl, hbr⟩ := hrel
    by_cases hlt : k < L.length
    · obtain ⟨g3, d, rfl, hg3, hd, hcell3⟩ := hv.out k hlt
      have hc3 := keepCell hbr hcell3
      have hmem := List.mem_of_getElem? hd.out
      have PI := fun lo hi (h : M.ins d lo hi = true) W => by have := l1In_c d lo hi W; rw [h] at this; exact this
      have PI := Lib.hid (PI _ _ (hb.out d hmem))
      clear hcell3 hmem
      cases k with
      | zero =>
        go_wp2_with (go_at_call 96; (with_reducible refine (PI.out _).mono ?_); rintro r w5 ⟨rfl, rfl⟩)
        go_roundw
        case rel => exact ⟨0 + 1, by omega, by go_num, hbr⟩
        case measure => simp [intOf]; omega
      | succ m =>
        obtain ⟨g4, d0, e4, hg4, hd0, hcell4⟩ := hv.out m (by omega)
        obtain rfl : g3 = g4 := by simpa using e4
        have hc4 := keepCell hbr hcell4
        have hlt2 := M.inc_prev hinc.out hd0.out hd.out
        clear hcell4 e4
        go_wp2_with (go_at_call 96; (with_reducible refine (PI.out _).mono ?_); rintro r w5 ⟨rfl, rfl⟩)
        go_roundw
        case rel => exact ⟨m + 1 + 1, by omega, by go_num, hbr⟩
        case measure => simp [intOf]; omega
    · obtain rfl : k = L.length := by omega
      go_wp2
      go_ret
      exact ⟨rfl, hbr⟩
set_option maxRecDepth 100000 in
set_option maxHeartbeats 2000000 in
theorem dsIsGroup_c (L : List Int) (v : Value) (w : World) (base : Nat) (hown : OwnI w base v L) (hb : ∀ x ∈ L, x.natAbs ≤ 1000000) (hi : M.Inc L) (hl : L.length ≤ 1000000) :
    Calls Tryz.prog 142 #[v] w fun e w' => e = .returned (.bool (M.isg L)) ∧ Below w.heap.size w w' := by
  obtain ⟨a, cap, rfl, hm, hv⟩ := hown.seen
  have hv := Lib.hid hv
  have PL := fun W v h => dsList_c L v 64 W base h hl
  have PR := fun W v h => l1Rising_c L v (-1000000) 1000000 W base h hi (fun x hx => by unfold M.ins; have := hb x hx; simp; omega) hl
  have PR := Lib.hid PR
  have hb := Lib.hid hb
  have hi := Lib.hid hi
  have ho := Lib.hid hown
  clear hm hown
  cases h1 : (L.all M.isCl && M.ins L.length 1 64)
  · have hr : Hid (M.isg L = false) := Lib.hid (by
      cases hc : L.all M.isCl with
      | false => exact M.isg_f5 hc
      | true => rw [hc, Bool.true_and] at h1; exact M.isg_f1 h1)
    simp only [h1] at PL
    have PL := Lib.hid PL
    clear h1
    go_enter Tryz.func142, Tryz.ntmps142
    go_wp2_with (first | (go_at_call 164; (with_reducible refine (PL.out _ _ ho.out).mono ?_); rintro r w5 ⟨rfl, hb5⟩))
    go_ret
    exact ⟨by rw [hr.out] <;> rfl, hb5⟩
  · simp only [h1] at PL
    have PL := Lib.hid PL
    rw [Bool.and_eq_true] at h1
    obtain ⟨hall, hins⟩ := h1
    have hcl := Lib.hid fun d (hd : d ∈ L) => List.all_eq_true.1 hall d hd
    have hall := Lib.hid hall
    have hins := Lib.hid hins
    by_cases h2 : (1 : Int) ∈ L
    · have PK := fun W v h => l1Has_c L v 1 W base h
      rw [decide_eq_true h2] at PK
      have PK := Lib.hid PK
      have h2 := Lib.hid h2
      go_enter Tryz.func142, Tryz.ntmps142
      go_wp2_with (first
        | (go_at_call 164; (with_reducible refine (PL.out _ _ ho.out).mono ?_); rintro r w5 ⟨rfl, hb5⟩)
        | (go_at_call 165; (with_reducible refine (PR.out _ _ (ho.out.below hb5)).mono ?_); rintro r w6 ⟨rfl, hb6⟩)
        | (go_at_call 74; (with_reducible refine (PK.out _ _ ((ho.out.below hb5).below hb6)).mono ?_); rintro r w7 ⟨rfl, rfl⟩))
      have hbr := hb5.trans (hb6.mono hb5.size)
      clear hb5 hb6
      go_loopw [4, 6, 22] (fun _ _ vi wr => ∃ k : Nat, k ≤ L.length ∧ vi = .int .i64 k ∧ (L.take k).all (M.cls L) = true ∧ Below w.heap.size w wr) (fun _ _ vi _ => L.length - (intOf vi).toNat)
      case atStart => exact ⟨0, by omega, rfl, rfl, hbr⟩
      case round =>
        clear hbr
        obtain ⟨k, hk, rfl, hall2, hbr2⟩ := hrel
        have hall2 := Lib.hid hall2
        by_cases hlt : k < L.length
        · obtain ⟨g3, d, rfl, hg3, hd, hcell3⟩ := hv.out k hlt
          have hc3 := keepCell hbr2 hcell3
          have hmem := Lib.hid (List.mem_of_getElem? hd.out)
          have hdc := Lib.hid (M.isCl_iff.1 (hcl.out d hmem.out))
          have ha := Lib.hid (M.all_next (M.cls L) L hd.out)
          clear hcell3
          go_wp2
          go_loopw [6, 28] (fun _ vj wq => ∃ j : Nat, j ≤ L.length ∧ vj = .int .i64 j ∧ (L.take j).all (M.cls1 L d) = true ∧ Below w.heap.size w wq) (fun _ vj _ => L.length - (intOf vj).toNat)
          case atStart => exact ⟨0, by omega, rfl, rfl, hbr2⟩
          case round =>
            clear hbr2 hc3
            obtain ⟨j, hj, rfl, hallj, hbq⟩ := hrel
            have hallj := Lib.hid hallj
            by_cases hjt : j < L.length
            · obtain ⟨g5, e, e5, hg5, he, hcell5⟩ := hv.out j hjt
              obtain rfl : g3 = g5 := by simpa using e5
              have hc5 := keepCell hbq hcell5
              have hem := Lib.hid (List.mem_of_getElem? he.out)
              have hec := M.isCl_iff.1 (hcl.out e hem.out)
              have hdb := hdc.out
              have PP := fun W => dsProduct_c d e W hdb.1.1 (by omega) (by omega)
              have haj := Lib.hid (M.all_next (M.cls1 L d) L he.out)
              have hcj : Hid (M.cls1 L d e = decide (M.prd d e ∈ L)) := Lib.hid rfl
              have he := Lib.hid he.out
              have hno := Lib.hid fun h => M.isg_f4 hmem.out hem.out h
              have hownq := Lib.hid (ho.out.below hbq)
              clear hcell5 e5 hec hdb
              generalize M.prd d e = x at *
              have PP := Lib.hid PP
              have PX := fun W v h => l1Has_c L v x W base h
              by_cases hx : x ∈ L
              · rw [decide_eq_true hx] at PX hcj
                have PX := Lib.hid PX
                have hx := Lib.hid hx
                clear hno
                go_wp2_with (first
                  | (go_at_call 113; (with_reducible refine (PP.out _).mono ?_); rintro r w5 ⟨rfl, hb5⟩)
                  | (go_at_call 74; (with_reducible refine (PX.out _ _ (hownq.out.below hb5)).mono ?_); rintro e w2 ⟨rfl, rfl⟩))
                go_roundw
                case rel => exact ⟨j + 1, by omega, by go_num, by rw [haj.out, hallj.out, hcj.out]; rfl, hbq.trans (hb5.mono hbq.size)⟩
                case measure => simp [intOf]; omega
              · have hr := Lib.hid (hno.out hx)
                rw [decide_eq_false hx] at PX
                have PX := Lib.hid PX
                have hx := Lib.hid hx
                clear hno haj hcj
                go_wp2_with (first
                  | (go_at_call 113; (with_reducible refine (PP.out _).mono ?_); rintro r w5 ⟨rfl, hb5⟩)
                  | (go_at_call 74; (with_reducible refine (PX.out _ _ (hownq.out.below hb5)).mono ?_); rintro e w2 ⟨rfl, rfl⟩))
                go_ret
                exact ⟨by rw [hr.out] <;> rfl, hbq.trans (hb5.mono hbq.size)⟩
            · obtain rfl : j = L.length := by omega
              have hcd : Hid (M.cls L d = true) := Lib.hid (by have := hallj.out; rw [List.take_length] at this; exact this)
              go_wp2
              go_roundw
              case rel => exact ⟨k + 1, by omega, by go_num, by rw [ha.out, hall2.out, hcd.out]; rfl, hbq⟩
              case measure => simp [intOf]; omega
        · obtain rfl : k = L.length := by omega
          have hg : Hid (M.isg L = true) := Lib.hid (M.isg_t hins.out h2.out hall.out (by have := hall2.out; rw [List.take_length] at this; exact this))
          go_wp2
          go_ret
          exact ⟨by rw [hg.out] <;> rfl, hbr2⟩
    · have hr := Lib.hid (M.isg_f2 h2)
      have PK := fun W v h => l1Has_c L v 1 W base h
      rw [decide_eq_false h2] at PK
      have PK := Lib.hid PK
      have h2 := Lib.hid h2
      go_enter Tryz.func142, Tryz.ntmps142
      go_wp2_with (first
        | (go_at_call 164; (with_reducible refine (PL.out _ _ ho.out).mono ?_); rintro r w5 ⟨rfl, hb5⟩)
        | (go_at_call 165; (with_reducible refine (PR.out _ _ (ho.out.below hb5)).mono ?_); rintro r w6 ⟨rfl, hb6⟩)
        | (go_at_call 74; (with_reducible refine (PK.out _ _ ((ho.out.below hb5).below hb6)).mono ?_); rintro r w7 ⟨rfl, rfl⟩))
      go_ret
      exact ⟨by rw [hr.out] <;> rfl, hb5.trans (hb6.mono hb5.size)⟩
end Go.Proofs.YtgkjmjlkhnfbiaaGreat

namespace Go.Proofs.YtgkjmjlkhnfbiaaGreat
set_option linter.unusedSimpArgs false
set_option linter.unusedVariables false
open Go.RowKit
namespace M
noncomputable def rkc (L : List Int) : Int := if isg L then (Nat.log2 L.length : Int) else 0
theorem isg_len {L : List Int} (h : isg L = true) : 1 ≤ L.length ∧ L.length ≤ 64 := by
  unfold isg at h
  simp only [Bool.and_eq_true] at h
  have := ins_t h.1.1
  omega
end M
set_option maxRecDepth 100000 in
theorem implRankOfClasses_c (L : List Int) (v : Value) (w : World) (base : Nat) (hown : OwnI w base v L) (hb : ∀ x ∈ L, x.natAbs ≤ 1000000) (hi : M.Inc L) (hl : L.length ≤ 1000000) :
    Calls Tryz.prog 42 #[v] w fun e w' => e = .returned (.tuple #[.int .i64 (M.rkc L), .bool (M.isg L)]) ∧ Below w.heap.size w w' := by
  have PG := fun W v h => isClassGroup_c L v W base h hb hi hl
  obtain ⟨a, cap, rfl, hm, hv⟩ := hown.seen
  unfold M.rkc
  clear hm hv
  cases hg : M.isg L
  · rw [hg] at PG
    have PG := Lib.hid PG
    have hown := Lib.hid hown
    go_enter Tryz.func42, Tryz.ntmps42
    go_wp2_with (go_at_call 93; (with_reducible refine (PG.out _ _ hown.out).mono ?_); rintro r w5 ⟨rfl, hb5⟩)
    go_ret2
    exact ⟨rfl, hb5⟩
  · rw [hg] at PG
    have PG := Lib.hid PG
    have hown := Lib.hid hown
    have hbl := M.lg_bit L.length (by have := M.isg_len hg; omega) (M.isg_len hg).1
    have hl1 := (M.isg_len hg).1
    have hl2 := (M.isg_len hg).2
    have PB := fun W => Tryz.bits_Len (L.length : Int) W (by omega) (by omega)
    rw [Int.toNat_natCast] at PB
    obtain ⟨b, hb⟩ : ∃ b : Nat, b = Lib.bitLen L.length := ⟨_, rfl⟩
    rw [← hb] at PB hbl
    simp only [if_true, ← hbl]
    have PB := Lib.hid PB
    have hb64 : (b : Int) ≤ 65 := by have : Nat.log2 L.length < L.length := Nat.log2_lt (by omega) |>.2 Nat.lt_two_pow_self; omega
    clear hb hbl hi
    go_enter Tryz.func42, Tryz.ntmps42
    go_wp2_with (first
      | (go_at_call 93; (with_reducible refine (PG.out _ _ hown.out).mono ?_); rintro r w5 ⟨rfl, hb5⟩)
      | (go_at_call 94; (refine (PB.out _).mono ?_); rintro r w6 ⟨rfl, rfl⟩))
    go_ret2
    exact ⟨rfl, hb5⟩
set_option maxRecDepth 100000 in
theorem specRankOfClasses_c (L : List Int) (v : Value) (w : World) (base : Nat) (hown : OwnI w base v L) (hb : ∀ x ∈ L, x.natAbs ≤ 1000000) (hi : M.Inc L) (hl : L.length ≤ 1000000) :
    Calls Tryz.prog 117 #[v] w fun e w' => e = .returned (.tuple #[.int .i64 (M.rkc L), .bool (M.isg L)]) ∧ Below w.heap.size w w' := by
  have PG := fun W v h => dsIsGroup_c L v W base h hb hi hl
  obtain ⟨a, cap, rfl, hm, hv⟩ := hown.seen
  unfold M.rkc
  clear hm hv
  cases hg : M.isg L
  · rw [hg] at PG
    have PG := Lib.hid PG
    have hown := Lib.hid hown
    go_enter Tryz.func117, Tryz.ntmps117
    go_wp2_with (go_at_call 142; (with_reducible refine (PG.out _ _ hown.out).mono ?_); rintro r w5 ⟨rfl, hb5⟩)
    go_ret2
    exact ⟨rfl, hb5⟩
  · rw [hg] at PG
    have PG := Lib.hid PG
    have hown := Lib.hid hown
    have hl1 := (M.isg_len hg).1
    have hl2 := (M.isg_len hg).2
    simp only [if_true]
    have hl6 : Hid (Nat.log2 L.length ≤ 64) := Lib.hid (by have : Nat.log2 L.length < L.length := Nat.log2_lt (by omega) |>.2 Nat.lt_two_pow_self; omega)
    clear hg hi hb
    go_enter Tryz.func117, Tryz.ntmps117
    go_wp2_with (go_at_call 142; (with_reducible refine (PG.out _ _ hown.out).mono ?_); rintro r w5 ⟨rfl, hb5⟩)
    go_loopw [4, 5] (fun vr vn wr => ∃ m r : Nat, 1 ≤ m ∧ m ≤ 64 ∧ vr = .int .i64 r ∧ vn = .int .i64 m ∧ r + Nat.log2 m = Nat.log2 L.length ∧ r ≤ 64 ∧ wr = w5) (fun _ vn _ => (intOf vn).toNat)
    case atStart => exact ⟨L.length, 0, by omega, by omega, rfl, rfl, by omega, by omega, rfl⟩
    case round =>
      obtain ⟨m, r, hm1, hm2, rfl, rfl, hlg, hr, rfl⟩ := hrel
      by_cases hm : 1 < m
      · have h2 := M.lg_half m (by omega) hm
        have ht : Int.tdiv (m : Int) 2 = ((m / 2 : Nat) : Int) := by rw [Int.tdiv_eq_ediv_of_nonneg (by omega)]; omega
        have hz1 := Lib.hid hlg
        have hz2 := Lib.hid h2
        clear hlg h2
        obtain ⟨q, hq⟩ : ∃ q, q = m / 2 := ⟨_, rfl⟩
        rw [← hq] at ht hz2
        have hq1 : 1 ≤ q := by omega
        have hq2 : q < m := by omega
        clear hq
        go_wp2
        go_roundw
        case rel => exact ⟨q, r + 1, by omega, by omega, by go_num, by first | rfl | (rw [ht]) | go_num, by have := hz1.out; have := hz2.out; omega, by have := hz1.out; have := hz2.out; have := hl6.out; omega, by first | rfl | trivial⟩
        case measure => simp [intOf]; omega
      · obtain rfl : m = 1 := by omega
        have hr0 : Hid ((r : Int) = (Nat.log2 L.length : Nat)) := Lib.hid (by have : Nat.log2 1 = 0 := by decide
                                                                              omega)
        clear hlg
        go_wp2
        go_ret2
        exact ⟨by rw [← hr0.out] <;> rfl, hb5⟩
end Go.Proofs.YtgkjmjlkhnfbiaaGreat
