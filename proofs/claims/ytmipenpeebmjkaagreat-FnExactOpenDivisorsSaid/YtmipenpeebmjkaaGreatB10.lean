/-
  Joined texts: contracts and plain laws.
-/
import Derived.Test.YtmipenpeebmjkaaGreatB9
import Derived.Test.YtmipenpeebmjkaaGreatB6
namespace Go.Proofs.YtmipenpeebmjkaaGreat
set_option linter.unusedSimpArgs false
set_option linter.unusedVariables false
open Go.RowKit
/-- the boxes behind the value -/
abbrev CandW (w : World) (D A C : Int) (lv : Value) (p : Nat) (s : Int) : World :=
  (((w.alloc (.cells #[.int .i64 D, .int .i64 A, .int .i64 C] 63)).alloc (.cells #[lv] 109)).alloc (.cells #[.int .i64 p] 3)).alloc (.cells #[.int .i64 s] 3)
theorem candidates_c (D A C : Int) (p i : Nat) (a : Option Addr) (ln cap : Nat) (w : World) (p1 : 1 ≤ p) (hb : M.ipow p i ≤ 1000000000) (hi : i ≤ 29) :
    Calls Tryz.prog 143 #[.agg #[.int .i64 D, .int .i64 A, .int .i64 C], .slice a ln cap, .int .i64 p, .int .i64 ((i : Int) + 1)] w fun e w' =>
      e = .returned (.func (.func 150) #[] #[.pointer (some ⟨w.heap.size + 2, 0, none⟩), .pointer (some ⟨w.heap.size + 1, 0, none⟩), .pointer (some ⟨w.heap.size + 3, 0, none⟩)]) ∧ CandW w D A C (.slice a ln cap) p (M.ipow p i) = w' := by
  have PW := fun W => intPowerB_c (p : Int) i W (by omega) (by omega) (by omega)
  have h1 : (i : Int) + 1 - 1 = (i : Int) := by omega
  have PW := Lib.hid PW
  go_enter Tryz.func143, Tryz.ntmps143
  go_wp2_with (go_at_call 139; (with_reducible refine (PW.out _).mono ?_); rintro e w' ⟨rfl, rfl⟩)
  go_ret
  exact ⟨by simp, rfl⟩
/-- which blocks a round keeps -/
def KeepC (n₀ B : Nat) (i : Nat) : Prop := i < n₀ ∨ i = B + 1 ∨ i = B + 2 ∨ i = B + 3
theorem cand_stops (n : Nat) (hn : 1 ≤ n) (n₀ B p i : Nat) (l : List (Int × Int)) (lv : Value) (hp : p ≤ 997) (hs : M.ipow p i ≤ 1000000000) (hs0 : 0 ≤ M.ipow p i) (hl : ∀ x ∈ l, (0 ≤ x.1 ∧ x.1 ≤ 1000000000) ∧ (0 ≤ x.2 ∧ x.2 ≤ 1000000000))
    (w : World) (hn₀ : n₀ ≤ w.heap.size) (hB : B + 3 < w.heap.size) (cl : w.cell? ⟨B + 1, 0, none⟩ = some lv) (cp : w.cell? ⟨B + 2, 0, none⟩ = some (.int .i64 p)) (cs : w.cell? ⟨B + 3, 0, none⟩ = some (.int .i64 (M.ipow p i)))
    (hseen : Rw.Seen EP w n₀ lv l) :
    SeqStopsK Fence.wide n Tryz.prog 150 #[.pointer (some ⟨B + 2, 0, none⟩), .pointer (some ⟨B + 1, 0, none⟩), .pointer (some ⟨B + 3, 0, none⟩)] (fun x : Int × Int => #[.agg #[.int .i64 x.1, .int .i64 x.2]]) (KpB (KeepC n₀ B))
      (fun xs => xs = M.cands p l i) (fun pre => pre <+: M.cands p l i) (M.cands p l i).length w := fun lr J Jx W hW hJ _ hY h0 =>
  cand_in (KeepC n₀ B) n hn lr (B + 2) (B + 1) (B + 3) n₀ p i l lv hp hs hs0 hl J Jx W hJ hY ((hW.cell (p := ⟨B + 2, 0, none⟩) (by show B + 2 < _; omega)).trans cp) ((hW.cell (p := ⟨B + 1, 0, none⟩) (by show B + 1 < _; omega)).trans cl)
    ((hW.cell (p := ⟨B + 3, 0, none⟩) (by show B + 3 < _; omega)).trans cs) (Or.inr (Or.inr (Or.inl rfl))) (Or.inr (Or.inl rfl)) (Or.inr (Or.inr (Or.inr rfl))) (fun b hb => Or.inl hb) (hseen.below (hW.mono hn₀)) h0
end Go.Proofs.YtmipenpeebmjkaaGreat

namespace Go.Proofs.YtmipenpeebmjkaaGreat
set_option linter.unusedSimpArgs false
set_option linter.unusedVariables false
open Go.RowKit
theorem M.mod2 {x y z n : Int} (h : x + y = z) : (x % n + y % n) % n = z % n := by rw [← h]; exact (Int.add_emod x y n).symm
/-- the boxes of the function -/
abbrev LiftW (w : World) (D A C p : Int) (k : Nat) : World := ((w.alloc (.cells #[.int .i64 D, .int .i64 A, .int .i64 C] 63)).alloc (.cells #[.int .i64 p] 3)).alloc (.cells #[.int .i64 k] 3)
theorem lift_cells (w : World) (D A C p : Int) (k : Nat) : (LiftW w D A C p k).heap.size = w.heap.size + 3 ∧ (LiftW w D A C p k).cell? ⟨w.heap.size, 0, none⟩ = some (.int .i64 D) ∧ (LiftW w D A C p k).cell? ⟨w.heap.size, 1, none⟩ = some (.int .i64 A) ∧ (LiftW w D A C p k).cell? ⟨w.heap.size, 2, none⟩ = some (.int .i64 C) ∧
    (LiftW w D A C p k).cell? ⟨w.heap.size + 1, 0, none⟩ = some (.int .i64 p) ∧ (LiftW w D A C p k).cell? ⟨w.heap.size + 2, 0, none⟩ = some (.int .i64 k) := ⟨by simp, by simp [go_sem], by simp [go_sem], by simp [go_sem], by simp [go_sem], by simp [go_sem]⟩
set_option maxRecDepth 100000 in
set_option maxHeartbeats 4000000 in
theorem lifts_c (D A C m e p : Int) (k : Nat) (w : World) (hp : 2 ≤ p) (hp2 : p ≤ 1000) (hk : M.ipow p k ≤ 1000000000) (hk2 : k ≤ 29) (hk1 : 1 ≤ k) :
    Calls Tryz.prog 131 #[.agg #[.int .i64 D, .int .i64 A, .int .i64 C], .int .i64 m, .int .i64 e, .int .i64 p, .int .i64 k] w fun e' w' => e' = .returned (.bool (M.lift D A C m e p k)) ∧ Below w.heap.size w w' := by
  have n1 := M.ipow_pos (show 1 ≤ p by omega) k
  have PP := fun W => possible_c D A C m e p k W hp hp2 hk hk2 hk1
  have P1 := fun W => intPowerB_c p k W (by omega) (by omega) (by omega)
  have P2 := fun W => valueModulo_c D A C m e (M.ipow p k) W n1 (by omega)
  unfold M.lift
  obtain ⟨hsz, c0, c1, c2, c3, c4⟩ := lift_cells w D A C p k
  cases hps : M.poss D A C m e p k
  · rw [hps] at PP
    have PP := Lib.hid PP
    rw [Bool.false_and]
    go_enter Tryz.func131, Tryz.ntmps131
    go_wp2_with (go_at_call 138; (with_reducible refine (PP.out _).mono ?_); rintro e_ w2 ⟨rfl, hb⟩)
    go_ret
    exact ⟨rfl, by have h_ := hb; exact (by repeat (first | exact Below.refl _ _ | refine below_alloc ?_ _ | refine below_step ?_ (by assumption) | refine Below.drew ?_ | refine Below.setCell ?_ (by first | exact Nat.le_refl _ | exact Nat.le_add_right _ _ | (simp <;> omega)) _ | refine below_drewN ?_ _))⟩
  rw [hps] at PP
  rw [Bool.true_and]
  have hq : ∀ x : Int, 0 ≤ x % M.ipow p k ∧ x % M.ipow p k ≤ 999999999 := fun x => ⟨Int.emod_nonneg x (by omega), by have := Int.emod_lt_of_pos x (show 0 < M.ipow p k by omega); omega⟩
  have PC := fun (x bn bk bp : Int) (hx : 0 ≤ x) => hx
  have v0 := hq (M.qval D A C m e)
  have v1 : M.qval D A C m e % M.ipow p k < M.ipow p k := Int.emod_lt_of_pos _ (by omega)
  have y0 := hq (M.byM D A m e)
  have y1 := hq (M.byE A C m e)
  have s1 : (M.prod [4, D, m, m, m] % M.ipow p k + M.prod [2, A, m, e, e] % M.ipow p k) % M.ipow p k = M.byM D A m e % M.ipow p k := M.mod2 (by simp [M.prod, M.byM]; grind)
  have s2 : (M.prod [2, A, m, m, e] % M.ipow p k + M.prod [4, C, e, e, e] % M.ipow p k) % M.ipow p k = M.byE A C m e % M.ipow p k := M.mod2 (by simp [M.prod, M.byE]; grind)
  have q1 := hq (M.prod [4, D, m, m, m])
  have q2 := hq (M.prod [2, A, m, e, e])
  have q3 := hq (M.prod [2, A, m, m, e])
  have q4 := hq (M.prod [4, C, e, e, e])
  have T1 := fun b W hc => times_c b [4, D, m, m, m] 5 (M.ipow p k) W n1 hk rfl (by simp) hc
  have T2 := fun b W hc => times_c b [2, A, m, e, e] 5 (M.ipow p k) W n1 hk rfl (by simp) hc
  have T3 := fun b W hc => times_c b [2, A, m, m, e] 5 (M.ipow p k) W n1 hk rfl (by simp) hc
  have T4 := fun b W hc => times_c b [4, C, e, e, e] 5 (M.ipow p k) W n1 hk rfl (by simp) hc
  generalize M.prod [4, D, m, m, m] % M.ipow p k = p1 at *
  generalize M.prod [2, A, m, e, e] % M.ipow p k = p2 at *
  generalize M.prod [2, A, m, m, e] % M.ipow p k = p3 at *
  generalize M.prod [4, C, e, e, e] % M.ipow p k = p4 at *
  generalize hxv : M.qval D A C m e % M.ipow p k = xv at *
  clear hxv
  have o1 : 0 ≤ M.ofn (M.byM D A m e % M.ipow p k) p k ∧ M.ofn (M.byM D A m e % M.ipow p k) p k ≤ k := by
    unfold M.ofn
    split
    · omega
    · rename_i h
      have := M.valn_res hp h y0.1 (Int.emod_lt_of_pos _ (by omega))
      omega
  have o2 : 0 ≤ M.ofn (M.byE A C m e % M.ipow p k) p k ∧ M.ofn (M.byE A C m e % M.ipow p k) p k ≤ k := by
    unfold M.ofn
    split
    · omega
    · rename_i h
      have := M.valn_res hp h y1.1 (Int.emod_lt_of_pos _ (by omega))
      omega
  have C1 := fun bn bk bp W => capped_c (p1 + p2) (M.ipow p k) p k bn bk bp W (by omega) hp n1 hk
  have C2 := fun bn bk bp W => capped_c (p3 + p4) (M.ipow p k) p k bn bk bp W (by omega) hp n1 hk
  rw [s1] at C1
  rw [s2] at C2
  unfold M.lw
  generalize M.ofn (M.byM D A m e % M.ipow p k) p k = a1 at *
  generalize M.ofn (M.byE A C m e % M.ipow p k) p k = a2 at *
  have hvn : xv ≠ 0 → 0 ≤ M.valn xv p ∧ M.valn xv p < k := fun h => by
    have := M.valn_res hp h v0.1 v1
    omega
  have P4 := fun (h : xv ≠ 0) W => valuation_c xv p W h hp (by omega) (by omega)
  generalize M.valn xv p = vv at *
  obtain ⟨res, hres⟩ : ∃ res, decide (2 * (if xv = 0 then min a1 a2 else min (min a1 a2) (vv / 2 + if p = 2 then 1 else 0)) + 1 ≤ (k : Int)) = res := ⟨_, rfl⟩
  rw [hres]
  have HR := Lib.hid hres
  clear hres
  generalize hN : M.ipow p k = n at *
  have H1 := Lib.hid T1
  have H2 := Lib.hid T2
  have H3 := Lib.hid T3
  have H4 := Lib.hid T4
  have PP := Lib.hid PP
  have P1 := Lib.hid P1
  have P2 := Lib.hid P2
  have C1 := Lib.hid C1
  have C2 := Lib.hid C2
  have P4 := Lib.hid P4
  have hvn := Lib.hid hvn
  clear T1 T2 T3 T4 PC s1 s2 hq y0 y1 hN hps hk
  go_enter Tryz.func131, Tryz.ntmps131
  go_upto_region 6 with (first | (go_at_call 138; (with_reducible refine (PP.out _).mono ?_); rintro e_ w2 ⟨rfl, hb⟩; (have hbz := hb.size); (have d0 := keepCell hb c0); (have d1 := keepCell hb c1); (have d2 := keepCell hb c2); (have d3 := keepCell hb c3); (have d4 := keepCell hb c4)) | (go_at_call 139; (with_reducible refine (P1.out _).mono ?_); rintro e_ w3 ⟨rfl, rfl⟩))
  have hbw : Below w.heap.size w (w2.alloc (.cells #[.int .i64 n] 3)) := by have h_ := hb; exact (by repeat (first | exact Below.refl _ _ | refine below_alloc ?_ _ | refine below_step ?_ (by assumption) | refine Below.drew ?_ | refine Below.setCell ?_ (by first | exact Nat.le_refl _ | exact Nat.le_add_right _ _ | (simp <;> omega)) _ | refine below_drewN ?_ _))
  have gn : (w2.alloc (.cells #[.int .i64 n] 3)).cell? ⟨w2.heap.size, 0, none⟩ = some (.int .i64 n) := by simp [go_sem]
  have hba : Below w2.heap.size w2 (w2.alloc (.cells #[.int .i64 n] 3)) := (Below.refl _ _).alloc (Nat.le_refl _) _
  replace d0 := keepCell hba d0
  replace d1 := keepCell hba d1
  replace d2 := keepCell hba d2
  replace d3 := keepCell hba d3
  replace d4 := keepCell hba d4
  clear hba hb PP P1 c0 c1 c2 c3 c4
  generalize hgb : w2.heap.size = bn at *
  clear hgb
  generalize w2.alloc (.cells #[.int .i64 n] 3) = w4 at *
  refine Rg.walk [.is (.func (.func 140) #[] #[.pointer (some ⟨bn, 0, none⟩), .pointer (some ⟨w.heap.size + 2, 0, none⟩), .pointer (some ⟨w.heap.size + 1, 0, none⟩)]), .is (.int .i64 n), .is (.pointer (some ⟨w.heap.size, 0, none⟩)), .is (.int .i64 D), .is (.int .i64 m), .is (.int .i64 m), .is (.int .i64 m), .lit [4, D, m, m, m], .is (.int .i64 p1), .is (.int .i64 n), .is (.pointer (some ⟨w.heap.size, 1, none⟩)), .is (.int .i64 A), .is (.int .i64 m), .is (.int .i64 e), .is (.int .i64 e), .lit [2, A, m, e, e], .is (.int .i64 p2), .is (.int .i64 (p1 + p2)), .is (.int .i64 a1), .is (.func (.func 140) #[] #[.pointer (some ⟨bn, 0, none⟩), .pointer (some ⟨w.heap.size + 2, 0, none⟩), .pointer (some ⟨w.heap.size + 1, 0, none⟩)]), .is (.int .i64 n), .is (.pointer (some ⟨w.heap.size, 1, none⟩)), .is (.int .i64 A), .is (.int .i64 m), .is (.int .i64 m), .is (.int .i64 e), .lit [2, A, m, m, e], .is (.int .i64 p3), .is (.int .i64 n), .is (.pointer (some ⟨w.heap.size, 2, none⟩)), .is (.int .i64 C), .is (.int .i64 e), .is (.int .i64 e), .is (.int .i64 e), .lit [4, C, e, e, e], .is (.int .i64 p4), .is (.int .i64 (p3 + p4)), .is (.int .i64 a2), .is (.int .i64 (min a1 a2)), .is (.int .i64 (min a1 a2))] (by kernel_rfl) (by kernel_rfl) ⟨?_, ?_, ?_, ?_, ?_, ?_, ?_, ?_, ?_, ?_, ?_, ?_, ?_, ?_, ?_, ?_, ?_, ?_, ?_, ?_, ?_, ?_, ?_, ?_, ?_, ?_, ?_, ?_, ?_, ?_, ?_, ?_, ?_, ?_, ?_, ?_, ?_, ?_, ?_, ?_, trivial⟩ ?_
  · intro a w_ hB hr
    have e13 : a.tmps[13]? = some (.func (.func 140) #[] #[.pointer (some ⟨bn, 0, none⟩), .pointer (some ⟨w.heap.size + 2, 0, none⟩), .pointer (some ⟨w.heap.size + 1, 0, none⟩)]) := hr 13 (by decide)
    exact Rg.pure1 rfl (by first | (go_simp; done) | (go_simp; exact Rg.wr (by omega) (by omega)))
  · intro a w_ hB hr
    have e12 : a.tmps[12]? = some (.int .i64 n) := hr 12 (by decide)
    exact Rg.pure1 rfl (by first | (go_simp; done) | (go_simp; exact Rg.wr (by omega) (by omega)))
  · intro a w_ hB hr
    have e5 : a.tmps[5]? = some (.pointer (some ⟨w.heap.size, 0, none⟩)) := hr 5 (by decide)
    exact Rg.pure1 rfl (by first | (go_simp; done) | (go_simp; exact Rg.wr (by omega) (by omega)))
  · intro a w_ hB hr
    have e31 : a.tmps[31]? = some (.pointer (some ⟨w.heap.size, 0, none⟩)) := Rg.ev1 (hr 31 (by decide))
    have k0 := keepCell hB d0
    exact Rg.pure1 rfl (by first | (go_simp; done) | (go_simp; exact Rg.wr (by omega) (by omega)))
  · intro a w_ hB hr
    have e1 : a.tmps[1]? = some (.int .i64 m) := hr 1 (by decide)
    exact Rg.pure1 rfl (by first | (go_simp; done) | (go_simp; exact Rg.wr (by omega) (by omega)))
  · intro a w_ hB hr
    have e1 : a.tmps[1]? = some (.int .i64 m) := hr 1 (by decide)
    exact Rg.pure1 rfl (by first | (go_simp; done) | (go_simp; exact Rg.wr (by omega) (by omega)))
  · intro a w_ hB hr
    have e1 : a.tmps[1]? = some (.int .i64 m) := hr 1 (by decide)
    exact Rg.pure1 rfl (by first | (go_simp; done) | (go_simp; exact Rg.wr (by omega) (by omega)))
  · intro a w_ hB hr
    have e32 : a.tmps[32]? = some (.int .i64 D) := Rg.ev1 (hr 32 (by decide))
    have e33 : a.tmps[33]? = some (.int .i64 m) := Rg.ev1 (hr 33 (by decide))
    have e34 : a.tmps[34]? = some (.int .i64 m) := Rg.ev1 (hr 34 (by decide))
    have e35 : a.tmps[35]? = some (.int .i64 m) := Rg.ev1 (hr 35 (by decide))
    have ec : ∀ v, a.eval (.const v) = v := fun _ => rfl
    refine Rg.lay1 rfl (by first | (go_simp; done) | (go_simp; rfl)) ⟨w_.heap.size, rfl, by simp, lit_cells w_ 3 _⟩
  · intro a w_ hB hr
    have e30 : a.tmps[30]? = some (.int .i64 n) := Rg.ev1 (hr 30 (by decide))
    obtain ⟨_, g36, b36, rfl, l36, c36⟩ : ∃ v, a.tmps[36]? = some v ∧ Rg.LitOk v [4, D, m, m, m] w_ := hr 36 (by decide)
    have e36 := g36
    have ef : ∀ f, a.eval (.func f) = .func (.func f) #[] #[] := fun _ => rfl
    refine Rg.call1 rfl (by go_simp; exact ⟨rfl, rfl⟩) ?_
    refine (H1.out b36 _ c36).mono ?_
    rintro _ _ ⟨rfl, rfl⟩
    exact ⟨_, rfl, rfl, Below.refl _ _⟩
  · intro a w_ hB hr
    have e12 : a.tmps[12]? = some (.int .i64 n) := hr 12 (by decide)
    exact Rg.pure1 rfl (by first | (go_simp; done) | (go_simp; exact Rg.wr (by omega) (by omega)))
  · intro a w_ hB hr
    have e5 : a.tmps[5]? = some (.pointer (some ⟨w.heap.size, 0, none⟩)) := hr 5 (by decide)
    exact Rg.pure1 rfl (by first | (go_simp; done) | (go_simp; exact Rg.wr (by omega) (by omega)))
  · intro a w_ hB hr
    have e39 : a.tmps[39]? = some (.pointer (some ⟨w.heap.size, 1, none⟩)) := Rg.ev1 (hr 39 (by decide))
    have k0 := keepCell hB d1
    exact Rg.pure1 rfl (by first | (go_simp; done) | (go_simp; exact Rg.wr (by omega) (by omega)))
  · intro a w_ hB hr
    have e1 : a.tmps[1]? = some (.int .i64 m) := hr 1 (by decide)
    exact Rg.pure1 rfl (by first | (go_simp; done) | (go_simp; exact Rg.wr (by omega) (by omega)))
  · intro a w_ hB hr
    have e2 : a.tmps[2]? = some (.int .i64 e) := hr 2 (by decide)
    exact Rg.pure1 rfl (by first | (go_simp; done) | (go_simp; exact Rg.wr (by omega) (by omega)))
  · intro a w_ hB hr
    have e2 : a.tmps[2]? = some (.int .i64 e) := hr 2 (by decide)
    exact Rg.pure1 rfl (by first | (go_simp; done) | (go_simp; exact Rg.wr (by omega) (by omega)))
  · intro a w_ hB hr
    have e40 : a.tmps[40]? = some (.int .i64 A) := Rg.ev1 (hr 40 (by decide))
    have e41 : a.tmps[41]? = some (.int .i64 m) := Rg.ev1 (hr 41 (by decide))
    have e42 : a.tmps[42]? = some (.int .i64 e) := Rg.ev1 (hr 42 (by decide))
    have e43 : a.tmps[43]? = some (.int .i64 e) := Rg.ev1 (hr 43 (by decide))
    have ec : ∀ v, a.eval (.const v) = v := fun _ => rfl
    refine Rg.lay1 rfl (by first | (go_simp; done) | (go_simp; rfl)) ⟨w_.heap.size, rfl, by simp, lit_cells w_ 3 _⟩
  · intro a w_ hB hr
    have e38 : a.tmps[38]? = some (.int .i64 n) := Rg.ev1 (hr 38 (by decide))
    obtain ⟨_, g44, b44, rfl, l44, c44⟩ : ∃ v, a.tmps[44]? = some v ∧ Rg.LitOk v [2, A, m, e, e] w_ := hr 44 (by decide)
    have e44 := g44
    have ef : ∀ f, a.eval (.func f) = .func (.func f) #[] #[] := fun _ => rfl
    refine Rg.call1 rfl (by go_simp; exact ⟨rfl, rfl⟩) ?_
    refine (H2.out b44 _ c44).mono ?_
    rintro _ _ ⟨rfl, rfl⟩
    exact ⟨_, rfl, rfl, Below.refl _ _⟩
  · intro a w_ hB hr
    have e37 : a.tmps[37]? = some (.int .i64 p1) := Rg.ev1 (hr 37 (by decide))
    have e45 : a.tmps[45]? = some (.int .i64 p2) := Rg.ev1 (hr 45 (by decide))
    exact Rg.pure1 rfl (by first | (go_simp; done) | (go_simp; exact Rg.wr (by omega) (by omega)))
  · intro a w_ hB hr
    have e29 : a.tmps[29]? = some (.func (.func 140) #[] #[.pointer (some ⟨bn, 0, none⟩), .pointer (some ⟨w.heap.size + 2, 0, none⟩), .pointer (some ⟨w.heap.size + 1, 0, none⟩)]) := Rg.ev1 (hr 29 (by decide))
    have e46 : a.tmps[46]? = some (.int .i64 (p1 + p2)) := Rg.ev1 (hr 46 (by decide))
    refine Rg.call1 rfl (by go_simp; exact ⟨rfl, rfl⟩) ?_
    refine (C1.out _ _ _ _ (keepCell hB gn) (keepCell hB d4) (keepCell hB d3)).mono ?_
    rintro _ _ ⟨rfl, hb_⟩
    exact ⟨_, rfl, rfl, hb_⟩
  · intro a w_ hB hr
    have e13 : a.tmps[13]? = some (.func (.func 140) #[] #[.pointer (some ⟨bn, 0, none⟩), .pointer (some ⟨w.heap.size + 2, 0, none⟩), .pointer (some ⟨w.heap.size + 1, 0, none⟩)]) := hr 13 (by decide)
    exact Rg.pure1 rfl (by first | (go_simp; done) | (go_simp; exact Rg.wr (by omega) (by omega)))
  · intro a w_ hB hr
    have e12 : a.tmps[12]? = some (.int .i64 n) := hr 12 (by decide)
    exact Rg.pure1 rfl (by first | (go_simp; done) | (go_simp; exact Rg.wr (by omega) (by omega)))
  · intro a w_ hB hr
    have e5 : a.tmps[5]? = some (.pointer (some ⟨w.heap.size, 0, none⟩)) := hr 5 (by decide)
    exact Rg.pure1 rfl (by first | (go_simp; done) | (go_simp; exact Rg.wr (by omega) (by omega)))
  · intro a w_ hB hr
    have e50 : a.tmps[50]? = some (.pointer (some ⟨w.heap.size, 1, none⟩)) := Rg.ev1 (hr 50 (by decide))
    have k0 := keepCell hB d1
    exact Rg.pure1 rfl (by first | (go_simp; done) | (go_simp; exact Rg.wr (by omega) (by omega)))
  · intro a w_ hB hr
    have e1 : a.tmps[1]? = some (.int .i64 m) := hr 1 (by decide)
    exact Rg.pure1 rfl (by first | (go_simp; done) | (go_simp; exact Rg.wr (by omega) (by omega)))
  · intro a w_ hB hr
    have e1 : a.tmps[1]? = some (.int .i64 m) := hr 1 (by decide)
    exact Rg.pure1 rfl (by first | (go_simp; done) | (go_simp; exact Rg.wr (by omega) (by omega)))
  · intro a w_ hB hr
    have e2 : a.tmps[2]? = some (.int .i64 e) := hr 2 (by decide)
    exact Rg.pure1 rfl (by first | (go_simp; done) | (go_simp; exact Rg.wr (by omega) (by omega)))
  · intro a w_ hB hr
    have e51 : a.tmps[51]? = some (.int .i64 A) := Rg.ev1 (hr 51 (by decide))
    have e52 : a.tmps[52]? = some (.int .i64 m) := Rg.ev1 (hr 52 (by decide))
    have e53 : a.tmps[53]? = some (.int .i64 m) := Rg.ev1 (hr 53 (by decide))
    have e54 : a.tmps[54]? = some (.int .i64 e) := Rg.ev1 (hr 54 (by decide))
    have ec : ∀ v, a.eval (.const v) = v := fun _ => rfl
    refine Rg.lay1 rfl (by first | (go_simp; done) | (go_simp; rfl)) ⟨w_.heap.size, rfl, by simp, lit_cells w_ 3 _⟩
  · intro a w_ hB hr
    have e49 : a.tmps[49]? = some (.int .i64 n) := Rg.ev1 (hr 49 (by decide))
    obtain ⟨_, g55, b55, rfl, l55, c55⟩ : ∃ v, a.tmps[55]? = some v ∧ Rg.LitOk v [2, A, m, m, e] w_ := hr 55 (by decide)
    have e55 := g55
    have ef : ∀ f, a.eval (.func f) = .func (.func f) #[] #[] := fun _ => rfl
    refine Rg.call1 rfl (by go_simp; exact ⟨rfl, rfl⟩) ?_
    refine (H3.out b55 _ c55).mono ?_
    rintro _ _ ⟨rfl, rfl⟩
    exact ⟨_, rfl, rfl, Below.refl _ _⟩
  · intro a w_ hB hr
    have e12 : a.tmps[12]? = some (.int .i64 n) := hr 12 (by decide)
    exact Rg.pure1 rfl (by first | (go_simp; done) | (go_simp; exact Rg.wr (by omega) (by omega)))
  · intro a w_ hB hr
    have e5 : a.tmps[5]? = some (.pointer (some ⟨w.heap.size, 0, none⟩)) := hr 5 (by decide)
    exact Rg.pure1 rfl (by first | (go_simp; done) | (go_simp; exact Rg.wr (by omega) (by omega)))
  · intro a w_ hB hr
    have e58 : a.tmps[58]? = some (.pointer (some ⟨w.heap.size, 2, none⟩)) := Rg.ev1 (hr 58 (by decide))
    have k0 := keepCell hB d2
    exact Rg.pure1 rfl (by first | (go_simp; done) | (go_simp; exact Rg.wr (by omega) (by omega)))
  · intro a w_ hB hr
    have e2 : a.tmps[2]? = some (.int .i64 e) := hr 2 (by decide)
    exact Rg.pure1 rfl (by first | (go_simp; done) | (go_simp; exact Rg.wr (by omega) (by omega)))
  · intro a w_ hB hr
    have e2 : a.tmps[2]? = some (.int .i64 e) := hr 2 (by decide)
    exact Rg.pure1 rfl (by first | (go_simp; done) | (go_simp; exact Rg.wr (by omega) (by omega)))
  · intro a w_ hB hr
    have e2 : a.tmps[2]? = some (.int .i64 e) := hr 2 (by decide)
    exact Rg.pure1 rfl (by first | (go_simp; done) | (go_simp; exact Rg.wr (by omega) (by omega)))
  · intro a w_ hB hr
    have e59 : a.tmps[59]? = some (.int .i64 C) := Rg.ev1 (hr 59 (by decide))
    have e60 : a.tmps[60]? = some (.int .i64 e) := Rg.ev1 (hr 60 (by decide))
    have e61 : a.tmps[61]? = some (.int .i64 e) := Rg.ev1 (hr 61 (by decide))
    have e62 : a.tmps[62]? = some (.int .i64 e) := Rg.ev1 (hr 62 (by decide))
    have ec : ∀ v, a.eval (.const v) = v := fun _ => rfl
    refine Rg.lay1 rfl (by first | (go_simp; done) | (go_simp; rfl)) ⟨w_.heap.size, rfl, by simp, lit_cells w_ 3 _⟩
  · intro a w_ hB hr
    have e57 : a.tmps[57]? = some (.int .i64 n) := Rg.ev1 (hr 57 (by decide))
    obtain ⟨_, g63, b63, rfl, l63, c63⟩ : ∃ v, a.tmps[63]? = some v ∧ Rg.LitOk v [4, C, e, e, e] w_ := hr 63 (by decide)
    have e63 := g63
    have ef : ∀ f, a.eval (.func f) = .func (.func f) #[] #[] := fun _ => rfl
    refine Rg.call1 rfl (by go_simp; exact ⟨rfl, rfl⟩) ?_
    refine (H4.out b63 _ c63).mono ?_
    rintro _ _ ⟨rfl, rfl⟩
    exact ⟨_, rfl, rfl, Below.refl _ _⟩
  · intro a w_ hB hr
    have e56 : a.tmps[56]? = some (.int .i64 p3) := Rg.ev1 (hr 56 (by decide))
    have e64 : a.tmps[64]? = some (.int .i64 p4) := Rg.ev1 (hr 64 (by decide))
    exact Rg.pure1 rfl (by first | (go_simp; done) | (go_simp; exact Rg.wr (by omega) (by omega)))
  · intro a w_ hB hr
    have e48 : a.tmps[48]? = some (.func (.func 140) #[] #[.pointer (some ⟨bn, 0, none⟩), .pointer (some ⟨w.heap.size + 2, 0, none⟩), .pointer (some ⟨w.heap.size + 1, 0, none⟩)]) := Rg.ev1 (hr 48 (by decide))
    have e65 : a.tmps[65]? = some (.int .i64 (p3 + p4)) := Rg.ev1 (hr 65 (by decide))
    refine Rg.call1 rfl (by go_simp; exact ⟨rfl, rfl⟩) ?_
    refine (C2.out _ _ _ _ (keepCell hB gn) (keepCell hB d4) (keepCell hB d3)).mono ?_
    rintro _ _ ⟨rfl, hb_⟩
    exact ⟨_, rfl, rfl, hb_⟩
  · intro a w_ hB hr
    have e47 : a.tmps[47]? = some (.int .i64 a1) := Rg.ev1 (hr 47 (by decide))
    have e66 : a.tmps[66]? = some (.int .i64 a2) := Rg.ev1 (hr 66 (by decide))
    exact Rg.pure1 rfl (by go_simp; split <;> omega)
  · intro a w_ hB hr
    have e67 : a.tmps[67]? = some (.int .i64 (min a1 a2)) := Rg.ev1 (hr 67 (by decide))
    exact Rg.pure1 rfl (by first | (go_simp; done) | (go_simp; exact Rg.wr (by omega) (by omega)))
  · intro vals wz hB hv
    have v0 : vals 0 = .func (.func 140) #[] #[.pointer (some ⟨bn, 0, none⟩), .pointer (some ⟨w.heap.size + 2, 0, none⟩), .pointer (some ⟨w.heap.size + 1, 0, none⟩)] := hv 0 (by decide)
    have v1 : vals 1 = .int .i64 n := hv 1 (by decide)
    have v2 : vals 2 = .pointer (some ⟨w.heap.size, 0, none⟩) := hv 2 (by decide)
    have v3 : vals 3 = .int .i64 D := hv 3 (by decide)
    have v4 : vals 4 = .int .i64 m := hv 4 (by decide)
    have v5 : vals 5 = .int .i64 m := hv 5 (by decide)
    have v6 : vals 6 = .int .i64 m := hv 6 (by decide)
    obtain ⟨y7, v7, -, -⟩ : Rg.LitOk (vals 7) [4, D, m, m, m] wz := hv 7 (by decide)
    have v8 : vals 8 = .int .i64 p1 := hv 8 (by decide)
    have v9 : vals 9 = .int .i64 n := hv 9 (by decide)
    have v10 : vals 10 = .pointer (some ⟨w.heap.size, 1, none⟩) := hv 10 (by decide)
    have v11 : vals 11 = .int .i64 A := hv 11 (by decide)
    have v12 : vals 12 = .int .i64 m := hv 12 (by decide)
    have v13 : vals 13 = .int .i64 e := hv 13 (by decide)
    have v14 : vals 14 = .int .i64 e := hv 14 (by decide)
    obtain ⟨y15, v15, -, -⟩ : Rg.LitOk (vals 15) [2, A, m, e, e] wz := hv 15 (by decide)
    have v16 : vals 16 = .int .i64 p2 := hv 16 (by decide)
    have v17 : vals 17 = .int .i64 (p1 + p2) := hv 17 (by decide)
    have v18 : vals 18 = .int .i64 a1 := hv 18 (by decide)
    have v19 : vals 19 = .func (.func 140) #[] #[.pointer (some ⟨bn, 0, none⟩), .pointer (some ⟨w.heap.size + 2, 0, none⟩), .pointer (some ⟨w.heap.size + 1, 0, none⟩)] := hv 19 (by decide)
    have v20 : vals 20 = .int .i64 n := hv 20 (by decide)
    have v21 : vals 21 = .pointer (some ⟨w.heap.size, 1, none⟩) := hv 21 (by decide)
    have v22 : vals 22 = .int .i64 A := hv 22 (by decide)
    have v23 : vals 23 = .int .i64 m := hv 23 (by decide)
    have v24 : vals 24 = .int .i64 m := hv 24 (by decide)
    have v25 : vals 25 = .int .i64 e := hv 25 (by decide)
    obtain ⟨y26, v26, -, -⟩ : Rg.LitOk (vals 26) [2, A, m, m, e] wz := hv 26 (by decide)
    have v27 : vals 27 = .int .i64 p3 := hv 27 (by decide)
    have v28 : vals 28 = .int .i64 n := hv 28 (by decide)
    have v29 : vals 29 = .pointer (some ⟨w.heap.size, 2, none⟩) := hv 29 (by decide)
    have v30 : vals 30 = .int .i64 C := hv 30 (by decide)
    have v31 : vals 31 = .int .i64 e := hv 31 (by decide)
    have v32 : vals 32 = .int .i64 e := hv 32 (by decide)
    have v33 : vals 33 = .int .i64 e := hv 33 (by decide)
    obtain ⟨y34, v34, -, -⟩ : Rg.LitOk (vals 34) [4, C, e, e, e] wz := hv 34 (by decide)
    have v35 : vals 35 = .int .i64 p4 := hv 35 (by decide)
    have v36 : vals 36 = .int .i64 (p3 + p4) := hv 36 (by decide)
    have v37 : vals 37 = .int .i64 a2 := hv 37 (by decide)
    have v38 : vals 38 = .int .i64 (min a1 a2) := hv 38 (by decide)
    have v39 : vals 39 = .int .i64 (min a1 a2) := hv 39 (by decide)
    simp only [Rg.fill, if_true, Act.put, List.setIfInBounds_toArray, List.set_cons_zero, List.set_cons_succ, Nat.zero_add, Nat.reduceAdd, v0, v1, v2, v3, v4, v5, v6, v7, v8, v9, v10, v11, v12, v13, v14, v15, v16, v17, v18, v19, v20, v21, v22, v23, v24, v25, v26, v27, v28, v29, v30, v31, v32, v33, v34, v35, v36, v37, v38, v39]
    clear hv v0 v1 v2 v3 v4 v5 v6 v7 v8 v9 v10 v11 v12 v13 v14 v15 v16 v17 v18 v19 v20 v21 v22 v23 v24 v25 v26 v27 v28 v29 v30 v31 v32 v33 v34 v35 v36 v37 v38 v39
    have hbq := hbw.trans (hB.mono hbw.size)
    have f0 := keepCell hB d0
    have f1 := keepCell hB d1
    have f2 := keepCell hB d2
    have f3 := keepCell hB d3
    have f4 := keepCell hB d4
    have f5 := keepCell hB gn
    clear d0 d1 d2 d3 d4 gn hB H1 H2 H3 H4 C1 C2
    by_cases hx0 : xv = 0
    · have HR2 := HR.out
      rw [if_pos hx0] at HR2
      have HR3 := Lib.hid HR2
      clear HR HR2
      subst hx0
      go_wp2_with (go_at_call 142; (with_reducible refine (P2.out _).mono ?_); rintro e_ w5 ⟨rfl, hb5⟩; (have j4 := keepCell hb5 f4))
      all_goals (go_ret; exact ⟨ret_b (by refine Eq.trans ?_ HR3.out; first | rfl | (rw [decide_eq_decide]; omega)), hbq.trans (hb5.mono hbq.size)⟩)
    · have HR2 := HR.out
      clear HR
      rw [if_neg hx0] at HR2
      obtain ⟨v3, v4⟩ := hvn.out hx0
      have P4 := Lib.hid (P4.out hx0)
      have e1 : vv.tdiv 2 = vv / 2 := Int.tdiv_eq_ediv_of_nonneg v3
      by_cases hp3 : p = 2
      · rw [if_pos hp3] at HR2
        have HR3 := Lib.hid HR2
        clear HR2
        subst hp3
        go_wp2_with (first | (go_at_call 142; (with_reducible refine (P2.out _).mono ?_); rintro e_ w5 ⟨rfl, hb5⟩; (have j4 := keepCell hb5 f4); (have j3 := keepCell hb5 f3)) | (go_at_call 85; (with_reducible refine (P4.out _).mono ?_); rintro e w' ⟨rfl, rfl⟩))
        all_goals (go_ret; exact ⟨ret_b (by refine Eq.trans ?_ HR3.out; first | rfl | (rw [decide_eq_decide]; omega)), hbq.trans (hb5.mono hbq.size)⟩)
      · rw [if_neg hp3, Int.add_zero] at HR2
        have HR3 := Lib.hid HR2
        clear HR2
        go_wp2_with (first | (go_at_call 142; (with_reducible refine (P2.out _).mono ?_); rintro e_ w5 ⟨rfl, hb5⟩; (have j4 := keepCell hb5 f4); (have j3 := keepCell hb5 f3)) | (go_at_call 85; (with_reducible refine (P4.out _).mono ?_); rintro e w' ⟨rfl, rfl⟩))
        all_goals (go_ret; exact ⟨ret_b (by refine Eq.trans ?_ HR3.out; first | rfl | (rw [decide_eq_decide]; omega)), hbq.trans (hb5.mono hbq.size)⟩)
end Go.Proofs.YtmipenpeebmjkaaGreat

namespace Go.Proofs.YtmipenpeebmjkaaGreat
set_option linter.unusedSimpArgs false
set_option linter.unusedVariables false
open Go.RowKit
attribute [local go_sem] Oper.semAt_some
/-- the function's boxes -/
abbrev FlW (w : World) (D A C : Int) (p : Nat) (k : Int) : World :=
  ((((w.alloc (.cells #[.int .i64 D, .int .i64 A, .int .i64 C] 63)).alloc (.cells #[.int .i64 p] 3)).alloc (.cells #[.int .i64 k] 3)).alloc (.cells #[.int .i64 0, .int .i64 0] 112)).alloc (.cells #[.bool false] 4)
theorem below_keepsFrom {B : Nat} {W W' : World} (h : Below W.heap.size W W') : KeepsFrom B W W' := by
  exact ⟨h.size, fun i o _ ho _ => (h.block i (Array.getElem?_eq_some_iff.1 ho).1).trans ho⟩
/-- what the function's boxes hold -/
def FlC (b : Nat) (D A C : Int) (p : Nat) (k : Int) (W : World) : Prop :=
  (W.cell? ⟨b, 0, none⟩ = some (.int .i64 D) ∧ W.cell? ⟨b, 1, none⟩ = some (.int .i64 A) ∧ W.cell? ⟨b, 2, none⟩ = some (.int .i64 C)) ∧ W.cell? ⟨b + 1, 0, none⟩ = some (.int .i64 p) ∧ W.cell? ⟨b + 2, 0, none⟩ = some (.int .i64 k)
def FlR (b : Nat) (u v : Int) (r : Bool) (W : World) : Prop :=
  (W.cell? ⟨b + 3, 0, none⟩ = some (.int .i64 u) ∧ W.cell? ⟨b + 3, 1, none⟩ = some (.int .i64 v) ∧ W.cell? ⟨b + 4, 0, none⟩ = some (.bool r)) ∧ W.frozen? ⟨b + 3, 0, none⟩ = false ∧ W.frozen? ⟨b + 3, 1, none⟩ = false ∧ W.frozen? ⟨b + 4, 0, none⟩ = false
theorem FlR.lt {b : Nat} {u v : Int} {r : Bool} {W : World} (h : FlR b u v r W) : b + 4 < W.heap.size := by
  obtain ⟨o, ho, -⟩ := cells_of_cell h.1.2.2
  exact (Array.getElem?_eq_some_iff.1 ho).1
/-- what is stored at the end -/
theorem FlR.put {b : Nat} {u v : Int} {r : Bool} {W : World} (h : FlR b u v r W) (u' v' : Int) (r' : Bool) :
    FlR b u' v' r' (((W.setCell ⟨b + 1 + 1 + 1, 0, none⟩ (.int .i64 u')).setCell ⟨b + 1 + 1 + 1, 1, none⟩ (.int .i64 v')).setCell ⟨b + 1 + 1 + 1 + 1, 0, none⟩ (.bool r')) := by
  obtain ⟨⟨h1, h2, h3⟩, h4, h5, h6⟩ := h
  have n1 : (⟨b + 1 + 1 + 1 + 1, 0, none⟩ : Addr) ≠ ⟨b + 3, 0, none⟩ := fun e => by injection e with e; omega
  have n2 : (⟨b + 1 + 1 + 1 + 1, 0, none⟩ : Addr) ≠ ⟨b + 3, 1, none⟩ := fun e => by injection e with e; omega
  have n3 : (⟨b + 1 + 1 + 1, 1, none⟩ : Addr) ≠ ⟨b + 3, 0, none⟩ := fun e => by injection e with _ e; omega
  have n4 : (⟨b + 1 + 1 + 1, 0, none⟩ : Addr) ≠ ⟨b + 3, 1, none⟩ := fun e => by injection e with _ e; omega
  have n5 : (⟨b + 1 + 1 + 1, 1, none⟩ : Addr) ≠ ⟨b + 4, 0, none⟩ := fun e => by injection e with e; omega
  have n6 : (⟨b + 1 + 1 + 1, 0, none⟩ : Addr) ≠ ⟨b + 4, 0, none⟩ := fun e => by injection e with e; omega
  refine ⟨⟨?_, ?_, ?_⟩, ?_, ?_, ?_⟩
  · rw [World.cell?_setCell_other _ _ _ _ n1, World.cell?_setCell_other _ _ _ _ n3]
    exact World.cell?_setCell_same _ _ _ h1
  · rw [World.cell?_setCell_other _ _ _ _ n2]
    exact World.cell?_setCell_same _ _ _ ((World.cell?_setCell_other _ _ _ _ n4).trans h2)
  · exact World.cell?_setCell_same _ _ _ ((World.cell?_setCell_other _ _ _ _ n5).trans ((World.cell?_setCell_other _ _ _ _ n6).trans h3))
  all_goals (rw [World.frozen?_setCell, World.frozen?_setCell, World.frozen?_setCell]; assumption)
theorem put_keeps {B b : Nat} {x y z : Value} (W : World) : KeepsFrom B W (((W.setCell ⟨b + 1 + 1 + 1, 0, none⟩ x).setCell ⟨b + 1 + 1 + 1, 1, none⟩ y).setCell ⟨b + 1 + 1 + 1 + 1, 0, none⟩ z) :=
  (((KeepsOthers.setCell _ _ _).trans (KeepsOthers.setCell _ _ _)).trans (KeepsOthers.setCell _ _ _)).from _
theorem put_below {b : Nat} {x y z : Value} {w W : World} (h : Below b w W) : Below b w (((W.setCell ⟨b + 1 + 1 + 1, 0, none⟩ x).setCell ⟨b + 1 + 1 + 1, 1, none⟩ y).setCell ⟨b + 1 + 1 + 1 + 1, 0, none⟩ z) :=
  ((h.setCell (p := ⟨b + 1 + 1 + 1, 0, none⟩) (by show b ≤ b + 1 + 1 + 1; omega) _).setCell (p := ⟨b + 1 + 1 + 1, 1, none⟩) (by show b ≤ b + 1 + 1 + 1; omega) _).setCell (p := ⟨b + 1 + 1 + 1 + 1, 0, none⟩) (by show b ≤ b + 1 + 1 + 1 + 1; omega) _
theorem flC_own {β : Type} (b : Nat) (D A C : Int) (p : Nat) (k : Int) : Own (fun (_ : β) W => FlC b D A C p k W) := fun _ _ _ _ hs hg hr =>
  ⟨⟨cell_kept hs.1.1 hg hr, cell_kept hs.1.2.1 hg hr, cell_kept hs.1.2.2 hg hr⟩, cell_kept hs.2.1 hg hr, cell_kept hs.2.2 hg hr⟩
theorem FlR.kept {b : Nat} {u v : Int} {r : Bool} {W W' : World} {row : Option Nat} (hs : FlR b u v r W) (hg : W.grownBy W' row) (hr : ∀ r, row = some r → ∃ o : Obj, W.heap[r]? = some o ∧ o.isCells = false) : FlR b u v r W' :=
  ⟨⟨cell_kept hs.1.1 hg hr, cell_kept hs.1.2.1 hg hr, cell_kept hs.1.2.2 hg hr⟩, (frozen_kept hs.1.1 hg hr).trans hs.2.1, (frozen_kept hs.1.2.1 hg hr).trans hs.2.2.1, (frozen_kept hs.1.2.2 hg hr).trans hs.2.2.2⟩
theorem FlC.below {b : Nat} {D A C : Int} {p : Nat} {k : Int} {W W' : World} (h : FlC b D A C p k W) (hb : Below W.heap.size W W') : FlC b D A C p k W' :=
  flC_own (β := Unit) b D A C p k () W W' none h (below_grown hb none) (fun r e => by cases e)
theorem FlR.below {b : Nat} {u v : Int} {r : Bool} {W W' : World} (h : FlR b u v r W) (hb : Below W.heap.size W W') : FlR b u v r W' := h.kept (below_grown hb none) (fun r e => by cases e)
set_option maxRecDepth 100000 in
set_option maxHeartbeats 4000000 in
theorem firstLift_c (D A C : Int) (p i : Nat) (l : List (Int × Int)) (a : Option Addr) (cap : Nat) (w : World) (hp1 : 2 ≤ p) (hp : p ≤ 997) (hs : M.ipow p (i + 1) ≤ 1000000000) (hi : i ≤ 28) (hl : ∀ x ∈ l, (0 ≤ x.1 ∧ x.1 ≤ 1000000000) ∧ (0 ≤ x.2 ∧ x.2 ≤ 1000000000))
    (hseen : Rw.Seen EP w w.heap.size (.slice a l.length cap) l) :
    Calls Tryz.prog 133 #[.agg #[.int .i64 D, .int .i64 A, .int .i64 C], .slice a l.length cap, .int .i64 p, .int .i64 ((i : Int) + 1)] w fun e w' =>
      ∃ x y : Int, e = .returned (.tuple #[.agg #[.int .i64 x, .int .i64 y], .bool ((M.cands p l i).any fun y => M.lift D A C y.1 y.2 p (i + 1))]) ∧ Below w.heap.size w w' := by
  refine callsIn_wide (n := 5) |>.1 ?_
  have hq1 := M.ipow_pos (show (1 : Int) ≤ (p : Int) by omega) i
  have hq2 := M.ipow_next (show (1 : Int) ≤ (p : Int) by omega) i
  have PC := fun W => candidates_c D A C p i a l.length cap W (by omega) (by omega) (by omega)
  have PL := fun (u v : Int) W => lifts_c D A C u v p (i + 1) W (by omega) (by omega) hs (by omega) (by omega)
  have PC := Lib.hid PC
  have PL := Lib.hid PL
  refine callsIn_of_wp_marks Tryz.func133 rfl trivial ?_ rfl
  simp only [Tryz.ntmps133, List.size_toArray, List.length_cons, List.length_nil, Nat.reduceAdd, Nat.reduceSub, Array.replicate_succ, Array.replicate_zero, List.push_toArray, List.append_toArray, List.nil_append, List.cons_append]
  gi_wp2_with (refine ⟨trivial, ?_⟩; gi_at_call 143; refine (callsIn_wide.2 (PC.out _)).mono ?_; rintro e w' ⟨rfl, rfl⟩)
  obtain ⟨W0, hW0⟩ : ∃ W0, CandW (FlW w D A C p ((i : Int) + 1)) D A C (.slice a l.length cap) p (M.ipow p i) = W0 := ⟨_, rfl⟩
  have hsz : W0.heap.size = w.heap.size + 9 := by rw [← hW0]; simp
  have hB0 : Below w.heap.size w W0 := by rw [← hW0]; exact (by repeat (first | exact Below.refl _ _ | refine below_alloc ?_ _ | refine below_step ?_ (by assumption) | refine Below.drew ?_ | refine Below.setCell ?_ (by first | exact Nat.le_refl _ | exact Nat.le_add_right _ _ | (simp <;> omega)) _ | refine below_drewN ?_ _))
  have k1 : W0.cell? ⟨w.heap.size + 5 + 1, 0, none⟩ = some (.slice a l.length cap) := by rw [← hW0]; simp [go_sem]
  have k2 : W0.cell? ⟨w.heap.size + 5 + 2, 0, none⟩ = some (.int .i64 p) := by rw [← hW0]; simp [go_sem]
  have k3 : W0.cell? ⟨w.heap.size + 5 + 3, 0, none⟩ = some (.int .i64 (M.ipow p i)) := by rw [← hW0]; simp [go_sem]
  have hC0 : FlC w.heap.size D A C p ((i : Int) + 1) W0 := by rw [← hW0]; exact ⟨⟨by simp [go_sem], by simp [go_sem], by simp [go_sem]⟩, by simp [go_sem], by simp [go_sem]⟩
  have hR0 : FlR w.heap.size 0 0 false W0 := by rw [← hW0]; exact ⟨⟨by simp [go_sem], by simp [go_sem], by simp [go_sem]⟩, by simp [go_sem], by simp [go_sem], by simp [go_sem]⟩
  have hst := cand_stops 4 (by omega) w.heap.size (w.heap.size + 5) p i l (.slice a l.length cap) hp (by omega) (by omega) hl W0 (by omega) (by omega) k1 k2 k3 (hseen.below hB0)
  rw [show CandW (FlW w D A C p ((i : Int) + 1)) D A C (.slice a l.length cap) p (M.ipow p i) = W0 from hW0]
  clear hW0 k1 k2 k3
  have hFl : ∀ y : Int × Int, (fun y : Int × Int => M.lift D A C y.1 y.2 p (i + 1)) y = M.lift D A C y.1 y.2 p (i + 1) := fun _ => rfl
  generalize hLL : (fun y : Int × Int => M.lift D A C y.1 y.2 p (i + 1)) = LL at *
  refine wpIn_rangeFunc_ownH rfl (by omega) (gf := 150) (lb := #[.pointer (some ⟨w.heap.size + 5 + 2, 0, none⟩), .pointer (some ⟨w.heap.size + 5 + 1, 0, none⟩), .pointer (some ⟨w.heap.size + 5 + 3, 0, none⟩)]) rfl trivial (enters_of Tryz.func150 (by kernel_rfl) rfl)
    hst (fun h k => h.trans k) (fun W l o o' hl h hc _ => KpB.other W l o o' h hc (by rintro (q | q | q | q) <;> omega)) (Below.refl _ _) (fun _ => rfl)
    (fun pre W => (pre.any LL = false ∧ FlC w.heap.size D A C p ((i : Int) + 1) W ∧ FlR w.heap.size 0 0 false W) ∧ Below w.heap.size w W)
    (fun c pre W => (c = .ret ∧ pre.any LL = true ∧ ∃ u v : Int, FlR w.heap.size u v true W) ∧ Below w.heap.size w W)
    (OwnFrom.and (Own.from (fun s A_ B_ row hs hg hr => ⟨hs.1, flC_own w.heap.size D A C p ((i : Int) + 1) s A_ B_ row hs.2.1 hg hr, hs.2.2.kept hg hr⟩) _) (ownFrom_below (Nat.le_refl _) (by omega)))
    (fun c => OwnFrom.and (Own.from (fun s A_ B_ row hs hg hr => ⟨hs.1, hs.2.1, hs.2.2.elim fun u h => h.elim fun v h => ⟨u, v, h.kept hg hr⟩⟩) _) (ownFrom_below (Nat.le_refl _) (by omega)))
    ⟨⟨rfl, hC0, hR0⟩, hB0⟩
    (fun x a' W => ∃ Bx, w.heap.size + 4 < Bx ∧ W.heap[Bx]? = some (.cells #[.int .i64 x.1, .int .i64 x.2] 112 (0, 0)) ∧ a' = { tmps := #[.agg #[.int .i64 D, .int .i64 A, .int .i64 C], .slice a l.length cap, .int .i64 p, .int .i64 ((i : Int) + 1), .pointer (some ⟨w.heap.size, 0, none⟩), undef, .pointer (some ⟨w.heap.size + 1, 0, none⟩), .pointer (some ⟨w.heap.size + 1 + 1, 0, none⟩), .pointer (some ⟨w.heap.size + 1 + 1 + 1, 0, none⟩), .pointer (some ⟨w.heap.size + 1 + 1 + 1 + 1, 0, none⟩), .pointer (some ⟨Bx, 0, none⟩), .agg #[.int .i64 D, .int .i64 A, .int .i64 C], .slice a l.length cap, .int .i64 p, .int .i64 ((i : Int) + 1), .func (.func 150) #[] #[.pointer (some ⟨w.heap.size + 1 + 1 + 1 + 1 + 1 + 2, 0, none⟩), .pointer (some ⟨w.heap.size + 1 + 1 + 1 + 1 + 1 + 1, 0, none⟩), .pointer (some ⟨w.heap.size + 1 + 1 + 1 + 1 + 1 + 3, 0, none⟩)], .agg #[.int .i64 x.1, .int .i64 x.2], undef, undef, undef, undef, undef, undef, undef, undef, undef, undef], defers := [] })
    (fun x a' _ X Y row hs hg hr => by
      obtain ⟨Bx, h1, h2, h3⟩ := hs
      exact ⟨Bx, h1, (grownBy_keeps_cells hg (fun r e => (hr r e).2) h2 rfl).trans h2, h3⟩)
    ?assign ?body ?done ?stop
  case assign =>
    rintro lr pre x W K ⟨⟨h1, h2, h3⟩, h4⟩ hK
    have hbn : Below W.heap.size W (W.alloc (.cells #[.int .i64 x.1, .int .i64 x.2] 112)) := (Below.refl _ _).alloc (Nat.le_refl _) _
    have hz := h4.size
    gi_wp2
    have hlt := h3.lt
    exact hK _ _ (below_keepsFrom hbn) (KpB.below hbn) ⟨⟨h1, h2.below hbn, h3.below hbn⟩, h4.trans (hbn.mono hz)⟩ ⟨W.heap.size, by omega, heap_alloc_new W _, rfl⟩
  case body =>
    rintro lr pre x a' W hlr ⟨r, hr⟩ ⟨⟨h1, h2, h3⟩, h4⟩ ⟨Bx, hBx, hx, rfl⟩ hlen
    obtain ⟨⟨d0, d1, d2⟩, d3, d4⟩ := h2
    have x0 : W.cell? ⟨Bx, 0, none⟩ = some (.int .i64 x.1) := by rw [cell_of_row W Bx 0 _ _ _ hx]; rfl
    have x1 : W.cell? ⟨Bx, 1, none⟩ = some (.int .i64 x.2) := by rw [cell_of_row W Bx 1 _ _ _ hx]; rfl
    have PX := fun W => PL.out x.1 x.2 W
    have hLx : LL x = M.lift D A C x.1 x.2 p (i + 1) := by rw [← hLL]
    rw [← hLx] at PX
    have hz := h4.size
    cases hl : LL x
    · rw [hl] at PX
      have PX := Lib.hid PX
      gi_wp2_with (refine ⟨trivial, ?_⟩; gi_at_call 131; refine (CallsIn.inRound lr (callsIn_wide.2 (PX.out _))).mono ?_; rintro e W' ⟨rfl, hb⟩)
      exact ⟨below_keepsFrom hb, KpB.below hb, ⟨by rw [List.any_append, h1]; simp [hl], FlC.below ⟨⟨d0, d1, d2⟩, d3, d4⟩ hb, h3.below hb⟩, h4.trans (hb.mono hz)⟩
    · rw [hl] at PX
      have PX := Lib.hid PX
      gi_wp2_with (refine ⟨trivial, ?_⟩; gi_at_call 131; refine (CallsIn.inRound lr (callsIn_wide.2 (PX.out _))).mono ?_; rintro e W' ⟨rfl, hb⟩; (have y0 := keepCell hb x0); (have y1 := keepCell hb x1); (obtain ⟨⟨g0, g1, g2⟩, f0, f1, f2⟩ := h3.below hb))
      exact ⟨(below_keepsFrom hb).trans (put_keeps _), ⟨rfl, by rw [List.any_append]; simp [hl], x.1, x.2, (h3.below hb).put _ _ _⟩, put_below (h4.trans (hb.mono hz))⟩
  case done =>
    rintro D_ xs W hD rfl ⟨⟨h1, h2, h3⟩, h4⟩ hK
    have h5 := h3.put 0 0 false
    have h6 := put_below (x := .int .i64 0) (y := .int .i64 0) (z := .bool false) h4
    have hK2 := (put_keeps (B := 0) (b := w.heap.size) (x := .int .i64 0) (y := .int .i64 0) (z := .bool false) W).same D_ _ (Nat.zero_le _) hK rfl
    obtain ⟨⟨g0, g1, g2⟩, f0, f1, f2⟩ := h3
    gi_wp2
    generalize (((W.setCell ⟨w.heap.size + 1 + 1 + 1, 0, none⟩ (.int .i64 0)).setCell ⟨w.heap.size + 1 + 1 + 1, 1, none⟩ (.int .i64 0)).setCell ⟨w.heap.size + 1 + 1 + 1 + 1, 0, none⟩ (.bool false)) = W5 at *
    refine ⟨by simp, .inl ⟨_, _, rfl, run_takeDeferred hK2, ?_⟩⟩
    obtain ⟨⟨e0, e1, e2⟩, -⟩ := h5.kept (grownBy_putObj' W5 D_ (.deferred none)) (fun r e => by cases e; exact ⟨_, hK2, rfl⟩)
    refine ⟨.tuple #[.agg #[.int .i64 0, .int .i64 0], .bool false], ?_, 0, 0, by rw [← h1, ← hLL], h6.trans (belowK_b (w := w) (Nat.le_refl _) W5 D_ _ _ (by omega) hK2 rfl rfl)⟩
    simp [results, Tryz.f133, go_sem, e0, e1, e2]
  case stop =>
    rintro D_ c pre W hD hpre ⟨⟨rfl, h1, u, v, h2⟩, h4⟩ hK
    gi_wp2
    refine ⟨by simp, .inl ⟨_, _, rfl, run_takeDeferred hK, ?_⟩⟩
    obtain ⟨⟨e0, e1, e2⟩, -⟩ := h2.kept (grownBy_putObj' W D_ (.deferred none)) (fun r e => by cases e; exact ⟨_, hK, rfl⟩)
    have hany : (M.cands p l i).any LL = true := by
      obtain ⟨y, hy, hl⟩ := List.any_eq_true.1 h1
      exact List.any_eq_true.2 ⟨y, hpre.subset hy, hl⟩
    refine ⟨.tuple #[.agg #[.int .i64 u, .int .i64 v], .bool true], ?_, u, v, by rw [← hany, ← hLL], h4.trans (belowK_b (w := w) (Nat.le_refl _) W D_ _ _ (by omega) hK rfl rfl)⟩
    simp [results, Tryz.f133, go_sem, e0, e1, e2]
end Go.Proofs.YtmipenpeebmjkaaGreat
