/-
  Contracts: a point carried to a neighbour, by the reference.
-/
import Derived.Test.YtpemckpnlemkfaaG3
import Derived.Deep.DeepCutAuto
namespace Go.Proofs.Ytpemckpnlemkfaa
set_option linter.unusedSimpArgs false
set_option linter.unusedVariables false
open Go.RowKit

namespace M
noncomputable def cpT (a e : Int) (x y : Int × Int) : Option ((Int × Int) × (Int × Int)) :=
  (fsub x (e, 1)).bind fun far => (fdiv (3 * e * e + a, 1) far).bind fun ad => (fadd x ad).bind fun u => (fdiv ad far).bind fun pt => (fsub (1, 1) pt).bind fun ls => (fmul y ls).bind fun v => some (u, v)
noncomputable def cpR (a b e : Int) (x y : Int × Int) : Option ((Int × Int) × (Int × Int)) :=
  if nbAsk a b e && (frOk x.1 x.2 && frOk y.1 y.2) && !(x.1 == e && x.2 == 1) && ((onR a b x y).getD false) then cpT a e x y else none
def cp1 (r : Option ((Int × Int) × (Int × Int))) : Int := (r.getD ((0, 0), (0, 0))).1.1
def cp2 (r : Option ((Int × Int) × (Int × Int))) : Int := (r.getD ((0, 0), (0, 0))).1.2
def cp3 (r : Option ((Int × Int) × (Int × Int))) : Int := (r.getD ((0, 0), (0, 0))).2.1
def cp4 (r : Option ((Int × Int) × (Int × Int))) : Int := (r.getD ((0, 0), (0, 0))).2.2
end M
theorem Zb.alloc {w : World} {b : Nat} (h : Zb w b) (o : Obj) : Zb (w.alloc o) b := h.keep ((Below.refl _ _).alloc (Nat.le_refl _) o)
theorem order2_bd {a b e : Int} (h : M.order2 a b e = true) : -200 ≤ e ∧ e ≤ 200 := by
  unfold M.order2 at h
  have := M.ins_t (Bool.and_eq_true_iff.1 h).1
  omega

set_option maxRecDepth 100000 in
set_option maxHeartbeats 16000000 in
theorem specCarryPoint_c (a b e c d u v : Int) (w : World) :
    Calls Try.prog 16 #[.agg #[.int .i64 a, .int .i64 b], .int .i64 e, .agg #[.int .i64 c, .int .i64 d], .agg #[.int .i64 u, .int .i64 v]] w fun r w' => r = .returned (.tuple #[.agg #[.int .i64 (M.cp1 (M.cpR a b e (c, d) (u, v))), .int .i64 (M.cp2 (M.cpR a b e (c, d) (u, v)))], .agg #[.int .i64 (M.cp3 (M.cpR a b e (c, d) (u, v))), .int .i64 (M.cp4 (M.cpR a b e (c, d) (u, v)))], .bool (M.cpR a b e (c, d) (u, v)).isSome]) ∧ Below w.heap.size w w' := by
  have HA := fun w => icAsked_c a b e w
  change ∀ w, Calls Try.prog 36 _ w (fun r w' => r = .returned (.bool (nbAsk a b e)) ∧ _) at HA
  have HW := fun w => frTwo_c c d u v w
  have hTd : Hid ((frOk c d && frOk u v) = true → frOk c d = true ∧ frOk u v = true) := Lib.hid fun h => Bool.and_eq_true_iff.1 h
  have hR : ∀ A T, nbAsk a b e = A → (frOk c d && frOk u v) = T → M.cpR a b e (c, d) (u, v) = if A && T && !(c == e && d == 1) && ((M.onR a b (c, d) (u, v)).getD false) then M.cpT a e (c, d) (u, v) else none := fun A T h1 h2 => by rw [← h1, ← h2]; rfl
  have HR := Lib.hid hR
  clear hR
  have tc : Two (((((w.alloc (.cells #[.int .i64 a, .int .i64 b] 41)).alloc (.cells #[.int .i64 c, .int .i64 d] 38)).alloc (.cells #[.int .i64 u, .int .i64 v] 38)).alloc (.cells #[.int .i64 0, .int .i64 0] 38)).alloc (.cells #[.int .i64 0, .int .i64 0] 38)) w.heap.size a b := by constructor <;> first | (simp [go_sem]; done) | (simp; omega)
  have tx : Two (((((w.alloc (.cells #[.int .i64 a, .int .i64 b] 41)).alloc (.cells #[.int .i64 c, .int .i64 d] 38)).alloc (.cells #[.int .i64 u, .int .i64 v] 38)).alloc (.cells #[.int .i64 0, .int .i64 0] 38)).alloc (.cells #[.int .i64 0, .int .i64 0] 38)) (w.heap.size + 1) c d := by constructor <;> first | (simp [go_sem]; done) | (simp; omega)
  have ty : Two (((((w.alloc (.cells #[.int .i64 a, .int .i64 b] 41)).alloc (.cells #[.int .i64 c, .int .i64 d] 38)).alloc (.cells #[.int .i64 u, .int .i64 v] 38)).alloc (.cells #[.int .i64 0, .int .i64 0] 38)).alloc (.cells #[.int .i64 0, .int .i64 0] 38)) (w.heap.size + 1 + 1) u v := by constructor <;> first | (simp [go_sem]; done) | (simp; omega)
  have z8 : Zb (((((w.alloc (.cells #[.int .i64 a, .int .i64 b] 41)).alloc (.cells #[.int .i64 c, .int .i64 d] 38)).alloc (.cells #[.int .i64 u, .int .i64 v] 38)).alloc (.cells #[.int .i64 0, .int .i64 0] 38)).alloc (.cells #[.int .i64 0, .int .i64 0] 38)) (w.heap.size + 1 + 1 + 1) := by constructor <;> first | (simp [go_sem]; done) | (simp; omega)
  have z9 : Zb (((((w.alloc (.cells #[.int .i64 a, .int .i64 b] 41)).alloc (.cells #[.int .i64 c, .int .i64 d] 38)).alloc (.cells #[.int .i64 u, .int .i64 v] 38)).alloc (.cells #[.int .i64 0, .int .i64 0] 38)).alloc (.cells #[.int .i64 0, .int .i64 0] 38)) (w.heap.size + 1 + 1 + 1 + 1) := by constructor <;> first | (simp [go_sem]; done) | (simp; omega)
  have BX : Below w.heap.size w (((((w.alloc (.cells #[.int .i64 a, .int .i64 b] 41)).alloc (.cells #[.int .i64 c, .int .i64 d] 38)).alloc (.cells #[.int .i64 u, .int .i64 v] 38)).alloc (.cells #[.int .i64 0, .int .i64 0] 38)).alloc (.cells #[.int .i64 0, .int .i64 0] 38)) := (by repeat (first | exact Below.refl _ _ | refine below_alloc ?_ _ | refine below_step ?_ (by assumption) | refine Below.drew ?_ | refine Below.setCell ?_ (by first | exact Nat.le_refl _ | exact Nat.le_add_right _ _ | (simp <;> omega)) _ | refine below_drewN ?_ _))
  cases hA : nbAsk a b e <;> cases hT : (frOk c d && frOk u v) <;> simp only [hA] at HA <;> simp only [hT] at HW
  all_goals
    have Hm0 := Lib.hid (HR.out _ _ hA hT)
    have KA := Lib.hid hA
    have KT := Lib.hid hT
    clear hA hT
    have HA := Lib.hid HA
    have HW := Lib.hid HW
  case false.false =>
    have Hm : Hid (M.cpR a b e (c, d) (u, v) = none) := Lib.hid (by rw [Hm0.out]; rfl)
    go_enter Try.func16, Try.ntmps16
    go_upto_region 1 with fail
    generalize hX : ((((w.alloc (.cells #[.int .i64 a, .int .i64 b] 41)).alloc (.cells #[.int .i64 c, .int .i64 d] 38)).alloc (.cells #[.int .i64 u, .int .i64 v] 38)).alloc (.cells #[.int .i64 0, .int .i64 0] 38)).alloc (.cells #[.int .i64 0, .int .i64 0] 38) = X at *
    have zX : X.heap.size = w.heap.size + 1 + 1 + 1 + 1 + 1 := by rw [← hX]; simp
    have ZX := Lib.hid zX
    clear hX zX
    have q_tc_c0 := tc.c0
    have q_tc_c1 := tc.c1
    have q_tc_size := tc.size
    have q_tx_c0 := tx.c0
    have q_tx_c1 := tx.c1
    have q_tx_size := tx.size
    have q_ty_c0 := ty.c0
    have q_ty_c1 := ty.c1
    have q_ty_size := ty.size
    have q_z8_c0 := z8.c0
    have q_z8_c1 := z8.c1
    have q_z8_f0 := z8.f0
    have q_z8_f1 := z8.f1
    have q_z8_size := z8.size
    have q_z9_c0 := z9.c0
    have q_z9_c1 := z9.c1
    have q_z9_f0 := z9.f0
    have q_z9_f1 := z9.f1
    have q_z9_size := z9.size
    go_cut [40] (fun s wx => s = .bool true ∧ Below X.heap.size X wx)
    case first =>
      first | go_region_with (first | (go_at_call 36; refine (HA.out _).mono ?_; rintro e w' ⟨rfl, hb⟩; have hz_ := hb.size; (try simp only [World.size_alloc, heap_drew, World.heap_drewN, size_setCell] at hz_); have hs0_ : w.heap.size < w'.heap.size := (by omega); have hk0_ := fun o => (bcell hb).1 (w.heap.size) o (by (try simp only [World.size_alloc, heap_drew, World.heap_drewN, size_setCell]); omega); have hl0_ := fun o => (bcell hb).2.1 (w.heap.size) o (by (try simp only [World.size_alloc, heap_drew, World.heap_drewN, size_setCell]); omega); have hs1_ : w.heap.size + 1 < w'.heap.size := (by omega); have hk1_ := fun o => (bcell hb).1 (w.heap.size + 1) o (by (try simp only [World.size_alloc, heap_drew, World.heap_drewN, size_setCell]); omega); have hl1_ := fun o => (bcell hb).2.1 (w.heap.size + 1) o (by (try simp only [World.size_alloc, heap_drew, World.heap_drewN, size_setCell]); omega); have hs2_ : w.heap.size + 1 + 1 < w'.heap.size := (by omega); have hk2_ := fun o => (bcell hb).1 (w.heap.size + 1 + 1) o (by (try simp only [World.size_alloc, heap_drew, World.heap_drewN, size_setCell]); omega); have hl2_ := fun o => (bcell hb).2.1 (w.heap.size + 1 + 1) o (by (try simp only [World.size_alloc, heap_drew, World.heap_drewN, size_setCell]); omega)) | (go_at_call 37; refine (HW.out _).mono ?_; rintro e w' ⟨rfl, hb⟩; have hz_ := hb.size; (try simp only [World.size_alloc, heap_drew, World.heap_drewN, size_setCell] at hz_); have hs0_ : w.heap.size < w'.heap.size := (by omega); have hk0_ := fun o => (bcell hb).1 (w.heap.size) o (by (try simp only [World.size_alloc, heap_drew, World.heap_drewN, size_setCell]); omega); have hl0_ := fun o => (bcell hb).2.1 (w.heap.size) o (by (try simp only [World.size_alloc, heap_drew, World.heap_drewN, size_setCell]); omega); have hs1_ : w.heap.size + 1 < w'.heap.size := (by omega); have hk1_ := fun o => (bcell hb).1 (w.heap.size + 1) o (by (try simp only [World.size_alloc, heap_drew, World.heap_drewN, size_setCell]); omega); have hl1_ := fun o => (bcell hb).2.1 (w.heap.size + 1) o (by (try simp only [World.size_alloc, heap_drew, World.heap_drewN, size_setCell]); omega); have hs2_ : w.heap.size + 1 + 1 < w'.heap.size := (by omega); have hk2_ := fun o => (bcell hb).1 (w.heap.size + 1 + 1) o (by (try simp only [World.size_alloc, heap_drew, World.heap_drewN, size_setCell]); omega); have hl2_ := fun o => (bcell hb).2.1 (w.heap.size + 1 + 1) o (by (try simp only [World.size_alloc, heap_drew, World.heap_drewN, size_setCell]); omega)) | (go_at_call 38; refine (frInt_c _ _).mono ?_; rintro e w' ⟨rfl, hb⟩; have hz_ := hb.size; (try simp only [World.size_alloc, heap_drew, World.heap_drewN, size_setCell] at hz_); have hs0_ : w.heap.size < w'.heap.size := (by omega); have hk0_ := fun o => (bcell hb).1 (w.heap.size) o (by (try simp only [World.size_alloc, heap_drew, World.heap_drewN, size_setCell]); omega); have hl0_ := fun o => (bcell hb).2.1 (w.heap.size) o (by (try simp only [World.size_alloc, heap_drew, World.heap_drewN, size_setCell]); omega); have hs1_ : w.heap.size + 1 < w'.heap.size := (by omega); have hk1_ := fun o => (bcell hb).1 (w.heap.size + 1) o (by (try simp only [World.size_alloc, heap_drew, World.heap_drewN, size_setCell]); omega); have hl1_ := fun o => (bcell hb).2.1 (w.heap.size + 1) o (by (try simp only [World.size_alloc, heap_drew, World.heap_drewN, size_setCell]); omega); have hs2_ : w.heap.size + 1 + 1 < w'.heap.size := (by omega); have hk2_ := fun o => (bcell hb).1 (w.heap.size + 1 + 1) o (by (try simp only [World.size_alloc, heap_drew, World.heap_drewN, size_setCell]); omega); have hl2_ := fun o => (bcell hb).2.1 (w.heap.size + 1 + 1) o (by (try simp only [World.size_alloc, heap_drew, World.heap_drewN, size_setCell]); omega))) | fail
      all_goals
        go_wp2_with fail
        go_meet
        exact ⟨rfl, (by repeat (first | exact Below.refl _ _ | refine below_alloc ?_ _ | refine below_step ?_ (by assumption) | refine Below.drew ?_ | refine Below.setCell ?_ (by first | exact Nat.le_refl _ | exact Nat.le_add_right _ _ | (simp <;> omega)) _ | refine below_drewN ?_ _))⟩
    case rest =>
      obtain ⟨rfl, hbr⟩ := hcut
      clear q_tc_c0 q_tc_c1 q_tc_size q_tx_c0 q_tx_c1 q_tx_size q_ty_c0 q_ty_c1 q_ty_size q_z8_c0 q_z8_c1 q_z8_f0 q_z8_f1 q_z8_size q_z9_c0 q_z9_c1 q_z9_f0 q_z9_f1 q_z9_size
      have tc := tc.keep hbr
      have tx := tx.keep hbr
      have ty := ty.keep hbr
      have z8 := z8.keep hbr
      have z9 := z9.keep hbr
      have BX := BX.trans (hbr.mono BX.size)
      have q_tc_c0 := tc.c0
      have q_tc_c1 := tc.c1
      have q_tc_size := tc.size
      have q_tx_c0 := tx.c0
      have q_tx_c1 := tx.c1
      have q_tx_size := tx.size
      have q_ty_c0 := ty.c0
      have q_ty_c1 := ty.c1
      have q_ty_size := ty.size
      have q_z8_c0 := z8.c0
      have q_z8_c1 := z8.c1
      have q_z8_f0 := z8.f0
      have q_z8_f1 := z8.f1
      have q_z8_size := z8.size
      have q_z9_c0 := z9.c0
      have q_z9_c1 := z9.c1
      have q_z9_f0 := z9.f0
      have q_z9_f1 := z9.f1
      have q_z9_size := z9.size
      go_wp2
      exact bodyPost_ret (v := .tuple #[.agg #[.int .i64 0, .int .i64 0], .agg #[.int .i64 0, .int .i64 0], .bool false]) (by simp [results, Try.results16, go_sem, *]) rfl (⟨by rw [Hm.out]; rfl, (by repeat (first | exact Below.refl _ _ | refine below_alloc ?_ _ | refine below_step ?_ (by assumption) | refine Below.drew ?_ | refine Below.setCell ?_ (by first | exact Nat.le_refl _ | exact Nat.le_add_right _ _ | (simp <;> omega)) _ | refine below_drewN ?_ _))⟩)
  case false.true =>
    have Hm : Hid (M.cpR a b e (c, d) (u, v) = none) := Lib.hid (by rw [Hm0.out]; rfl)
    go_enter Try.func16, Try.ntmps16
    go_upto_region 1 with fail
    generalize hX : ((((w.alloc (.cells #[.int .i64 a, .int .i64 b] 41)).alloc (.cells #[.int .i64 c, .int .i64 d] 38)).alloc (.cells #[.int .i64 u, .int .i64 v] 38)).alloc (.cells #[.int .i64 0, .int .i64 0] 38)).alloc (.cells #[.int .i64 0, .int .i64 0] 38) = X at *
    have zX : X.heap.size = w.heap.size + 1 + 1 + 1 + 1 + 1 := by rw [← hX]; simp
    have ZX := Lib.hid zX
    clear hX zX
    have q_tc_c0 := tc.c0
    have q_tc_c1 := tc.c1
    have q_tc_size := tc.size
    have q_tx_c0 := tx.c0
    have q_tx_c1 := tx.c1
    have q_tx_size := tx.size
    have q_ty_c0 := ty.c0
    have q_ty_c1 := ty.c1
    have q_ty_size := ty.size
    have q_z8_c0 := z8.c0
    have q_z8_c1 := z8.c1
    have q_z8_f0 := z8.f0
    have q_z8_f1 := z8.f1
    have q_z8_size := z8.size
    have q_z9_c0 := z9.c0
    have q_z9_c1 := z9.c1
    have q_z9_f0 := z9.f0
    have q_z9_f1 := z9.f1
    have q_z9_size := z9.size
    go_cut [40] (fun s wx => s = .bool true ∧ Below X.heap.size X wx)
    case first =>
      first | go_region_with (first | (go_at_call 36; refine (HA.out _).mono ?_; rintro e w' ⟨rfl, hb⟩; have hz_ := hb.size; (try simp only [World.size_alloc, heap_drew, World.heap_drewN, size_setCell] at hz_); have hs0_ : w.heap.size < w'.heap.size := (by omega); have hk0_ := fun o => (bcell hb).1 (w.heap.size) o (by (try simp only [World.size_alloc, heap_drew, World.heap_drewN, size_setCell]); omega); have hl0_ := fun o => (bcell hb).2.1 (w.heap.size) o (by (try simp only [World.size_alloc, heap_drew, World.heap_drewN, size_setCell]); omega); have hs1_ : w.heap.size + 1 < w'.heap.size := (by omega); have hk1_ := fun o => (bcell hb).1 (w.heap.size + 1) o (by (try simp only [World.size_alloc, heap_drew, World.heap_drewN, size_setCell]); omega); have hl1_ := fun o => (bcell hb).2.1 (w.heap.size + 1) o (by (try simp only [World.size_alloc, heap_drew, World.heap_drewN, size_setCell]); omega); have hs2_ : w.heap.size + 1 + 1 < w'.heap.size := (by omega); have hk2_ := fun o => (bcell hb).1 (w.heap.size + 1 + 1) o (by (try simp only [World.size_alloc, heap_drew, World.heap_drewN, size_setCell]); omega); have hl2_ := fun o => (bcell hb).2.1 (w.heap.size + 1 + 1) o (by (try simp only [World.size_alloc, heap_drew, World.heap_drewN, size_setCell]); omega)) | (go_at_call 37; refine (HW.out _).mono ?_; rintro e w' ⟨rfl, hb⟩; have hz_ := hb.size; (try simp only [World.size_alloc, heap_drew, World.heap_drewN, size_setCell] at hz_); have hs0_ : w.heap.size < w'.heap.size := (by omega); have hk0_ := fun o => (bcell hb).1 (w.heap.size) o (by (try simp only [World.size_alloc, heap_drew, World.heap_drewN, size_setCell]); omega); have hl0_ := fun o => (bcell hb).2.1 (w.heap.size) o (by (try simp only [World.size_alloc, heap_drew, World.heap_drewN, size_setCell]); omega); have hs1_ : w.heap.size + 1 < w'.heap.size := (by omega); have hk1_ := fun o => (bcell hb).1 (w.heap.size + 1) o (by (try simp only [World.size_alloc, heap_drew, World.heap_drewN, size_setCell]); omega); have hl1_ := fun o => (bcell hb).2.1 (w.heap.size + 1) o (by (try simp only [World.size_alloc, heap_drew, World.heap_drewN, size_setCell]); omega); have hs2_ : w.heap.size + 1 + 1 < w'.heap.size := (by omega); have hk2_ := fun o => (bcell hb).1 (w.heap.size + 1 + 1) o (by (try simp only [World.size_alloc, heap_drew, World.heap_drewN, size_setCell]); omega); have hl2_ := fun o => (bcell hb).2.1 (w.heap.size + 1 + 1) o (by (try simp only [World.size_alloc, heap_drew, World.heap_drewN, size_setCell]); omega)) | (go_at_call 38; refine (frInt_c _ _).mono ?_; rintro e w' ⟨rfl, hb⟩; have hz_ := hb.size; (try simp only [World.size_alloc, heap_drew, World.heap_drewN, size_setCell] at hz_); have hs0_ : w.heap.size < w'.heap.size := (by omega); have hk0_ := fun o => (bcell hb).1 (w.heap.size) o (by (try simp only [World.size_alloc, heap_drew, World.heap_drewN, size_setCell]); omega); have hl0_ := fun o => (bcell hb).2.1 (w.heap.size) o (by (try simp only [World.size_alloc, heap_drew, World.heap_drewN, size_setCell]); omega); have hs1_ : w.heap.size + 1 < w'.heap.size := (by omega); have hk1_ := fun o => (bcell hb).1 (w.heap.size + 1) o (by (try simp only [World.size_alloc, heap_drew, World.heap_drewN, size_setCell]); omega); have hl1_ := fun o => (bcell hb).2.1 (w.heap.size + 1) o (by (try simp only [World.size_alloc, heap_drew, World.heap_drewN, size_setCell]); omega); have hs2_ : w.heap.size + 1 + 1 < w'.heap.size := (by omega); have hk2_ := fun o => (bcell hb).1 (w.heap.size + 1 + 1) o (by (try simp only [World.size_alloc, heap_drew, World.heap_drewN, size_setCell]); omega); have hl2_ := fun o => (bcell hb).2.1 (w.heap.size + 1 + 1) o (by (try simp only [World.size_alloc, heap_drew, World.heap_drewN, size_setCell]); omega))) | fail
      all_goals
        go_wp2_with fail
        go_meet
        exact ⟨rfl, (by repeat (first | exact Below.refl _ _ | refine below_alloc ?_ _ | refine below_step ?_ (by assumption) | refine Below.drew ?_ | refine Below.setCell ?_ (by first | exact Nat.le_refl _ | exact Nat.le_add_right _ _ | (simp <;> omega)) _ | refine below_drewN ?_ _))⟩
    case rest =>
      obtain ⟨rfl, hbr⟩ := hcut
      clear q_tc_c0 q_tc_c1 q_tc_size q_tx_c0 q_tx_c1 q_tx_size q_ty_c0 q_ty_c1 q_ty_size q_z8_c0 q_z8_c1 q_z8_f0 q_z8_f1 q_z8_size q_z9_c0 q_z9_c1 q_z9_f0 q_z9_f1 q_z9_size
      have tc := tc.keep hbr
      have tx := tx.keep hbr
      have ty := ty.keep hbr
      have z8 := z8.keep hbr
      have z9 := z9.keep hbr
      have BX := BX.trans (hbr.mono BX.size)
      have q_tc_c0 := tc.c0
      have q_tc_c1 := tc.c1
      have q_tc_size := tc.size
      have q_tx_c0 := tx.c0
      have q_tx_c1 := tx.c1
      have q_tx_size := tx.size
      have q_ty_c0 := ty.c0
      have q_ty_c1 := ty.c1
      have q_ty_size := ty.size
      have q_z8_c0 := z8.c0
      have q_z8_c1 := z8.c1
      have q_z8_f0 := z8.f0
      have q_z8_f1 := z8.f1
      have q_z8_size := z8.size
      have q_z9_c0 := z9.c0
      have q_z9_c1 := z9.c1
      have q_z9_f0 := z9.f0
      have q_z9_f1 := z9.f1
      have q_z9_size := z9.size
      go_wp2
      exact bodyPost_ret (v := .tuple #[.agg #[.int .i64 0, .int .i64 0], .agg #[.int .i64 0, .int .i64 0], .bool false]) (by simp [results, Try.results16, go_sem, *]) rfl (⟨by rw [Hm.out]; rfl, (by repeat (first | exact Below.refl _ _ | refine below_alloc ?_ _ | refine below_step ?_ (by assumption) | refine Below.drew ?_ | refine Below.setCell ?_ (by first | exact Nat.le_refl _ | exact Nat.le_add_right _ _ | (simp <;> omega)) _ | refine below_drewN ?_ _))⟩)
  case true.false =>
    have Hm : Hid (M.cpR a b e (c, d) (u, v) = none) := Lib.hid (by rw [Hm0.out]; rfl)
    go_enter Try.func16, Try.ntmps16
    go_upto_region 1 with fail
    generalize hX : ((((w.alloc (.cells #[.int .i64 a, .int .i64 b] 41)).alloc (.cells #[.int .i64 c, .int .i64 d] 38)).alloc (.cells #[.int .i64 u, .int .i64 v] 38)).alloc (.cells #[.int .i64 0, .int .i64 0] 38)).alloc (.cells #[.int .i64 0, .int .i64 0] 38) = X at *
    have zX : X.heap.size = w.heap.size + 1 + 1 + 1 + 1 + 1 := by rw [← hX]; simp
    have ZX := Lib.hid zX
    clear hX zX
    have q_tc_c0 := tc.c0
    have q_tc_c1 := tc.c1
    have q_tc_size := tc.size
    have q_tx_c0 := tx.c0
    have q_tx_c1 := tx.c1
    have q_tx_size := tx.size
    have q_ty_c0 := ty.c0
    have q_ty_c1 := ty.c1
    have q_ty_size := ty.size
    have q_z8_c0 := z8.c0
    have q_z8_c1 := z8.c1
    have q_z8_f0 := z8.f0
    have q_z8_f1 := z8.f1
    have q_z8_size := z8.size
    have q_z9_c0 := z9.c0
    have q_z9_c1 := z9.c1
    have q_z9_f0 := z9.f0
    have q_z9_f1 := z9.f1
    have q_z9_size := z9.size
    go_cut [40] (fun s wx => s = .bool true ∧ Below X.heap.size X wx)
    case first =>
      first | go_region_with (first | (go_at_call 36; refine (HA.out _).mono ?_; rintro e w' ⟨rfl, hb⟩; have hz_ := hb.size; (try simp only [World.size_alloc, heap_drew, World.heap_drewN, size_setCell] at hz_); have hs0_ : w.heap.size < w'.heap.size := (by omega); have hk0_ := fun o => (bcell hb).1 (w.heap.size) o (by (try simp only [World.size_alloc, heap_drew, World.heap_drewN, size_setCell]); omega); have hl0_ := fun o => (bcell hb).2.1 (w.heap.size) o (by (try simp only [World.size_alloc, heap_drew, World.heap_drewN, size_setCell]); omega); have hs1_ : w.heap.size + 1 < w'.heap.size := (by omega); have hk1_ := fun o => (bcell hb).1 (w.heap.size + 1) o (by (try simp only [World.size_alloc, heap_drew, World.heap_drewN, size_setCell]); omega); have hl1_ := fun o => (bcell hb).2.1 (w.heap.size + 1) o (by (try simp only [World.size_alloc, heap_drew, World.heap_drewN, size_setCell]); omega); have hs2_ : w.heap.size + 1 + 1 < w'.heap.size := (by omega); have hk2_ := fun o => (bcell hb).1 (w.heap.size + 1 + 1) o (by (try simp only [World.size_alloc, heap_drew, World.heap_drewN, size_setCell]); omega); have hl2_ := fun o => (bcell hb).2.1 (w.heap.size + 1 + 1) o (by (try simp only [World.size_alloc, heap_drew, World.heap_drewN, size_setCell]); omega)) | (go_at_call 37; refine (HW.out _).mono ?_; rintro e w' ⟨rfl, hb⟩; have hz_ := hb.size; (try simp only [World.size_alloc, heap_drew, World.heap_drewN, size_setCell] at hz_); have hs0_ : w.heap.size < w'.heap.size := (by omega); have hk0_ := fun o => (bcell hb).1 (w.heap.size) o (by (try simp only [World.size_alloc, heap_drew, World.heap_drewN, size_setCell]); omega); have hl0_ := fun o => (bcell hb).2.1 (w.heap.size) o (by (try simp only [World.size_alloc, heap_drew, World.heap_drewN, size_setCell]); omega); have hs1_ : w.heap.size + 1 < w'.heap.size := (by omega); have hk1_ := fun o => (bcell hb).1 (w.heap.size + 1) o (by (try simp only [World.size_alloc, heap_drew, World.heap_drewN, size_setCell]); omega); have hl1_ := fun o => (bcell hb).2.1 (w.heap.size + 1) o (by (try simp only [World.size_alloc, heap_drew, World.heap_drewN, size_setCell]); omega); have hs2_ : w.heap.size + 1 + 1 < w'.heap.size := (by omega); have hk2_ := fun o => (bcell hb).1 (w.heap.size + 1 + 1) o (by (try simp only [World.size_alloc, heap_drew, World.heap_drewN, size_setCell]); omega); have hl2_ := fun o => (bcell hb).2.1 (w.heap.size + 1 + 1) o (by (try simp only [World.size_alloc, heap_drew, World.heap_drewN, size_setCell]); omega)) | (go_at_call 38; refine (frInt_c _ _).mono ?_; rintro e w' ⟨rfl, hb⟩; have hz_ := hb.size; (try simp only [World.size_alloc, heap_drew, World.heap_drewN, size_setCell] at hz_); have hs0_ : w.heap.size < w'.heap.size := (by omega); have hk0_ := fun o => (bcell hb).1 (w.heap.size) o (by (try simp only [World.size_alloc, heap_drew, World.heap_drewN, size_setCell]); omega); have hl0_ := fun o => (bcell hb).2.1 (w.heap.size) o (by (try simp only [World.size_alloc, heap_drew, World.heap_drewN, size_setCell]); omega); have hs1_ : w.heap.size + 1 < w'.heap.size := (by omega); have hk1_ := fun o => (bcell hb).1 (w.heap.size + 1) o (by (try simp only [World.size_alloc, heap_drew, World.heap_drewN, size_setCell]); omega); have hl1_ := fun o => (bcell hb).2.1 (w.heap.size + 1) o (by (try simp only [World.size_alloc, heap_drew, World.heap_drewN, size_setCell]); omega); have hs2_ : w.heap.size + 1 + 1 < w'.heap.size := (by omega); have hk2_ := fun o => (bcell hb).1 (w.heap.size + 1 + 1) o (by (try simp only [World.size_alloc, heap_drew, World.heap_drewN, size_setCell]); omega); have hl2_ := fun o => (bcell hb).2.1 (w.heap.size + 1 + 1) o (by (try simp only [World.size_alloc, heap_drew, World.heap_drewN, size_setCell]); omega))) | fail
      all_goals
        go_wp2_with fail
        go_meet
        exact ⟨rfl, (by repeat (first | exact Below.refl _ _ | refine below_alloc ?_ _ | refine below_step ?_ (by assumption) | refine Below.drew ?_ | refine Below.setCell ?_ (by first | exact Nat.le_refl _ | exact Nat.le_add_right _ _ | (simp <;> omega)) _ | refine below_drewN ?_ _))⟩
    case rest =>
      obtain ⟨rfl, hbr⟩ := hcut
      clear q_tc_c0 q_tc_c1 q_tc_size q_tx_c0 q_tx_c1 q_tx_size q_ty_c0 q_ty_c1 q_ty_size q_z8_c0 q_z8_c1 q_z8_f0 q_z8_f1 q_z8_size q_z9_c0 q_z9_c1 q_z9_f0 q_z9_f1 q_z9_size
      have tc := tc.keep hbr
      have tx := tx.keep hbr
      have ty := ty.keep hbr
      have z8 := z8.keep hbr
      have z9 := z9.keep hbr
      have BX := BX.trans (hbr.mono BX.size)
      have q_tc_c0 := tc.c0
      have q_tc_c1 := tc.c1
      have q_tc_size := tc.size
      have q_tx_c0 := tx.c0
      have q_tx_c1 := tx.c1
      have q_tx_size := tx.size
      have q_ty_c0 := ty.c0
      have q_ty_c1 := ty.c1
      have q_ty_size := ty.size
      have q_z8_c0 := z8.c0
      have q_z8_c1 := z8.c1
      have q_z8_f0 := z8.f0
      have q_z8_f1 := z8.f1
      have q_z8_size := z8.size
      have q_z9_c0 := z9.c0
      have q_z9_c1 := z9.c1
      have q_z9_f0 := z9.f0
      have q_z9_f1 := z9.f1
      have q_z9_size := z9.size
      go_wp2
      exact bodyPost_ret (v := .tuple #[.agg #[.int .i64 0, .int .i64 0], .agg #[.int .i64 0, .int .i64 0], .bool false]) (by simp [results, Try.results16, go_sem, *]) rfl (⟨by rw [Hm.out]; rfl, (by repeat (first | exact Below.refl _ _ | refine below_alloc ?_ _ | refine below_step ?_ (by assumption) | refine Below.drew ?_ | refine Below.setCell ?_ (by first | exact Nat.le_refl _ | exact Nat.le_add_right _ _ | (simp <;> omega)) _ | refine below_drewN ?_ _))⟩)
  case true.true =>
    obtain ⟨okx, oky⟩ := hTd.out KT.out
    have hAA := Bool.and_eq_true_iff.1 KA.out
    have hin := M.good_in hAA.1
    have hbe := order2_bd hAA.2
    obtain ⟨g1, g2, g3, g4⟩ := M.inCurve_bd hin
    obtain ⟨e1, e2⟩ := hbe
    have oke := Lib.hid (M.frOk_whole (n := e) (by omega) (by omega))
    have HI := fun w => icOn_c a b c d u v w hin okx oky
    have hsq := M.mul_bd (x := e) (y := e) (m := 200) (n := 200) (by omega) (by omega) (by omega) (by omega)
    have ht3 : 3 * e * e = 3 * (e * e) := Int.mul_assoc 3 e e
    have okt := Lib.hid (M.frOk_whole (n := 3 * e * e + a) (by omega) (by omega))
    have bt1 : -200000 ≤ 3 * e * e ∧ 3 * e * e ≤ 200000 := by omega
    have Okx := Lib.hid okx
    have Oky := Lib.hid oky
    have HI := Lib.hid HI
    have Hin := Lib.hid hin
    clear okx oky hAA hin ht3 hsq
    go_enter Try.func16, Try.ntmps16
    go_upto_region 1 with fail
    generalize hX : ((((w.alloc (.cells #[.int .i64 a, .int .i64 b] 41)).alloc (.cells #[.int .i64 c, .int .i64 d] 38)).alloc (.cells #[.int .i64 u, .int .i64 v] 38)).alloc (.cells #[.int .i64 0, .int .i64 0] 38)).alloc (.cells #[.int .i64 0, .int .i64 0] 38) = X at *
    have zX : X.heap.size = w.heap.size + 1 + 1 + 1 + 1 + 1 := by rw [← hX]; simp
    have ZX := Lib.hid zX
    clear hX zX
    go_cut [40] (fun s wx => s = .bool (c == e && d == 1) ∧ Below X.heap.size X wx)
    case first =>
      have q_tc_c0 := tc.c0
      have q_tc_c1 := tc.c1
      have q_tc_size := tc.size
      have q_tx_c0 := tx.c0
      have q_tx_c1 := tx.c1
      have q_tx_size := tx.size
      have q_ty_c0 := ty.c0
      have q_ty_c1 := ty.c1
      have q_ty_size := ty.size
      have q_z8_c0 := z8.c0
      have q_z8_c1 := z8.c1
      have q_z8_f0 := z8.f0
      have q_z8_f1 := z8.f1
      have q_z8_size := z8.size
      have q_z9_c0 := z9.c0
      have q_z9_c1 := z9.c1
      have q_z9_f0 := z9.f0
      have q_z9_f1 := z9.f1
      have q_z9_size := z9.size
      cases E1 : (c == e) <;> cases E2 : (d == 1)
      all_goals
        go_region_held3 (fun W => W.cell? ⟨w.heap.size, 0, none⟩ = some (.int .i64 a) ∧ W.cell? ⟨w.heap.size, 1, none⟩ = some (.int .i64 b) ∧ W.cell? ⟨w.heap.size + 1, 0, none⟩ = some (.int .i64 c) ∧ W.cell? ⟨w.heap.size + 1, 1, none⟩ = some (.int .i64 d) ∧ W.cell? ⟨w.heap.size + 1 + 1, 0, none⟩ = some (.int .i64 u) ∧ W.cell? ⟨w.heap.size + 1 + 1, 1, none⟩ = some (.int .i64 v)) (first | (refine ⟨?_, ?_, ?_, ?_, ?_, ?_⟩ <;> (first | (with_reducible exact keepCell (by assumption) (by assumption)) | (with_reducible exact Gr.recell0 (by assumption)) | (with_reducible refine Gr.recell (by assumption) ?_; (intro hh_; (try simp only [World.size_alloc, heap_drew, World.heap_drewN, size_setCell] at hh_); omega)) | (with_reducible refine Gr.far2 (by assumption) ?_ ?_ <;> (intro hh_; (try simp only [World.size_alloc, heap_drew, World.heap_drewN, size_setCell] at hh_); omega)) | exact keepCell (by assumption) (by assumption) | (with_reducible exact keepFrz (by assumption) (by assumption) (by assumption)))) | (go_split_ands; (refine ⟨?_, ?_, ?_, ?_, ?_, ?_⟩ <;> (first | (with_reducible exact keepCell (by assumption) (by assumption)) | (with_reducible exact Gr.recell0 (by assumption)) | (with_reducible refine Gr.recell (by assumption) ?_; (intro hh_; (try simp only [World.size_alloc, heap_drew, World.heap_drewN, size_setCell] at hh_); omega)) | (with_reducible refine Gr.far2 (by assumption) ?_ ?_ <;> (intro hh_; (try simp only [World.size_alloc, heap_drew, World.heap_drewN, size_setCell] at hh_); omega)) | exact keepCell (by assumption) (by assumption) | (with_reducible exact keepFrz (by assumption) (by assumption) (by assumption))))) | go_keep) ((first | (go_at_call 36; refine (HA.out _).mono ?_; rintro e w' ⟨rfl, hb⟩; have hz_ := hb.size; (try simp only [World.size_alloc, heap_drew, World.heap_drewN, size_setCell] at hz_); (first | have zz_ := Zb.keep (Zb.new _ _) hb | have zz_ := Zb.keep (Zb.newD _ _) hb | have zz_ := Zb.keep zz_ hb | skip); (first | (have z0_ := zz_.c0; have z1_ := zz_.c1; have z2_ := zz_.f0; have z3_ := zz_.f1; have z4_ := zz_.size) | skip)) | (go_at_call 37; refine (HW.out _).mono ?_; rintro e w' ⟨rfl, hb⟩; have hz_ := hb.size; (try simp only [World.size_alloc, heap_drew, World.heap_drewN, size_setCell] at hz_); (first | have zz_ := Zb.keep (Zb.new _ _) hb | have zz_ := Zb.keep (Zb.newD _ _) hb | have zz_ := Zb.keep zz_ hb | skip); (first | (have z0_ := zz_.c0; have z1_ := zz_.c1; have z2_ := zz_.f0; have z3_ := zz_.f1; have z4_ := zz_.size) | skip)) | (go_at_call 38; refine (frInt_c _ _).mono ?_; rintro e w' ⟨rfl, hb⟩; have hz_ := hb.size; (try simp only [World.size_alloc, heap_drew, World.heap_drewN, size_setCell] at hz_); (first | have zz_ := Zb.keep (Zb.new _ _) hb | have zz_ := Zb.keep (Zb.newD _ _) hb | have zz_ := Zb.keep zz_ hb | skip); (first | (have z0_ := zz_.c0; have z1_ := zz_.c1; have z2_ := zz_.f0; have z3_ := zz_.f1; have z4_ := zz_.size) | skip))))
        go_wp2_with fail
        go_meet
        exact ⟨by simp [E1, E2], (by repeat (first | exact Below.refl _ _ | refine below_alloc ?_ _ | refine below_step ?_ (by assumption) | refine Below.drew ?_ | refine Below.setCell ?_ (by first | exact Nat.le_refl _ | exact Nat.le_add_right _ _ | (simp <;> omega)) _ | refine below_drewN ?_ _))⟩
    case rest =>
      obtain ⟨rfl, hbx⟩ := hcut
      cases hE : (c == e && d == 1)
      case true =>
        have tc := tc.keep hbx
        have tx := tx.keep hbx
        have ty := ty.keep hbx
        have z8 := z8.keep hbx
        have z9 := z9.keep hbx
        have BX := BX.trans (hbx.mono BX.size)
        have Hm : Hid (M.cpR a b e (c, d) (u, v) = none) := Lib.hid (by rw [Hm0.out, hE]; rfl)
        have q_tc_c0 := tc.c0
        have q_tc_c1 := tc.c1
        have q_tc_size := tc.size
        have q_tx_c0 := tx.c0
        have q_tx_c1 := tx.c1
        have q_tx_size := tx.size
        have q_ty_c0 := ty.c0
        have q_ty_c1 := ty.c1
        have q_ty_size := ty.size
        have q_z8_c0 := z8.c0
        have q_z8_c1 := z8.c1
        have q_z8_f0 := z8.f0
        have q_z8_f1 := z8.f1
        have q_z8_size := z8.size
        have q_z9_c0 := z9.c0
        have q_z9_c1 := z9.c1
        have q_z9_f0 := z9.f0
        have q_z9_f1 := z9.f1
        have q_z9_size := z9.size
        go_wp2
        exact bodyPost_ret (v := .tuple #[.agg #[.int .i64 0, .int .i64 0], .agg #[.int .i64 0, .int .i64 0], .bool false]) (by simp [results, Try.results16, go_sem, *]) rfl (⟨by rw [Hm.out]; rfl, (by repeat (first | exact Below.refl _ _ | refine below_alloc ?_ _ | refine below_step ?_ (by assumption) | refine Below.drew ?_ | refine Below.setCell ?_ (by first | exact Nat.le_refl _ | exact Nat.le_add_right _ _ | (simp <;> omega)) _ | refine below_drewN ?_ _))⟩)
      case false =>
        have tc := tc.keep hbx
        have tx := tx.keep hbx
        have ty := ty.keep hbx
        have z8 := z8.keep hbx
        have z9 := z9.keep hbx
        have BX := BX.trans (hbx.mono BX.size)
        have KE := Lib.hid hE
        clear hE hbx
        have q_tc_c0 := tc.c0
        have q_tc_c1 := tc.c1
        have q_tc_size := tc.size
        have q_tx_c0 := tx.c0
        have q_tx_c1 := tx.c1
        have q_tx_size := tx.size
        have q_ty_c0 := ty.c0
        have q_ty_c1 := ty.c1
        have q_ty_size := ty.size
        have q_z8_c0 := z8.c0
        have q_z8_c1 := z8.c1
        have q_z8_f0 := z8.f0
        have q_z8_f1 := z8.f1
        have q_z8_size := z8.size
        have q_z9_c0 := z9.c0
        have q_z9_c1 := z9.c1
        have q_z9_f0 := z9.f0
        have q_z9_f1 := z9.f1
        have q_z9_size := z9.size
        go_wp2_with fail
        have HI := HI.out
        cases hon : M.onR a b (c, d) (u, v) with
        | none =>
          simp only [hon] at HI
          have Hm : Hid (M.cpR a b e (c, d) (u, v) = none) := Lib.hid (by rw [Hm0.out, KE.out, hon]; rfl)
          have HI := Lib.hid HI
          clear hon
          refine (HI.out _).mono ?_; rintro r w3 ⟨rfl, hb3⟩
          clear q_tc_c0 q_tc_c1 q_tc_size q_tx_c0 q_tx_c1 q_tx_size q_ty_c0 q_ty_c1 q_ty_size q_z8_c0 q_z8_c1 q_z8_f0 q_z8_f1 q_z8_size q_z9_c0 q_z9_c1 q_z9_f0 q_z9_f1 q_z9_size
          have tc := tc.keep hb3
          have tx := tx.keep hb3
          have ty := ty.keep hb3
          have z8 := z8.keep hb3
          have z9 := z9.keep hb3
          have BX := BX.trans (hb3.mono BX.size)
          have q_tc_c0 := tc.c0
          have q_tc_c1 := tc.c1
          have q_tc_size := tc.size
          have q_tx_c0 := tx.c0
          have q_tx_c1 := tx.c1
          have q_tx_size := tx.size
          have q_ty_c0 := ty.c0
          have q_ty_c1 := ty.c1
          have q_ty_size := ty.size
          have q_z8_c0 := z8.c0
          have q_z8_c1 := z8.c1
          have q_z8_f0 := z8.f0
          have q_z8_f1 := z8.f1
          have q_z8_size := z8.size
          have q_z9_c0 := z9.c0
          have q_z9_c1 := z9.c1
          have q_z9_f0 := z9.f0
          have q_z9_f1 := z9.f1
          have q_z9_size := z9.size
          go_wp2
          exact bodyPost_ret (v := .tuple #[.agg #[.int .i64 0, .int .i64 0], .agg #[.int .i64 0, .int .i64 0], .bool false]) (by simp [results, Try.results16, go_sem, *]) rfl (⟨by rw [Hm.out]; rfl, (by repeat (first | exact Below.refl _ _ | refine below_alloc ?_ _ | refine below_step ?_ (by assumption) | refine Below.drew ?_ | refine Below.setCell ?_ (by first | exact Nat.le_refl _ | exact Nat.le_add_right _ _ | (simp <;> omega)) _ | refine below_drewN ?_ _))⟩)
        | some is =>
          cases is
          case false =>
            simp only [hon] at HI
            have Hm : Hid (M.cpR a b e (c, d) (u, v) = none) := Lib.hid (by rw [Hm0.out, KE.out, hon]; rfl)
            have HI := Lib.hid HI
            clear hon
            refine (HI.out _).mono ?_; rintro r w3 ⟨rfl, hb3⟩
            clear q_tc_c0 q_tc_c1 q_tc_size q_tx_c0 q_tx_c1 q_tx_size q_ty_c0 q_ty_c1 q_ty_size q_z8_c0 q_z8_c1 q_z8_f0 q_z8_f1 q_z8_size q_z9_c0 q_z9_c1 q_z9_f0 q_z9_f1 q_z9_size
            have tc := tc.keep hb3
            have tx := tx.keep hb3
            have ty := ty.keep hb3
            have z8 := z8.keep hb3
            have z9 := z9.keep hb3
            have BX := BX.trans (hb3.mono BX.size)
            have q_tc_c0 := tc.c0
            have q_tc_c1 := tc.c1
            have q_tc_size := tc.size
            have q_tx_c0 := tx.c0
            have q_tx_c1 := tx.c1
            have q_tx_size := tx.size
            have q_ty_c0 := ty.c0
            have q_ty_c1 := ty.c1
            have q_ty_size := ty.size
            have q_z8_c0 := z8.c0
            have q_z8_c1 := z8.c1
            have q_z8_f0 := z8.f0
            have q_z8_f1 := z8.f1
            have q_z8_size := z8.size
            have q_z9_c0 := z9.c0
            have q_z9_c1 := z9.c1
            have q_z9_f0 := z9.f0
            have q_z9_f1 := z9.f1
            have q_z9_size := z9.size
            go_wp2
            exact bodyPost_ret (v := .tuple #[.agg #[.int .i64 0, .int .i64 0], .agg #[.int .i64 0, .int .i64 0], .bool false]) (by simp [results, Try.results16, go_sem, *]) rfl (⟨by rw [Hm.out]; rfl, (by repeat (first | exact Below.refl _ _ | refine below_alloc ?_ _ | refine below_step ?_ (by assumption) | refine Below.drew ?_ | refine Below.setCell ?_ (by first | exact Nat.le_refl _ | exact Nat.le_add_right _ _ | (simp <;> omega)) _ | refine below_drewN ?_ _))⟩)
          case true =>
            simp only [hon] at HI
            have Hm1 : Hid (M.cpR a b e (c, d) (u, v) = M.cpT a e (c, d) (u, v)) := Lib.hid (by rw [Hm0.out, KE.out, hon]; rfl)
            have HI := Lib.hid HI
            clear hon
            refine (HI.out _).mono ?_; rintro r w3 ⟨rfl, hb3⟩
            clear q_tc_c0 q_tc_c1 q_tc_size q_tx_c0 q_tx_c1 q_tx_size q_ty_c0 q_ty_c1 q_ty_size q_z8_c0 q_z8_c1 q_z8_f0 q_z8_f1 q_z8_size q_z9_c0 q_z9_c1 q_z9_f0 q_z9_f1 q_z9_size
            have tc := tc.keep hb3
            have tx := tx.keep hb3
            have ty := ty.keep hb3
            have z8 := z8.keep hb3
            have z9 := z9.keep hb3
            have BX := BX.trans (hb3.mono BX.size)
            clear hb3
            have q_tc_c0 := tc.c0
            have q_tc_c1 := tc.c1
            have q_tc_size := tc.size
            have q_tx_c0 := tx.c0
            have q_tx_c1 := tx.c1
            have q_tx_size := tx.size
            have q_ty_c0 := ty.c0
            have q_ty_c1 := ty.c1
            have q_ty_size := ty.size
            have q_z8_c0 := z8.c0
            have q_z8_c1 := z8.c1
            have q_z8_f0 := z8.f0
            have q_z8_f1 := z8.f1
            have q_z8_size := z8.size
            have q_z9_c0 := z9.c0
            have q_z9_c1 := z9.c1
            have q_z9_f0 := z9.f0
            have q_z9_f1 := z9.f1
            have q_z9_size := z9.size
            cases h_fa : M.fsub (c, d) (e, 1) with
            | none =>
              have HF := Lib.hid (frSub_f Okx.out oke.out h_fa)
              have k_fa := Lib.hid h_fa
              clear h_fa
              have Hm : Hid (M.cpR a b e (c, d) (u, v) = none) := Lib.hid (by rw [Hm1.out]; simp [M.cpT, k_fa.out])
              go_upto_region 6 with fail
              go_cut [13, 14] (fun sx sy wx => sy = .bool false ∧ BoxAt w3 wx sx (0) (0) ∧ Below w3.heap.size w3 wx)
              case first =>
                go_region_held3 (fun W => W.cell? ⟨w.heap.size + 1, 0, none⟩ = some (.int .i64 c) ∧ W.cell? ⟨w.heap.size + 1, 1, none⟩ = some (.int .i64 d)) (first | (refine ⟨?_, ?_⟩ <;> (first | (with_reducible exact keepCell (by assumption) (by assumption)) | (with_reducible exact Gr.recell0 (by assumption)) | (with_reducible refine Gr.recell (by assumption) ?_; (intro hh_; (try simp only [World.size_alloc, heap_drew, World.heap_drewN, size_setCell] at hh_); omega)) | (with_reducible refine Gr.far2 (by assumption) ?_ ?_ <;> (intro hh_; (try simp only [World.size_alloc, heap_drew, World.heap_drewN, size_setCell] at hh_); omega)) | exact keepCell (by assumption) (by assumption) | (with_reducible exact keepFrz (by assumption) (by assumption) (by assumption)))) | (go_split_ands; (refine ⟨?_, ?_⟩ <;> (first | (with_reducible exact keepCell (by assumption) (by assumption)) | (with_reducible exact Gr.recell0 (by assumption)) | (with_reducible refine Gr.recell (by assumption) ?_; (intro hh_; (try simp only [World.size_alloc, heap_drew, World.heap_drewN, size_setCell] at hh_); omega)) | (with_reducible refine Gr.far2 (by assumption) ?_ ?_ <;> (intro hh_; (try simp only [World.size_alloc, heap_drew, World.heap_drewN, size_setCell] at hh_); omega)) | exact keepCell (by assumption) (by assumption) | (with_reducible exact keepFrz (by assumption) (by assumption) (by assumption))))) | go_keep) ((first | (go_at_call 38; refine (frInt_c _ _).mono ?_; rintro e w' ⟨rfl, hb⟩; have hz_ := hb.size; (try simp only [World.size_alloc, heap_drew, World.heap_drewN, size_setCell] at hz_); (first | have zz_ := Zb.keep (Zb.new _ _) hb | have zz_ := Zb.keep (Zb.newD _ _) hb | have zz_ := Zb.keep zz_ hb | skip); (first | (have z0_ := zz_.c0; have z1_ := zz_.c1; have z2_ := zz_.f0; have z3_ := zz_.f1; have z4_ := zz_.size) | skip)) | (go_at_call 40; refine (HF.out _).mono ?_; rintro e w' ⟨rfl, hb⟩; have hz_ := hb.size; (try simp only [World.size_alloc, heap_drew, World.heap_drewN, size_setCell] at hz_); (first | have zz_ := Zb.keep (Zb.new _ _) hb | have zz_ := Zb.keep (Zb.newD _ _) hb | have zz_ := Zb.keep zz_ hb | skip); (first | (have z0_ := zz_.c0; have z1_ := zz_.c1; have z2_ := zz_.f0; have z3_ := zz_.f1; have z4_ := zz_.size) | skip))))
                all_goals
                  go_wp2_with fail
                  go_meet
                  exact ⟨rfl, ⟨_, rfl, by simp [go_sem, *], by simp [go_sem, *], by (try simp only [World.size_alloc, heap_drew, World.heap_drewN, size_setCell]); omega, by (try simp only [World.size_alloc, heap_drew, World.heap_drewN, size_setCell]); omega⟩, (by repeat (first | exact Below.refl _ _ | refine below_alloc ?_ _ | refine below_step ?_ (by assumption) | refine Below.drew ?_ | refine Below.setCell ?_ (by first | exact Nat.le_refl _ | exact Nat.le_add_right _ _ | (simp <;> omega)) _ | refine below_drewN ?_ _))⟩
              case rest =>
                obtain ⟨rfl, ⟨gx, rfl, e0_, e1_, e2_, e3_⟩, hbx⟩ := hcut
                clear q_tc_c0 q_tc_c1 q_tc_size q_tx_c0 q_tx_c1 q_tx_size q_ty_c0 q_ty_c1 q_ty_size q_z8_c0 q_z8_c1 q_z8_f0 q_z8_f1 q_z8_size q_z9_c0 q_z9_c1 q_z9_f0 q_z9_f1 q_z9_size
                have tc := tc.keep hbx
                have tx := tx.keep hbx
                have ty := ty.keep hbx
                have z8 := z8.keep hbx
                have z9 := z9.keep hbx
                have BX := BX.trans (hbx.mono BX.size)
                have q_tc_c0 := tc.c0
                have q_tc_c1 := tc.c1
                have q_tc_size := tc.size
                have q_tx_c0 := tx.c0
                have q_tx_c1 := tx.c1
                have q_tx_size := tx.size
                have q_ty_c0 := ty.c0
                have q_ty_c1 := ty.c1
                have q_ty_size := ty.size
                have q_z8_c0 := z8.c0
                have q_z8_c1 := z8.c1
                have q_z8_f0 := z8.f0
                have q_z8_f1 := z8.f1
                have q_z8_size := z8.size
                have q_z9_c0 := z9.c0
                have q_z9_c1 := z9.c1
                have q_z9_f0 := z9.f0
                have q_z9_f1 := z9.f1
                have q_z9_size := z9.size
                go_wp2
                exact bodyPost_ret (v := .tuple #[.agg #[.int .i64 0, .int .i64 0], .agg #[.int .i64 0, .int .i64 0], .bool false]) (by simp [results, Try.results16, go_sem, *]) rfl (⟨by rw [Hm.out]; rfl, (by repeat (first | exact Below.refl _ _ | refine below_alloc ?_ _ | refine below_step ?_ (by assumption) | refine Below.drew ?_ | refine Below.setCell ?_ (by first | exact Nat.le_refl _ | exact Nat.le_add_right _ _ | (simp <;> omega)) _ | refine below_drewN ?_ _))⟩)
            | some p_fa =>
              obtain ⟨fa1, fa2⟩ := p_fa
              have HT := Lib.hid (frSub_t Okx.out oke.out h_fa)
              have ok_fa := Lib.hid (M.fsub_ok h_fa)
              have k_fa := Lib.hid h_fa
              clear h_fa
              go_upto_region 6 with fail
              go_cut [13, 14] (fun sx sy wx => sy = .bool true ∧ BoxAt w3 wx sx (fa1) (fa2) ∧ Below w3.heap.size w3 wx)
              case first =>
                go_region_held3 (fun W => W.cell? ⟨w.heap.size + 1, 0, none⟩ = some (.int .i64 c) ∧ W.cell? ⟨w.heap.size + 1, 1, none⟩ = some (.int .i64 d)) (first | (refine ⟨?_, ?_⟩ <;> (first | (with_reducible exact keepCell (by assumption) (by assumption)) | (with_reducible exact Gr.recell0 (by assumption)) | (with_reducible refine Gr.recell (by assumption) ?_; (intro hh_; (try simp only [World.size_alloc, heap_drew, World.heap_drewN, size_setCell] at hh_); omega)) | (with_reducible refine Gr.far2 (by assumption) ?_ ?_ <;> (intro hh_; (try simp only [World.size_alloc, heap_drew, World.heap_drewN, size_setCell] at hh_); omega)) | exact keepCell (by assumption) (by assumption) | (with_reducible exact keepFrz (by assumption) (by assumption) (by assumption)))) | (go_split_ands; (refine ⟨?_, ?_⟩ <;> (first | (with_reducible exact keepCell (by assumption) (by assumption)) | (with_reducible exact Gr.recell0 (by assumption)) | (with_reducible refine Gr.recell (by assumption) ?_; (intro hh_; (try simp only [World.size_alloc, heap_drew, World.heap_drewN, size_setCell] at hh_); omega)) | (with_reducible refine Gr.far2 (by assumption) ?_ ?_ <;> (intro hh_; (try simp only [World.size_alloc, heap_drew, World.heap_drewN, size_setCell] at hh_); omega)) | exact keepCell (by assumption) (by assumption) | (with_reducible exact keepFrz (by assumption) (by assumption) (by assumption))))) | go_keep) ((first | (go_at_call 38; refine (frInt_c _ _).mono ?_; rintro e w' ⟨rfl, hb⟩; have hz_ := hb.size; (try simp only [World.size_alloc, heap_drew, World.heap_drewN, size_setCell] at hz_); (first | have zz_ := Zb.keep (Zb.new _ _) hb | have zz_ := Zb.keep (Zb.newD _ _) hb | have zz_ := Zb.keep zz_ hb | skip); (first | (have z0_ := zz_.c0; have z1_ := zz_.c1; have z2_ := zz_.f0; have z3_ := zz_.f1; have z4_ := zz_.size) | skip)) | (go_at_call 40; refine (HT.out _).mono ?_; rintro e w' ⟨rfl, hb⟩; have hz_ := hb.size; (try simp only [World.size_alloc, heap_drew, World.heap_drewN, size_setCell] at hz_); (first | have zz_ := Zb.keep (Zb.new _ _) hb | have zz_ := Zb.keep (Zb.newD _ _) hb | have zz_ := Zb.keep zz_ hb | skip); (first | (have z0_ := zz_.c0; have z1_ := zz_.c1; have z2_ := zz_.f0; have z3_ := zz_.f1; have z4_ := zz_.size) | skip))))
                all_goals
                  go_wp2_with fail
                  go_meet
                  exact ⟨rfl, ⟨_, rfl, by simp [go_sem, *], by simp [go_sem, *], by (try simp only [World.size_alloc, heap_drew, World.heap_drewN, size_setCell]); omega, by (try simp only [World.size_alloc, heap_drew, World.heap_drewN, size_setCell]); omega⟩, (by repeat (first | exact Below.refl _ _ | refine below_alloc ?_ _ | refine below_step ?_ (by assumption) | refine Below.drew ?_ | refine Below.setCell ?_ (by first | exact Nat.le_refl _ | exact Nat.le_add_right _ _ | (simp <;> omega)) _ | refine below_drewN ?_ _))⟩
              case rest =>
                obtain ⟨rfl, ⟨g13, rfl, e0_, e1_, e2_, e3_⟩, hbx⟩ := hcut
                clear q_tc_c0 q_tc_c1 q_tc_size q_tx_c0 q_tx_c1 q_tx_size q_ty_c0 q_ty_c1 q_ty_size q_z8_c0 q_z8_c1 q_z8_f0 q_z8_f1 q_z8_size q_z9_c0 q_z9_c1 q_z9_f0 q_z9_f1 q_z9_size
                have tc := tc.keep hbx
                have tx := tx.keep hbx
                have ty := ty.keep hbx
                have z8 := z8.keep hbx
                have z9 := z9.keep hbx
                have BX := BX.trans (hbx.mono BX.size)
                have tg13 : Two wc g13 fa1 fa2 := ⟨e0_, e1_, e3_⟩
                clear e0_ e1_ e2_ e3_ hbx
                generalize wc = W_fa at *
                have q_tc_c0 := tc.c0
                have q_tc_c1 := tc.c1
                have q_tc_size := tc.size
                have q_tx_c0 := tx.c0
                have q_tx_c1 := tx.c1
                have q_tx_size := tx.size
                have q_ty_c0 := ty.c0
                have q_ty_c1 := ty.c1
                have q_ty_size := ty.size
                have q_z8_c0 := z8.c0
                have q_z8_c1 := z8.c1
                have q_z8_f0 := z8.f0
                have q_z8_f1 := z8.f1
                have q_z8_size := z8.size
                have q_z9_c0 := z9.c0
                have q_z9_c1 := z9.c1
                have q_z9_f0 := z9.f0
                have q_z9_f1 := z9.f1
                have q_z9_size := z9.size
                have q_tg13_c0 := tg13.c0
                have q_tg13_c1 := tg13.c1
                have q_tg13_size := tg13.size
                cases h_ad : M.fdiv (3 * e * e + a, 1) (fa1, fa2) with
                | none =>
                  have HF := Lib.hid (frDiv_f okt.out ok_fa.out h_ad)
                  have k_ad := Lib.hid h_ad
                  clear h_ad
                  have Hm : Hid (M.cpR a b e (c, d) (u, v) = none) := Lib.hid (by rw [Hm1.out]; simp [M.cpT, k_fa.out, k_ad.out])
                  go_upto_region 9 with fail
                  go_cut [15, 16] (fun sx sy wx => sy = .bool false ∧ BoxAt W_fa wx sx (0) (0) ∧ Below W_fa.heap.size W_fa wx)
                  case first =>
                    have i1_ := IntWalk.i64_in (3 * e) (by omega)
                    have i2_ := IntWalk.i64_in (3 * e * e) (by omega)
                    have i3_ := IntWalk.i64_in (3 * e * e + a) (by omega)
                    go_region_held3 (fun W => W.cell? ⟨g13, 0, none⟩ = some (.int .i64 fa1) ∧ W.cell? ⟨g13, 1, none⟩ = some (.int .i64 fa2) ∧ W.cell? ⟨w.heap.size, 0, none⟩ = some (.int .i64 a)) (first | (refine ⟨?_, ?_, ?_⟩ <;> (first | (with_reducible exact keepCell (by assumption) (by assumption)) | (with_reducible exact Gr.recell0 (by assumption)) | (with_reducible refine Gr.recell (by assumption) ?_; (intro hh_; (try simp only [World.size_alloc, heap_drew, World.heap_drewN, size_setCell] at hh_); omega)) | (with_reducible refine Gr.far2 (by assumption) ?_ ?_ <;> (intro hh_; (try simp only [World.size_alloc, heap_drew, World.heap_drewN, size_setCell] at hh_); omega)) | exact keepCell (by assumption) (by assumption) | (with_reducible exact keepFrz (by assumption) (by assumption) (by assumption)))) | (go_split_ands; (refine ⟨?_, ?_, ?_⟩ <;> (first | (with_reducible exact keepCell (by assumption) (by assumption)) | (with_reducible exact Gr.recell0 (by assumption)) | (with_reducible refine Gr.recell (by assumption) ?_; (intro hh_; (try simp only [World.size_alloc, heap_drew, World.heap_drewN, size_setCell] at hh_); omega)) | (with_reducible refine Gr.far2 (by assumption) ?_ ?_ <;> (intro hh_; (try simp only [World.size_alloc, heap_drew, World.heap_drewN, size_setCell] at hh_); omega)) | exact keepCell (by assumption) (by assumption) | (with_reducible exact keepFrz (by assumption) (by assumption) (by assumption))))) | go_keep) ((first | (go_at_call 38; refine (frInt_c _ _).mono ?_; rintro e w' ⟨rfl, hb⟩; have hz_ := hb.size; (try simp only [World.size_alloc, heap_drew, World.heap_drewN, size_setCell] at hz_); (first | have zz_ := Zb.keep (Zb.new _ _) hb | have zz_ := Zb.keep (Zb.newD _ _) hb | have zz_ := Zb.keep zz_ hb | skip); (first | (have z0_ := zz_.c0; have z1_ := zz_.c1; have z2_ := zz_.f0; have z3_ := zz_.f1; have z4_ := zz_.size) | skip)) | (go_at_call 41; refine (HF.out _).mono ?_; rintro e w' ⟨rfl, hb⟩; have hz_ := hb.size; (try simp only [World.size_alloc, heap_drew, World.heap_drewN, size_setCell] at hz_); (first | have zz_ := Zb.keep (Zb.new _ _) hb | have zz_ := Zb.keep (Zb.newD _ _) hb | have zz_ := Zb.keep zz_ hb | skip); (first | (have z0_ := zz_.c0; have z1_ := zz_.c1; have z2_ := zz_.f0; have z3_ := zz_.f1; have z4_ := zz_.size) | skip))))
                    all_goals
                      go_wp2_with fail
                      go_meet
                      exact ⟨rfl, ⟨_, rfl, by simp [go_sem, *], by simp [go_sem, *], by (try simp only [World.size_alloc, heap_drew, World.heap_drewN, size_setCell]); omega, by (try simp only [World.size_alloc, heap_drew, World.heap_drewN, size_setCell]); omega⟩, (by repeat (first | exact Below.refl _ _ | refine below_alloc ?_ _ | refine below_step ?_ (by assumption) | refine Below.drew ?_ | refine Below.setCell ?_ (by first | exact Nat.le_refl _ | exact Nat.le_add_right _ _ | (simp <;> omega)) _ | refine below_drewN ?_ _))⟩
                  case rest =>
                    obtain ⟨rfl, ⟨gx, rfl, e0_, e1_, e2_, e3_⟩, hbx⟩ := hcut
                    clear q_tc_c0 q_tc_c1 q_tc_size q_tx_c0 q_tx_c1 q_tx_size q_ty_c0 q_ty_c1 q_ty_size q_z8_c0 q_z8_c1 q_z8_f0 q_z8_f1 q_z8_size q_z9_c0 q_z9_c1 q_z9_f0 q_z9_f1 q_z9_size q_tg13_c0 q_tg13_c1 q_tg13_size
                    have tc := tc.keep hbx
                    have tx := tx.keep hbx
                    have ty := ty.keep hbx
                    have z8 := z8.keep hbx
                    have z9 := z9.keep hbx
                    have tg13 := tg13.keep hbx
                    have BX := BX.trans (hbx.mono BX.size)
                    have q_tc_c0 := tc.c0
                    have q_tc_c1 := tc.c1
                    have q_tc_size := tc.size
                    have q_tx_c0 := tx.c0
                    have q_tx_c1 := tx.c1
                    have q_tx_size := tx.size
                    have q_ty_c0 := ty.c0
                    have q_ty_c1 := ty.c1
                    have q_ty_size := ty.size
                    have q_z8_c0 := z8.c0
                    have q_z8_c1 := z8.c1
                    have q_z8_f0 := z8.f0
                    have q_z8_f1 := z8.f1
                    have q_z8_size := z8.size
                    have q_z9_c0 := z9.c0
                    have q_z9_c1 := z9.c1
                    have q_z9_f0 := z9.f0
                    have q_z9_f1 := z9.f1
                    have q_z9_size := z9.size
                    have q_tg13_c0 := tg13.c0
                    have q_tg13_c1 := tg13.c1
                    have q_tg13_size := tg13.size
                    go_wp2
                    exact bodyPost_ret (v := .tuple #[.agg #[.int .i64 0, .int .i64 0], .agg #[.int .i64 0, .int .i64 0], .bool false]) (by simp [results, Try.results16, go_sem, *]) rfl (⟨by rw [Hm.out]; rfl, (by repeat (first | exact Below.refl _ _ | refine below_alloc ?_ _ | refine below_step ?_ (by assumption) | refine Below.drew ?_ | refine Below.setCell ?_ (by first | exact Nat.le_refl _ | exact Nat.le_add_right _ _ | (simp <;> omega)) _ | refine below_drewN ?_ _))⟩)
                | some p_ad =>
                  obtain ⟨ad1, ad2⟩ := p_ad
                  have HT := Lib.hid (frDiv_t okt.out ok_fa.out h_ad)
                  have ok_ad := Lib.hid (M.fdiv_ok h_ad)
                  have k_ad := Lib.hid h_ad
                  clear h_ad
                  go_upto_region 9 with fail
                  go_cut [15, 16] (fun sx sy wx => sy = .bool true ∧ BoxAt W_fa wx sx (ad1) (ad2) ∧ Below W_fa.heap.size W_fa wx)
                  case first =>
                    have i1_ := IntWalk.i64_in (3 * e) (by omega)
                    have i2_ := IntWalk.i64_in (3 * e * e) (by omega)
                    have i3_ := IntWalk.i64_in (3 * e * e + a) (by omega)
                    go_region_held3 (fun W => W.cell? ⟨g13, 0, none⟩ = some (.int .i64 fa1) ∧ W.cell? ⟨g13, 1, none⟩ = some (.int .i64 fa2) ∧ W.cell? ⟨w.heap.size, 0, none⟩ = some (.int .i64 a)) (first | (refine ⟨?_, ?_, ?_⟩ <;> (first | (with_reducible exact keepCell (by assumption) (by assumption)) | (with_reducible exact Gr.recell0 (by assumption)) | (with_reducible refine Gr.recell (by assumption) ?_; (intro hh_; (try simp only [World.size_alloc, heap_drew, World.heap_drewN, size_setCell] at hh_); omega)) | (with_reducible refine Gr.far2 (by assumption) ?_ ?_ <;> (intro hh_; (try simp only [World.size_alloc, heap_drew, World.heap_drewN, size_setCell] at hh_); omega)) | exact keepCell (by assumption) (by assumption) | (with_reducible exact keepFrz (by assumption) (by assumption) (by assumption)))) | (go_split_ands; (refine ⟨?_, ?_, ?_⟩ <;> (first | (with_reducible exact keepCell (by assumption) (by assumption)) | (with_reducible exact Gr.recell0 (by assumption)) | (with_reducible refine Gr.recell (by assumption) ?_; (intro hh_; (try simp only [World.size_alloc, heap_drew, World.heap_drewN, size_setCell] at hh_); omega)) | (with_reducible refine Gr.far2 (by assumption) ?_ ?_ <;> (intro hh_; (try simp only [World.size_alloc, heap_drew, World.heap_drewN, size_setCell] at hh_); omega)) | exact keepCell (by assumption) (by assumption) | (with_reducible exact keepFrz (by assumption) (by assumption) (by assumption))))) | go_keep) ((first | (go_at_call 38; refine (frInt_c _ _).mono ?_; rintro e w' ⟨rfl, hb⟩; have hz_ := hb.size; (try simp only [World.size_alloc, heap_drew, World.heap_drewN, size_setCell] at hz_); (first | have zz_ := Zb.keep (Zb.new _ _) hb | have zz_ := Zb.keep (Zb.newD _ _) hb | have zz_ := Zb.keep zz_ hb | skip); (first | (have z0_ := zz_.c0; have z1_ := zz_.c1; have z2_ := zz_.f0; have z3_ := zz_.f1; have z4_ := zz_.size) | skip)) | (go_at_call 41; refine (HT.out _).mono ?_; rintro e w' ⟨rfl, hb⟩; have hz_ := hb.size; (try simp only [World.size_alloc, heap_drew, World.heap_drewN, size_setCell] at hz_); (first | have zz_ := Zb.keep (Zb.new _ _) hb | have zz_ := Zb.keep (Zb.newD _ _) hb | have zz_ := Zb.keep zz_ hb | skip); (first | (have z0_ := zz_.c0; have z1_ := zz_.c1; have z2_ := zz_.f0; have z3_ := zz_.f1; have z4_ := zz_.size) | skip))))
                    all_goals
                      go_wp2_with fail
                      go_meet
                      exact ⟨rfl, ⟨_, rfl, by simp [go_sem, *], by simp [go_sem, *], by (try simp only [World.size_alloc, heap_drew, World.heap_drewN, size_setCell]); omega, by (try simp only [World.size_alloc, heap_drew, World.heap_drewN, size_setCell]); omega⟩, (by repeat (first | exact Below.refl _ _ | refine below_alloc ?_ _ | refine below_step ?_ (by assumption) | refine Below.drew ?_ | refine Below.setCell ?_ (by first | exact Nat.le_refl _ | exact Nat.le_add_right _ _ | (simp <;> omega)) _ | refine below_drewN ?_ _))⟩
                  case rest =>
                    obtain ⟨rfl, ⟨g15, rfl, e0_, e1_, e2_, e3_⟩, hbx⟩ := hcut
                    clear q_tc_c0 q_tc_c1 q_tc_size q_tx_c0 q_tx_c1 q_tx_size q_ty_c0 q_ty_c1 q_ty_size q_z8_c0 q_z8_c1 q_z8_f0 q_z8_f1 q_z8_size q_z9_c0 q_z9_c1 q_z9_f0 q_z9_f1 q_z9_size q_tg13_c0 q_tg13_c1 q_tg13_size
                    have tc := tc.keep hbx
                    have tx := tx.keep hbx
                    have ty := ty.keep hbx
                    have z8 := z8.keep hbx
                    have z9 := z9.keep hbx
                    have tg13 := tg13.keep hbx
                    have BX := BX.trans (hbx.mono BX.size)
                    have tg15 : Two wc g15 ad1 ad2 := ⟨e0_, e1_, e3_⟩
                    clear e0_ e1_ e2_ e3_ hbx
                    generalize wc = W_ad at *
                    have q_tc_c0 := tc.c0
                    have q_tc_c1 := tc.c1
                    have q_tc_size := tc.size
                    have q_tx_c0 := tx.c0
                    have q_tx_c1 := tx.c1
                    have q_tx_size := tx.size
                    have q_ty_c0 := ty.c0
                    have q_ty_c1 := ty.c1
                    have q_ty_size := ty.size
                    have q_z8_c0 := z8.c0
                    have q_z8_c1 := z8.c1
                    have q_z8_f0 := z8.f0
                    have q_z8_f1 := z8.f1
                    have q_z8_size := z8.size
                    have q_z9_c0 := z9.c0
                    have q_z9_c1 := z9.c1
                    have q_z9_f0 := z9.f0
                    have q_z9_f1 := z9.f1
                    have q_z9_size := z9.size
                    have q_tg13_c0 := tg13.c0
                    have q_tg13_c1 := tg13.c1
                    have q_tg13_size := tg13.size
                    have q_tg15_c0 := tg15.c0
                    have q_tg15_c1 := tg15.c1
                    have q_tg15_size := tg15.size
                    go_wp2_with fail
                    cases h_fi : M.fadd (c, d) (ad1, ad2) with
                    | none =>
                      have HF := Lib.hid (frAdd_f Okx.out ok_ad.out h_fi)
                      have k_fi := Lib.hid h_fi
                      clear h_fi
                      have HG := fun w => frDiv_c ad1 ad2 fa1 fa2 w ok_ad.out ok_fa.out
                      generalize M.fdiv (ad1, ad2) (fa1, fa2) = r2 at HG
                      have HG := Lib.hid HG
                      have Hm : Hid (M.cpR a b e (c, d) (u, v) = none) := Lib.hid (by rw [Hm1.out]; simp [M.cpT, k_fa.out, k_ad.out, k_fi.out])
                      refine (HF.out _).mono ?_; rintro r w5 ⟨rfl, hb5⟩
                      clear q_tc_c0 q_tc_c1 q_tc_size q_tx_c0 q_tx_c1 q_tx_size q_ty_c0 q_ty_c1 q_ty_size q_z8_c0 q_z8_c1 q_z8_f0 q_z8_f1 q_z8_size q_z9_c0 q_z9_c1 q_z9_f0 q_z9_f1 q_z9_size q_tg13_c0 q_tg13_c1 q_tg13_size q_tg15_c0 q_tg15_c1 q_tg15_size
                      have tc := tc.keep hb5
                      have tx := tx.keep hb5
                      have ty := ty.keep hb5
                      have z8 := z8.keep hb5
                      have z9 := z9.keep hb5
                      have tg13 := tg13.keep hb5
                      have tg15 := tg15.keep hb5
                      have tc := tc.alloc (.cells #[.int .i64 0, .int .i64 0] 38)
                      have tx := tx.alloc (.cells #[.int .i64 0, .int .i64 0] 38)
                      have ty := ty.alloc (.cells #[.int .i64 0, .int .i64 0] 38)
                      have z8 := z8.alloc (.cells #[.int .i64 0, .int .i64 0] 38)
                      have z9 := z9.alloc (.cells #[.int .i64 0, .int .i64 0] 38)
                      have tg13 := tg13.alloc (.cells #[.int .i64 0, .int .i64 0] 38)
                      have tg15 := tg15.alloc (.cells #[.int .i64 0, .int .i64 0] 38)
                      have BX := below_alloc (BX.trans (hb5.mono BX.size)) (.cells #[.int .i64 0, .int .i64 0] 38)
                      have q_tc_c0 := tc.c0
                      have q_tc_c1 := tc.c1
                      have q_tc_size := tc.size
                      have q_tx_c0 := tx.c0
                      have q_tx_c1 := tx.c1
                      have q_tx_size := tx.size
                      have q_ty_c0 := ty.c0
                      have q_ty_c1 := ty.c1
                      have q_ty_size := ty.size
                      have q_z8_c0 := z8.c0
                      have q_z8_c1 := z8.c1
                      have q_z8_f0 := z8.f0
                      have q_z8_f1 := z8.f1
                      have q_z8_size := z8.size
                      have q_z9_c0 := z9.c0
                      have q_z9_c1 := z9.c1
                      have q_z9_f0 := z9.f0
                      have q_z9_f1 := z9.f1
                      have q_z9_size := z9.size
                      have q_tg13_c0 := tg13.c0
                      have q_tg13_c1 := tg13.c1
                      have q_tg13_size := tg13.size
                      have q_tg15_c0 := tg15.c0
                      have q_tg15_c1 := tg15.c1
                      have q_tg15_size := tg15.size
                      go_wp2_with fail
                      refine (HG.out _).mono ?_; rintro r w6 ⟨rfl, hb6⟩
                      clear q_tc_c0 q_tc_c1 q_tc_size q_tx_c0 q_tx_c1 q_tx_size q_ty_c0 q_ty_c1 q_ty_size q_z8_c0 q_z8_c1 q_z8_f0 q_z8_f1 q_z8_size q_z9_c0 q_z9_c1 q_z9_f0 q_z9_f1 q_z9_size q_tg13_c0 q_tg13_c1 q_tg13_size q_tg15_c0 q_tg15_c1 q_tg15_size
                      have tc := tc.keep hb6
                      have tx := tx.keep hb6
                      have ty := ty.keep hb6
                      have z8 := z8.keep hb6
                      have z9 := z9.keep hb6
                      have tg13 := tg13.keep hb6
                      have tg15 := tg15.keep hb6
                      have tc := tc.alloc (.cells #[.int .i64 (M.fN r2), .int .i64 (M.fD r2)] 38)
                      have tx := tx.alloc (.cells #[.int .i64 (M.fN r2), .int .i64 (M.fD r2)] 38)
                      have ty := ty.alloc (.cells #[.int .i64 (M.fN r2), .int .i64 (M.fD r2)] 38)
                      have z8 := z8.alloc (.cells #[.int .i64 (M.fN r2), .int .i64 (M.fD r2)] 38)
                      have z9 := z9.alloc (.cells #[.int .i64 (M.fN r2), .int .i64 (M.fD r2)] 38)
                      have tg13 := tg13.alloc (.cells #[.int .i64 (M.fN r2), .int .i64 (M.fD r2)] 38)
                      have tg15 := tg15.alloc (.cells #[.int .i64 (M.fN r2), .int .i64 (M.fD r2)] 38)
                      have BX := below_alloc (BX.trans (hb6.mono BX.size)) (.cells #[.int .i64 (M.fN r2), .int .i64 (M.fD r2)] 38)
                      have q_tc_c0 := tc.c0
                      have q_tc_c1 := tc.c1
                      have q_tc_size := tc.size
                      have q_tx_c0 := tx.c0
                      have q_tx_c1 := tx.c1
                      have q_tx_size := tx.size
                      have q_ty_c0 := ty.c0
                      have q_ty_c1 := ty.c1
                      have q_ty_size := ty.size
                      have q_z8_c0 := z8.c0
                      have q_z8_c1 := z8.c1
                      have q_z8_f0 := z8.f0
                      have q_z8_f1 := z8.f1
                      have q_z8_size := z8.size
                      have q_z9_c0 := z9.c0
                      have q_z9_c1 := z9.c1
                      have q_z9_f0 := z9.f0
                      have q_z9_f1 := z9.f1
                      have q_z9_size := z9.size
                      have q_tg13_c0 := tg13.c0
                      have q_tg13_c1 := tg13.c1
                      have q_tg13_size := tg13.size
                      have q_tg15_c0 := tg15.c0
                      have q_tg15_c1 := tg15.c1
                      have q_tg15_size := tg15.size
                      go_wp2
                      exact bodyPost_ret (v := .tuple #[.agg #[.int .i64 0, .int .i64 0], .agg #[.int .i64 0, .int .i64 0], .bool false]) (by simp [results, Try.results16, go_sem, *]) rfl (⟨by rw [Hm.out]; rfl, (by repeat (first | exact Below.refl _ _ | refine below_alloc ?_ _ | refine below_step ?_ (by assumption) | refine Below.drew ?_ | refine Below.setCell ?_ (by first | exact Nat.le_refl _ | exact Nat.le_add_right _ _ | (simp <;> omega)) _ | refine below_drewN ?_ _))⟩)
                    | some p_fi =>
                      obtain ⟨fi1, fi2⟩ := p_fi
                      have HT := Lib.hid (frAdd_t Okx.out ok_ad.out h_fi)
                      have k_fi := Lib.hid h_fi
                      clear h_fi
                      refine (HT.out _).mono ?_; rintro r w5 ⟨rfl, hb5⟩
                      clear q_tc_c0 q_tc_c1 q_tc_size q_tx_c0 q_tx_c1 q_tx_size q_ty_c0 q_ty_c1 q_ty_size q_z8_c0 q_z8_c1 q_z8_f0 q_z8_f1 q_z8_size q_z9_c0 q_z9_c1 q_z9_f0 q_z9_f1 q_z9_size q_tg13_c0 q_tg13_c1 q_tg13_size q_tg15_c0 q_tg15_c1 q_tg15_size
                      have tc := tc.keep hb5
                      have tx := tx.keep hb5
                      have ty := ty.keep hb5
                      have z8 := z8.keep hb5
                      have z9 := z9.keep hb5
                      have tg13 := tg13.keep hb5
                      have tg15 := tg15.keep hb5
                      have tc := tc.alloc (.cells #[.int .i64 fi1, .int .i64 fi2] 38)
                      have tx := tx.alloc (.cells #[.int .i64 fi1, .int .i64 fi2] 38)
                      have ty := ty.alloc (.cells #[.int .i64 fi1, .int .i64 fi2] 38)
                      have z8 := z8.alloc (.cells #[.int .i64 fi1, .int .i64 fi2] 38)
                      have z9 := z9.alloc (.cells #[.int .i64 fi1, .int .i64 fi2] 38)
                      have tg13 := tg13.alloc (.cells #[.int .i64 fi1, .int .i64 fi2] 38)
                      have tg15 := tg15.alloc (.cells #[.int .i64 fi1, .int .i64 fi2] 38)
                      have tg17 := Two.new w5 fi1 fi2 38
                      have BX := below_alloc (BX.trans (hb5.mono BX.size)) (.cells #[.int .i64 fi1, .int .i64 fi2] 38)
                      have q_tc_c0 := tc.c0
                      have q_tc_c1 := tc.c1
                      have q_tc_size := tc.size
                      have q_tx_c0 := tx.c0
                      have q_tx_c1 := tx.c1
                      have q_tx_size := tx.size
                      have q_ty_c0 := ty.c0
                      have q_ty_c1 := ty.c1
                      have q_ty_size := ty.size
                      have q_z8_c0 := z8.c0
                      have q_z8_c1 := z8.c1
                      have q_z8_f0 := z8.f0
                      have q_z8_f1 := z8.f1
                      have q_z8_size := z8.size
                      have q_z9_c0 := z9.c0
                      have q_z9_c1 := z9.c1
                      have q_z9_f0 := z9.f0
                      have q_z9_f1 := z9.f1
                      have q_z9_size := z9.size
                      have q_tg13_c0 := tg13.c0
                      have q_tg13_c1 := tg13.c1
                      have q_tg13_size := tg13.size
                      have q_tg15_c0 := tg15.c0
                      have q_tg15_c1 := tg15.c1
                      have q_tg15_size := tg15.size
                      have q_tg17_c0 := tg17.c0
                      have q_tg17_c1 := tg17.c1
                      have q_tg17_size := tg17.size
                      go_wp2_with fail
                      generalize hg17 : w5.heap.size = g17 at *
                      cases h_pt : M.fdiv (ad1, ad2) (fa1, fa2) with
                      | none =>
                        have HF := Lib.hid (frDiv_f ok_ad.out ok_fa.out h_pt)
                        have k_pt := Lib.hid h_pt
                        clear h_pt
                        have Hm : Hid (M.cpR a b e (c, d) (u, v) = none) := Lib.hid (by rw [Hm1.out]; simp [M.cpT, k_fa.out, k_ad.out, k_fi.out, k_pt.out])
                        refine (HF.out _).mono ?_; rintro r w6 ⟨rfl, hb6⟩
                        clear q_tc_c0 q_tc_c1 q_tc_size q_tx_c0 q_tx_c1 q_tx_size q_ty_c0 q_ty_c1 q_ty_size q_z8_c0 q_z8_c1 q_z8_f0 q_z8_f1 q_z8_size q_z9_c0 q_z9_c1 q_z9_f0 q_z9_f1 q_z9_size q_tg13_c0 q_tg13_c1 q_tg13_size q_tg15_c0 q_tg15_c1 q_tg15_size q_tg17_c0 q_tg17_c1 q_tg17_size
                        have tc := tc.keep hb6
                        have tx := tx.keep hb6
                        have ty := ty.keep hb6
                        have z8 := z8.keep hb6
                        have z9 := z9.keep hb6
                        have tg13 := tg13.keep hb6
                        have tg15 := tg15.keep hb6
                        have tg17 := tg17.keep hb6
                        have tc := tc.alloc (.cells #[.int .i64 0, .int .i64 0] 38)
                        have tx := tx.alloc (.cells #[.int .i64 0, .int .i64 0] 38)
                        have ty := ty.alloc (.cells #[.int .i64 0, .int .i64 0] 38)
                        have z8 := z8.alloc (.cells #[.int .i64 0, .int .i64 0] 38)
                        have z9 := z9.alloc (.cells #[.int .i64 0, .int .i64 0] 38)
                        have tg13 := tg13.alloc (.cells #[.int .i64 0, .int .i64 0] 38)
                        have tg15 := tg15.alloc (.cells #[.int .i64 0, .int .i64 0] 38)
                        have tg17 := tg17.alloc (.cells #[.int .i64 0, .int .i64 0] 38)
                        have BX := below_alloc (BX.trans (hb6.mono BX.size)) (.cells #[.int .i64 0, .int .i64 0] 38)
                        have q_tc_c0 := tc.c0
                        have q_tc_c1 := tc.c1
                        have q_tc_size := tc.size
                        have q_tx_c0 := tx.c0
                        have q_tx_c1 := tx.c1
                        have q_tx_size := tx.size
                        have q_ty_c0 := ty.c0
                        have q_ty_c1 := ty.c1
                        have q_ty_size := ty.size
                        have q_z8_c0 := z8.c0
                        have q_z8_c1 := z8.c1
                        have q_z8_f0 := z8.f0
                        have q_z8_f1 := z8.f1
                        have q_z8_size := z8.size
                        have q_z9_c0 := z9.c0
                        have q_z9_c1 := z9.c1
                        have q_z9_f0 := z9.f0
                        have q_z9_f1 := z9.f1
                        have q_z9_size := z9.size
                        have q_tg13_c0 := tg13.c0
                        have q_tg13_c1 := tg13.c1
                        have q_tg13_size := tg13.size
                        have q_tg15_c0 := tg15.c0
                        have q_tg15_c1 := tg15.c1
                        have q_tg15_size := tg15.size
                        have q_tg17_c0 := tg17.c0
                        have q_tg17_c1 := tg17.c1
                        have q_tg17_size := tg17.size
                        go_wp2
                        exact bodyPost_ret (v := .tuple #[.agg #[.int .i64 0, .int .i64 0], .agg #[.int .i64 0, .int .i64 0], .bool false]) (by simp [results, Try.results16, go_sem, *]) rfl (⟨by rw [Hm.out]; rfl, (by repeat (first | exact Below.refl _ _ | refine below_alloc ?_ _ | refine below_step ?_ (by assumption) | refine Below.drew ?_ | refine Below.setCell ?_ (by first | exact Nat.le_refl _ | exact Nat.le_add_right _ _ | (simp <;> omega)) _ | refine below_drewN ?_ _))⟩)
                      | some p_pt =>
                        obtain ⟨pt1, pt2⟩ := p_pt
                        have HT := Lib.hid (frDiv_t ok_ad.out ok_fa.out h_pt)
                        have ok_pt := Lib.hid (M.fdiv_ok h_pt)
                        have k_pt := Lib.hid h_pt
                        clear h_pt
                        refine (HT.out _).mono ?_; rintro r w6 ⟨rfl, hb6⟩
                        clear q_tc_c0 q_tc_c1 q_tc_size q_tx_c0 q_tx_c1 q_tx_size q_ty_c0 q_ty_c1 q_ty_size q_z8_c0 q_z8_c1 q_z8_f0 q_z8_f1 q_z8_size q_z9_c0 q_z9_c1 q_z9_f0 q_z9_f1 q_z9_size q_tg13_c0 q_tg13_c1 q_tg13_size q_tg15_c0 q_tg15_c1 q_tg15_size q_tg17_c0 q_tg17_c1 q_tg17_size
                        have tc := tc.keep hb6
                        have tx := tx.keep hb6
                        have ty := ty.keep hb6
                        have z8 := z8.keep hb6
                        have z9 := z9.keep hb6
                        have tg13 := tg13.keep hb6
                        have tg15 := tg15.keep hb6
                        have tg17 := tg17.keep hb6
                        have tc := tc.alloc (.cells #[.int .i64 pt1, .int .i64 pt2] 38)
                        have tx := tx.alloc (.cells #[.int .i64 pt1, .int .i64 pt2] 38)
                        have ty := ty.alloc (.cells #[.int .i64 pt1, .int .i64 pt2] 38)
                        have z8 := z8.alloc (.cells #[.int .i64 pt1, .int .i64 pt2] 38)
                        have z9 := z9.alloc (.cells #[.int .i64 pt1, .int .i64 pt2] 38)
                        have tg13 := tg13.alloc (.cells #[.int .i64 pt1, .int .i64 pt2] 38)
                        have tg15 := tg15.alloc (.cells #[.int .i64 pt1, .int .i64 pt2] 38)
                        have tg17 := tg17.alloc (.cells #[.int .i64 pt1, .int .i64 pt2] 38)
                        have tg19 := Two.new w6 pt1 pt2 38
                        have BX := below_alloc (BX.trans (hb6.mono BX.size)) (.cells #[.int .i64 pt1, .int .i64 pt2] 38)
                        have g19e : ∃ g, g = w6.heap.size := ⟨_, rfl⟩
                        have q_tc_c0 := tc.c0
                        have q_tc_c1 := tc.c1
                        have q_tc_size := tc.size
                        have q_tx_c0 := tx.c0
                        have q_tx_c1 := tx.c1
                        have q_tx_size := tx.size
                        have q_ty_c0 := ty.c0
                        have q_ty_c1 := ty.c1
                        have q_ty_size := ty.size
                        have q_z8_c0 := z8.c0
                        have q_z8_c1 := z8.c1
                        have q_z8_f0 := z8.f0
                        have q_z8_f1 := z8.f1
                        have q_z8_size := z8.size
                        have q_z9_c0 := z9.c0
                        have q_z9_c1 := z9.c1
                        have q_z9_f0 := z9.f0
                        have q_z9_f1 := z9.f1
                        have q_z9_size := z9.size
                        have q_tg13_c0 := tg13.c0
                        have q_tg13_c1 := tg13.c1
                        have q_tg13_size := tg13.size
                        have q_tg15_c0 := tg15.c0
                        have q_tg15_c1 := tg15.c1
                        have q_tg15_size := tg15.size
                        have q_tg17_c0 := tg17.c0
                        have q_tg17_c1 := tg17.c1
                        have q_tg17_size := tg17.size
                        have q_tg19_c0 := tg19.c0
                        have q_tg19_c1 := tg19.c1
                        have q_tg19_size := tg19.size
                        go_upto_region 16 with fail
                        generalize w6.alloc (.cells #[.int .i64 pt1, .int .i64 pt2] 38) = W6 at *
                        clear hb5 hb6
                        cases h_ls : M.fsub (1, 1) (pt1, pt2) with
                        | none =>
                          have HF := Lib.hid (frSub_f (M.frOk_whole (n := 1) (by omega) (by omega)) ok_pt.out h_ls)
                          have k_ls := Lib.hid h_ls
                          clear h_ls
                          have Hm : Hid (M.cpR a b e (c, d) (u, v) = none) := Lib.hid (by rw [Hm1.out]; simp [M.cpT, k_fa.out, k_ad.out, k_fi.out, k_pt.out, k_ls.out])
                          go_upto_region 16 with fail
                          go_cut [21, 22] (fun sx sy wx => sy = .bool false ∧ BoxAt W6 wx sx (0) (0) ∧ Below W6.heap.size W6 wx)
                          case first =>
                            go_region_held3 (fun W => W.cell? ⟨w6.heap.size, 0, none⟩ = some (.int .i64 pt1) ∧ W.cell? ⟨w6.heap.size, 1, none⟩ = some (.int .i64 pt2)) (first | (refine ⟨?_, ?_⟩ <;> (first | (with_reducible exact keepCell (by assumption) (by assumption)) | (with_reducible exact Gr.recell0 (by assumption)) | (with_reducible refine Gr.recell (by assumption) ?_; (intro hh_; (try simp only [World.size_alloc, heap_drew, World.heap_drewN, size_setCell] at hh_); omega)) | (with_reducible refine Gr.far2 (by assumption) ?_ ?_ <;> (intro hh_; (try simp only [World.size_alloc, heap_drew, World.heap_drewN, size_setCell] at hh_); omega)) | exact keepCell (by assumption) (by assumption) | (with_reducible exact keepFrz (by assumption) (by assumption) (by assumption)))) | (go_split_ands; (refine ⟨?_, ?_⟩ <;> (first | (with_reducible exact keepCell (by assumption) (by assumption)) | (with_reducible exact Gr.recell0 (by assumption)) | (with_reducible refine Gr.recell (by assumption) ?_; (intro hh_; (try simp only [World.size_alloc, heap_drew, World.heap_drewN, size_setCell] at hh_); omega)) | (with_reducible refine Gr.far2 (by assumption) ?_ ?_ <;> (intro hh_; (try simp only [World.size_alloc, heap_drew, World.heap_drewN, size_setCell] at hh_); omega)) | exact keepCell (by assumption) (by assumption) | (with_reducible exact keepFrz (by assumption) (by assumption) (by assumption))))) | go_keep) ((first | (go_at_call 38; refine (frInt_c _ _).mono ?_; rintro e w' ⟨rfl, hb⟩; have hz_ := hb.size; (try simp only [World.size_alloc, heap_drew, World.heap_drewN, size_setCell] at hz_); (first | have zz_ := Zb.keep (Zb.new _ _) hb | have zz_ := Zb.keep (Zb.newD _ _) hb | have zz_ := Zb.keep zz_ hb | skip); (first | (have z0_ := zz_.c0; have z1_ := zz_.c1; have z2_ := zz_.f0; have z3_ := zz_.f1; have z4_ := zz_.size) | skip)) | (go_at_call 40; refine (HF.out _).mono ?_; rintro e w' ⟨rfl, hb⟩; have hz_ := hb.size; (try simp only [World.size_alloc, heap_drew, World.heap_drewN, size_setCell] at hz_); (first | have zz_ := Zb.keep (Zb.new _ _) hb | have zz_ := Zb.keep (Zb.newD _ _) hb | have zz_ := Zb.keep zz_ hb | skip); (first | (have z0_ := zz_.c0; have z1_ := zz_.c1; have z2_ := zz_.f0; have z3_ := zz_.f1; have z4_ := zz_.size) | skip))))
                            all_goals
                              go_wp2_with fail
                              go_meet
                              exact ⟨rfl, ⟨_, rfl, by simp [go_sem, *], by simp [go_sem, *], by (try simp only [World.size_alloc, heap_drew, World.heap_drewN, size_setCell]); omega, by (try simp only [World.size_alloc, heap_drew, World.heap_drewN, size_setCell]); omega⟩, (by repeat (first | exact Below.refl _ _ | refine below_alloc ?_ _ | refine below_step ?_ (by assumption) | refine Below.drew ?_ | refine Below.setCell ?_ (by first | exact Nat.le_refl _ | exact Nat.le_add_right _ _ | (simp <;> omega)) _ | refine below_drewN ?_ _))⟩
                          case rest =>
                            obtain ⟨rfl, ⟨gx, rfl, e0_, e1_, e2_, e3_⟩, hbx⟩ := hcut
                            clear q_tc_c0 q_tc_c1 q_tc_size q_tx_c0 q_tx_c1 q_tx_size q_ty_c0 q_ty_c1 q_ty_size q_z8_c0 q_z8_c1 q_z8_f0 q_z8_f1 q_z8_size q_z9_c0 q_z9_c1 q_z9_f0 q_z9_f1 q_z9_size q_tg13_c0 q_tg13_c1 q_tg13_size q_tg15_c0 q_tg15_c1 q_tg15_size q_tg17_c0 q_tg17_c1 q_tg17_size q_tg19_c0 q_tg19_c1 q_tg19_size
                            have tc := tc.keep hbx
                            have tx := tx.keep hbx
                            have ty := ty.keep hbx
                            have z8 := z8.keep hbx
                            have z9 := z9.keep hbx
                            have tg13 := tg13.keep hbx
                            have tg15 := tg15.keep hbx
                            have tg17 := tg17.keep hbx
                            have tg19 := tg19.keep hbx
                            have BX := BX.trans (hbx.mono BX.size)
                            have q_tc_c0 := tc.c0
                            have q_tc_c1 := tc.c1
                            have q_tc_size := tc.size
                            have q_tx_c0 := tx.c0
                            have q_tx_c1 := tx.c1
                            have q_tx_size := tx.size
                            have q_ty_c0 := ty.c0
                            have q_ty_c1 := ty.c1
                            have q_ty_size := ty.size
                            have q_z8_c0 := z8.c0
                            have q_z8_c1 := z8.c1
                            have q_z8_f0 := z8.f0
                            have q_z8_f1 := z8.f1
                            have q_z8_size := z8.size
                            have q_z9_c0 := z9.c0
                            have q_z9_c1 := z9.c1
                            have q_z9_f0 := z9.f0
                            have q_z9_f1 := z9.f1
                            have q_z9_size := z9.size
                            have q_tg13_c0 := tg13.c0
                            have q_tg13_c1 := tg13.c1
                            have q_tg13_size := tg13.size
                            have q_tg15_c0 := tg15.c0
                            have q_tg15_c1 := tg15.c1
                            have q_tg15_size := tg15.size
                            have q_tg17_c0 := tg17.c0
                            have q_tg17_c1 := tg17.c1
                            have q_tg17_size := tg17.size
                            have q_tg19_c0 := tg19.c0
                            have q_tg19_c1 := tg19.c1
                            have q_tg19_size := tg19.size
                            go_wp2
                            exact bodyPost_ret (v := .tuple #[.agg #[.int .i64 0, .int .i64 0], .agg #[.int .i64 0, .int .i64 0], .bool false]) (by simp [results, Try.results16, go_sem, *]) rfl (⟨by rw [Hm.out]; rfl, (by repeat (first | exact Below.refl _ _ | refine below_alloc ?_ _ | refine below_step ?_ (by assumption) | refine Below.drew ?_ | refine Below.setCell ?_ (by first | exact Nat.le_refl _ | exact Nat.le_add_right _ _ | (simp <;> omega)) _ | refine below_drewN ?_ _))⟩)
                        | some p_ls =>
                          obtain ⟨ls1, ls2⟩ := p_ls
                          have HT := Lib.hid (frSub_t (M.frOk_whole (n := 1) (by omega) (by omega)) ok_pt.out h_ls)
                          have ok_ls := Lib.hid (M.fsub_ok h_ls)
                          have k_ls := Lib.hid h_ls
                          clear h_ls
                          go_upto_region 16 with fail
                          go_cut [21, 22] (fun sx sy wx => sy = .bool true ∧ BoxAt W6 wx sx (ls1) (ls2) ∧ Below W6.heap.size W6 wx)
                          case first =>
                            go_region_held3 (fun W => W.cell? ⟨w6.heap.size, 0, none⟩ = some (.int .i64 pt1) ∧ W.cell? ⟨w6.heap.size, 1, none⟩ = some (.int .i64 pt2)) (first | (refine ⟨?_, ?_⟩ <;> (first | (with_reducible exact keepCell (by assumption) (by assumption)) | (with_reducible exact Gr.recell0 (by assumption)) | (with_reducible refine Gr.recell (by assumption) ?_; (intro hh_; (try simp only [World.size_alloc, heap_drew, World.heap_drewN, size_setCell] at hh_); omega)) | (with_reducible refine Gr.far2 (by assumption) ?_ ?_ <;> (intro hh_; (try simp only [World.size_alloc, heap_drew, World.heap_drewN, size_setCell] at hh_); omega)) | exact keepCell (by assumption) (by assumption) | (with_reducible exact keepFrz (by assumption) (by assumption) (by assumption)))) | (go_split_ands; (refine ⟨?_, ?_⟩ <;> (first | (with_reducible exact keepCell (by assumption) (by assumption)) | (with_reducible exact Gr.recell0 (by assumption)) | (with_reducible refine Gr.recell (by assumption) ?_; (intro hh_; (try simp only [World.size_alloc, heap_drew, World.heap_drewN, size_setCell] at hh_); omega)) | (with_reducible refine Gr.far2 (by assumption) ?_ ?_ <;> (intro hh_; (try simp only [World.size_alloc, heap_drew, World.heap_drewN, size_setCell] at hh_); omega)) | exact keepCell (by assumption) (by assumption) | (with_reducible exact keepFrz (by assumption) (by assumption) (by assumption))))) | go_keep) ((first | (go_at_call 38; refine (frInt_c _ _).mono ?_; rintro e w' ⟨rfl, hb⟩; have hz_ := hb.size; (try simp only [World.size_alloc, heap_drew, World.heap_drewN, size_setCell] at hz_); (first | have zz_ := Zb.keep (Zb.new _ _) hb | have zz_ := Zb.keep (Zb.newD _ _) hb | have zz_ := Zb.keep zz_ hb | skip); (first | (have z0_ := zz_.c0; have z1_ := zz_.c1; have z2_ := zz_.f0; have z3_ := zz_.f1; have z4_ := zz_.size) | skip)) | (go_at_call 40; refine (HT.out _).mono ?_; rintro e w' ⟨rfl, hb⟩; have hz_ := hb.size; (try simp only [World.size_alloc, heap_drew, World.heap_drewN, size_setCell] at hz_); (first | have zz_ := Zb.keep (Zb.new _ _) hb | have zz_ := Zb.keep (Zb.newD _ _) hb | have zz_ := Zb.keep zz_ hb | skip); (first | (have z0_ := zz_.c0; have z1_ := zz_.c1; have z2_ := zz_.f0; have z3_ := zz_.f1; have z4_ := zz_.size) | skip))))
                            all_goals
                              go_wp2_with fail
                              go_meet
                              exact ⟨rfl, ⟨_, rfl, by simp [go_sem, *], by simp [go_sem, *], by (try simp only [World.size_alloc, heap_drew, World.heap_drewN, size_setCell]); omega, by (try simp only [World.size_alloc, heap_drew, World.heap_drewN, size_setCell]); omega⟩, (by repeat (first | exact Below.refl _ _ | refine below_alloc ?_ _ | refine below_step ?_ (by assumption) | refine Below.drew ?_ | refine Below.setCell ?_ (by first | exact Nat.le_refl _ | exact Nat.le_add_right _ _ | (simp <;> omega)) _ | refine below_drewN ?_ _))⟩
                          case rest =>
                            obtain ⟨rfl, ⟨g21, rfl, e0_, e1_, e2_, e3_⟩, hbx⟩ := hcut
                            clear q_tc_c0 q_tc_c1 q_tc_size q_tx_c0 q_tx_c1 q_tx_size q_ty_c0 q_ty_c1 q_ty_size q_z8_c0 q_z8_c1 q_z8_f0 q_z8_f1 q_z8_size q_z9_c0 q_z9_c1 q_z9_f0 q_z9_f1 q_z9_size q_tg13_c0 q_tg13_c1 q_tg13_size q_tg15_c0 q_tg15_c1 q_tg15_size q_tg17_c0 q_tg17_c1 q_tg17_size q_tg19_c0 q_tg19_c1 q_tg19_size
                            have tc := tc.keep hbx
                            have tx := tx.keep hbx
                            have ty := ty.keep hbx
                            have z8 := z8.keep hbx
                            have z9 := z9.keep hbx
                            have tg13 := tg13.keep hbx
                            have tg15 := tg15.keep hbx
                            have tg17 := tg17.keep hbx
                            have tg19 := tg19.keep hbx
                            have BX := BX.trans (hbx.mono BX.size)
                            have tg21 : Two wc g21 ls1 ls2 := ⟨e0_, e1_, e3_⟩
                            clear e0_ e1_ e2_ e3_ hbx
                            generalize wc = W_ls at *
                            have q_tc_c0 := tc.c0
                            have q_tc_c1 := tc.c1
                            have q_tc_size := tc.size
                            have q_tx_c0 := tx.c0
                            have q_tx_c1 := tx.c1
                            have q_tx_size := tx.size
                            have q_ty_c0 := ty.c0
                            have q_ty_c1 := ty.c1
                            have q_ty_size := ty.size
                            have q_z8_c0 := z8.c0
                            have q_z8_c1 := z8.c1
                            have q_z8_f0 := z8.f0
                            have q_z8_f1 := z8.f1
                            have q_z8_size := z8.size
                            have q_z9_c0 := z9.c0
                            have q_z9_c1 := z9.c1
                            have q_z9_f0 := z9.f0
                            have q_z9_f1 := z9.f1
                            have q_z9_size := z9.size
                            have q_tg13_c0 := tg13.c0
                            have q_tg13_c1 := tg13.c1
                            have q_tg13_size := tg13.size
                            have q_tg15_c0 := tg15.c0
                            have q_tg15_c1 := tg15.c1
                            have q_tg15_size := tg15.size
                            have q_tg17_c0 := tg17.c0
                            have q_tg17_c1 := tg17.c1
                            have q_tg17_size := tg17.size
                            have q_tg19_c0 := tg19.c0
                            have q_tg19_c1 := tg19.c1
                            have q_tg19_size := tg19.size
                            have q_tg21_c0 := tg21.c0
                            have q_tg21_c1 := tg21.c1
                            have q_tg21_size := tg21.size
                            go_wp2_with fail
                            cases h_v : M.fmul (u, v) (ls1, ls2) with
                            | none =>
                              have HF := Lib.hid (frMul_f Oky.out ok_ls.out h_v)
                              have k_v := Lib.hid h_v
                              clear h_v
                              have Hm : Hid (M.cpR a b e (c, d) (u, v) = none) := Lib.hid (by rw [Hm1.out]; simp [M.cpT, k_fa.out, k_ad.out, k_fi.out, k_pt.out, k_ls.out, k_v.out])
                              refine (HF.out _).mono ?_; rintro r w7 ⟨rfl, hb7⟩
                              clear q_tc_c0 q_tc_c1 q_tc_size q_tx_c0 q_tx_c1 q_tx_size q_ty_c0 q_ty_c1 q_ty_size q_z8_c0 q_z8_c1 q_z8_f0 q_z8_f1 q_z8_size q_z9_c0 q_z9_c1 q_z9_f0 q_z9_f1 q_z9_size q_tg13_c0 q_tg13_c1 q_tg13_size q_tg15_c0 q_tg15_c1 q_tg15_size q_tg17_c0 q_tg17_c1 q_tg17_size q_tg19_c0 q_tg19_c1 q_tg19_size q_tg21_c0 q_tg21_c1 q_tg21_size
                              have tc := tc.keep hb7
                              have tx := tx.keep hb7
                              have ty := ty.keep hb7
                              have z8 := z8.keep hb7
                              have z9 := z9.keep hb7
                              have tg13 := tg13.keep hb7
                              have tg15 := tg15.keep hb7
                              have tg17 := tg17.keep hb7
                              have tg19 := tg19.keep hb7
                              have tg21 := tg21.keep hb7
                              have tc := tc.alloc (.cells #[.int .i64 0, .int .i64 0] 38)
                              have tx := tx.alloc (.cells #[.int .i64 0, .int .i64 0] 38)
                              have ty := ty.alloc (.cells #[.int .i64 0, .int .i64 0] 38)
                              have z8 := z8.alloc (.cells #[.int .i64 0, .int .i64 0] 38)
                              have z9 := z9.alloc (.cells #[.int .i64 0, .int .i64 0] 38)
                              have tg13 := tg13.alloc (.cells #[.int .i64 0, .int .i64 0] 38)
                              have tg15 := tg15.alloc (.cells #[.int .i64 0, .int .i64 0] 38)
                              have tg17 := tg17.alloc (.cells #[.int .i64 0, .int .i64 0] 38)
                              have tg19 := tg19.alloc (.cells #[.int .i64 0, .int .i64 0] 38)
                              have tg21 := tg21.alloc (.cells #[.int .i64 0, .int .i64 0] 38)
                              have BX := below_alloc (BX.trans (hb7.mono BX.size)) (.cells #[.int .i64 0, .int .i64 0] 38)
                              have q_tc_c0 := tc.c0
                              have q_tc_c1 := tc.c1
                              have q_tc_size := tc.size
                              have q_tx_c0 := tx.c0
                              have q_tx_c1 := tx.c1
                              have q_tx_size := tx.size
                              have q_ty_c0 := ty.c0
                              have q_ty_c1 := ty.c1
                              have q_ty_size := ty.size
                              have q_z8_c0 := z8.c0
                              have q_z8_c1 := z8.c1
                              have q_z8_f0 := z8.f0
                              have q_z8_f1 := z8.f1
                              have q_z8_size := z8.size
                              have q_z9_c0 := z9.c0
                              have q_z9_c1 := z9.c1
                              have q_z9_f0 := z9.f0
                              have q_z9_f1 := z9.f1
                              have q_z9_size := z9.size
                              have q_tg13_c0 := tg13.c0
                              have q_tg13_c1 := tg13.c1
                              have q_tg13_size := tg13.size
                              have q_tg15_c0 := tg15.c0
                              have q_tg15_c1 := tg15.c1
                              have q_tg15_size := tg15.size
                              have q_tg17_c0 := tg17.c0
                              have q_tg17_c1 := tg17.c1
                              have q_tg17_size := tg17.size
                              have q_tg19_c0 := tg19.c0
                              have q_tg19_c1 := tg19.c1
                              have q_tg19_size := tg19.size
                              have q_tg21_c0 := tg21.c0
                              have q_tg21_c1 := tg21.c1
                              have q_tg21_size := tg21.size
                              go_wp2
                              exact bodyPost_ret (v := .tuple #[.agg #[.int .i64 0, .int .i64 0], .agg #[.int .i64 0, .int .i64 0], .bool false]) (by simp [results, Try.results16, go_sem, *]) rfl (⟨by rw [Hm.out]; rfl, (by repeat (first | exact Below.refl _ _ | refine below_alloc ?_ _ | refine below_step ?_ (by assumption) | refine Below.drew ?_ | refine Below.setCell ?_ (by first | exact Nat.le_refl _ | exact Nat.le_add_right _ _ | (simp <;> omega)) _ | refine below_drewN ?_ _))⟩)
                            | some p_v =>
                              obtain ⟨v1, v2⟩ := p_v
                              have HT := Lib.hid (frMul_t Oky.out ok_ls.out h_v)
                              have k_v := Lib.hid h_v
                              clear h_v
                              refine (HT.out _).mono ?_; rintro r w7 ⟨rfl, hb7⟩
                              clear q_tc_c0 q_tc_c1 q_tc_size q_tx_c0 q_tx_c1 q_tx_size q_ty_c0 q_ty_c1 q_ty_size q_z8_c0 q_z8_c1 q_z8_f0 q_z8_f1 q_z8_size q_z9_c0 q_z9_c1 q_z9_f0 q_z9_f1 q_z9_size q_tg13_c0 q_tg13_c1 q_tg13_size q_tg15_c0 q_tg15_c1 q_tg15_size q_tg17_c0 q_tg17_c1 q_tg17_size q_tg19_c0 q_tg19_c1 q_tg19_size q_tg21_c0 q_tg21_c1 q_tg21_size
                              have tc := tc.keep hb7
                              have tx := tx.keep hb7
                              have ty := ty.keep hb7
                              have z8 := z8.keep hb7
                              have z9 := z9.keep hb7
                              have tg13 := tg13.keep hb7
                              have tg15 := tg15.keep hb7
                              have tg17 := tg17.keep hb7
                              have tg19 := tg19.keep hb7
                              have tg21 := tg21.keep hb7
                              have s8_ := z8.size
                              have s9_ := z9.size
                              have s17_ := tg17.size
                              have y80 := z8.c0
                              have y81 := z8.c1
                              have y82 := z8.f0
                              have y83 := z8.f1
                              have y90 := z9.c0
                              have y91 := z9.c1
                              have y92 := z9.f0
                              have y93 := z9.f1
                              have y170 := tg17.c0
                              have y171 := tg17.c1
                              have n2_ : w.heap.size + 1 + 1 + 1 ≠ w7.heap.size := by omega
                              have n3_ : w.heap.size + 1 + 1 + 1 + 1 ≠ w7.heap.size := by omega
                              have n4_ := n2_.symm
                              have n5_ := n3_.symm
                              have tc := tc.alloc (.cells #[.int .i64 v1, .int .i64 v2] 38)
                              have tx := tx.alloc (.cells #[.int .i64 v1, .int .i64 v2] 38)
                              have ty := ty.alloc (.cells #[.int .i64 v1, .int .i64 v2] 38)
                              have z8 := z8.alloc (.cells #[.int .i64 v1, .int .i64 v2] 38)
                              have z9 := z9.alloc (.cells #[.int .i64 v1, .int .i64 v2] 38)
                              have tg13 := tg13.alloc (.cells #[.int .i64 v1, .int .i64 v2] 38)
                              have tg15 := tg15.alloc (.cells #[.int .i64 v1, .int .i64 v2] 38)
                              have tg17 := tg17.alloc (.cells #[.int .i64 v1, .int .i64 v2] 38)
                              have tg19 := tg19.alloc (.cells #[.int .i64 v1, .int .i64 v2] 38)
                              have tg21 := tg21.alloc (.cells #[.int .i64 v1, .int .i64 v2] 38)
                              have tg23 := Two.new w7 v1 v2 38
                              have BX := below_alloc (BX.trans (hb7.mono BX.size)) (.cells #[.int .i64 v1, .int .i64 v2] 38)
                              have Hm := Lib.hid (show M.cpR a b e (c, d) (u, v) = some ((fi1, fi2), (v1, v2)) by rw [Hm1.out]; simp [M.cpT, k_fa.out, k_ad.out, k_fi.out, k_pt.out, k_ls.out, k_v.out])
                              have q_tg17_c0 := tg17.c0
                              have q_tg17_c1 := tg17.c1
                              have q_tg17_size := tg17.size
                              have q_tg23_c0 := tg23.c0
                              have q_tg23_c1 := tg23.c1
                              have q_tg23_size := tg23.size
                              have q_z8_c0 := z8.c0
                              have q_z8_c1 := z8.c1
                              have q_z8_f0 := z8.f0
                              have q_z8_f1 := z8.f1
                              have q_z8_size := z8.size
                              have q_z9_c0 := z9.c0
                              have q_z9_c1 := z9.c1
                              have q_z9_f0 := z9.f0
                              have q_z9_f1 := z9.f1
                              have q_z9_size := z9.size
                              have n1_ : w.heap.size + 1 + 1 + 1 ≠ w.heap.size + 1 + 1 + 1 + 1 := by omega
                              go_wp2
                              go_region
                              all_goals
                                go_wp2
                                exact bodyPost_ret (v := .tuple #[.agg #[.int .i64 fi1, .int .i64 fi2], .agg #[.int .i64 v1, .int .i64 v2], .bool true]) (by simp [results, Try.results16, go_sem, *]) rfl (⟨by rw [Hm.out]; rfl, (by repeat (first | exact Below.refl _ _ | refine below_alloc ?_ _ | refine below_step ?_ (by assumption) | refine Below.drew ?_ | refine Below.setCell ?_ (by first | exact Nat.le_refl _ | exact Nat.le_add_right _ _ | (simp <;> omega)) _ | refine below_drewN ?_ _))⟩)
end Go.Proofs.Ytpemckpnlemkfaa
