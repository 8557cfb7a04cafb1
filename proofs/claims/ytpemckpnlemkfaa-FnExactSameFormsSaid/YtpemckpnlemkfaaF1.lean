/-
  Contracts: twist numbers, the nearest to 0 first.
-/
import Derived.Test.YtpemckpnlemkfaaE3
import Derived.Test.YtpemckpnlemkfaaS11
import Derived.Test.YtpemckpnlemkfaaShI
import Derived.Test.YtpemckpnlemkfaaPlain9
import Derived.Test.YtpemckpnlemkfaaD9
import Derived.Shelf.SlSortCmp.NoneTotal
namespace Go.Proofs.Ytpemckpnlemkfaa
set_option linter.unusedSimpArgs false
set_option linter.unusedVariables false
open Go.RowKit Go.Shelf Go.Sort

/-- numbers from -30 to 30 -/
abbrev T30 := {x : Int // -30 ≤ x ∧ x ≤ 30}
instance : Inhabited T30 := ⟨⟨0, by omega⟩⟩
def M.ncmp (x y : Int) : Int := M.or2 (Lib.compareInt x.natAbs y.natAbs) (Lib.compareInt x y)
theorem M.ncmp_lt (x y : Int) : decide (M.ncmp x y < 0) = M.nlt x y := by
  unfold M.ncmp M.or2 Lib.compareInt M.nlt
  by_cases h1 : (x.natAbs : Int) < y.natAbs
  · have : x.natAbs < y.natAbs := by omega
    simp [h1, this]
  · have h1' : ¬ x.natAbs < y.natAbs := by omega
    by_cases h2 : (y.natAbs : Int) < x.natAbs
    · have : ¬ x.natAbs = y.natAbs := by omega
      simp [h1, h1', h2, this]
    · have e : x.natAbs = y.natAbs := by omega
      by_cases h3 : x < y
      · simp [e, h3]
      · by_cases h4 : y < x <;> simp [e, h3, h4]
theorem swoN : Sort.SWO (ltOf (fun x y : T30 => M.ncmp x.1 y.1)) where
  irrefl x := by unfold ltOf; rw [M.ncmp_lt]; exact M.nlt_irr x.1
  trans x y z h1 h2 := by unfold ltOf at *; rw [M.ncmp_lt] at *; exact M.nlt_tr h1 h2
  ntrans x y z h1 h2 := by
    unfold ltOf at *
    rw [M.ncmp_lt] at *
    cases h : M.nlt x.1 z.1
    · rfl
    · exfalso
      have h1' : ¬ M.nlt x.1 y.1 = true := by rw [h1]; decide
      have h2' : ¬ M.nlt y.1 z.1 = true := by rw [h2]; decide
      rw [M.nlt_iff] at h h1' h2'
      omega

theorem near1_c (x y : Int) (hx : -30 ≤ x ∧ x ≤ 30) (hy : -30 ≤ y ∧ y ≤ 30) (w : World) :
    Calls Try.prog 77 #[.int .i64 x, .int .i64 y] w fun e w' => e = .returned (.int .i64 (M.ncmp x y)) ∧ GrowOf w w' := by
  unfold M.ncmp
  obtain ⟨hx1, hx2⟩ := hx
  obtain ⟨hy1, hy2⟩ := hy
  have ex : Hid ((x.natAbs : Int) = max x (-x)) := Lib.hid (by omega)
  have ey : Hid ((y.natAbs : Int) = max y (-y)) := Lib.hid (by omega)
  rw [ex.out, ey.out]
  go_enter Try.func77, Try.ntmps77
  go_wp2_with (first
    | (go_at_call 79; (with_reducible refine (cmpI_c _ _ _).mono ?_); rintro e w' ⟨rfl, rfl⟩)
    | (go_at_call 78; refine (or2_c (Lib.compareInt (max x (-x)) (max y (-y))) (Lib.compareInt x y) w.heap.size 2 _ (box_cell _ _ _ _) (box_cell _ _ _ _)).mono ?_; rintro e w' ⟨rfl, rfl⟩))
  go_ret
  exact ⟨rfl, by repeat (first | exact GrowOf.refl _ | refine GrowOf.alloc ?_ _ | refine GrowOf.drew ?_ | refine GrowOf.drewN ?_ _)⟩

theorem cmpLaysN (blk size : Nat) (w : World) : CmpLays1 Try.prog 77 #[] (fun x : T30 => Value.int .i64 x.1) (fun x y : T30 => M.ncmp x.1 y.1) blk 0 size w :=
  fun _ _ _ _ x y => (near1_c x.1 y.1 x.2 y.2 _).mono fun _ _ ⟨he, q, os, hw⟩ => ⟨he, q, os, hw⟩

theorem tws_bd (a b : Int) : ∀ x ∈ M.tws a b, -30 ≤ x ∧ x ≤ 30 := fun x hx => by
  have := (M.mem_sel.1 hx).1
  omega

theorem sortN_c (xs : List Int) (hx : ∀ x ∈ xs, -30 ≤ x ∧ x ≤ 30) (v : Value) (w : World) (base : Nat) (hown : OwnI w base v xs) (hb : base ≤ w.heap.size) (hl : xs.length ≤ 100000000) :
    Calls Try.prog 76 #[v, .func (.func 77) #[] #[]] w fun e w' => e = .returned (.tuple #[]) ∧ ∃ ys, ys.Perm xs ∧ ys.Pairwise (fun a b => M.nlt b a = false) ∧ OwnI w' base v ys ∧ Below base w w' := by
  rcases hown.forms with ⟨rfl, rfl⟩ | ⟨g, cap, rfl, hg⟩
  · have h := AnyF.slices_SortFunc_none { Try.sortI with } none 0 (.func (.func 77) #[] #[]) w
    refine h.mono fun e w' ⟨he, hw⟩ => ⟨he, [], List.Perm.refl _, List.Pairwise.nil, ?_⟩
    rw [hw]
    exact ⟨hown, Below.refl _ _⟩
  · have hgs := (OwnI.lt hown g rfl).2
    have eg : ∀ args w, (callFunc 77 args).run Try.prog w = .ok (.enter 77 args) w := enters_of Try.func77 (by kernel_rfl) rfl
    have hd : ((xs.pmap (fun x h => (⟨x, h⟩ : T30)) hx).toArray).toList.map Subtype.val = xs := by
      rw [List.toList_toArray, List.map_pmap]
      simp
    have hcon := Any.slices_SortFunc Try.sortI (fun x : T30 => Value.int .i64 x.1) (fun _ => rfl) (fun x y : T30 => M.ncmp x.1 y.1) swoN 77 #[] g 0 cap (xs.pmap (fun x h => (⟨x, h⟩ : T30)) hx).toArray w eg (cmpLaysN g _ w) (OwnI.holds Subtype.val _ hd rfl hown) hgs (by simp; omega)
    have hsz : (xs.pmap (fun x h => (⟨x, h⟩ : T30)) hx).toArray.size = xs.length := by simp
    rw [hsz] at hcon
    generalize hD : (xs.pmap (fun x h => (⟨x, h⟩ : T30)) hx).toArray = D at *
    refine hcon.mono fun e w' ⟨he, d', n, os, hp, hs, hw⟩ => ⟨he, d'.toList.map Subtype.val, ?_, ?_, ?_⟩
    · have := hp.2.2
      have e1 : d'.extract 0 xs.length = d' := by rw [← hsz, ← hp.1]; exact Array.extract_size
      have e2 : D.extract 0 xs.length = D := by rw [← hsz]; exact Array.extract_size
      rw [e1, e2] at this
      rw [← hd]
      exact List.Perm.map _ (by simpa using this)
    · rw [List.pairwise_map, List.pairwise_iff_getElem]
      intro i j hi hj hij
      have h := hs i j (by omega) hij (by rw [← hsz, ← hp.1]; simpa using hj)
      unfold ltOf at h
      rw [M.ncmp_lt, getElem!_pos d' j (by simpa using hj), getElem!_pos d' i (by simpa using hi)] at h
      simpa using h
    · have h := OwnI.sorted (m := n) (os := os) Subtype.val rfl hown (d' := d') (by rw [hp.1, hsz]) hb
      rw [hw]
      exact h

theorem nearestFirst_c (a b : Int) (v : Value) (w : World) (base : Nat) (hown : OwnI w base v (M.tws a b)) (hb : base ≤ w.heap.size) :
    Calls Try.prog 54 #[v] w fun e w' => e = .returned v ∧ OwnI w' base v (M.nearOk a b) ∧ Below base w w' := by
  have hl := M.sel_le (M.twp a b) (-30) 61
  go_enter Try.func54, Try.ntmps54
  go_wp2_with fail
  refine (sortN_c _ (tws_bd a b) _ _ _ hown hb (by unfold M.tws; omega)).mono ?_; rintro e w2 ⟨rfl, ys, h1, h2, h3, h4⟩
  go_wp2
  go_ret
  exact ⟨rfl, by rw [← M.nearOk_sorted h1 h2]; exact h3, h4⟩
end Go.Proofs.Ytpemckpnlemkfaa
