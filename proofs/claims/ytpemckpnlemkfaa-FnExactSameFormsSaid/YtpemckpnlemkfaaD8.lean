/-
  Contracts: lists of twist numbers.
-/
import Derived.Test.YtpemckpnlemkfaaPlain6
import Derived.Test.YtpemckpnlemkfaaS3
import Derived.Test.YtpemckpnlemkfaaC9
import Derived.Test.YtpemckpnlemkfaaD1
namespace Go.Proofs.Ytpemckpnlemkfaa
set_option linter.unusedSimpArgs false
set_option linter.unusedVariables false
open Go.RowKit

theorem seen_take {w : World} {hi : Nat} {g : Option Addr} {n : Nat} {xs : List Int} (h : ∀ k, k < xs.length → ∃ b x, g = some ⟨b, 0, none⟩ ∧ b < hi ∧ Hid (xs[k]? = some x) ∧ w.cell? ⟨b, k, none⟩ = some (.int .i64 x)) {w' : World} (hb : Below hi w w') :
    ∀ j y, (xs.take n)[j]? = some y → ∃ ad, g = some ad ∧ w'.cell? (ad.add j) = some (.int .i64 y) := by
  have hadd : ∀ b i : Nat, (⟨b, 0, none⟩ : Addr).add i = ⟨b, i, none⟩ := fun b i => by unfold Addr.add; split <;> simp_all
  intro j y hy
  rw [List.getElem?_take] at hy
  split at hy
  · have hj := (List.getElem?_eq_some_iff.1 hy).1
    obtain ⟨b, x, e1, e2, e3, e4⟩ := h j hj
    obtain rfl := Option.some.inj (e3.out.symm.trans hy)
    exact ⟨_, e1, by rw [hadd]; exact (hb.cell (p := ⟨b, j, none⟩) e2).trans e4⟩
  · cases hy
theorem seen_drop {w : World} {hi g n : Nat} {xs : List Int} (h : ∀ k, k < xs.length → ∃ b x, some (⟨g, 0, none⟩ : Addr) = some ⟨b, 0, none⟩ ∧ b < hi ∧ Hid (xs[k]? = some x) ∧ w.cell? ⟨b, k, none⟩ = some (.int .i64 x)) {w' : World} (hb : Below hi w w') :
    ∀ j y, (xs.drop n)[j]? = some y → ∃ ad, some (⟨g, n, none⟩ : Addr) = some ad ∧ w'.cell? (ad.add j) = some (.int .i64 y) := by
  have hadd2 : ∀ b i j : Nat, (⟨b, i, none⟩ : Addr).add j = ⟨b, i + j, none⟩ := fun b i j => by unfold Addr.add; split <;> simp_all
  intro j y hy
  rw [List.getElem?_drop] at hy
  have hj := (List.getElem?_eq_some_iff.1 hy).1
  obtain ⟨b, x, e1, e2, e3, e4⟩ := h (n + j) hj
  obtain rfl := Option.some.inj (e3.out.symm.trans hy)
  simp only [Option.some.injEq, Addr.mk.injEq, and_true] at e1
  subst e1
  exact ⟨_, rfl, by rw [hadd2]; exact (hb.cell (p := ⟨g, n + j, none⟩) e2).trans e4⟩

end Go.Proofs.Ytpemckpnlemkfaa
