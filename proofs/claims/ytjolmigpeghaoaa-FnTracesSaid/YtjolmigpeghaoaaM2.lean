/-
  Plain: the bound on traces at the primes 5 7 11 13 17 19 23 31 97 101, counted by the kernel.
-/
import Derived.Test.YtjolmigpeghaoaaM1
namespace Go.Proofs.Ytjolmigpeghaoaa
set_option linter.unusedSimpArgs false
set_option linter.unusedVariables false
namespace M
def t5 : Nat := 521
def v5 : Nat := 1022
theorem hP5 : hP 5 t5 v5 2 = true := by kernel_rfl
set_option maxRecDepth 100000 in
theorem kk5_0 : kkC 5 t5 v5 0 5 = true := by kernel_rfl
theorem hasse5 {a b : Int} (hd : ¬ disc a b % (5 : Int) = 0) : psum (val a b) 5 * psum (val a b) 5 ≤ 4 * 5 :=
  hasse_of (q := 5) (prime_iff.1 (by rw [prime_small (by omega)]; kernel_rfl)) (by decide) (by decide) hP5 (kk_join (fun k hk => absurd hk (Nat.not_lt_zero k)) kk5_0) hd
def t7 : Nat := 553
def v7 : Nat := 8188
theorem hP7 : hP 7 t7 v7 3 = true := by kernel_rfl
set_option maxRecDepth 100000 in
theorem kk7_0 : kkC 7 t7 v7 0 7 = true := by kernel_rfl
theorem hasse7 {a b : Int} (hd : ¬ disc a b % (7 : Int) = 0) : psum (val a b) 7 * psum (val a b) 7 ≤ 4 * 7 :=
  hasse_of (q := 7) (prime_iff.1 (by rw [prime_small (by omega)]; kernel_rfl)) (by decide) (by decide) hP7 (kk_join (fun k hk => absurd hk (Nat.not_lt_zero k)) kk7_0) hd
def t11 : Nat := 526985
def v11 : Nat := 262112
theorem hP11 : hP 11 t11 v11 2 = true := by kernel_rfl
set_option maxRecDepth 100000 in
theorem kk11_0 : kkC 11 t11 v11 0 11 = true := by kernel_rfl
theorem hasse11 {a b : Int} (hd : ¬ disc a b % (11 : Int) = 0) : psum (val a b) 11 * psum (val a b) 11 ≤ 4 * 11 :=
  hasse_of (q := 11) (prime_iff.1 (by rw [prime_small (by omega)]; kernel_rfl)) (by decide) (by decide) hP11 (kk_join (fun k hk => absurd hk (Nat.not_lt_zero k)) kk11_0) hd
def t13 : Nat := 36176521
def v13 : Nat := 2097088
theorem hP13 : hP 13 t13 v13 2 = true := by kernel_rfl
set_option maxRecDepth 100000 in
theorem kk13_0 : kkC 13 t13 v13 0 13 = true := by kernel_rfl
theorem hasse13 {a b : Int} (hd : ¬ disc a b % (13 : Int) = 0) : psum (val a b) 13 * psum (val a b) 13 ≤ 4 * 13 :=
  hasse_of (q := 13) (prime_iff.1 (by rw [prime_small (by omega)]; kernel_rfl)) (by decide) (by decide) hP13 (kk_join (fun k hk => absurd hk (Nat.not_lt_zero k)) kk13_0) hd
def t17 : Nat := 10872291881
def v17 : Nat := 67108352
theorem hP17 : hP 17 t17 v17 3 = true := by kernel_rfl
set_option maxRecDepth 100000 in
theorem kk17_0 : kkC 17 t17 v17 0 17 = true := by kernel_rfl
theorem hasse17 {a b : Int} (hd : ¬ disc a b % (17 : Int) = 0) : psum (val a b) 17 * psum (val a b) 17 ≤ 4 * 17 :=
  hasse_of (q := 17) (prime_iff.1 (by rw [prime_small (by omega)]; kernel_rfl)) (by decide) (by decide) hP17 (kk_join (fun k hk => absurd hk (Nat.not_lt_zero k)) kk17_0) hd
def t19 : Nat := 42958629385
def v19 : Nat := 268433408
theorem hP19 : hP 19 t19 v19 2 = true := by kernel_rfl
set_option maxRecDepth 100000 in
theorem kk19_0 : kkC 19 t19 v19 0 19 = true := by kernel_rfl
theorem hasse19 {a b : Int} (hd : ¬ disc a b % (19 : Int) = 0) : psum (val a b) 19 * psum (val a b) 19 ≤ 4 * 19 :=
  hasse_of (q := 19) (prime_iff.1 (by rw [prime_small (by omega)]; kernel_rfl)) (by decide) (by decide) hP19 (kk_join (fun k hk => absurd hk (Nat.not_lt_zero k)) kk19_0) hd
def t23 : Nat := 146197324457
def v23 : Nat := 8589918208
theorem hP23 : hP 23 t23 v23 5 = true := by kernel_rfl
set_option maxRecDepth 100000 in
theorem kk23_0 : kkC 23 t23 v23 0 23 = true := by kernel_rfl
theorem hasse23 {a b : Int} (hd : ¬ disc a b % (23 : Int) = 0) : psum (val a b) 23 * psum (val a b) 23 ≤ 4 * 23 :=
  hasse_of (q := 23) (prime_iff.1 (by rw [prime_small (by omega)]; kernel_rfl)) (by decide) (by decide) hP23 (kk_join (fun k hk => absurd hk (Nat.not_lt_zero k)) kk23_0) hd
def t31 : Nat := 146369883237157417
def v31 : Nat := 8796091973632
theorem hP31 : hP 31 t31 v31 3 = true := by kernel_rfl
set_option maxRecDepth 100000 in
theorem kk31_0 : kkC 31 t31 v31 0 31 = true := by kernel_rfl
theorem hasse31 {a b : Int} (hd : ¬ disc a b % (31 : Int) = 0) : psum (val a b) 31 * psum (val a b) 31 ≤ 4 * 31 :=
  hasse_of (q := 31) (prime_iff.1 (by rw [prime_small (by omega)]; kernel_rfl)) (by decide) (by decide) hP31 (kk_join (fun k hk => absurd hk (Nat.not_lt_zero k)) kk31_0) hd
def t97 : Nat := 16686784236863449560876289996465134926218666134702358405801
def v97 : Nat := 166153499472812252658072225241366528
theorem hP97 : hP 97 t97 v97 5 = true := by kernel_rfl
set_option maxRecDepth 100000 in
theorem kk97_0 : kkC 97 t97 v97 0 97 = true := by kernel_rfl
theorem hasse97 {a b : Int} (hd : ¬ disc a b % (97 : Int) = 0) : psum (val a b) 97 * psum (val a b) 97 ≤ 4 * 97 :=
  hasse_of (q := 97) (prime_iff.1 (by rw [prime_small (by omega)]; kernel_rfl)) (by decide) (by decide) hP97 (kk_join (fun k hk => absurd hk (Nat.not_lt_zero k)) kk97_0) hd
def t101 : Nat := 3279834939853074470724444326950445601877499662886744780974601
def v101 : Nat := 5316911983137245639975998982771965952
theorem hP101 : hP 101 t101 v101 2 = true := by kernel_rfl
set_option maxRecDepth 100000 in
theorem kk101_0 : kkC 101 t101 v101 0 101 = true := by kernel_rfl
theorem hasse101 {a b : Int} (hd : ¬ disc a b % (101 : Int) = 0) : psum (val a b) 101 * psum (val a b) 101 ≤ 4 * 101 :=
  hasse_of (q := 101) (prime_iff.1 (by rw [prime_small (by omega)]; kernel_rfl)) (by decide) (by decide) hP101 (kk_join (fun k hk => absurd hk (Nat.not_lt_zero k)) kk101_0) hd
end M
end Go.Proofs.Ytjolmigpeghaoaa
