/-
  Plain: the bound on traces at the primes 991, counted by the kernel.
-/
import Derived.Test.YtjolmigpeghaoaaM1
namespace Go.Proofs.Ytjolmigpeghaoaa
set_option linter.unusedSimpArgs false
set_option linter.unusedVariables false
namespace M
def t991 : Nat := 13954369643016668696850228245521330984831393359220922980197637417542545490258448977879307667026375954322040085961062538265613482188038652584935698378201957737755918838343295217625014499223088834815484070356828463545323750496810008762102409706193334951314845050078694843272618479182724202415363545989907450963739636407888482997389729891855912853154642967876105435659790410989935469948835215338082119983981570083786662071243570723752760979282162877121514107919978405320748938085071680332742711959128666163436406589003120646091772455449385486740075517501038188458967518192685137080738610887225117225
def v991 : Nat := 193025830561934107162947985381047541661070056588185513072917516740179689193320574041986771995981840653778140794185178676648397570608227877597482188999291416320860625735113776301895379908147386111006031979599832031197939845995845738061273507257113415986436138773297837515097330099215313593433173342888589613219889283072
theorem hP991 : hP 991 t991 v991 6 = true := by kernel_rfl
set_option maxRecDepth 100000 in
theorem kk991_0 : kkC 991 t991 v991 0 64 = true := by kernel_rfl
set_option maxRecDepth 100000 in
theorem kk991_64 : kkC 991 t991 v991 64 128 = true := by kernel_rfl
set_option maxRecDepth 100000 in
theorem kk991_128 : kkC 991 t991 v991 128 192 = true := by kernel_rfl
set_option maxRecDepth 100000 in
theorem kk991_192 : kkC 991 t991 v991 192 256 = true := by kernel_rfl
set_option maxRecDepth 100000 in
theorem kk991_256 : kkC 991 t991 v991 256 320 = true := by kernel_rfl
set_option maxRecDepth 100000 in
theorem kk991_320 : kkC 991 t991 v991 320 384 = true := by kernel_rfl
set_option maxRecDepth 100000 in
theorem kk991_384 : kkC 991 t991 v991 384 448 = true := by kernel_rfl
set_option maxRecDepth 100000 in
theorem kk991_448 : kkC 991 t991 v991 448 512 = true := by kernel_rfl
set_option maxRecDepth 100000 in
theorem kk991_512 : kkC 991 t991 v991 512 576 = true := by kernel_rfl
set_option maxRecDepth 100000 in
theorem kk991_576 : kkC 991 t991 v991 576 640 = true := by kernel_rfl
set_option maxRecDepth 100000 in
theorem kk991_640 : kkC 991 t991 v991 640 704 = true := by kernel_rfl
set_option maxRecDepth 100000 in
theorem kk991_704 : kkC 991 t991 v991 704 768 = true := by kernel_rfl
set_option maxRecDepth 100000 in
theorem kk991_768 : kkC 991 t991 v991 768 832 = true := by kernel_rfl
set_option maxRecDepth 100000 in
theorem kk991_832 : kkC 991 t991 v991 832 896 = true := by kernel_rfl
set_option maxRecDepth 100000 in
theorem kk991_896 : kkC 991 t991 v991 896 960 = true := by kernel_rfl
set_option maxRecDepth 100000 in
theorem kk991_960 : kkC 991 t991 v991 960 991 = true := by kernel_rfl
theorem hasse991 {a b : Int} (hd : ¬ disc a b % (991 : Int) = 0) : psum (val a b) 991 * psum (val a b) 991 ≤ 4 * 991 :=
  hasse_of (q := 991) (prime_iff.1 (by rw [prime_small (by omega)]; kernel_rfl)) (by decide) (by decide) hP991 (kk_join (kk_join (kk_join (kk_join (kk_join (kk_join (kk_join (kk_join (kk_join (kk_join (kk_join (kk_join (kk_join (kk_join (kk_join (kk_join (fun k hk => absurd hk (Nat.not_lt_zero k)) kk991_0) kk991_64) kk991_128) kk991_192) kk991_256) kk991_320) kk991_384) kk991_448) kk991_512) kk991_576) kk991_640) kk991_704) kk991_768) kk991_832) kk991_896) kk991_960) hd
end M
end Go.Proofs.Ytjolmigpeghaoaa
