/-
  Plain: the bound on traces at the primes 997, counted by the kernel.
-/
import Derived.Test.YtjolmigpeghaoaaM1
namespace Go.Proofs.Ytjolmigpeghaoaa
set_option linter.unusedSimpArgs false
set_option linter.unusedVariables false
namespace M
def t997 : Nat := 967070832079753801282810140238111027657298921574332303204769117897422068002377277240443607210746432733971304372740987031867273885040486820557362044101305532938944238586639410541313965553045319712533135677586646496524899748066291671467339024436437126166786399569808551167078024002558410229958268872149101182502485084986618322897121169676013742681650154018649183364381230927897469392924913427420521147598232457475777154738778857140131946563618764597774407564323693284879444674775027530031034994422698604568980705384060950867133962730319901690891985799771305106450195832760567779732972627689736109556361
def v997 : Nat := 24707306311927565716857342128774085333052616728193346180012562015247853896470988614579207535912171265592569011058165089423055918675398974169332815052317398862445526865250297460721953525050207597731126831801120259937482709418610169570545898318271289865228986516950252134009733332879831062716881277378258194952233332768768
theorem hP997 : hP 997 t997 v997 7 = true := by kernel_rfl
set_option maxRecDepth 100000 in
theorem kk997_0 : kkC 997 t997 v997 0 64 = true := by kernel_rfl
set_option maxRecDepth 100000 in
theorem kk997_64 : kkC 997 t997 v997 64 128 = true := by kernel_rfl
set_option maxRecDepth 100000 in
theorem kk997_128 : kkC 997 t997 v997 128 192 = true := by kernel_rfl
set_option maxRecDepth 100000 in
theorem kk997_192 : kkC 997 t997 v997 192 256 = true := by kernel_rfl
set_option maxRecDepth 100000 in
theorem kk997_256 : kkC 997 t997 v997 256 320 = true := by kernel_rfl
set_option maxRecDepth 100000 in
theorem kk997_320 : kkC 997 t997 v997 320 384 = true := by kernel_rfl
set_option maxRecDepth 100000 in
theorem kk997_384 : kkC 997 t997 v997 384 448 = true := by kernel_rfl
set_option maxRecDepth 100000 in
theorem kk997_448 : kkC 997 t997 v997 448 512 = true := by kernel_rfl
set_option maxRecDepth 100000 in
theorem kk997_512 : kkC 997 t997 v997 512 576 = true := by kernel_rfl
set_option maxRecDepth 100000 in
theorem kk997_576 : kkC 997 t997 v997 576 640 = true := by kernel_rfl
set_option maxRecDepth 100000 in
theorem kk997_640 : kkC 997 t997 v997 640 704 = true := by kernel_rfl
set_option maxRecDepth 100000 in
theorem kk997_704 : kkC 997 t997 v997 704 768 = true := by kernel_rfl
set_option maxRecDepth 100000 in
theorem kk997_768 : kkC 997 t997 v997 768 832 = true := by kernel_rfl
set_option maxRecDepth 100000 in
theorem kk997_832 : kkC 997 t997 v997 832 896 = true := by kernel_rfl
set_option maxRecDepth 100000 in
theorem kk997_896 : kkC 997 t997 v997 896 960 = true := by kernel_rfl
set_option maxRecDepth 100000 in
theorem kk997_960 : kkC 997 t997 v997 960 997 = true := by kernel_rfl
theorem hasse997 {a b : Int} (hd : ¬ disc a b % (997 : Int) = 0) : psum (val a b) 997 * psum (val a b) 997 ≤ 4 * 997 :=
  hasse_of (q := 997) (prime_iff.1 (by rw [prime_small (by omega)]; kernel_rfl)) (by decide) (by decide) hP997 (kk_join (kk_join (kk_join (kk_join (kk_join (kk_join (kk_join (kk_join (kk_join (kk_join (kk_join (kk_join (kk_join (kk_join (kk_join (kk_join (fun k hk => absurd hk (Nat.not_lt_zero k)) kk997_0) kk997_64) kk997_128) kk997_192) kk997_256) kk997_320) kk997_384) kk997_448) kk997_512) kk997_576) kk997_640) kk997_704) kk997_768) kk997_832) kk997_896) kk997_960) hd
end M
end Go.Proofs.Ytjolmigpeghaoaa
