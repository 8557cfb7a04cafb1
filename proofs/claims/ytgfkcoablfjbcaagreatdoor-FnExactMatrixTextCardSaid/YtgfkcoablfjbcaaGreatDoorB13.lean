/-
  Joined texts: contracts and plain lemmas.
-/
import Derived.Test.YtgfkcoablfjbcaaGreatDoorB1
import Derived.Test.YtgfkcoablfjbcaaGreatDoorB12
set_option linter.unusedSimpArgs false
set_option linter.unusedVariables false
set_option maxRecDepth 100000
set_option maxHeartbeats 8000000
namespace Go.Proofs.YtgfkcoablfjbcaaGreatDoor
section
open Go.RowKit
namespace M
def hM (a b:Int):Int:=max (1+2*a+8*b+a*a) (4*(1+a+b))
def hK (a b d:Int):Int:=max (15+21*a+27*b) (4*d+5*a*a*b+4*a*(3*a*a*a+22*b*b)+12*b*(a*a*a+8*b*b)+(a*(5*a*a*a+32*b*b)+2*b*(13*a*a*a+96*b*b)+3*a*a*(a*a*a+8*b*b)))
def hC (a b:Int):Nat:=Wh.bl (max (hM a.natAbs b.natAbs) (hK a.natAbs b.natAbs (M.ay a b).natAbs)).toNat
theorem pbd {x y m n k:Int} (hx:0≤x∧x≤m) (hy:0≤y∧y≤n) (hk:m*n≤k):0≤x*y∧x*y≤k:=
 ⟨Int.mul_nonneg hx.1 hy.1,Int.le_trans (Int.mul_le_mul hx.2 hy.2 hy.1 (Int.le_trans hx.1 hx.2)) hk⟩
end M
theorem gP (a0 b0:Int) (w:World) (hin:M.bB a0 b0=true) :
  Calls Tryz.prog 138 #[.agg #[.int .i64 a0,.int .i64 b0]] w fun e w'=>e=.returned (.tuple #[.int .i64 (M.hM a0.natAbs b0.natAbs),.int .i64 (M.hK a0.natAbs b0.natAbs (M.ay a0 b0).natAbs)])∧Below w.heap.size w w':=by
 obtain ⟨x1,x2,y1,y2⟩:=M.ah hin
 have hdb:=dr hin
 have PC:=fun W=>mY a0 b0 W hin
 clear hin
 generalize M.ay a0 b0=D at *
 obtain ⟨a,ha⟩:∃ a:Int,Hid (a=a0.natAbs):=⟨_,uh rfl⟩
 obtain ⟨b,hb⟩:∃ b:Int,Hid (b=b0.natAbs):=⟨_,uh rfl⟩
 obtain ⟨d,hd⟩:∃ d:Int,Hid (d=D.natAbs):=⟨_,uh rfl⟩
 rw [←ha.out,←hb.out,←hd.out]
 have a1:0≤a∧a≤1000:=by have:=ha.out;omega
 have b1:0≤b∧b≤10000:=by have:=hb.out;omega
 have d1:0≤d∧d≤6700000000:=by have:=hd.out;omega
 obtain ⟨a1,a2⟩:=a1
 obtain ⟨b1,b2⟩:=b1
 obtain ⟨d1,d2⟩:=d1
 have bd1:0≤2*a∧2*a≤2000:=M.pbd (show (0:Int)≤2∧(2:Int)≤2 from ⟨by omega,by omega⟩) (show 0≤a∧a≤1000 from ⟨by omega,by omega⟩) (by omega)
 have bd2:0≤8*b∧8*b≤80000:=M.pbd (show (0:Int)≤8∧(8:Int)≤8 from ⟨by omega,by omega⟩) (show 0≤b∧b≤10000 from ⟨by omega,by omega⟩) (by omega)
 have bd3:0≤a*a∧a*a≤1000000:=M.pbd (show 0≤a∧a≤1000 from ⟨by omega,by omega⟩) (show 0≤a∧a≤1000 from ⟨by omega,by omega⟩) (by omega)
 have bd4:0≤4*d∧4*d≤26800000000:=M.pbd (show (0:Int)≤4∧(4:Int)≤4 from ⟨by omega,by omega⟩) (show 0≤d∧d≤6700000000 from ⟨by omega,by omega⟩) (by omega)
 have bd5:0≤4*a∧4*a≤4000:=M.pbd (show (0:Int)≤4∧(4:Int)≤4 from ⟨by omega,by omega⟩) (show 0≤a∧a≤1000 from ⟨by omega,by omega⟩) (by omega)
 have bd6:0≤4*a*a∧4*a*a≤4000000:=M.pbd bd5 (show 0≤a∧a≤1000 from ⟨by omega,by omega⟩) (by omega)
 have bd7:0≤4*a*a*b∧4*a*a*b≤40000000000:=M.pbd bd6 (show 0≤b∧b≤10000 from ⟨by omega,by omega⟩) (by omega)
 have bd8:0≤3*a∧3*a≤3000:=M.pbd (show (0:Int)≤3∧(3:Int)≤3 from ⟨by omega,by omega⟩) (show 0≤a∧a≤1000 from ⟨by omega,by omega⟩) (by omega)
 have bd9:0≤3*a*a∧3*a*a≤3000000:=M.pbd bd8 (show 0≤a∧a≤1000 from ⟨by omega,by omega⟩) (by omega)
 have bd10:0≤3*a*a*a∧3*a*a*a≤3000000000:=M.pbd bd9 (show 0≤a∧a≤1000 from ⟨by omega,by omega⟩) (by omega)
 have bd11:0≤22*b∧22*b≤220000:=M.pbd (show (0:Int)≤22∧(22:Int)≤22 from ⟨by omega,by omega⟩) (show 0≤b∧b≤10000 from ⟨by omega,by omega⟩) (by omega)
 have bd12:0≤22*b*b∧22*b*b≤2200000000:=M.pbd bd11 (show 0≤b∧b≤10000 from ⟨by omega,by omega⟩) (by omega)
 have bd13:0≤4*a*(3*a*a*a+22*b*b)∧4*a*(3*a*a*a+22*b*b)≤20800000000000:=M.pbd bd5 (show 0≤3*a*a*a+22*b*b∧3*a*a*a+22*b*b≤5200000000 from ⟨by omega,by omega⟩) (by omega)
 have bd14:0≤12*b∧12*b≤120000:=M.pbd (show (0:Int)≤12∧(12:Int)≤12 from ⟨by omega,by omega⟩) (show 0≤b∧b≤10000 from ⟨by omega,by omega⟩) (by omega)
 have bd15:0≤a*a*a∧a*a*a≤1000000000:=M.pbd bd3 (show 0≤a∧a≤1000 from ⟨by omega,by omega⟩) (by omega)
 have bd16:0≤8*b*b∧8*b*b≤800000000:=M.pbd bd2 (show 0≤b∧b≤10000 from ⟨by omega,by omega⟩) (by omega)
 have bd17:0≤12*b*(a*a*a+8*b*b)∧12*b*(a*a*a+8*b*b)≤216000000000000:=M.pbd bd14 (show 0≤a*a*a+8*b*b∧a*a*a+8*b*b≤1800000000 from ⟨by omega,by omega⟩) (by omega)
 have bd18:0≤a*a*b∧a*a*b≤10000000000:=M.pbd bd3 (show 0≤b∧b≤10000 from ⟨by omega,by omega⟩) (by omega)
 have bd19:0≤5*a∧5*a≤5000:=M.pbd (show (0:Int)≤5∧(5:Int)≤5 from ⟨by omega,by omega⟩) (show 0≤a∧a≤1000 from ⟨by omega,by omega⟩) (by omega)
 have bd20:0≤5*a*a∧5*a*a≤5000000:=M.pbd bd19 (show 0≤a∧a≤1000 from ⟨by omega,by omega⟩) (by omega)
 have bd21:0≤5*a*a*a∧5*a*a*a≤5000000000:=M.pbd bd20 (show 0≤a∧a≤1000 from ⟨by omega,by omega⟩) (by omega)
 have bd22:0≤32*b∧32*b≤320000:=M.pbd (show (0:Int)≤32∧(32:Int)≤32 from ⟨by omega,by omega⟩) (show 0≤b∧b≤10000 from ⟨by omega,by omega⟩) (by omega)
 have bd23:0≤32*b*b∧32*b*b≤3200000000:=M.pbd bd22 (show 0≤b∧b≤10000 from ⟨by omega,by omega⟩) (by omega)
 have bd24:0≤a*(5*a*a*a+32*b*b)∧a*(5*a*a*a+32*b*b)≤8200000000000:=M.pbd (show 0≤a∧a≤1000 from ⟨by omega,by omega⟩) (show 0≤5*a*a*a+32*b*b∧5*a*a*a+32*b*b≤8200000000 from ⟨by omega,by omega⟩) (by omega)
 have bd25:0≤2*b∧2*b≤20000:=M.pbd (show (0:Int)≤2∧(2:Int)≤2 from ⟨by omega,by omega⟩) (show 0≤b∧b≤10000 from ⟨by omega,by omega⟩) (by omega)
 have bd26:0≤13*a∧13*a≤13000:=M.pbd (show (0:Int)≤13∧(13:Int)≤13 from ⟨by omega,by omega⟩) (show 0≤a∧a≤1000 from ⟨by omega,by omega⟩) (by omega)
 have bd27:0≤13*a*a∧13*a*a≤13000000:=M.pbd bd26 (show 0≤a∧a≤1000 from ⟨by omega,by omega⟩) (by omega)
 have bd28:0≤13*a*a*a∧13*a*a*a≤13000000000:=M.pbd bd27 (show 0≤a∧a≤1000 from ⟨by omega,by omega⟩) (by omega)
 have bd29:0≤96*b∧96*b≤960000:=M.pbd (show (0:Int)≤96∧(96:Int)≤96 from ⟨by omega,by omega⟩) (show 0≤b∧b≤10000 from ⟨by omega,by omega⟩) (by omega)
 have bd30:0≤96*b*b∧96*b*b≤9600000000:=M.pbd bd29 (show 0≤b∧b≤10000 from ⟨by omega,by omega⟩) (by omega)
 have bd31:0≤2*b*(13*a*a*a+96*b*b)∧2*b*(13*a*a*a+96*b*b)≤452000000000000:=M.pbd bd25 (show 0≤13*a*a*a+96*b*b∧13*a*a*a+96*b*b≤22600000000 from ⟨by omega,by omega⟩) (by omega)
 have bd32:0≤3*a*a*(a*a*a+8*b*b)∧3*a*a*(a*a*a+8*b*b)≤5400000000000000:=M.pbd bd9 (show 0≤a*a*a+8*b*b∧a*a*a+8*b*b≤1800000000 from ⟨by omega,by omega⟩) (by omega)
 obtain ⟨bd1_1,bd1_2⟩:=bd1
 obtain ⟨bd2_1,bd2_2⟩:=bd2
 obtain ⟨bd3_1,bd3_2⟩:=bd3
 obtain ⟨bd4_1,bd4_2⟩:=bd4
 obtain ⟨bd5_1,bd5_2⟩:=bd5
 obtain ⟨bd6_1,bd6_2⟩:=bd6
 obtain ⟨bd7_1,bd7_2⟩:=bd7
 obtain ⟨bd8_1,bd8_2⟩:=bd8
 obtain ⟨bd9_1,bd9_2⟩:=bd9
 obtain ⟨bd10_1,bd10_2⟩:=bd10
 obtain ⟨bd11_1,bd11_2⟩:=bd11
 obtain ⟨bd12_1,bd12_2⟩:=bd12
 obtain ⟨bd13_1,bd13_2⟩:=bd13
 obtain ⟨bd14_1,bd14_2⟩:=bd14
 obtain ⟨bd15_1,bd15_2⟩:=bd15
 obtain ⟨bd16_1,bd16_2⟩:=bd16
 obtain ⟨bd17_1,bd17_2⟩:=bd17
 obtain ⟨bd18_1,bd18_2⟩:=bd18
 obtain ⟨bd19_1,bd19_2⟩:=bd19
 obtain ⟨bd20_1,bd20_2⟩:=bd20
 obtain ⟨bd21_1,bd21_2⟩:=bd21
 obtain ⟨bd22_1,bd22_2⟩:=bd22
 obtain ⟨bd23_1,bd23_2⟩:=bd23
 obtain ⟨bd24_1,bd24_2⟩:=bd24
 obtain ⟨bd25_1,bd25_2⟩:=bd25
 obtain ⟨bd26_1,bd26_2⟩:=bd26
 obtain ⟨bd27_1,bd27_2⟩:=bd27
 obtain ⟨bd28_1,bd28_2⟩:=bd28
 obtain ⟨bd29_1,bd29_2⟩:=bd29
 obtain ⟨bd30_1,bd30_2⟩:=bd30
 obtain ⟨bd31_1,bd31_2⟩:=bd31
 obtain ⟨bd32_1,bd32_2⟩:=bd32
 have hM:Hid (M.hM a b=max (1+2*a+8*b+a*a) (4*(1+a+b))):=uh rfl
 have hK:Hid (M.hK a b d=max (12+16*a+3+5*a+27*b) (4*d+4*a*a*b+4*a*(3*a*a*a+22*b*b)+12*b*(a*a*a+8*b*b)+(a*a*b+a*(5*a*a*a+32*b*b)+2*b*(13*a*a*a+96*b*b)+3*a*a*(a*a*a+8*b*b)))):=uh (by unfold M.hK;congr 1 <;> grind)
 have mA:=uh (show (if a0 < -a0 then -a0 else a0)=a by have:=ha.out;split <;> omega)
 have mB:=uh (show (if b0 < -b0 then -b0 else b0)=b by have:=hb.out;split <;> omega)
 have mD:=uh (show (if D < -D then -D else D)=d by have:=hd.out;split <;> omega)
 have nA:=uh (show max a0 (-a0)=a by have:=ha.out;omega)
 have nB:=uh (show max b0 (-b0)=b by have:=hb.out;omega)
 have nD:=uh (show max D (-D)=d by have:=hd.out;omega)
 skip
 replace PC:=uh PC
 have C:=aH.new w #[.int .i64 a0,.int .i64 b0] 28
 have B:=(uk w.heap.size w).alloc (ul _) (.cells #[.int .i64 a0,.int .i64 b0] 28)
 generalize hw3:w.alloc (.cells #[.int .i64 a0,.int .i64 b0] 28)=wc at *
 go_enter Tryz.func138,Tryz.ntmps138
 go_wp2
 go_upto_region 1 with fail
 refine Rg.bF 21 [.is (.pointer (some ⟨w.heap.size,0,none⟩)),.is (.int .i64 a0),.is (.pointer (some ⟨w.heap.size,0,none⟩)),.is (.int .i64 a0),.is (.int .i64 (-a0)),.is (.int .i64 a),.is (.pointer (some ⟨w.heap.size,1,none⟩)),.is (.int .i64 b0),.is (.pointer (some ⟨w.heap.size,1,none⟩)),.is (.int .i64 b0),.is (.int .i64 (-b0)),.is (.int .i64 b),.is (.agg #[.int .i64 a0,.int .i64 b0]),.is (.int .i64 D),.is (.agg #[.int .i64 a0,.int .i64 b0]),.is (.int .i64 D),.is (.int .i64 (-D)),.is (.int .i64 d),.is (.int .i64 a),.is (.int .i64 b),.is (.int .i64 d)] (by kernel_rfl) (by kernel_rfl) (by kernel_rfl) ⟨?_,?_,?_,?_,?_,?_,?_,?_,?_,?_,?_,?_,?_,?_,?_,?_,?_,?_,?_,?_,?_,trivial⟩ ?_
 ·intro _ ac_ w_ hB hr
  have e1:ac_.tmps[1]?=some (.pointer (some ⟨w.heap.size,0,none⟩)):=hr 1 (by decide)
  exact Rg.aG rfl (by go_simp)
 ·intro _ ac_ w_ hB hr
  have e10:=Rg.ev1 (hr 10 (by decide))
  have k0:=aE hB C.box.c0
  exact Rg.aG rfl (by go_simp)
 ·intro _ ac_ w_ hB hr
  have e1:ac_.tmps[1]?=some (.pointer (some ⟨w.heap.size,0,none⟩)):=hr 1 (by decide)
  exact Rg.aG rfl (by go_simp)
 ·intro _ ac_ w_ hB hr
  have e12:=Rg.ev1 (hr 12 (by decide))
  have k0:=aE hB C.box.c0
  exact Rg.aG rfl (by go_simp)
 ·intro _ ac_ w_ hB hr
  have e13:=Rg.ev1 (hr 13 (by decide))
  exact Rg.aG rfl (by go_simp <;> exact Rg.wo (by omega))
 ·intro _ ac_ w_ hB hr
  have e11:=Rg.ev1 (hr 11 (by decide))
  have e14:=Rg.ev1 (hr 14 (by decide))
  exact Rg.aG rfl (by go_simp;first | done | (rw [mA.out];done) | (rw [nA.out];done) | (simp only [mA.out];done))
 ·intro _ ac_ w_ hB hr
  have e1:ac_.tmps[1]?=some (.pointer (some ⟨w.heap.size,0,none⟩)):=hr 1 (by decide)
  exact Rg.aG rfl (by go_simp)
 ·intro _ ac_ w_ hB hr
  have e16:=Rg.ev1 (hr 16 (by decide))
  have k1:=aE hB C.box.c1
  exact Rg.aG rfl (by go_simp)
 ·intro _ ac_ w_ hB hr
  have e1:ac_.tmps[1]?=some (.pointer (some ⟨w.heap.size,0,none⟩)):=hr 1 (by decide)
  exact Rg.aG rfl (by go_simp)
 ·intro _ ac_ w_ hB hr
  have e18:=Rg.ev1 (hr 18 (by decide))
  have k1:=aE hB C.box.c1
  exact Rg.aG rfl (by go_simp)
 ·intro _ ac_ w_ hB hr
  have e19:=Rg.ev1 (hr 19 (by decide))
  exact Rg.aG rfl (by go_simp <;> exact Rg.wo (by omega))
 ·intro _ ac_ w_ hB hr
  have e17:=Rg.ev1 (hr 17 (by decide))
  have e20:=Rg.ev1 (hr 20 (by decide))
  exact Rg.aG rfl (by go_simp;first | done | (rw [mB.out];done) | (rw [nB.out];done) | (simp only [mB.out];done))
 ·intro _ ac_ w_ hB hr
  have e1:ac_.tmps[1]?=some (.pointer (some ⟨w.heap.size,0,none⟩)):=hr 1 (by decide)
  have k0:=aE hB C.box.c0
  have k1:=aE hB C.box.c1
  exact Rg.aG rfl (by go_simp)
 ·intro _ ac_ w_ hB hr
  have e22:=Rg.ev1 (hr 22 (by decide))
  have ef:=Rg.ef ac_
  exact Rg.bK rfl (by go_simp) (PC.out _)
 ·intro _ ac_ w_ hB hr
  have e1:ac_.tmps[1]?=some (.pointer (some ⟨w.heap.size,0,none⟩)):=hr 1 (by decide)
  have k0:=aE hB C.box.c0
  have k1:=aE hB C.box.c1
  exact Rg.aG rfl (by go_simp)
 ·intro _ ac_ w_ hB hr
  have e24:=Rg.ev1 (hr 24 (by decide))
  have ef:=Rg.ef ac_
  exact Rg.bK rfl (by go_simp) (PC.out _)
 ·intro _ ac_ w_ hB hr
  have e25:=Rg.ev1 (hr 25 (by decide))
  exact Rg.aG rfl (by go_simp <;> exact Rg.wo (by omega))
 ·intro _ ac_ w_ hB hr
  have e23:=Rg.ev1 (hr 23 (by decide))
  have e26:=Rg.ev1 (hr 26 (by decide))
  exact Rg.aG rfl (by go_simp;first | done | (rw [mD.out];done) | (rw [nD.out];done) | (simp only [mD.out];done))
 ·intro _ ac_ w_ hB hr
  have e15:=Rg.ev1 (hr 15 (by decide))
  exact Rg.aG rfl (by go_simp)
 ·intro _ ac_ w_ hB hr
  have e21:=Rg.ev1 (hr 21 (by decide))
  exact Rg.aG rfl (by go_simp)
 ·intro _ ac_ w_ hB hr
  have e27:=Rg.ev1 (hr 27 (by decide))
  exact Rg.aG rfl (by go_simp)
 intro vals wz hB1 hv hne
 have v_18:vals 18=.int .i64 a:=hv 18 (by decide)
 have v_19:vals 19=.int .i64 b:=hv 19 (by decide)
 have v_20:vals 20=.int .i64 d:=hv 20 (by decide)
 simp only [Rg.am,Rg.fill,Act.put,Nat.reduceAdd]
 clear hv
 simp only [v_18,v_19,v_20]
 clear v_18 v_19 v_20
 replace B:=B.trans (hB1.mono B.size)
 clear hB1 C
 unfold Rg.aV
 go_wp2
 go_ret2
 exact ⟨by rw [hM.out,hK.out];first | rfl,B⟩
theorem kC (a0 b0:Int) (w:World) (hin:M.bB a0 b0=true) :
  Calls Tryz.prog 111 #[.agg #[.int .i64 a0,.int .i64 b0]] w fun e w'=>e=.returned (.tuple #[.int .i64 (M.hM a0.natAbs b0.natAbs),.int .i64 (M.hK a0.natAbs b0.natAbs (M.ay a0 b0).natAbs)])∧Below w.heap.size w w':=by
 obtain ⟨x1,x2,y1,y2⟩:=M.ah hin
 have hdb:=dr hin
 have PC:=fun W=>jW a0 b0 W hin
 clear hin
 have PA:=fun x W (h1:-9223372036854775807≤x) (h2:x≤9223372036854775807)=>dA x W h1 h2
 have PM:=fun x y W=>du x y W
 generalize M.ay a0 b0=D at *
 obtain ⟨a,ha⟩:∃ a:Int,Hid (a=a0.natAbs):=⟨_,uh rfl⟩
 obtain ⟨b,hb⟩:∃ b:Int,Hid (b=b0.natAbs):=⟨_,uh rfl⟩
 obtain ⟨d,hd⟩:∃ d:Int,Hid (d=D.natAbs):=⟨_,uh rfl⟩
 rw [←ha.out,←hb.out,←hd.out]
 have a1:0≤a∧a≤1000:=by have:=ha.out;omega
 have b1:0≤b∧b≤10000:=by have:=hb.out;omega
 have d1:0≤d∧d≤6700000000:=by have:=hd.out;omega
 obtain ⟨a1,a2⟩:=a1
 obtain ⟨b1,b2⟩:=b1
 obtain ⟨d1,d2⟩:=d1
 have bd33:0≤2*a∧2*a≤2000:=M.pbd (show (0:Int)≤2∧(2:Int)≤2 from ⟨by omega,by omega⟩) (show 0≤a∧a≤1000 from ⟨by omega,by omega⟩) (by omega)
 have bd34:0≤8*b∧8*b≤80000:=M.pbd (show (0:Int)≤8∧(8:Int)≤8 from ⟨by omega,by omega⟩) (show 0≤b∧b≤10000 from ⟨by omega,by omega⟩) (by omega)
 have bd35:0≤a*a∧a*a≤1000000:=M.pbd (show 0≤a∧a≤1000 from ⟨by omega,by omega⟩) (show 0≤a∧a≤1000 from ⟨by omega,by omega⟩) (by omega)
 have bd36:0≤4*d∧4*d≤26800000000:=M.pbd (show (0:Int)≤4∧(4:Int)≤4 from ⟨by omega,by omega⟩) (show 0≤d∧d≤6700000000 from ⟨by omega,by omega⟩) (by omega)
 have bd37:0≤5*a∧5*a≤5000:=M.pbd (show (0:Int)≤5∧(5:Int)≤5 from ⟨by omega,by omega⟩) (show 0≤a∧a≤1000 from ⟨by omega,by omega⟩) (by omega)
 have bd38:0≤5*a*a∧5*a*a≤5000000:=M.pbd bd37 (show 0≤a∧a≤1000 from ⟨by omega,by omega⟩) (by omega)
 have bd39:0≤5*a*a*b∧5*a*a*b≤50000000000:=M.pbd bd38 (show 0≤b∧b≤10000 from ⟨by omega,by omega⟩) (by omega)
 have bd40:0≤4*a∧4*a≤4000:=M.pbd (show (0:Int)≤4∧(4:Int)≤4 from ⟨by omega,by omega⟩) (show 0≤a∧a≤1000 from ⟨by omega,by omega⟩) (by omega)
 have bd41:0≤3*a∧3*a≤3000:=M.pbd (show (0:Int)≤3∧(3:Int)≤3 from ⟨by omega,by omega⟩) (show 0≤a∧a≤1000 from ⟨by omega,by omega⟩) (by omega)
 have bd42:0≤3*a*a∧3*a*a≤3000000:=M.pbd bd41 (show 0≤a∧a≤1000 from ⟨by omega,by omega⟩) (by omega)
 have bd43:0≤3*a*a*a∧3*a*a*a≤3000000000:=M.pbd bd42 (show 0≤a∧a≤1000 from ⟨by omega,by omega⟩) (by omega)
 have bd44:0≤22*b∧22*b≤220000:=M.pbd (show (0:Int)≤22∧(22:Int)≤22 from ⟨by omega,by omega⟩) (show 0≤b∧b≤10000 from ⟨by omega,by omega⟩) (by omega)
 have bd45:0≤22*b*b∧22*b*b≤2200000000:=M.pbd bd44 (show 0≤b∧b≤10000 from ⟨by omega,by omega⟩) (by omega)
 have bd46:0≤4*a*(3*a*a*a+22*b*b)∧4*a*(3*a*a*a+22*b*b)≤20800000000000:=M.pbd bd40 (show 0≤3*a*a*a+22*b*b∧3*a*a*a+22*b*b≤5200000000 from ⟨by omega,by omega⟩) (by omega)
 have bd47:0≤12*b∧12*b≤120000:=M.pbd (show (0:Int)≤12∧(12:Int)≤12 from ⟨by omega,by omega⟩) (show 0≤b∧b≤10000 from ⟨by omega,by omega⟩) (by omega)
 have bd48:0≤a*a*a∧a*a*a≤1000000000:=M.pbd bd35 (show 0≤a∧a≤1000 from ⟨by omega,by omega⟩) (by omega)
 have bd49:0≤8*b*b∧8*b*b≤800000000:=M.pbd bd34 (show 0≤b∧b≤10000 from ⟨by omega,by omega⟩) (by omega)
 have bd50:0≤12*b*(a*a*a+8*b*b)∧12*b*(a*a*a+8*b*b)≤216000000000000:=M.pbd bd47 (show 0≤a*a*a+8*b*b∧a*a*a+8*b*b≤1800000000 from ⟨by omega,by omega⟩) (by omega)
 have bd51:0≤5*a*a*a∧5*a*a*a≤5000000000:=M.pbd bd38 (show 0≤a∧a≤1000 from ⟨by omega,by omega⟩) (by omega)
 have bd52:0≤32*b∧32*b≤320000:=M.pbd (show (0:Int)≤32∧(32:Int)≤32 from ⟨by omega,by omega⟩) (show 0≤b∧b≤10000 from ⟨by omega,by omega⟩) (by omega)
 have bd53:0≤32*b*b∧32*b*b≤3200000000:=M.pbd bd52 (show 0≤b∧b≤10000 from ⟨by omega,by omega⟩) (by omega)
 have bd54:0≤a*(5*a*a*a+32*b*b)∧a*(5*a*a*a+32*b*b)≤8200000000000:=M.pbd (show 0≤a∧a≤1000 from ⟨by omega,by omega⟩) (show 0≤5*a*a*a+32*b*b∧5*a*a*a+32*b*b≤8200000000 from ⟨by omega,by omega⟩) (by omega)
 have bd55:0≤2*b∧2*b≤20000:=M.pbd (show (0:Int)≤2∧(2:Int)≤2 from ⟨by omega,by omega⟩) (show 0≤b∧b≤10000 from ⟨by omega,by omega⟩) (by omega)
 have bd56:0≤13*a∧13*a≤13000:=M.pbd (show (0:Int)≤13∧(13:Int)≤13 from ⟨by omega,by omega⟩) (show 0≤a∧a≤1000 from ⟨by omega,by omega⟩) (by omega)
 have bd57:0≤13*a*a∧13*a*a≤13000000:=M.pbd bd56 (show 0≤a∧a≤1000 from ⟨by omega,by omega⟩) (by omega)
 have bd58:0≤13*a*a*a∧13*a*a*a≤13000000000:=M.pbd bd57 (show 0≤a∧a≤1000 from ⟨by omega,by omega⟩) (by omega)
 have bd59:0≤96*b∧96*b≤960000:=M.pbd (show (0:Int)≤96∧(96:Int)≤96 from ⟨by omega,by omega⟩) (show 0≤b∧b≤10000 from ⟨by omega,by omega⟩) (by omega)
 have bd60:0≤96*b*b∧96*b*b≤9600000000:=M.pbd bd59 (show 0≤b∧b≤10000 from ⟨by omega,by omega⟩) (by omega)
 have bd61:0≤2*b*(13*a*a*a+96*b*b)∧2*b*(13*a*a*a+96*b*b)≤452000000000000:=M.pbd bd55 (show 0≤13*a*a*a+96*b*b∧13*a*a*a+96*b*b≤22600000000 from ⟨by omega,by omega⟩) (by omega)
 have bd62:0≤3*a*a*(a*a*a+8*b*b)∧3*a*a*(a*a*a+8*b*b)≤5400000000000000:=M.pbd bd42 (show 0≤a*a*a+8*b*b∧a*a*a+8*b*b≤1800000000 from ⟨by omega,by omega⟩) (by omega)
 obtain ⟨bd33_1,bd33_2⟩:=bd33
 obtain ⟨bd34_1,bd34_2⟩:=bd34
 obtain ⟨bd35_1,bd35_2⟩:=bd35
 obtain ⟨bd36_1,bd36_2⟩:=bd36
 obtain ⟨bd37_1,bd37_2⟩:=bd37
 obtain ⟨bd38_1,bd38_2⟩:=bd38
 obtain ⟨bd39_1,bd39_2⟩:=bd39
 obtain ⟨bd40_1,bd40_2⟩:=bd40
 obtain ⟨bd41_1,bd41_2⟩:=bd41
 obtain ⟨bd42_1,bd42_2⟩:=bd42
 obtain ⟨bd43_1,bd43_2⟩:=bd43
 obtain ⟨bd44_1,bd44_2⟩:=bd44
 obtain ⟨bd45_1,bd45_2⟩:=bd45
 obtain ⟨bd46_1,bd46_2⟩:=bd46
 obtain ⟨bd47_1,bd47_2⟩:=bd47
 obtain ⟨bd48_1,bd48_2⟩:=bd48
 obtain ⟨bd49_1,bd49_2⟩:=bd49
 obtain ⟨bd50_1,bd50_2⟩:=bd50
 obtain ⟨bd51_1,bd51_2⟩:=bd51
 obtain ⟨bd52_1,bd52_2⟩:=bd52
 obtain ⟨bd53_1,bd53_2⟩:=bd53
 obtain ⟨bd54_1,bd54_2⟩:=bd54
 obtain ⟨bd55_1,bd55_2⟩:=bd55
 obtain ⟨bd56_1,bd56_2⟩:=bd56
 obtain ⟨bd57_1,bd57_2⟩:=bd57
 obtain ⟨bd58_1,bd58_2⟩:=bd58
 obtain ⟨bd59_1,bd59_2⟩:=bd59
 obtain ⟨bd60_1,bd60_2⟩:=bd60
 obtain ⟨bd61_1,bd61_2⟩:=bd61
 obtain ⟨bd62_1,bd62_2⟩:=bd62
 have hM:Hid (M.hM a b=max (1+2*a+8*b+a*a) (4*(1+a+b))):=uh rfl
 have hK:Hid (M.hK a b d=max (15+21*a+27*b) (4*d+5*a*a*b+4*a*(3*a*a*a+22*b*b)+12*b*(a*a*a+8*b*b)+(a*(5*a*a*a+32*b*b)+2*b*(13*a*a*a+96*b*b)+3*a*a*(a*a*a+8*b*b)))):=uh rfl
 skip
 replace PC:=uh PC
 replace PA:=uh PA
 replace PM:=uh PM
 have C:=aH.new w #[.int .i64 a0,.int .i64 b0] 28
 have B:=(uk w.heap.size w).alloc (ul _) (.cells #[.int .i64 a0,.int .i64 b0] 28)
 generalize hw3:w.alloc (.cells #[.int .i64 a0,.int .i64 b0] 28)=wc at *
 go_enter Tryz.func111,Tryz.ntmps111
 go_wp2
 go_upto_region 1 with fail
 refine Rg.bF 12 [.is (.pointer (some ⟨w.heap.size,0,none⟩)),.is (.int .i64 a0),.is (.int .i64 a),.is (.pointer (some ⟨w.heap.size,1,none⟩)),.is (.int .i64 b0),.is (.int .i64 b),.is (.agg #[.int .i64 a0,.int .i64 b0]),.is (.int .i64 D),.is (.int .i64 d),.is (.int .i64 a),.is (.int .i64 b),.is (.int .i64 d)] (by kernel_rfl) (by kernel_rfl) (by kernel_rfl) ⟨?_,?_,?_,?_,?_,?_,?_,?_,?_,?_,?_,?_,trivial⟩ ?_
 ·intro _ ac_ w_ hB hr
  have e1:ac_.tmps[1]?=some (.pointer (some ⟨w.heap.size,0,none⟩)):=hr 1 (by decide)
  exact Rg.aG rfl (by go_simp)
 ·intro _ ac_ w_ hB hr
  have e10:=Rg.ev1 (hr 10 (by decide))
  have k0:=aE hB C.box.c0
  exact Rg.aG rfl (by go_simp)
 ·intro _ ac_ w_ hB hr
  have e11:=Rg.ev1 (hr 11 (by decide))
  have ef:=Rg.ef ac_
  refine Rg.aX rfl (by go_simp;exact ⟨rfl,rfl⟩) ?_
  refine (PA.out a0 _ (by omega) (by omega)).mono ?_
  rintro e w5 ⟨rfl,rfl⟩
  exact ⟨_,rfl,(by rw [ha.out];rfl),uk _ _⟩
 ·intro _ ac_ w_ hB hr
  have e1:ac_.tmps[1]?=some (.pointer (some ⟨w.heap.size,0,none⟩)):=hr 1 (by decide)
  exact Rg.aG rfl (by go_simp)
 ·intro _ ac_ w_ hB hr
  have e13:=Rg.ev1 (hr 13 (by decide))
  have k1:=aE hB C.box.c1
  exact Rg.aG rfl (by go_simp)
 ·intro _ ac_ w_ hB hr
  have e14:=Rg.ev1 (hr 14 (by decide))
  have ef:=Rg.ef ac_
  refine Rg.aX rfl (by go_simp;exact ⟨rfl,rfl⟩) ?_
  refine (PA.out b0 _ (by omega) (by omega)).mono ?_
  rintro e w5 ⟨rfl,rfl⟩
  exact ⟨_,rfl,(by rw [hb.out];rfl),uk _ _⟩
 ·intro _ ac_ w_ hB hr
  have e1:ac_.tmps[1]?=some (.pointer (some ⟨w.heap.size,0,none⟩)):=hr 1 (by decide)
  have k0:=aE hB C.box.c0
  have k1:=aE hB C.box.c1
  exact Rg.aG rfl (by go_simp)
 ·intro _ ac_ w_ hB hr
  have e16:=Rg.ev1 (hr 16 (by decide))
  have ef:=Rg.ef ac_
  exact Rg.bK rfl (by go_simp) (PC.out _)
 ·intro _ ac_ w_ hB hr
  have e17:=Rg.ev1 (hr 17 (by decide))
  have ef:=Rg.ef ac_
  refine Rg.aX rfl (by go_simp;exact ⟨rfl,rfl⟩) ?_
  refine (PA.out D _ (by omega) (by omega)).mono ?_
  rintro e w5 ⟨rfl,rfl⟩
  exact ⟨_,rfl,(by rw [hd.out];rfl),uk _ _⟩
 ·intro _ ac_ w_ hB hr
  have e12:=Rg.ev1 (hr 12 (by decide))
  exact Rg.aG rfl (by go_simp)
 ·intro _ ac_ w_ hB hr
  have e15:=Rg.ev1 (hr 15 (by decide))
  exact Rg.aG rfl (by go_simp)
 ·intro _ ac_ w_ hB hr
  have e18:=Rg.ev1 (hr 18 (by decide))
  exact Rg.aG rfl (by go_simp)
 intro vals wz hB1 hv hne
 have v_9:vals 9=.int .i64 a:=hv 9 (by decide)
 have v_10:vals 10=.int .i64 b:=hv 10 (by decide)
 have v_11:vals 11=.int .i64 d:=hv 11 (by decide)
 simp only [Rg.am,Rg.fill,Act.put,Nat.reduceAdd]
 clear hv
 simp only [v_9,v_10,v_11]
 clear v_9 v_10 v_11
 replace B:=B.trans (hB1.mono B.size)
 clear hB1 C
 unfold Rg.aV
 go_wp2_with (go_at_call 65;(with_reducible refine (PM.out _ _ _).mono ?_);rintro e w6 ⟨rfl,rfl⟩)
 go_ret2
 exact ⟨by rw [hM.out,hK.out];first | rfl,B⟩
theorem M.mb {a0 b0:Int} (hin:M.bB a0 b0=true):0≤max (M.hM a0.natAbs b0.natAbs) (M.hK a0.natAbs b0.natAbs (M.ay a0 b0).natAbs)∧max (M.hM a0.natAbs b0.natAbs) (M.hK a0.natAbs b0.natAbs (M.ay a0 b0).natAbs)≤100000000000000000:=by
 obtain ⟨x1,x2,y1,y2⟩:=M.ah hin
 have hdb:=dr hin
 obtain ⟨a,ha⟩:∃ a:Int,(a=a0.natAbs):=⟨_,rfl⟩
 obtain ⟨b,hb⟩:∃ b:Int,(b=b0.natAbs):=⟨_,rfl⟩
 obtain ⟨d,hd⟩:∃ d:Int,(d=(M.ay a0 b0).natAbs):=⟨_,rfl⟩
 rw [←ha,←hb,←hd]
 have a1:0≤a∧a≤1000:=by omega
 have b1:0≤b∧b≤10000:=by omega
 have d1:0≤d∧d≤6700000000:=by omega
 clear ha hb hd hdb x1 x2 y1 y2 hin
 have bd1:0≤2*a∧2*a≤2000:=M.pbd (show (0:Int)≤2∧(2:Int)≤2 from ⟨by omega,by omega⟩) (show 0≤a∧a≤1000 from ⟨by omega,by omega⟩) (by omega)
 have bd2:0≤8*b∧8*b≤80000:=M.pbd (show (0:Int)≤8∧(8:Int)≤8 from ⟨by omega,by omega⟩) (show 0≤b∧b≤10000 from ⟨by omega,by omega⟩) (by omega)
 have bd3:0≤a*a∧a*a≤1000000:=M.pbd (show 0≤a∧a≤1000 from ⟨by omega,by omega⟩) (show 0≤a∧a≤1000 from ⟨by omega,by omega⟩) (by omega)
 have bd4:0≤4*d∧4*d≤26800000000:=M.pbd (show (0:Int)≤4∧(4:Int)≤4 from ⟨by omega,by omega⟩) (show 0≤d∧d≤6700000000 from ⟨by omega,by omega⟩) (by omega)
 have bd5:0≤5*a∧5*a≤5000:=M.pbd (show (0:Int)≤5∧(5:Int)≤5 from ⟨by omega,by omega⟩) (show 0≤a∧a≤1000 from ⟨by omega,by omega⟩) (by omega)
 have bd6:0≤5*a*a∧5*a*a≤5000000:=M.pbd bd5 (show 0≤a∧a≤1000 from ⟨by omega,by omega⟩) (by omega)
 have bd7:0≤5*a*a*b∧5*a*a*b≤50000000000:=M.pbd bd6 (show 0≤b∧b≤10000 from ⟨by omega,by omega⟩) (by omega)
 have bd8:0≤4*a∧4*a≤4000:=M.pbd (show (0:Int)≤4∧(4:Int)≤4 from ⟨by omega,by omega⟩) (show 0≤a∧a≤1000 from ⟨by omega,by omega⟩) (by omega)
 have bd9:0≤3*a∧3*a≤3000:=M.pbd (show (0:Int)≤3∧(3:Int)≤3 from ⟨by omega,by omega⟩) (show 0≤a∧a≤1000 from ⟨by omega,by omega⟩) (by omega)
 have bd10:0≤3*a*a∧3*a*a≤3000000:=M.pbd bd9 (show 0≤a∧a≤1000 from ⟨by omega,by omega⟩) (by omega)
 have bd11:0≤3*a*a*a∧3*a*a*a≤3000000000:=M.pbd bd10 (show 0≤a∧a≤1000 from ⟨by omega,by omega⟩) (by omega)
 have bd12:0≤22*b∧22*b≤220000:=M.pbd (show (0:Int)≤22∧(22:Int)≤22 from ⟨by omega,by omega⟩) (show 0≤b∧b≤10000 from ⟨by omega,by omega⟩) (by omega)
 have bd13:0≤22*b*b∧22*b*b≤2200000000:=M.pbd bd12 (show 0≤b∧b≤10000 from ⟨by omega,by omega⟩) (by omega)
 have bd14:0≤4*a*(3*a*a*a+22*b*b)∧4*a*(3*a*a*a+22*b*b)≤20800000000000:=M.pbd bd8 (show 0≤3*a*a*a+22*b*b∧3*a*a*a+22*b*b≤5200000000 from ⟨by omega,by omega⟩) (by omega)
 have bd15:0≤12*b∧12*b≤120000:=M.pbd (show (0:Int)≤12∧(12:Int)≤12 from ⟨by omega,by omega⟩) (show 0≤b∧b≤10000 from ⟨by omega,by omega⟩) (by omega)
 have bd16:0≤a*a*a∧a*a*a≤1000000000:=M.pbd bd3 (show 0≤a∧a≤1000 from ⟨by omega,by omega⟩) (by omega)
 have bd17:0≤8*b*b∧8*b*b≤800000000:=M.pbd bd2 (show 0≤b∧b≤10000 from ⟨by omega,by omega⟩) (by omega)
 have bd18:0≤12*b*(a*a*a+8*b*b)∧12*b*(a*a*a+8*b*b)≤216000000000000:=M.pbd bd15 (show 0≤a*a*a+8*b*b∧a*a*a+8*b*b≤1800000000 from ⟨by omega,by omega⟩) (by omega)
 have bd19:0≤5*a*a*a∧5*a*a*a≤5000000000:=M.pbd bd6 (show 0≤a∧a≤1000 from ⟨by omega,by omega⟩) (by omega)
 have bd20:0≤32*b∧32*b≤320000:=M.pbd (show (0:Int)≤32∧(32:Int)≤32 from ⟨by omega,by omega⟩) (show 0≤b∧b≤10000 from ⟨by omega,by omega⟩) (by omega)
 have bd21:0≤32*b*b∧32*b*b≤3200000000:=M.pbd bd20 (show 0≤b∧b≤10000 from ⟨by omega,by omega⟩) (by omega)
 have bd22:0≤a*(5*a*a*a+32*b*b)∧a*(5*a*a*a+32*b*b)≤8200000000000:=M.pbd (show 0≤a∧a≤1000 from ⟨by omega,by omega⟩) (show 0≤5*a*a*a+32*b*b∧5*a*a*a+32*b*b≤8200000000 from ⟨by omega,by omega⟩) (by omega)
 have bd23:0≤2*b∧2*b≤20000:=M.pbd (show (0:Int)≤2∧(2:Int)≤2 from ⟨by omega,by omega⟩) (show 0≤b∧b≤10000 from ⟨by omega,by omega⟩) (by omega)
 have bd24:0≤13*a∧13*a≤13000:=M.pbd (show (0:Int)≤13∧(13:Int)≤13 from ⟨by omega,by omega⟩) (show 0≤a∧a≤1000 from ⟨by omega,by omega⟩) (by omega)
 have bd25:0≤13*a*a∧13*a*a≤13000000:=M.pbd bd24 (show 0≤a∧a≤1000 from ⟨by omega,by omega⟩) (by omega)
 have bd26:0≤13*a*a*a∧13*a*a*a≤13000000000:=M.pbd bd25 (show 0≤a∧a≤1000 from ⟨by omega,by omega⟩) (by omega)
 have bd27:0≤96*b∧96*b≤960000:=M.pbd (show (0:Int)≤96∧(96:Int)≤96 from ⟨by omega,by omega⟩) (show 0≤b∧b≤10000 from ⟨by omega,by omega⟩) (by omega)
 have bd28:0≤96*b*b∧96*b*b≤9600000000:=M.pbd bd27 (show 0≤b∧b≤10000 from ⟨by omega,by omega⟩) (by omega)
 have bd29:0≤2*b*(13*a*a*a+96*b*b)∧2*b*(13*a*a*a+96*b*b)≤452000000000000:=M.pbd bd23 (show 0≤13*a*a*a+96*b*b∧13*a*a*a+96*b*b≤22600000000 from ⟨by omega,by omega⟩) (by omega)
 have bd30:0≤3*a*a*(a*a*a+8*b*b)∧3*a*a*(a*a*a+8*b*b)≤5400000000000000:=M.pbd bd10 (show 0≤a*a*a+8*b*b∧a*a*a+8*b*b≤1800000000 from ⟨by omega,by omega⟩) (by omega)
 unfold M.hM M.hK
 omega
theorem M.lM {a0 b0:Int} (hin:M.bB a0 b0=true):M.hC a0 b0≤60:=by
 have h:=M.mb hin
 unfold M.hC Wh.bl
 generalize max (M.hM a0.natAbs b0.natAbs) (M.hK a0.natAbs b0.natAbs (M.ay a0 b0).natAbs)=X at *
 split
 ·omega
 rename_i h0
 have:=(Nat.log2_lt h0 (k:=59)).2 (by
                      have:(2:Nat) ^ 59=576460752303423488:=by decide
                      omega)
 omega
theorem fi (a0 b0:Int) (w:World) (hin:M.bB a0 b0=true) :
  Calls Tryz.prog 114 #[.agg #[.int .i64 a0,.int .i64 b0]] w fun e w'=>e=.returned (.int .i64 (M.hC a0 b0:Nat))∧Below w.heap.size w w':=by
 have hbd:=M.mb hin
 have PD:=fun W=>gP a0 b0 W hin
 have hc:Hid (M.hC a0 b0=Wh.bl (max (M.hM a0.natAbs b0.natAbs) (M.hK a0.natAbs b0.natAbs (M.ay a0 b0).natAbs)).toNat):=uh rfl
 generalize M.hM a0.natAbs b0.natAbs=m at *
 generalize M.hK a0.natAbs b0.natAbs (M.ay a0 b0).natAbs=k at *
 have hx:max m k=if m<k then k else m:=by split <;> omega
 have PL:=fun W=>Tryz.bits_Len (max m k) W (by omega) (by omega)
 rw [Wh.p9 _ (by omega)] at PL
 obtain ⟨x1,x2⟩:=hbd
 replace PD:=uh PD
 replace PL:=uh PL
 replace hx:=uh hx
 have B:=(uk w.heap.size w).alloc (ul _) (.cells #[.int .i64 a0,.int .i64 b0] 28)
 go_enter Tryz.func114,Tryz.ntmps114
 go_wp2_with (first
  | (go_at_call 138;(with_reducible refine (PD.out _).mono ?_);rintro e w4 ⟨rfl,hb4⟩;(replace B:=B.trans (hb4.mono B.size)))
  | (go_at_call 139;(refine (PL.out _).mono ?_);rintro e w6 ⟨rfl,rfl⟩))
 go_ret
 exact ⟨by rw [hc.out];rfl,B⟩
theorem kB (a0 b0:Int) (w:World) (hin:M.bB a0 b0=true) :
  Calls Tryz.prog 88 #[.agg #[.int .i64 a0,.int .i64 b0]] w fun e w'=>e=.returned (.int .i64 (M.hC a0 b0:Nat))∧Below w.heap.size w w':=by
 have hbd:=M.mb hin
 have hcb:=M.lM hin
 have PD:=fun W=>kC a0 b0 W hin
 have hc:Hid (M.hC a0 b0=Wh.bl (max (M.hM a0.natAbs b0.natAbs) (M.hK a0.natAbs b0.natAbs (M.ay a0 b0).natAbs)).toNat):=uh rfl
 rw [hc.out] at hcb
 generalize M.hM a0.natAbs b0.natAbs=m at *
 generalize M.hK a0.natAbs b0.natAbs (M.ay a0 b0).natAbs=k at *
 have PM:=fun W=>du m k W
 generalize max m k=X at *
 obtain ⟨x1,x2⟩:=hbd
 have hxn:X.natAbs=X.toNat:=by omega
 have PO:=fun W=>iY X W (by omega) (by omega)
 have PB:=fun v W k (h:aF W k v (Wh.dig X.natAbs))=>iX X v W k h (Nat.le_trans (Wh.dE (k:=5) (by omega)) (by decide)) (by rw [hxn];omega)
 replace hxn:=uh hxn
 generalize decide (X<0)=sX at *
 replace PD:=uh PD
 replace PM:=uh PM
 replace PO:=uh PO
 replace PB:=uh PB
 clear hcb
 have B:=(uk w.heap.size w).alloc (ul _) (.cells #[.int .i64 a0,.int .i64 b0] 28)
 go_enter Tryz.func88,Tryz.ntmps88
 go_wp2_with (first
  | (go_at_call 111;(with_reducible refine (PD.out _).mono ?_);rintro e w4 ⟨rfl,hb4⟩;(replace B:=B.trans (hb4.mono B.size)))
  | (go_at_call 65;(with_reducible refine (PM.out _).mono ?_);rintro e w5 ⟨rfl,rfl⟩)
  | (go_at_call 112;(with_reducible refine (PO.out _).mono ?_);rintro e w6 ⟨v6,rfl,ho6,hb6⟩;(have ho7:=(show aF _ _ _ _ from ho6));(replace B:=B.trans (hb6.mono B.size)))
  | (go_at_call 110;(with_reducible refine (PB.out _ _ _ ho7).mono ?_);rintro e w8 ⟨rfl,hb8⟩;(replace B:=B.trans (hb8.mono B.size))))
 go_ret
 exact ⟨by rw [hc.out,←hxn.out];rfl,B⟩
def M.p4 (n:Nat):Int:=3*4 ^ n
theorem M.sU (n:Nat):M.p4 (n+1)=M.p4 n*4:=by unfold M.p4;rw [Int.pow_succ];omega
theorem M.ny:∀ n:Nat,n≤5→3≤M.p4 n∧M.p4 n≤3072:=by decide
theorem oZ (n:Nat) (w:World) (hn:n≤5) :
  Calls Tryz.prog 89 #[.int .i64 (n:Int)] w fun e w'=>e=.returned (.int .i64 (M.p4 n))∧w=w':=by
 go_enter Tryz.func89,Tryz.ntmps89
 go_wp2
 go_loop [0,3] (fun i o=>∃ k:Nat,k≤n∧i=.int .i64 ((n - k:Nat):Int)∧o=.int .i64 (M.p4 k)) (fun i _=>(intOf i).toNat)
 case atStart=>exact ⟨0,Nat.zero_le _,rfl,rfl⟩
 case round=>
 obtain ⟨k,hk,rfl,rfl⟩:=hrel
 have hb:=M.ny k (by omega)
 have hs:=uh (M.sU k)
 by_cases hlt:k<n
 ·obtain ⟨j,hj⟩:∃ j:Nat,n - k=j+1:=⟨n - k - 1,by omega⟩
  have hj2:=uh (show n - (k+1)=j by omega)
  rw [hj]
  have hjb:(j:Int)≤4:=by omega
  clear hj
  go_wp2
  go_round
  case rel=>exact ⟨k+1,by omega,(by first | (rw [hj2.out];done) | (rw [hj2.out];go_num)),by rw [hs.out]⟩
  case measure=>simp [intOf] <;> omega
 obtain rfl:n=k:=by omega
 rw [Nat.sub_self]
 go_wp2
 go_ret
 exact ⟨rfl,rfl⟩
namespace M
inductive Out where
 | inf
 | bad
 | val (x z:Int)
def nx (a b:Int):Out→Out
 | .val x z=>if Wh.bD a b x z=0 then .inf else if Wh.dX (M.ay a b) (Wh.bJ a b x z) (Wh.bD a b x z)=true then .val (Wh.dbN (M.ay a b) (Wh.bJ a b x z) (Wh.bD a b x z)) (Wh.dbD (M.ay a b) (Wh.bJ a b x z) (Wh.bD a b x z)) else .bad
 | o=>o
def run (a b:Int):Nat→Out→Out
 | 0,o=>o
 | k+1,o=>nx a b (run a b k o)
theorem kT {a b:Int} {o:Out} {k:Nat} (h:run a b k o=.inf):∀ n,k≤n→run a b n o=.inf
 | 0,hn=>by
        obtain rfl:k=0:=by omega
        exact h
 | n+1,hn=>by
  by_cases e:k=n+1
  ·exact e ▸ h
  show nx a b (run a b n o)=.inf
  rw [kT h n (by omega)]
  rfl
theorem kS {a b:Int} {o:Out} {k:Nat} (h:run a b k o=.bad):∀ n,k≤n→run a b n o=.bad
 | 0,hn=>by
        obtain rfl:k=0:=by omega
        exact h
 | n+1,hn=>by
  by_cases e:k=n+1
  ·exact e ▸ h
  show nx a b (run a b n o)=.bad
  rw [kS h n (by omega)]
  rfl
def eF:Out→Int
 | .val x z=>max (Wh.bl x.natAbs:Nat) (Wh.bl z.natAbs:Nat)
 | _=>0
def isInf:Out→Bool
 | .inf=>true
 | _=>false
def isOk:Out→Bool
 | .bad=>false
 | _=>true
def aj (a b X E:Int) (n:Nat):Out:=if E=0 then .inf else run a b n (.val X (E*E))
end M
namespace Wh
theorem uJ {n k:Nat} (h:n<2 ^ k):bl n≤k:=by
 unfold bl
 split
 ·omega
 rename_i h0
 have:=(Nat.log2_lt h0 (k:=k)).2 h
 omega
theorem jK {z:Int} {n:Nat} (h:sz z n):bl z.natAbs≤14*n:=by
 refine uJ (Nat.lt_of_lt_of_le h ?_)
 rw [Nat.pow_mul]
 exact Nat.pow_le_pow_left (by decide) n
theorem jF {x z:Int} (h:cR x z=true):sz x 1000∧sz z 1000:=by
 unfold cR M.ins at h
 simp only [Bool.and_eq_true,decide_eq_true_eq] at h
 exact ⟨aN (aU.1 h.1.1) (by omega),aN (aU.1 (show (dig z.natAbs).length≤80 by omega)) (by omega)⟩
theorem ic {D F G:Int} (h:dX D F G=true):cR (dbN D F G) (dbD D F G)=true:=by
 unfold dX at h
 rw [Bool.and_eq_true] at h
 exact h.2
end Wh
def mR (base:Nat) (x z:Int) (v:Value) (W:World):Prop:=∃ s1 s2,v=.agg #[.bool (decide (x<0)),s1,.bool (decide (z<0)),s2]∧aF W base s1 (Wh.dig x.natAbs)∧aF W base s2 (Wh.dig z.natAbs)
theorem mR.view {base:Nat} {x z:Int} {v:Value} {W:World} (h:mR base x z v W):∃ (s:Bool) (a:Option Addr) (l c:Nat),Hid (s=decide (x<0))∧∃ (r:Bool) (b:Option Addr) (m d:Nat),Hid (r=decide (z<0))∧v=.agg #[.bool s,.slice a l c,.bool r,.slice b m d]∧aF W base (.slice a l c) (Wh.dig x.natAbs)∧aF W base (.slice b m d) (Wh.dig z.natAbs):=by
 obtain ⟨s1,s2,rfl,h1,h2⟩:=h
 obtain ⟨a,c,rfl,-,-⟩:=aF.view h1
 obtain ⟨b,d,rfl,-,-⟩:=aF.view h2
 exact ⟨_,a,_,c,uh rfl,_,b,_,d,uh rfl,rfl,h1,h2⟩
theorem mR.at1 {base k j:Nat} {x z:Int} {s1 s2:Value} {W:World} (h1:aF W k s1 (Wh.dig x.natAbs)) (h2:aF W j s2 (Wh.dig z.natAbs)) (hk:base≤k) (hj:base≤j):(Rg.Val.at (mR base x z)).ok (.agg #[.bool (decide (x<0)),s1,.bool (decide (z<0)),s2]) W:=fun _ hb=>⟨s1,s2,rfl,(aF.below h1 hb).base hk,(aF.below h2 hb).base hj⟩
theorem gv (q:Bool) (A:Option Addr) (L C:Nat) (W:World):Sem.run Tryz.prog (Instr.field 106 (.agg #[.bool q,.slice A L C]) 1) W=.ok (.slice A L C) W:=by kernel_rfl
theorem aH.aQ {W:World} {g:Nat} {T:TypeId} {u v x:Value} (h:aH W g T #[u,v,x]):W.cell? ⟨g,0,none⟩=some u∧W.cell? ⟨g,1,none⟩=some v∧W.cell? ⟨g,2,none⟩=some x:=⟨h.cell 0,h.cell 1,h.cell 2⟩
theorem pz (a b X Y E:Int) (n:Nat) (w:World) (hg:M.good a b=true) (hX1:-10000≤X) (hX2:X≤10000) (hE1:0≤E) (hE2:E≤20) (hn:n≤5) :
  Calls Tryz.prog 113 #[.agg #[.int .i64 a,.int .i64 b],.agg #[.int .i64 X,.int .i64 Y,.int .i64 E],.int .i64 (n:Int)] w fun e w'=>e=.returned (.tuple #[.int .i64 (M.eF (M.aj a b X E n)),.bool (M.isInf (M.aj a b X E n)),.bool (M.isOk (M.aj a b X E n))])∧Below w.heap.size w w':=by
 have C:=(aH.new w #[.int .i64 a,.int .i64 b] 28).alloc (.cells #[.int .i64 X,.int .i64 Y,.int .i64 E] 45)
 have Q:=(aH.new (w.alloc (.cells #[.int .i64 a,.int .i64 b] 28)) #[.int .i64 X,.int .i64 Y,.int .i64 E] 45)
 rw [ui] at Q
 have B:=((uk w.heap.size w).alloc (ul _) (.cells #[.int .i64 a,.int .i64 b] 28)).alloc (by rw [ui];omega) (.cells #[.int .i64 X,.int .i64 Y,.int .i64 E] 45)
 have hzw:w.heap.size+2≤((w.alloc (.cells #[.int .i64 a,.int .i64 b] 28)).alloc (.cells #[.int .i64 X,.int .i64 Y,.int .i64 E] 45)).heap.size:=by rw [ui,ui];omega
 generalize hw3:(w.alloc (.cells #[.int .i64 a,.int .i64 b] 28)).alloc (.cells #[.int .i64 X,.int .i64 Y,.int .i64 E] 45)=wc at *
 have ⟨q0,q1,q2⟩:=Q.aQ
 have C_c0:=C.box.c0
 have C_c1:=C.box.c1
 by_cases h0:E=0
 ·subst h0
  have hz0:M.aj a b X 0 n=.inf:=rfl
  rw [hz0]
  clear hz0
  go_enter Tryz.func113,Tryz.ntmps113
  go_wp2
  exact bodyPost_ret (v:=.tuple #[.int .i64 0,.bool true,.bool true]) (by simp [results,Tryz.results113,go_sem, *]) rfl (⟨rfl,B⟩)
 have hE:1≤E:=by omega
 have hEE:1≤E*E∧E*E≤400:=⟨by have:=Int.mul_le_mul hE hE (by omega) (by omega);omega,by have:=Int.mul_le_mul hE2 hE2 (by omega) (by omega);omega⟩
 have hE0:(E == 0)=false:=by rw [beq_eq_false_iff_ne];exact h0
 have hout:M.aj a b X E n=M.run a b n (.val X (E*E)):=if_neg h0
 rw [hout]
 clear hout h0
 obtain ⟨e1,e2⟩:=hEE
 have P1:=uh fun W=>bX X W (by omega) (by omega)
 have P2:=uh fun W=>bX (E*E) W (by omega) (by omega)
 have zX:Wh.sz X 1000:=Wh.aN (Wh.bS (by omega) (by omega)) (by omega)
 have zE:Wh.sz (E*E) 1000:=Wh.aN (Wh.bS (by omega) (by omega)) (by omega)
 have zX:=uh zX
 have zE:=uh zE
 have hb2:-10000≤b∧b≤10000:=⟨(M.ah (M.bE hg)).2.2.1,(M.ah (M.bE hg)).2.2.2⟩
 have ha2:-1000≤a∧a≤1000:=⟨(M.ah (M.bE hg)).1,(M.ah (M.bE hg)).2.1⟩
 obtain ⟨hb1,hb2⟩:=hb2
 obtain ⟨ha1,ha2⟩:=ha2
 have hg:=uh hg
 have PG:=uh fun (x z:Int) (s r:Bool) v v' W k k' (h1:aF W k v (Wh.dig x.natAbs)) (h2:aF W k' v' (Wh.dig z.natAbs)) (hx:Wh.sz x 1000) (hz:Wh.sz z 1000) (hs:s=decide (x<0)) (hr:r=decide (z<0))=>(hs ▸ hr ▸ dY a b x z v v' W k k' h1 h2 hx hz ha1 ha2 hb1 hb2:Calls Tryz.prog 135 #[.agg #[.int .i64 a,.int .i64 b],.agg #[.bool s,v,.bool r,v']] W fun e w'=>∃ sl,e=.returned (.agg #[.bool (decide (Wh.bD a b x z<0)),sl])∧ae w' W.heap.size sl (Wh.bD a b x z)∧Below W.heap.size W w')
 have PD:=uh fun (x z:Int) (s r:Bool) v v' W k k' (h1:aF W k v (Wh.dig x.natAbs)) (h2:aF W k' v' (Wh.dig z.natAbs)) (hx:Wh.sz x 1000) (hz:Wh.sz z 1000) (hs:s=decide (x<0)) (hr:r=decide (z<0))=>(hs ▸ hr ▸ oi a b x z v v' W k k' hg.out h1 h2 hx hz:Calls Tryz.prog 136 #[.agg #[.int .i64 a,.int .i64 b],.agg #[.bool s,v,.bool r,v']] W fun e w'=>∃ v1 v2,e=.returned (.tuple #[.agg #[.bool (decide (Wh.dbX (M.ay a b) (Wh.bJ a b x z) (Wh.bD a b x z)<0)),v1,.bool (decide (Wh.dbZ (M.ay a b) (Wh.bJ a b x z) (Wh.bD a b x z)<0)),v2],.bool (Wh.dX (M.ay a b) (Wh.bJ a b x z) (Wh.bD a b x z))])∧ae w' W.heap.size v1 (Wh.dbX (M.ay a b) (Wh.bJ a b x z) (Wh.bD a b x z))∧ae w' W.heap.size v2 (Wh.dbZ (M.ay a b) (Wh.bJ a b x z) (Wh.bD a b x z))∧Below W.heap.size W w')
 have PB:=uh fun (x:Int) (s:Bool) v W k (h1:aF W k v (Wh.dig x.natAbs)) (hx:Wh.sz x 1000) (hs:s=decide (x<0))=>(hs ▸ ko x v W k h1 (Wh.aU.2 (Wh.aN hx (by omega))) (Nat.le_trans (Wh.jK hx) (by omega)):Calls Tryz.prog 137 #[.agg #[.bool s,v]] W fun e w'=>e=.returned (.int .i64 (Wh.bl x.natAbs:Nat))∧Below W.heap.size W w')
 clear ha1 ha2 hb1 hb2
 have hfld:=fun q A L C W=>gv q A L C W
 have i2:IntKind.i64.wrap (E*E)=E*E:=IntWalk.i64_in _ (by omega)
 have i2:=uh i2
 go_enter Tryz.func113,Tryz.ntmps113
 go_upto_region 3 with fail
 refine Rg.bF 11 [.is (.pointer (some ⟨w.heap.size+1,0,none⟩)),.is (.int .i64 X),.at (aJ (wc.heap.size) (X)),.is (.pointer (some ⟨w.heap.size+1,2,none⟩)),.is (.int .i64 E),.is (.pointer (some ⟨w.heap.size+1,2,none⟩)),.is (.int .i64 E),.is (.int .i64 (E*E)),.at (aJ (wc.heap.size) (E*E)),.at (mR (wc.heap.size) (X) (E*E)),.new (wc.heap.size) 120 #[.bool false,.slice none 0 0,.bool false,.slice none 0 0]] (by kernel_rfl) (by kernel_rfl) (by kernel_rfl) ⟨?_,?_,?_,?_,?_,?_,?_,?_,?_,?_,?_,fun h_=>absurd h_ (by decide),trivial⟩ ?_
 ·intro _ ac_ w_ hB hr
  have e4:ac_.tmps[4]?=some (.pointer (some ⟨w.heap.size+1,0,none⟩)):=hr 4 (by decide)
  exact Rg.aG rfl (by go_simp)
 ·intro _ ac_ w_ hB hr
  have e15:=Rg.ev1 (hr 15 (by decide))
  have k0:=aE hB Q.aQ.1
  exact Rg.aG rfl (by go_simp)
 ·intro _ ac_ w_ hB hr
  have e16:=Rg.ev1 (hr 16 (by decide))
  have ef:=Rg.ef ac_
  refine Rg.aX rfl (by go_simp;exact ⟨rfl,rfl⟩) ?_
  refine (P1.out _).mono ?_
  rintro e w5 ⟨sl5,rfl,ho5,hb5⟩
  exact ⟨_,rfl,aJ.at ho5 (by have:=hB.size;omega),hb5⟩
 ·intro _ ac_ w_ hB hr
  have e4:ac_.tmps[4]?=some (.pointer (some ⟨w.heap.size+1,0,none⟩)):=hr 4 (by decide)
  exact Rg.aG rfl (by go_simp)
 ·intro _ ac_ w_ hB hr
  have e18:=Rg.ev1 (hr 18 (by decide))
  have k2:=aE hB Q.aQ.2.2
  exact Rg.aG rfl (by go_simp)
 ·intro _ ac_ w_ hB hr
  have e4:ac_.tmps[4]?=some (.pointer (some ⟨w.heap.size+1,0,none⟩)):=hr 4 (by decide)
  exact Rg.aG rfl (by go_simp)
 ·intro _ ac_ w_ hB hr
  have e20:=Rg.ev1 (hr 20 (by decide))
  have k2:=aE hB Q.aQ.2.2
  exact Rg.aG rfl (by go_simp)
 ·intro _ ac_ w_ hB hr
  have e19:=Rg.ev1 (hr 19 (by decide))
  have e21:=Rg.ev1 (hr 21 (by decide))
  exact Rg.aG rfl (by go_simp <;> exact Rg.wo (by omega))
 ·intro _ ac_ w_ hB hr
  have e22:=Rg.ev1 (hr 22 (by decide))
  have ef:=Rg.ef ac_
  refine Rg.aX rfl (by go_simp;exact ⟨rfl,rfl⟩) ?_
  refine (P2.out _).mono ?_
  rintro e w5 ⟨sl5,rfl,ho5,hb5⟩
  exact ⟨_,rfl,aJ.at ho5 (by have:=hB.size;omega),hb5⟩
 ·intro _ ac_ w_ hB hr
  obtain ⟨v17,e17,n17⟩:∃ v,ac_.tmps[17]?=some v∧(Rg.Val.at (aJ (wc.heap.size) (X))).ok v w_:=hr 17 (by decide)
  obtain ⟨s17,a17,l17,c17,hs17,rfl,o17⟩:=(Rg.aZ n17).view
  obtain ⟨v23,e23,n23⟩:∃ v,ac_.tmps[23]?=some v∧(Rg.Val.at (aJ (wc.heap.size) (E*E))).ok v w_:=hr 23 (by decide)
  obtain ⟨s23,a23,l23,c23,hs23,rfl,o23⟩:=(Rg.aZ n23).view
  obtain rfl:=hs17.out
  obtain rfl:=hs23.out
  exact Rg.tp rfl (by first | (go_simp;done) | (go_simp;rfl)) (mR.at1 o17 o23 (ul _) (ul _))
 ·intro _ ac_ w_ hB hr
  exact ⟨by have:=hB.size;omega,rfl,by first | (go_simp;done) | (go_simp;rfl)⟩
 intro vals wz hB hv hne
 have n9:(Rg.Val.new (wc.heap.size) 120 #[.bool false,.slice none 0 0,.bool false,.slice none 0 0]).ok (vals 10) wz:=hv 10 (by decide)
 have n24:(Rg.Val.at (mR (wc.heap.size) (X) (E*E))).ok (vals 9) wz:=hv 9 (by decide)
 simp only [Rg.am,Rg.fill,Act.put,Nat.reduceAdd]
 clear hv
 obtain ⟨g9,hg9,v_10,o9⟩:=n9
 replace o9:aH wz g9 120 #[.bool false,.slice none 0 0,.bool false,.slice none 0 0]:=o9
 obtain ⟨s24,a24,l24,c24,hs24,r24,b24,m24,d24,hr24,v_9,o24,p24⟩:=(Rg.aZ n24).view
 simp only [v_10,v_9]
 clear v_10 v_9
 have ⟨p0,p1,p2,p3,y0,y1,y2,y3,_⟩:=o9.aR
 have R:=aH.pS o9 (.bool s24) (.slice a24 l24 c24) (.bool r24) (.slice b24 m24 d24)
 have ox:=uh (aF.base (aF.dB o24 o9 (by decide) (.bool s24) (.slice a24 l24 c24) (.bool r24) (.slice b24 m24 d24)) (Nat.zero_le _))
 have oz:=uh (aF.base (aF.dB p24 o9 (by decide) (.bool s24) (.slice a24 l24 c24) (.bool r24) (.slice b24 m24 d24)) (Nat.zero_le _))
 have hkg:w.heap.size+2≤g9:=by omega
 have B2:Below w.heap.size w ((((wz.setCell ⟨g9,0,none⟩ (.bool s24)).setCell ⟨g9,1,none⟩ (.slice a24 l24 c24)).setCell ⟨g9,2,none⟩ (.bool r24)).setCell ⟨g9,3,none⟩ (.slice b24 m24 d24)):=uj (uj (uj (uj (B.trans (hB.mono B.size)) (by simp <;> omega) _) (by simp <;> omega) _) (by simp <;> omega) _) (by simp <;> omega) _
 have C2:=((((C.keep hB).other (i:=0) (show w.heap.size≠g9 by omega) (.bool s24)).other (i:=1) (show w.heap.size≠g9 by omega) (.slice a24 l24 c24)).other (i:=2) (show w.heap.size≠g9 by omega) (.bool r24)).other (i:=3) (show w.heap.size≠g9 by omega) (.slice b24 m24 d24)
 unfold Rg.aV Rg.aV Oper.wp
 go_simp
 clear p0 p1 p2 p3 y0 y1 y2 y3 o9 o24 p24 hB B Q q0 q1 q2 C_c0 C_c1 C hzw hg9 i2 P1 P2 hE0 hw3
 generalize ((((wz.setCell ⟨g9,0,none⟩ (.bool s24)).setCell ⟨g9,1,none⟩ (.slice a24 l24 c24)).setCell ⟨g9,2,none⟩ (.bool r24)).setCell ⟨g9,3,none⟩ (.slice b24 m24 d24))=wd at *
 have hini:M.run a b 0 (.val X (E*E))=.val X (E*E):=rfl
 generalize hZ:E*E=Z at *
 replace hZ:=uh hZ
 replace hini:=uh hini
 go_wp2
 go_loopw [26] (fun vi wr=>∃ (k:Nat) (x z:Int) (s:Bool) (av:Option Addr) (lv cv:Nat) (r:Bool) (bv:Option Addr) (mv dv:Nat),k≤n∧vi=.int .i64 k∧Hid (M.run a b k (.val X Z)=.val x z)∧aH wr g9 120 #[.bool s,.slice av lv cv,.bool r,.slice bv mv dv]∧aF wr 0 (.slice av lv cv) (Wh.dig x.natAbs)∧aF wr 0 (.slice bv mv dv) (Wh.dig z.natAbs)∧Hid (s=decide (x<0))∧Hid (r=decide (z<0))∧Wh.sz x 1000∧Wh.sz z 1000∧aH wr w.heap.size 28 #[.int .i64 a,.int .i64 b]∧Below w.heap.size w wr) (fun vi _=>n - (intOf vi).toNat)
 case atStart=>exact ⟨0,X,Z,s24,a24,l24,c24,r24,b24,m24,d24,Nat.zero_le _,rfl,hini,R,ox.out,oz.out,hs24,hr24,zX.out,zE.out,C2,B2⟩
 case round=>
 clear R ox oz C2 B2 hini hs24 hr24 zX zE
 obtain ⟨k,x,z,s,av,lv,cv,r,bv,mv,dv,hk,rfl,hrun,R,ox,oz,hs,hr,zx,zz,C,B⟩:=hrel
 have ox:=uh ox
 have oz:=uh oz
 have zx:=uh zx
 have zz:=uh zz
 have R_c0:=R.aR.c0
 have R_c1:=R.aR.c1
 have R_c2:=R.aR.c2
 have R_c3:=R.aR.c3
 have C_c0:=C.box.c0
 have C_c1:=C.box.c1
 by_cases hlt:k<n
 ·have PG1:=uh fun v v' W i j h1 h2=>PG.out x z s r v v' W i j h1 h2 zx.out zz.out hs.out hr.out
  have PD1:=uh fun v v' W i j h1 h2=>PD.out x z s r v v' W i j h1 h2 zx.out zz.out hs.out hr.out
  have hnx:M.run a b (k+1) (.val X Z)=M.nx a b (.val x z):=by show M.nx a b (M.run a b k (.val X Z))=_;rw [hrun.out]
  unfold M.nx at hnx
  dsimp only at hnx
  clear PG PD PB hs hr
  have hrok:=fun h=>Wh.jF (Wh.ic (D:=M.ay a b) (F:=Wh.bJ a b x z) (G:=Wh.bD a b x z) h)
  have hXN:Wh.dX (M.ay a b) (Wh.bJ a b x z) (Wh.bD a b x z)=true→Wh.dbX (M.ay a b) (Wh.bJ a b x z) (Wh.bD a b x z)=Wh.dbN (M.ay a b) (Wh.bJ a b x z) (Wh.bD a b x z)∧Wh.dbZ (M.ay a b) (Wh.bJ a b x z) (Wh.bD a b x z)=Wh.dbD (M.ay a b) (Wh.bJ a b x z) (Wh.bD a b x z):=fun h=>by unfold Wh.dbX Wh.dbZ;rw [if_pos h,if_pos h];exact ⟨rfl,rfl⟩
  generalize Wh.dbX (M.ay a b) (Wh.bJ a b x z) (Wh.bD a b x z)=x' at *
  generalize Wh.dbZ (M.ay a b) (Wh.bJ a b x z) (Wh.bD a b x z)=z' at *
  generalize Wh.dbN (M.ay a b) (Wh.bJ a b x z) (Wh.bD a b x z)=nn at *
  generalize Wh.dbD (M.ay a b) (Wh.bJ a b x z) (Wh.bD a b x z)=dd at *
  generalize Wh.dX (M.ay a b) (Wh.bJ a b x z) (Wh.bD a b x z)=ok at *
  have hG0:=@Wh.eG (Wh.bD a b x z)
  generalize Wh.bD a b x z=G at *
  generalize decide (G<0)=sg at *
  by_cases hG:G=0
  ·rw [if_pos hG] at hnx
   have hfin:=uh (M.kT hnx n (by omega))
   have hl0:=hG0.2 hG
   clear hnx hG hG0 hrok hXN PD1
   generalize hlg:(Wh.dig G.natAbs).length=lg at *
   subst hl0
   replace hlg:=uh hlg
   go_wp2_with (go_at_call 135;(with_reducible refine (PG1.out _ _ _ _ _ ox.out oz.out).mono ?_);rintro e w4 ⟨v4,rfl,ho4,hb4⟩;obtain ⟨a4,c4,rfl,hm_,hv_⟩:=aF.view ho4;(clear hm_ hv_);(rw [hlg.out] at ho4 ⊢);(replace C:=C.keep hb4);(replace R:=R.keep hb4);(replace B:=B.trans (hb4.mono B.size));(replace ⟨C_c0,C_c1⟩:=C.b2);(replace ⟨R_c0,R_c1,R_c2,R_c3⟩:=R.b4))
   exact bodyPost_ret (v:=.tuple #[.int .i64 0,.bool true,.bool true]) (by simp [results,Tryz.results113,go_sem, *]) rfl (⟨by rw [hZ.out,hfin.out];rfl,B⟩)
  rw [if_neg hG] at hnx
  have hl0:¬ (Wh.dig G.natAbs).length=0:=fun h=>hG (hG0.1 h)
  have hlq:(((Wh.dig G.natAbs).length:Int) == 0)=false:=by rw [beq_eq_false_iff_ne];omega
  clear hG hG0
  cases ok with
  | false=>
   have hfin:=uh (M.kS hnx n (by omega))
   clear hnx hrok hXN
   generalize decide (x'<0)=s' at *
   generalize decide (z'<0)=r' at *
   go_wp2_with (first
    | (go_at_call 135;(with_reducible refine (PG1.out _ _ _ _ _ ox.out oz.out).mono ?_);rintro e w4 ⟨v4,rfl,ho4,hb4⟩;obtain ⟨a4,c4,rfl,hm_,hv_⟩:=aF.view ho4;(clear hm_ hv_ ho4);(generalize (Wh.dig G.natAbs).length=lg at *);(replace C:=C.keep hb4);(replace R:=R.keep hb4);(replace ox:=kO ox hb4);(replace oz:=kO oz hb4);(replace B:=B.trans (hb4.mono B.size));(replace ⟨C_c0,C_c1⟩:=C.b2);(replace ⟨R_c0,R_c1,R_c2,R_c3,R_f0,R_f1,R_f2,R_f3⟩:=R.b4f))
    | (go_at_call 136;(with_reducible refine (PD1.out _ _ _ _ _ ox.out oz.out).mono ?_);rintro e w5 ⟨v5,u5,rfl,ho5,hp5,hb5⟩;(replace C:=C.keep hb5);(replace R:=R.keep hb5);(replace ox:=kO ox hb5);(replace oz:=kO oz hb5);(replace B:=B.trans (hb5.mono B.size));obtain ⟨a5,c5,rfl,hm_,hv_⟩:=aF.view ho5;(clear hm_ hv_);obtain ⟨b5,d5,rfl,hm_,hv_⟩:=aF.view hp5;(clear hm_ hv_);(have on:=uh (show aF _ _ _ _ from ho5));(have om:=uh (show aF _ _ _ _ from hp5));(clear ho5 hp5);(generalize (Wh.dig x'.natAbs).length=l5 at *);(generalize (Wh.dig z'.natAbs).length=m5 at *);(have N:=aH.new w5 #[.bool s',.slice a5 l5 c5,.bool r',.slice b5 m5 d5] 120);(have b_:=bA w5 (.cells #[.bool s',.slice a5 l5 c5,.bool r',.slice b5 m5 d5] 120));(replace C:=C.keep b_);(replace R:=R.keep b_);(replace ox:=kO ox b_);(replace oz:=kO oz b_);(replace on:=kO on b_);(replace om:=kO om b_);(replace B:=B.trans (b_.mono B.size));(clear b_);(replace ⟨C_c0,C_c1⟩:=C.b2);(replace ⟨R_c0,R_c1,R_c2,R_c3,R_f0,R_f1,R_f2,R_f3⟩:=R.b4f);(replace ⟨N_c0,N_c1,N_c2,N_c3⟩:=N.b4)))
   exact bodyPost_ret (v:=.tuple #[.int .i64 0,.bool false,.bool false]) (by simp [results,Tryz.results113,go_sem, *]) rfl (⟨by rw [hZ.out,hfin.out];rfl,B⟩)
  | true=>
  rw [if_pos rfl] at hnx
  obtain ⟨hxn,hzn⟩:=hXN rfl
  obtain ⟨zn,zd⟩:=hrok rfl
  subst hxn hzn
  clear hXN hrok
  have zn:=uh zn
  have zd:=uh zd
  have hnx:=uh hnx
  generalize hs5:decide (x'<0)=s' at *
  generalize hr5:decide (z'<0)=r' at *
  replace hs5:=uh hs5.symm
  replace hr5:=uh hr5.symm
  clear hrun zx zz
  go_wp2_with (first
   | (go_at_call 135;(with_reducible refine (PG1.out _ _ _ _ _ ox.out oz.out).mono ?_);rintro e w4 ⟨v4,rfl,ho4,hb4⟩;obtain ⟨a4,c4,rfl,hm_,hv_⟩:=aF.view ho4;(clear hm_ hv_ ho4);(generalize (Wh.dig G.natAbs).length=lg at *);(replace C:=C.keep hb4);(replace R:=R.keep hb4);(replace ox:=kO ox hb4);(replace oz:=kO oz hb4);(replace B:=B.trans (hb4.mono B.size));(replace ⟨C_c0,C_c1⟩:=C.b2);(replace ⟨R_c0,R_c1,R_c2,R_c3,R_f0,R_f1,R_f2,R_f3⟩:=R.b4f))
   | (go_at_call 136;(with_reducible refine (PD1.out _ _ _ _ _ ox.out oz.out).mono ?_);rintro e w5 ⟨v5,u5,rfl,ho5,hp5,hb5⟩;(replace C:=C.keep hb5);(replace R:=R.keep hb5);(replace ox:=kO ox hb5);(replace oz:=kO oz hb5);(replace B:=B.trans (hb5.mono B.size));obtain ⟨a5,c5,rfl,hm_,hv_⟩:=aF.view ho5;(clear hm_ hv_);obtain ⟨b5,d5,rfl,hm_,hv_⟩:=aF.view hp5;(clear hm_ hv_);(have on:=uh (show aF _ _ _ _ from ho5));(have om:=uh (show aF _ _ _ _ from hp5));(clear ho5 hp5);(generalize (Wh.dig x'.natAbs).length=l5 at *);(generalize (Wh.dig z'.natAbs).length=m5 at *);(have N:=aH.new w5 #[.bool s',.slice a5 l5 c5,.bool r',.slice b5 m5 d5] 120);(have b_:=bA w5 (.cells #[.bool s',.slice a5 l5 c5,.bool r',.slice b5 m5 d5] 120));(replace C:=C.keep b_);(replace R:=R.keep b_);(replace ox:=kO ox b_);(replace oz:=kO oz b_);(replace on:=kO on b_);(replace om:=kO om b_);(replace B:=B.trans (b_.mono B.size));(clear b_);(replace ⟨C_c0,C_c1⟩:=C.b2);(replace ⟨R_c0,R_c1,R_c2,R_c3,R_f0,R_f1,R_f2,R_f3⟩:=R.b4f);(replace ⟨N_c0,N_c1,N_c2,N_c3⟩:=N.b4)))
  go_roundw
  case rel=>exact ⟨k+1,_,_,s',a5,l5,c5,r',b5,m5,d5,by omega,by go_num,hnx,aH.pS R (.bool s') (.slice a5 l5 c5) (.bool r') (.slice b5 m5 d5),aF.base (aF.dB on.out R (by decide) (.bool s') (.slice a5 l5 c5) (.bool r') (.slice b5 m5 d5)) (Nat.zero_le _),aF.base (aF.dB om.out R (by decide) (.bool s') (.slice a5 l5 c5) (.bool r') (.slice b5 m5 d5)) (Nat.zero_le _),hs5,hr5,zn.out,zd.out,(((C.other (show w.heap.size≠g9 by omega) _).other (show w.heap.size≠g9 by omega) _).other (show w.heap.size≠g9 by omega) _).other (show w.heap.size≠g9 by omega) _,uj (uj (uj (uj B (by simp <;> omega) _) (by simp <;> omega) _) (by simp <;> omega) _) (by simp <;> omega) _⟩
  case measure=>simp [intOf] <;> omega
 obtain rfl:k=n:=by omega
 have P1:=uh fun v W i h=>PB.out x s v W i h zx.out hs.out
 have P2:=uh fun v W i h=>PB.out z r v W i h zz.out hr.out
 have hfin:=uh (show M.eF (M.run a b k (.val X Z))=max ((Wh.bl x.natAbs:Nat):Int) ((Wh.bl z.natAbs:Nat):Int)∧M.isInf (M.run a b k (.val X Z))=false∧M.isOk (M.run a b k (.val X Z))=true by rw [hrun.out];exact ⟨rfl,rfl,rfl⟩)
 have hm1:(Wh.bl x.natAbs:Int)≤14000:=by have:=Wh.jK zx.out;omega
 have hm2:(Wh.bl z.natAbs:Int)≤14000:=by have:=Wh.jK zz.out;omega
 generalize Wh.bl x.natAbs=k1 at *
 generalize Wh.bl z.natAbs=k2 at *
 have hmax:=uh (show (if (k1:Int)<k2 then (k2:Int) else k1)=max (k1:Int) k2 by split <;> omega)
 clear PG PD PB hs hr zx zz hrun
 go_upto_region 13 with fail
 refine Rg.bF 10 [.is (.pointer (some ⟨g9,0,none⟩)),.is (.agg #[.bool s,.slice av lv cv]),.is (.int .i64 (k1:Nat)),.is (.pointer (some ⟨g9,2,none⟩)),.is (.agg #[.bool r,.slice bv mv dv]),.is (.int .i64 (k2:Nat)),.is (.int .i64 (max (k1:Int) k2)),.is (.int .i64 (max (k1:Int) k2)),.is (.bool false),.is (.bool true)] (by kernel_rfl) (by kernel_rfl) (by kernel_rfl) ⟨?_,?_,?_,?_,?_,?_,?_,?_,?_,?_,trivial⟩ ?_
 ·intro _ ac_ w_ hB hr
  have e9:ac_.tmps[9]?=some (.pointer (some ⟨g9,0,none⟩)):=hr 9 (by decide)
  exact Rg.aG rfl (by go_simp)
 ·intro _ ac_ w_ hB hr
  have e44:=Rg.ev1 (hr 44 (by decide))
  have k0:=aE hB R.aR.c0
  have k1:=aE hB R.aR.c1
  exact Rg.aG rfl (by go_simp)
 ·intro _ ac_ w_ hB hr
  have e45:=Rg.ev1 (hr 45 (by decide))
  have ef:=Rg.ef ac_
  exact Rg.bK rfl (by go_simp) (P1.out _ _ _ (aF.below ox.out hB))
 ·intro _ ac_ w_ hB hr
  have e9:ac_.tmps[9]?=some (.pointer (some ⟨g9,0,none⟩)):=hr 9 (by decide)
  exact Rg.aG rfl (by go_simp)
 ·intro _ ac_ w_ hB hr
  have e47:=Rg.ev1 (hr 47 (by decide))
  have k2:=aE hB R.aR.c2
  have k3:=aE hB R.aR.c3
  exact Rg.aG rfl (by go_simp)
 ·intro _ ac_ w_ hB hr
  have e48:=Rg.ev1 (hr 48 (by decide))
  have ef:=Rg.ef ac_
  exact Rg.bK rfl (by go_simp) (P2.out _ _ _ (aF.below oz.out hB))
 ·intro _ ac_ w_ hB hr
  have e46:=Rg.ev1 (hr 46 (by decide))
  have e49:=Rg.ev1 (hr 49 (by decide))
  exact Rg.aG rfl (by go_simp;first | done | (rw [hmax.out];done) | (simp only [hmax.out];done))
 ·intro _ ac_ w_ hB hr
  have e50:=Rg.ev1 (hr 50 (by decide))
  exact Rg.aG rfl (by go_simp)
 ·intro _ ac_ w_ hB hr
  have ec:=Rg.ec ac_
  exact Rg.aG rfl (by go_simp)
 ·intro _ ac_ w_ hB hr
  have ec:=Rg.ec ac_
  exact Rg.aG rfl (by go_simp)
 intro vals wy hB9 hv hne
 have v_7:vals 7=.int .i64 (max (k1:Int) k2):=hv 7 (by decide)
 have v_8:vals 8=.bool false:=hv 8 (by decide)
 have v_9:vals 9=.bool true:=hv 9 (by decide)
 simp only [Rg.am,Rg.fill,Act.put,Nat.reduceAdd]
 clear hv
 simp only [v_7,v_8,v_9]
 clear v_7 v_8 v_9
 unfold Rg.aV
 go_wp2
 exact bodyPost_ret (v:=.tuple #[.int .i64 (max (k1:Int) k2),.bool false,.bool true]) (by simp [results,Tryz.results113,go_sem, *]) rfl (⟨by rw [hZ.out,hfin.out.1,hfin.out.2.1,hfin.out.2.2],B.trans (hB9.mono B.size)⟩)
end
end Go.Proofs.YtgfkcoablfjbcaaGreatDoor
