/-
  Joined texts: contracts and plain lemmas.
-/
import Derived.Test.YtkalaljcbmkbmaaGreatB1
import Derived.Test.YtkalaljcbmkbmaaGreatB6
set_option linter.unusedSimpArgs false
set_option linter.unusedVariables false
set_option maxRecDepth 100000
set_option maxHeartbeats 8000000
namespace Go.Proofs.YtkalaljcbmkbmaaGreat
section
open Go.RowKit
namespace M
def hM (a b:Int):Int:=max (1+2*a+8*b+a*a) (4*(1+a+b))
def hK (a b d:Int):Int:=max (15+21*a+27*b) (4*d+5*a*a*b+4*a*(3*a*a*a+22*b*b)+12*b*(a*a*a+8*b*b)+(a*(5*a*a*a+32*b*b)+2*b*(13*a*a*a+96*b*b)+3*a*a*(a*a*a+8*b*b)))
def hC (a b:Int):Nat:=Wh.bl (max (hM a.natAbs b.natAbs) (hK a.natAbs b.natAbs (M.aS a b).natAbs)).toNat
theorem DK {x y m n k:Int} (hx:0<=x/\x<=m) (hy:0<=y/\y<=n) (hk:m*n<=k):0<=x*y/\x*y<=k:=
 ⟨Int.mul_nonneg hx.1 hy.1,Int.le_trans (Int.mul_le_mul hx.2 hy.2 hy.1 (Int.le_trans hx.1 hx.2)) hk⟩
end M
theorem jO (a0 b0:Int) (w:World) (hin:M.aw a0 b0=true) :
  Calls Tryz.prog 170 #[.agg #[a0,b0]] w fun e w'=>e=.returned (.tuple #[M.hM a0.natAbs b0.natAbs,M.hK a0.natAbs b0.natAbs (M.aS a0 b0).natAbs])/\Below w.heap.size w w':=by
 obtain ⟨x1,x2,y1,y2⟩:=M.ag hin;have hdb:=ew hin
 have PC:=fun W=>nY a0 b0 W hin
 clear hin;generalize M.aS a0 b0=D at *
 obtain ⟨a,ha⟩:∃ a:Int,Hid (a=a0.natAbs):=⟨_,DB rfl⟩
 obtain ⟨b,hb⟩:∃ b:Int,Hid (b=b0.natAbs):=⟨_,DB rfl⟩
 obtain ⟨d,hd⟩:∃ d:Int,Hid (d=D.natAbs):=⟨_,DB rfl⟩
 rw [←ha.out,←hb.out,←hd.out]
 have a1:0<=a/\a<=1000:=by have:=ha.out;omega
 have b1:0<=b/\b<=10000:=by have:=hb.out;omega
 have d1:0<=d/\d<=6700000000:=by have:=hd.out;omega
 obtain ⟨a1,a2⟩:=a1;obtain ⟨b1,b2⟩:=b1;obtain ⟨d1,d2⟩:=d1;have bd1:0<=2*a/\2*a<=2000:=M.DK (show (0:Int)<=2/\(2:Int)<=2 from ⟨by omega,by omega⟩) (show 0<=a/\a<=1000 from ⟨by omega,by omega⟩) (by omega);have MF:0<=8*b/\8*b<=80000:=M.DK (show (0:Int)<=8/\(8:Int)<=8 from ⟨by omega,by omega⟩) (show 0<=b/\b<=10000 from ⟨by omega,by omega⟩) (by omega);have Kb:0<=a*a/\a*a<=1000000:=M.DK (show 0<=a/\a<=1000 from ⟨by omega,by omega⟩) (show 0<=a/\a<=1000 from ⟨by omega,by omega⟩) (by omega);have bd4:0<=4*d/\4*d<=26800000000:=M.DK (show (0:Int)<=4/\(4:Int)<=4 from ⟨by omega,by omega⟩) (show 0<=d/\d<=6700000000 from ⟨by omega,by omega⟩) (by omega);have Kk:0<=4*a/\4*a<=4000:=M.DK (show (0:Int)<=4/\(4:Int)<=4 from ⟨by omega,by omega⟩) (show 0<=a/\a<=1000 from ⟨by omega,by omega⟩) (by omega);have Kq:0<=4*a*a/\4*a*a<=4000000:=M.DK Kk (show 0<=a/\a<=1000 from ⟨by omega,by omega⟩) (by omega);have bd7:0<=4*a*a*b/\4*a*a*b<=40000000000:=M.DK Kq (show 0<=b/\b<=10000 from ⟨by omega,by omega⟩) (by omega);have MG:0<=3*a/\3*a<=3000:=M.DK (show (0:Int)<=3/\(3:Int)<=3 from ⟨by omega,by omega⟩) (show 0<=a/\a<=1000 from ⟨by omega,by omega⟩) (by omega);have Kr:0<=3*a*a/\3*a*a<=3000000:=M.DK MG (show 0<=a/\a<=1000 from ⟨by omega,by omega⟩) (by omega);have Hp:0<=3*a*a*a/\3*a*a*a<=3000000000:=M.DK Kr (show 0<=a/\a<=1000 from ⟨by omega,by omega⟩) (by omega);have Ir:0<=22*b/\22*b<=220000:=M.DK (show (0:Int)<=22/\(22:Int)<=22 from ⟨by omega,by omega⟩) (show 0<=b/\b<=10000 from ⟨by omega,by omega⟩) (by omega);have Is:0<=22*b*b/\22*b*b<=2200000000:=M.DK Ir (show 0<=b/\b<=10000 from ⟨by omega,by omega⟩) (by omega);have KV:0<=4*a*(3*a*a*a+22*b*b)/\4*a*(3*a*a*a+22*b*b)<=20800000000000:=M.DK Kk (show 0<=3*a*a*a+22*b*b/\3*a*a*a+22*b*b<=5200000000 from ⟨by omega,by omega⟩) (by omega);have It:0<=12*b/\12*b<=120000:=M.DK (show (0:Int)<=12/\(12:Int)<=12 from ⟨by omega,by omega⟩) (show 0<=b/\b<=10000 from ⟨by omega,by omega⟩) (by omega);have Iu:0<=a*a*a/\a*a*a<=1000000000:=M.DK Kb (show 0<=a/\a<=1000 from ⟨by omega,by omega⟩) (by omega);have KW:0<=8*b*b/\8*b*b<=800000000:=M.DK MF (show 0<=b/\b<=10000 from ⟨by omega,by omega⟩) (by omega);have KX:0<=12*b*(a*a*a+8*b*b)/\12*b*(a*a*a+8*b*b)<=216000000000000:=M.DK It (show 0<=a*a*a+8*b*b/\a*a*a+8*b*b<=1800000000 from ⟨by omega,by omega⟩) (by omega);have KY:0<=a*a*b/\a*a*b<=10000000000:=M.DK Kb (show 0<=b/\b<=10000 from ⟨by omega,by omega⟩) (by omega);have Iv:0<=5*a/\5*a<=5000:=M.DK (show (0:Int)<=5/\(5:Int)<=5 from ⟨by omega,by omega⟩) (show 0<=a/\a<=1000 from ⟨by omega,by omega⟩) (by omega);have Hq:0<=5*a*a/\5*a*a<=5000000:=M.DK Iv (show 0<=a/\a<=1000 from ⟨by omega,by omega⟩) (by omega);have KZ:0<=5*a*a*a/\5*a*a*a<=5000000000:=M.DK Hq (show 0<=a/\a<=1000 from ⟨by omega,by omega⟩) (by omega);have Iw:0<=32*b/\32*b<=320000:=M.DK (show (0:Int)<=32/\(32:Int)<=32 from ⟨by omega,by omega⟩) (show 0<=b/\b<=10000 from ⟨by omega,by omega⟩) (by omega);have Ix:0<=32*b*b/\32*b*b<=3200000000:=M.DK Iw (show 0<=b/\b<=10000 from ⟨by omega,by omega⟩) (by omega);have Iy:0<=a*(5*a*a*a+32*b*b)/\a*(5*a*a*a+32*b*b)<=8200000000000:=M.DK (show 0<=a/\a<=1000 from ⟨by omega,by omega⟩) (show 0<=5*a*a*a+32*b*b/\5*a*a*a+32*b*b<=8200000000 from ⟨by omega,by omega⟩) (by omega);have Hr:0<=2*b/\2*b<=20000:=M.DK (show (0:Int)<=2/\(2:Int)<=2 from ⟨by omega,by omega⟩) (show 0<=b/\b<=10000 from ⟨by omega,by omega⟩) (by omega);have Iz:0<=13*a/\13*a<=13000:=M.DK (show (0:Int)<=13/\(13:Int)<=13 from ⟨by omega,by omega⟩) (show 0<=a/\a<=1000 from ⟨by omega,by omega⟩) (by omega);have Hs:0<=13*a*a/\13*a*a<=13000000:=M.DK Iz (show 0<=a/\a<=1000 from ⟨by omega,by omega⟩) (by omega);have Ka:0<=13*a*a*a/\13*a*a*a<=13000000000:=M.DK Hs (show 0<=a/\a<=1000 from ⟨by omega,by omega⟩) (by omega);have I0:0<=96*b/\96*b<=960000:=M.DK (show (0:Int)<=96/\(96:Int)<=96 from ⟨by omega,by omega⟩) (show 0<=b/\b<=10000 from ⟨by omega,by omega⟩) (by omega);have Kc:0<=96*b*b/\96*b*b<=9600000000:=M.DK I0 (show 0<=b/\b<=10000 from ⟨by omega,by omega⟩) (by omega);have NY:0<=2*b*(13*a*a*a+96*b*b)/\2*b*(13*a*a*a+96*b*b)<=452000000000000:=M.DK Hr (show 0<=13*a*a*a+96*b*b/\13*a*a*a+96*b*b<=22600000000 from ⟨by omega,by omega⟩) (by omega);have Nb:0<=3*a*a*(a*a*a+8*b*b)/\3*a*a*(a*a*a+8*b*b)<=5400000000000000:=M.DK Kr (show 0<=a*a*a+8*b*b/\a*a*a+8*b*b<=1800000000 from ⟨by omega,by omega⟩) (by omega);obtain ⟨bd1_1,bd1_2⟩:=bd1;obtain ⟨bd2_1,bd2_2⟩:=MF;obtain ⟨bd3_1,bd3_2⟩:=Kb;obtain ⟨bd4_1,bd4_2⟩:=bd4;obtain ⟨bd5_1,bd5_2⟩:=Kk;obtain ⟨bd6_1,bd6_2⟩:=Kq;obtain ⟨bd7_1,bd7_2⟩:=bd7;obtain ⟨bd8_1,bd8_2⟩:=MG;obtain ⟨bd9_1,bd9_2⟩:=Kr;obtain ⟨Mq,Mr⟩:=Hp;obtain ⟨Ms,Mt⟩:=Ir;obtain ⟨Mu,Mv⟩:=Is;obtain ⟨Mw,Mx⟩:=KV;obtain ⟨My,Mz⟩:=It;obtain ⟨M2,M3⟩:=Iu;obtain ⟨M4,M5⟩:=KW;obtain ⟨M6,M7⟩:=KX;obtain ⟨M8,M9⟩:=KY;obtain ⟨NA,NB⟩:=Iv;obtain ⟨NC,ND⟩:=Hq;obtain ⟨NE,NF⟩:=KZ;obtain ⟨NG,NH⟩:=Iw;obtain ⟨NI,NJ⟩:=Ix;obtain ⟨NK,NL⟩:=Iy;obtain ⟨NM,NN⟩:=Hr;obtain ⟨NO,NP⟩:=Iz;obtain ⟨NQ,NR⟩:=Hs;obtain ⟨NS,NT⟩:=Ka;obtain ⟨NU,NV⟩:=I0;obtain ⟨NW,NX⟩:=Kc;obtain ⟨NZ,Na⟩:=NY;obtain ⟨Nc,Nd⟩:=Nb;have hM:Hid (M.hM a b=max (1+2*a+8*b+a*a) (4*(1+a+b))):=DB rfl;have hK:Hid (M.hK a b d=max (12+16*a+3+5*a+27*b) (4*d+4*a*a*b+4*a*(3*a*a*a+22*b*b)+12*b*(a*a*a+8*b*b)+(a*a*b+a*(5*a*a*a+32*b*b)+2*b*(13*a*a*a+96*b*b)+3*a*a*(a*a*a+8*b*b)))):=DB (by unfold M.hK;congr 1 <;> grind);have mA:=DB (show (if a0 < -a0 then -a0 else a0)=a by have:=ha.out;split <;> omega);have mB:=DB (show (if b0 < -b0 then -b0 else b0)=b by have:=hb.out;split <;> omega);have mD:=DB (show (if D < -D then -D else D)=d by have:=hd.out;split <;> omega);have nA:=DB (show max a0 (-a0)=a by have:=ha.out;omega);have nB:=DB (show max b0 (-b0)=b by have:=hb.out;omega);have nD:=DB (show max D (-D)=d by have:=hd.out;omega)
 skip
 replace PC:=DB PC;obtain ⟨wc,hw3,C,B⟩:=dD w #[a0,b0] 25;go_enter Tryz.func170,Tryz.ntmps170
 go_wp2
 go_upto_region 1 with fail
 refine Rg.bg 21 [.is (.pointer (some ⟨w.heap.size,0,none⟩)),.is a0,.is (.pointer (some ⟨w.heap.size,0,none⟩)),.is a0,.is (-a0:Int),.is a,.is (.pointer (some ⟨w.heap.size,1,none⟩)),.is b0,.is (.pointer (some ⟨w.heap.size,1,none⟩)),.is b0,.is (-b0:Int),.is b,.is (.agg #[a0,b0]),.is D,.is (.agg #[a0,b0]),.is D,.is (-D:Int),.is d,.is a,.is b,.is d] (by kernel_rfl) (by kernel_rfl) (by kernel_rfl) ⟨?_,?_,?_,?_,?_,?_,?_,?_,?_,?_,?_,?_,?_,?_,?_,?_,?_,?_,?_,?_,?_,trivial⟩ ?_
 all_goals try ((first | (refine Rg.b1 ?_;intro zZ w_ hB e) | (refine Rg.b2 ?_;intro zZ w_ hB e f));have kz:=aE hB C.box.c0;have kz:=aE hB C.box.c1;have kz:=aE hB C.box.c0;have kz:=aE hB C.box.c1;(first | (go_simp;done) | (go_simp;exact Rg.wo (by omega)) | (go_simp;first | done | (rw [mA.out];done) | (rw [nA.out];done) | (simp only [mA.out];done);done) | (go_simp;first | done | (rw [mB.out];done) | (rw [nB.out];done) | (simp only [mB.out];done);done) | (go_simp;first | done | (rw [mD.out];done) | (rw [nD.out];done) | (simp only [mD.out];done);done)))
 ·refine Rg.o1 ?_;intro zZ w_ hB e
  have ef:=Rg.ef zZ;exact Rg.bV rfl (by go_simp) (PC.out _)
 ·refine Rg.o1 ?_;intro zZ w_ hB e
  have ef:=Rg.ef zZ;exact Rg.bV rfl (by go_simp) (PC.out _)
 intro vals wz hB1 hv hne;have Lt:vals 18=.int .i64 a:=hv 18 (by decide);have Lu:vals 19=.int .i64 b:=hv 19 (by decide);have HV:vals 20=.int .i64 d:=hv 20 (by decide);simp only [Rg.bF,Rg.fill,Act.put,Nat.reduceAdd];clear hv;simp only [Lt,Lu,HV];clear Lt Lu HV;replace B:=d_ B hB1;clear hB1 C;unfold Rg.aX;go_wp2;go_ret2;exact ⟨by rw [hM.out,hK.out];first | rfl,B⟩
theorem n5 (a0 b0:Int) (w:World) (hin:M.aw a0 b0=true) :
  Calls Tryz.prog 176 #[.agg #[a0,b0]] w fun e w'=>e=.returned (.tuple #[M.hM a0.natAbs b0.natAbs,M.hK a0.natAbs b0.natAbs (M.aS a0 b0).natAbs])/\Below w.heap.size w w':=by
 obtain ⟨x1,x2,y1,y2⟩:=M.ag hin;have hdb:=ew hin
 have PC:=fun W=>mO a0 b0 W hin
 clear hin
 have PA:=fun x W (h1:-9223372036854775807<=x) (h2:x<=9223372036854775807)=>dH x W h1 h2
 have PM:=fun x y W=>d6 x y W
 generalize M.aS a0 b0=D at *
 obtain ⟨a,ha⟩:∃ a:Int,Hid (a=a0.natAbs):=⟨_,DB rfl⟩
 obtain ⟨b,hb⟩:∃ b:Int,Hid (b=b0.natAbs):=⟨_,DB rfl⟩
 obtain ⟨d,hd⟩:∃ d:Int,Hid (d=D.natAbs):=⟨_,DB rfl⟩
 rw [←ha.out,←hb.out,←hd.out]
 have a1:0<=a/\a<=1000:=by have:=ha.out;omega
 have b1:0<=b/\b<=10000:=by have:=hb.out;omega
 have d1:0<=d/\d<=6700000000:=by have:=hd.out;omega
 obtain ⟨a1,a2⟩:=a1;obtain ⟨b1,b2⟩:=b1;obtain ⟨d1,d2⟩:=d1;have Nf:0<=2*a/\2*a<=2000:=M.DK (show (0:Int)<=2/\(2:Int)<=2 from ⟨by omega,by omega⟩) (show 0<=a/\a<=1000 from ⟨by omega,by omega⟩) (by omega);have Kd:0<=8*b/\8*b<=80000:=M.DK (show (0:Int)<=8/\(8:Int)<=8 from ⟨by omega,by omega⟩) (show 0<=b/\b<=10000 from ⟨by omega,by omega⟩) (by omega);have Ke:0<=a*a/\a*a<=1000000:=M.DK (show 0<=a/\a<=1000 from ⟨by omega,by omega⟩) (show 0<=a/\a<=1000 from ⟨by omega,by omega⟩) (by omega);have Nm:0<=4*d/\4*d<=26800000000:=M.DK (show (0:Int)<=4/\(4:Int)<=4 from ⟨by omega,by omega⟩) (show 0<=d/\d<=6700000000 from ⟨by omega,by omega⟩) (by omega);have Kf:0<=5*a/\5*a<=5000:=M.DK (show (0:Int)<=5/\(5:Int)<=5 from ⟨by omega,by omega⟩) (show 0<=a/\a<=1000 from ⟨by omega,by omega⟩) (by omega);have I1:0<=5*a*a/\5*a*a<=5000000:=M.DK Kf (show 0<=a/\a<=1000 from ⟨by omega,by omega⟩) (by omega);have Nu:0<=5*a*a*b/\5*a*a*b<=50000000000:=M.DK I1 (show 0<=b/\b<=10000 from ⟨by omega,by omega⟩) (by omega);have Kg:0<=4*a/\4*a<=4000:=M.DK (show (0:Int)<=4/\(4:Int)<=4 from ⟨by omega,by omega⟩) (show 0<=a/\a<=1000 from ⟨by omega,by omega⟩) (by omega);have Kh:0<=3*a/\3*a<=3000:=M.DK (show (0:Int)<=3/\(3:Int)<=3 from ⟨by omega,by omega⟩) (show 0<=a/\a<=1000 from ⟨by omega,by omega⟩) (by omega);have I2:0<=3*a*a/\3*a*a<=3000000:=M.DK Kh (show 0<=a/\a<=1000 from ⟨by omega,by omega⟩) (by omega);have N7:0<=3*a*a*a/\3*a*a*a<=3000000000:=M.DK I2 (show 0<=a/\a<=1000 from ⟨by omega,by omega⟩) (by omega);have Ki:0<=22*b/\22*b<=220000:=M.DK (show (0:Int)<=22/\(22:Int)<=22 from ⟨by omega,by omega⟩) (show 0<=b/\b<=10000 from ⟨by omega,by omega⟩) (by omega);have OC:0<=22*b*b/\22*b*b<=2200000000:=M.DK Ki (show 0<=b/\b<=10000 from ⟨by omega,by omega⟩) (by omega);have OG:0<=4*a*(3*a*a*a+22*b*b)/\4*a*(3*a*a*a+22*b*b)<=20800000000000:=M.DK Kg (show 0<=3*a*a*a+22*b*b/\3*a*a*a+22*b*b<=5200000000 from ⟨by omega,by omega⟩) (by omega);have Kj:0<=12*b/\12*b<=120000:=M.DK (show (0:Int)<=12/\(12:Int)<=12 from ⟨by omega,by omega⟩) (show 0<=b/\b<=10000 from ⟨by omega,by omega⟩) (by omega);have OL:0<=a*a*a/\a*a*a<=1000000000:=M.DK Ke (show 0<=a/\a<=1000 from ⟨by omega,by omega⟩) (by omega);have OO:0<=8*b*b/\8*b*b<=800000000:=M.DK Kd (show 0<=b/\b<=10000 from ⟨by omega,by omega⟩) (by omega);have OR:0<=12*b*(a*a*a+8*b*b)/\12*b*(a*a*a+8*b*b)<=216000000000000:=M.DK Kj (show 0<=a*a*a+8*b*b/\a*a*a+8*b*b<=1800000000 from ⟨by omega,by omega⟩) (by omega);have OU:0<=5*a*a*a/\5*a*a*a<=5000000000:=M.DK I1 (show 0<=a/\a<=1000 from ⟨by omega,by omega⟩) (by omega);have Kl:0<=32*b/\32*b<=320000:=M.DK (show (0:Int)<=32/\(32:Int)<=32 from ⟨by omega,by omega⟩) (show 0<=b/\b<=10000 from ⟨by omega,by omega⟩) (by omega);have OZ:0<=32*b*b/\32*b*b<=3200000000:=M.DK Kl (show 0<=b/\b<=10000 from ⟨by omega,by omega⟩) (by omega);have Oc:0<=a*(5*a*a*a+32*b*b)/\a*(5*a*a*a+32*b*b)<=8200000000000:=M.DK (show 0<=a/\a<=1000 from ⟨by omega,by omega⟩) (show 0<=5*a*a*a+32*b*b/\5*a*a*a+32*b*b<=8200000000 from ⟨by omega,by omega⟩) (by omega);have Km:0<=2*b/\2*b<=20000:=M.DK (show (0:Int)<=2/\(2:Int)<=2 from ⟨by omega,by omega⟩) (show 0<=b/\b<=10000 from ⟨by omega,by omega⟩) (by omega);have Kn:0<=13*a/\13*a<=13000:=M.DK (show (0:Int)<=13/\(13:Int)<=13 from ⟨by omega,by omega⟩) (show 0<=a/\a<=1000 from ⟨by omega,by omega⟩) (by omega);have Ko:0<=13*a*a/\13*a*a<=13000000:=M.DK Kn (show 0<=a/\a<=1000 from ⟨by omega,by omega⟩) (by omega);have Ol:0<=13*a*a*a/\13*a*a*a<=13000000000:=M.DK Ko (show 0<=a/\a<=1000 from ⟨by omega,by omega⟩) (by omega);have Kp:0<=96*b/\96*b<=960000:=M.DK (show (0:Int)<=96/\(96:Int)<=96 from ⟨by omega,by omega⟩) (show 0<=b/\b<=10000 from ⟨by omega,by omega⟩) (by omega);have Ot:0<=96*b*b/\96*b*b<=9600000000:=M.DK Kp (show 0<=b/\b<=10000 from ⟨by omega,by omega⟩) (by omega);have Ow:0<=2*b*(13*a*a*a+96*b*b)/\2*b*(13*a*a*a+96*b*b)<=452000000000000:=M.DK Km (show 0<=13*a*a*a+96*b*b/\13*a*a*a+96*b*b<=22600000000 from ⟨by omega,by omega⟩) (by omega);have Oz:0<=3*a*a*(a*a*a+8*b*b)/\3*a*a*(a*a*a+8*b*b)<=5400000000000000:=M.DK I2 (show 0<=a*a*a+8*b*b/\a*a*a+8*b*b<=1800000000 from ⟨by omega,by omega⟩) (by omega);obtain ⟨Ng,Nh⟩:=Nf;obtain ⟨Ni,Nj⟩:=Kd;obtain ⟨Nk,Nl⟩:=Ke;obtain ⟨Nn,Np⟩:=Nm;obtain ⟨Nq,Nr⟩:=Kf;obtain ⟨Ns,Nt⟩:=I1;obtain ⟨Nv,Nw⟩:=Nu;obtain ⟨Nx,Ny⟩:=Kg;obtain ⟨Nz,N4⟩:=Kh;obtain ⟨N5,N6⟩:=I2;obtain ⟨N8,N9⟩:=N7;obtain ⟨OA,OB⟩:=Ki;obtain ⟨OD,OE⟩:=OC;obtain ⟨OH,OI⟩:=OG;obtain ⟨OJ,OK⟩:=Kj;obtain ⟨OM,ON⟩:=OL;obtain ⟨OP,OQ⟩:=OO;obtain ⟨OS,OT⟩:=OR;obtain ⟨OV,OW⟩:=OU;obtain ⟨OX,OY⟩:=Kl;obtain ⟨Oa,Ob⟩:=OZ;obtain ⟨Od,Oe⟩:=Oc;obtain ⟨Of,Og⟩:=Km;obtain ⟨Oh,Oi⟩:=Kn;obtain ⟨Oj,Ok⟩:=Ko;obtain ⟨Om,Oo⟩:=Ol;obtain ⟨Op,Oq⟩:=Kp;obtain ⟨Ou,Ov⟩:=Ot;obtain ⟨Ox,Oy⟩:=Ow;obtain ⟨O0,O1⟩:=Oz;have hM:Hid (M.hM a b=max (1+2*a+8*b+a*a) (4*(1+a+b))):=DB rfl;have hK:Hid (M.hK a b d=max (15+21*a+27*b) (4*d+5*a*a*b+4*a*(3*a*a*a+22*b*b)+12*b*(a*a*a+8*b*b)+(a*(5*a*a*a+32*b*b)+2*b*(13*a*a*a+96*b*b)+3*a*a*(a*a*a+8*b*b)))):=DB rfl
 skip
 replace PC:=DB PC;replace PA:=DB PA;replace PM:=DB PM;obtain ⟨wc,hw3,C,B⟩:=dD w #[a0,b0] 25;go_enter Tryz.func176,Tryz.ntmps176
 go_wp2
 go_upto_region 1 with fail
 refine Rg.bg 12 [.is (.pointer (some ⟨w.heap.size,0,none⟩)),.is a0,.is a,.is (.pointer (some ⟨w.heap.size,1,none⟩)),.is b0,.is b,.is (.agg #[a0,b0]),.is D,.is d,.is a,.is b,.is d] (by kernel_rfl) (by kernel_rfl) (by kernel_rfl) ⟨?_,?_,?_,?_,?_,?_,?_,?_,?_,?_,?_,?_,trivial⟩ ?_
 all_goals try ((refine Rg.b1 ?_;intro zZ w_ hB e);have kz:=aE hB C.box.c0;have kz:=aE hB C.box.c1;have kz:=aE hB C.box.c0;have kz:=aE hB C.box.c1;(go_simp;done))
 ·refine Rg.o1 ?_;intro zZ w_ hB e
  have ef:=Rg.ef zZ;refine Rg.ah rfl (by go_simp;exact ⟨rfl,rfl⟩) ?_;refine (PA.out a0 _ (by omega) (by omega)).mono ?_;rintro e w5 ⟨rfl,rfl⟩;exact ⟨_,rfl,(by rw [ha.out];rfl),DE _ _⟩
 ·refine Rg.o1 ?_;intro zZ w_ hB e
  have ef:=Rg.ef zZ;refine Rg.ah rfl (by go_simp;exact ⟨rfl,rfl⟩) ?_;refine (PA.out b0 _ (by omega) (by omega)).mono ?_;rintro e w5 ⟨rfl,rfl⟩;exact ⟨_,rfl,(by rw [hb.out];rfl),DE _ _⟩
 ·refine Rg.o1 ?_;intro zZ w_ hB e
  have ef:=Rg.ef zZ;exact Rg.bV rfl (by go_simp) (PC.out _)
 ·refine Rg.o1 ?_;intro zZ w_ hB e
  have ef:=Rg.ef zZ;refine Rg.ah rfl (by go_simp;exact ⟨rfl,rfl⟩) ?_;refine (PA.out D _ (by omega) (by omega)).mono ?_;rintro e w5 ⟨rfl,rfl⟩;exact ⟨_,rfl,(by rw [hd.out];rfl),DE _ _⟩
 intro vals wz hB1 hv hne;have EM:vals 9=.int .i64 a:=hv 9 (by decide);have Dj:vals 10=.int .i64 b:=hv 10 (by decide);have Ff:vals 11=.int .i64 d:=hv 11 (by decide);simp only [Rg.bF,Rg.fill,Act.put,Nat.reduceAdd];clear hv;simp only [EM,Dj,Ff];clear EM Dj Ff;replace B:=d_ B hB1;clear hB1 C;unfold Rg.aX
 go_wp2_with (go_at_call 94;(with_reducible refine (PM.out _ _ _).mono ?_);rintro e w6 ⟨rfl,rfl⟩)
 go_ret2;exact ⟨by rw [hM.out,hK.out];first | rfl,B⟩
theorem M.rJ {a0 b0:Int} (hin:M.aw a0 b0=true):0<=max (M.hM a0.natAbs b0.natAbs) (M.hK a0.natAbs b0.natAbs (M.aS a0 b0).natAbs)/\max (M.hM a0.natAbs b0.natAbs) (M.hK a0.natAbs b0.natAbs (M.aS a0 b0).natAbs)<=100000000000000000:=by
 obtain ⟨x1,x2,y1,y2⟩:=M.ag hin;have hdb:=ew hin
 obtain ⟨a,ha⟩:∃ a:Int,(a=a0.natAbs):=⟨_,rfl⟩
 obtain ⟨b,hb⟩:∃ b:Int,(b=b0.natAbs):=⟨_,rfl⟩
 obtain ⟨d,hd⟩:∃ d:Int,(d=(M.aS a0 b0).natAbs):=⟨_,rfl⟩
 rw [←ha,←hb,←hd]
 have a1:0<=a/\a<=1000:=by omega
 have b1:0<=b/\b<=10000:=by omega
 have d1:0<=d/\d<=6700000000:=by omega
 clear ha hb hd hdb x1 x2 y1 y2 hin;have bd1:0<=2*a/\2*a<=2000:=M.DK (show (0:Int)<=2/\(2:Int)<=2 from ⟨by omega,by omega⟩) (show 0<=a/\a<=1000 from ⟨by omega,by omega⟩) (by omega);have MF:0<=8*b/\8*b<=80000:=M.DK (show (0:Int)<=8/\(8:Int)<=8 from ⟨by omega,by omega⟩) (show 0<=b/\b<=10000 from ⟨by omega,by omega⟩) (by omega);have Kb:0<=a*a/\a*a<=1000000:=M.DK (show 0<=a/\a<=1000 from ⟨by omega,by omega⟩) (show 0<=a/\a<=1000 from ⟨by omega,by omega⟩) (by omega);have bd4:0<=4*d/\4*d<=26800000000:=M.DK (show (0:Int)<=4/\(4:Int)<=4 from ⟨by omega,by omega⟩) (show 0<=d/\d<=6700000000 from ⟨by omega,by omega⟩) (by omega);have Kk:0<=5*a/\5*a<=5000:=M.DK (show (0:Int)<=5/\(5:Int)<=5 from ⟨by omega,by omega⟩) (show 0<=a/\a<=1000 from ⟨by omega,by omega⟩) (by omega);have Kq:0<=5*a*a/\5*a*a<=5000000:=M.DK Kk (show 0<=a/\a<=1000 from ⟨by omega,by omega⟩) (by omega);have bd7:0<=5*a*a*b/\5*a*a*b<=50000000000:=M.DK Kq (show 0<=b/\b<=10000 from ⟨by omega,by omega⟩) (by omega);have MG:0<=4*a/\4*a<=4000:=M.DK (show (0:Int)<=4/\(4:Int)<=4 from ⟨by omega,by omega⟩) (show 0<=a/\a<=1000 from ⟨by omega,by omega⟩) (by omega);have Kr:0<=3*a/\3*a<=3000:=M.DK (show (0:Int)<=3/\(3:Int)<=3 from ⟨by omega,by omega⟩) (show 0<=a/\a<=1000 from ⟨by omega,by omega⟩) (by omega);have Hp:0<=3*a*a/\3*a*a<=3000000:=M.DK Kr (show 0<=a/\a<=1000 from ⟨by omega,by omega⟩) (by omega);have Ir:0<=3*a*a*a/\3*a*a*a<=3000000000:=M.DK Hp (show 0<=a/\a<=1000 from ⟨by omega,by omega⟩) (by omega);have Is:0<=22*b/\22*b<=220000:=M.DK (show (0:Int)<=22/\(22:Int)<=22 from ⟨by omega,by omega⟩) (show 0<=b/\b<=10000 from ⟨by omega,by omega⟩) (by omega);have KV:0<=22*b*b/\22*b*b<=2200000000:=M.DK Is (show 0<=b/\b<=10000 from ⟨by omega,by omega⟩) (by omega);have It:0<=4*a*(3*a*a*a+22*b*b)/\4*a*(3*a*a*a+22*b*b)<=20800000000000:=M.DK MG (show 0<=3*a*a*a+22*b*b/\3*a*a*a+22*b*b<=5200000000 from ⟨by omega,by omega⟩) (by omega);have Iu:0<=12*b/\12*b<=120000:=M.DK (show (0:Int)<=12/\(12:Int)<=12 from ⟨by omega,by omega⟩) (show 0<=b/\b<=10000 from ⟨by omega,by omega⟩) (by omega);have KW:0<=a*a*a/\a*a*a<=1000000000:=M.DK Kb (show 0<=a/\a<=1000 from ⟨by omega,by omega⟩) (by omega);have KX:0<=8*b*b/\8*b*b<=800000000:=M.DK MF (show 0<=b/\b<=10000 from ⟨by omega,by omega⟩) (by omega);have KY:0<=12*b*(a*a*a+8*b*b)/\12*b*(a*a*a+8*b*b)<=216000000000000:=M.DK Iu (show 0<=a*a*a+8*b*b/\a*a*a+8*b*b<=1800000000 from ⟨by omega,by omega⟩) (by omega);have Iv:0<=5*a*a*a/\5*a*a*a<=5000000000:=M.DK Kq (show 0<=a/\a<=1000 from ⟨by omega,by omega⟩) (by omega);have Hq:0<=32*b/\32*b<=320000:=M.DK (show (0:Int)<=32/\(32:Int)<=32 from ⟨by omega,by omega⟩) (show 0<=b/\b<=10000 from ⟨by omega,by omega⟩) (by omega);have KZ:0<=32*b*b/\32*b*b<=3200000000:=M.DK Hq (show 0<=b/\b<=10000 from ⟨by omega,by omega⟩) (by omega);have Iw:0<=a*(5*a*a*a+32*b*b)/\a*(5*a*a*a+32*b*b)<=8200000000000:=M.DK (show 0<=a/\a<=1000 from ⟨by omega,by omega⟩) (show 0<=5*a*a*a+32*b*b/\5*a*a*a+32*b*b<=8200000000 from ⟨by omega,by omega⟩) (by omega);have Ix:0<=2*b/\2*b<=20000:=M.DK (show (0:Int)<=2/\(2:Int)<=2 from ⟨by omega,by omega⟩) (show 0<=b/\b<=10000 from ⟨by omega,by omega⟩) (by omega);have Iy:0<=13*a/\13*a<=13000:=M.DK (show (0:Int)<=13/\(13:Int)<=13 from ⟨by omega,by omega⟩) (show 0<=a/\a<=1000 from ⟨by omega,by omega⟩) (by omega);have Hr:0<=13*a*a/\13*a*a<=13000000:=M.DK Iy (show 0<=a/\a<=1000 from ⟨by omega,by omega⟩) (by omega);have Iz:0<=13*a*a*a/\13*a*a*a<=13000000000:=M.DK Hr (show 0<=a/\a<=1000 from ⟨by omega,by omega⟩) (by omega);have Hs:0<=96*b/\96*b<=960000:=M.DK (show (0:Int)<=96/\(96:Int)<=96 from ⟨by omega,by omega⟩) (show 0<=b/\b<=10000 from ⟨by omega,by omega⟩) (by omega);have Ka:0<=96*b*b/\96*b*b<=9600000000:=M.DK Hs (show 0<=b/\b<=10000 from ⟨by omega,by omega⟩) (by omega);have I0:0<=2*b*(13*a*a*a+96*b*b)/\2*b*(13*a*a*a+96*b*b)<=452000000000000:=M.DK Ix (show 0<=13*a*a*a+96*b*b/\13*a*a*a+96*b*b<=22600000000 from ⟨by omega,by omega⟩) (by omega);have Kc:0<=3*a*a*(a*a*a+8*b*b)/\3*a*a*(a*a*a+8*b*b)<=5400000000000000:=M.DK Hp (show 0<=a*a*a+8*b*b/\a*a*a+8*b*b<=1800000000 from ⟨by omega,by omega⟩) (by omega);unfold M.hM M.hK;omega
theorem M.mQ {a0 b0:Int} (hin:M.aw a0 b0=true):M.hC a0 b0<=60:=by
 have h:=M.rJ hin;unfold M.hC Wh.bl;generalize max (M.hM a0.natAbs b0.natAbs) (M.hK a0.natAbs b0.natAbs (M.aS a0 b0).natAbs)=X at *
 split
 ·omega
 rename_i h0
 have:=(Nat.log2_lt h0 (k:=59)).2 (by
                      have:(2:Nat) ^ 59=576460752303423488:=by decide
                      omega)
 omega
theorem iT (a0 b0:Int) (w:World) (hin:M.aw a0 b0=true) :
  Calls Tryz.prog 160 #[.agg #[a0,b0]] w fun e w'=>e=.returned (.int .i64 (M.hC a0 b0:Nat))/\Below w.heap.size w w':=by
 have hbd:=M.rJ hin
 have PD:=fun W=>jO a0 b0 W hin
 have hc:Hid (M.hC a0 b0=Wh.bl (max (M.hM a0.natAbs b0.natAbs) (M.hK a0.natAbs b0.natAbs (M.aS a0 b0).natAbs)).toNat):=DB rfl;generalize M.hK a0.natAbs b0.natAbs (M.aS a0 b0).natAbs=k,M.hM a0.natAbs b0.natAbs=m at *
 have hx:max m k=if m<k then k else m:=by split <;> omega
 have PL:=fun W=>Tryz.bits_Len (max m k) W (by omega) (by omega)
 rw [Wh.vO _ (by omega)] at PL;obtain ⟨x1,x2⟩:=hbd;replace PD:=DB PD;replace PL:=DB PL;replace hx:=DB hx;have B:=(DE w.heap.size w).alloc (DF _) (.cells #[a0,b0] 25);go_enter Tryz.func160,Tryz.ntmps160
 go_wp2_with (first
  | (go_at_call 170;(with_reducible refine (PD.out _).mono ?_);rintro e w4 ⟨rfl,hb4⟩;replace B:=d_ B hb4)
  | (go_at_call 171;(refine (PL.out _).mono ?_);rintro e w6 ⟨rfl,rfl⟩))
 go_ret;exact ⟨by rw [hc.out];rfl,B⟩
theorem ny (a0 b0:Int) (w:World) (hin:M.aw a0 b0=true) :
  Calls Tryz.prog 164 #[.agg #[a0,b0]] w fun e w'=>e=.returned (.int .i64 (M.hC a0 b0:Nat))/\Below w.heap.size w w':=by
 have hbd:=M.rJ hin;have hcb:=M.mQ hin
 have PD:=fun W=>n5 a0 b0 W hin
 have hc:Hid (M.hC a0 b0=Wh.bl (max (M.hM a0.natAbs b0.natAbs) (M.hK a0.natAbs b0.natAbs (M.aS a0 b0).natAbs)).toNat):=DB rfl;rw [hc.out] at hcb;generalize M.hK a0.natAbs b0.natAbs (M.aS a0 b0).natAbs=k,M.hM a0.natAbs b0.natAbs=m at *
 have PM:=fun W=>d6 m k W
 generalize max m k=X at *;obtain ⟨x1,x2⟩:=hbd
 have hxn:X.natAbs=X.toNat:=by omega
 have PO:=fun W=>kk X W (by omega) (by omega)
 have PB:=fun v W k (h:aF W k v (Wh.a_ X.natAbs))=>kj X v W k h (Nat.le_trans (Wh.dL (k:=5) (by omega)) (by decide)) (by rw [hxn];omega)
 replace hxn:=DB hxn;generalize decide (X<0)=sX at *;replace PD:=DB PD;replace PM:=DB PM;replace PO:=DB PO;replace PB:=DB PB;clear hcb;have B:=(DE w.heap.size w).alloc (DF _) (.cells #[a0,b0] 25);go_enter Tryz.func164,Tryz.ntmps164
 go_wp2_with (first
  | (go_at_call 176;(with_reducible refine (PD.out _).mono ?_);rintro e w4 ⟨rfl,hb4⟩;replace B:=d_ B hb4)
  | (go_at_call 94;(with_reducible refine (PM.out _).mono ?_);rintro e w5 ⟨rfl,rfl⟩)
  | (go_at_call 177;(with_reducible refine (PO.out _).mono ?_);rintro e w6 ⟨v6,rfl,IY,hb6⟩;have Fk:=(show aF _ _ _ _ from IY);replace B:=d_ B hb6)
  | (go_at_call 175;(with_reducible refine (PB.out _ _ _ Fk).mono ?_);rintro e w8 ⟨rfl,DN⟩;replace B:=d_ B DN))
 go_ret;exact ⟨by rw [hc.out,←hxn.out];rfl,B⟩
def M.p4 (n:Nat):Int:=3*4 ^ n
theorem M.zO (n:Nat):M.p4 (n+1)=M.p4 n*4:=by unfold M.p4;rw [Int.pow_succ];omega
theorem M.tE:∀ n:Nat,n<=5->3<=M.p4 n/\M.p4 n<=3072:=by decide
theorem tn (n:Nat) (w:World) (hn:n<=5) :
  Calls Tryz.prog 165 #[.int .i64 (n:Int)] w fun e w'=>e=.returned (.int .i64 (M.p4 n))/\w=w':=by
 go_enter Tryz.func165,Tryz.ntmps165
 go_wp2
 go_loop [0,3] (fun i o=>∃ k:Nat,k<=n/\i=.int .i64 ((n - k:Nat):Int)/\o=.int .i64 (M.p4 k)) (fun i _=>(intOf i).toNat)
 case atStart=>exact ⟨0,Nat.zero_le _,rfl,rfl⟩
 case round=>
 obtain ⟨k,hk,rfl,rfl⟩:=hrel;have hb:=M.tE k (by omega);have hs:=DB (M.zO k)
 by_cases hlt:k<n
 ·obtain ⟨j,hj⟩:∃ j:Nat,n - k=j+1:=⟨n - k - 1,by omega⟩
  have hj2:=DB (show n - (k+1)=j by omega);rw [hj]
  have hjb:(j:Int)<=4:=by omega
  clear hj;go_wp2
  go_round
  case rel=>exact ⟨k+1,by omega,(by first | (rw [hj2.out];done) | (rw [hj2.out];go_num)),by rw [hs.out]⟩
  case measure=>simp [intOf] <;> omega
 obtain rfl:n=k:=by omega
 rw [Nat.sub_self];go_wp2;go_ret;exact ⟨rfl,rfl⟩
namespace M
inductive Out where
 | inf
 | bad
 | val (x z:Int)
def nx (a b:Int):Out->Out
 | .val x z=>if Wh.af a b x z=0 then .inf else if Wh.eB (M.aS a b) (Wh.am a b x z) (Wh.af a b x z)=true then .val (Wh.GL (M.aS a b) (Wh.am a b x z) (Wh.af a b x z)) (Wh.GK (M.aS a b) (Wh.am a b x z) (Wh.af a b x z)) else .bad
 | o=>o
def run (a b:Int):Nat->Out->Out
 | 0,o=>o
 | k+1,o=>nx a b (run a b k o)
theorem ov {a b:Int} {o:Out} {k:Nat} (h:run a b k o=.inf):∀ n,k<=n->run a b n o=.inf
 | 0,hn=>by
        obtain rfl:k=0:=by omega
        exact h
 | n+1,hn=>by
  by_cases e:k=n+1
  ·exact e ▸ h
  show nx a b (run a b n o)=.inf
  rw [ov h n (by omega)];rfl
theorem ou {a b:Int} {o:Out} {k:Nat} (h:run a b k o=.bad):∀ n,k<=n->run a b n o=.bad
 | 0,hn=>by
        obtain rfl:k=0:=by omega
        exact h
 | n+1,hn=>by
  by_cases e:k=n+1
  ·exact e ▸ h
  show nx a b (run a b n o)=.bad
  rw [ou h n (by omega)];rfl
def du:Out->Int
 | .val x z=>max (Wh.bl x.natAbs:Nat) (Wh.bl z.natAbs:Nat)
 | _=>0
def isInf:Out->Bool
 | .inf=>true
 | _=>false
def isOk:Out->Bool
 | .bad=>false
 | _=>true
def aZ (a b X E:Int) (n:Nat):Out:=if E=0 then .inf else run a b n (.val X (E*E))
end M
namespace Wh
theorem pT {n k:Nat} (h:n<2 ^ k):bl n<=k:=by
 unfold bl
 split
 ·omega
 rename_i h0
 have:=(Nat.log2_lt h0 (k:=k)).2 h;omega
theorem lh {z:Int} {n:Nat} (h:sz z n):bl z.natAbs<=14*n:=by
 refine pT (Nat.lt_of_lt_of_le h ?_);rw [Nat.pow_mul];exact Nat.pow_le_pow_left (by decide) n
theorem lW {x z:Int} (h:dQ x z=true):sz x 1000/\sz z 1000:=by
 unfold dQ M.ins at h;simp only [Bool.and_eq_true,decide_eq_true_eq] at h;exact ⟨aM (aU.1 h.1.1) (by omega),aM (aU.1 (show (a_ z.natAbs).length<=80 by omega)) (by omega)⟩
theorem k8 {D F G:Int} (h:eB D F G=true):dQ (GL D F G) (GK D F G)=true:=by
 unfold eB at h;rw [Bool.and_eq_true] at h;exact h.2
end Wh
def qw (base:Nat) (x z:Int) (v:Value) (W:World):Prop:=∃ s1 s2,v=.agg #[decide (x<0),s1,decide (z<0),s2]/\aF W base s1 (Wh.a_ x.natAbs)/\aF W base s2 (Wh.a_ z.natAbs)
theorem qw.view {base:Nat} {x z:Int} {v:Value} {W:World} (h:qw base x z v W):∃ (s:Bool) (a:Option Addr) (l c:Nat),Hid (s=decide (x<0))/\∃ (r:Bool) (b:Option Addr) (m d:Nat),Hid (r=decide (z<0))/\v=.agg #[s,.slice a l c,r,.slice b m d]/\aF W base (.slice a l c) (Wh.a_ x.natAbs)/\aF W base (.slice b m d) (Wh.a_ z.natAbs):=by
 obtain ⟨s1,s2,rfl,h1,h2⟩:=h;obtain ⟨a,c,rfl,-,-⟩:=aF.view h1;obtain ⟨b,d,rfl,-,-⟩:=aF.view h2;exact ⟨_,a,_,c,DB rfl,_,b,_,d,DB rfl,rfl,h1,h2⟩
theorem qw.Mp {base k j:Nat} {x z:Int} {s1 s2:Value} {W:World} (h1:aF W k s1 (Wh.a_ x.natAbs)) (h2:aF W j s2 (Wh.a_ z.natAbs)) (hk:base<=k) (hj:base<=j):(Rg.Val.at (qw base x z)).ok (.agg #[decide (x<0),s1,decide (z<0),s2]) W:=fun _ hb=>⟨s1,s2,rfl,(aF.below h1 hb).base hk,(aF.below h2 hb).base hj⟩
theorem jy (q:Bool) (A:Option Addr) (L C:Nat) (W:World):Sem.run Tryz.prog (Instr.field 116 (.agg #[q,.slice A L C]) 1) W=.ok (.slice A L C) W:=by kernel_rfl
theorem aG.aO {W:World} {g:Nat} {T:TypeId} {u v x:Value} (h:aG W g T #[u,v,x]):W.cell? ⟨g,0,none⟩=some u/\W.cell? ⟨g,1,none⟩=some v/\W.cell? ⟨g,2,none⟩=some x:=⟨h.cell 0,h.cell 1,h.cell 2⟩
theorem vN (a b X Y E:Int) (n:Nat) (w:World) (hg:M.good a b=true) (hX1:-10000<=X) (hX2:X<=10000) (hE1:0<=E) (hE2:E<=20) (hn:n<=5) :
  Calls Tryz.prog 159 #[.agg #[a,b],.agg #[X,Y,E],.int .i64 (n:Int)] w fun e w'=>e=.returned (.tuple #[M.du (M.aZ a b X E n),M.isInf (M.aZ a b X E n),M.isOk (M.aZ a b X E n)])/\Below w.heap.size w w':=by
 have C:=(aG.new w #[a,b] 25).alloc (.cells #[X,Y,E] 40)
 have Q:=(aG.new (w.alloc (.cells #[a,b] 25)) #[X,Y,E] 40)
 rw [DC] at Q;have B:=((DE w.heap.size w).alloc (DF _) (.cells #[a,b] 25)).alloc (by rw [DC];omega) (.cells #[X,Y,E] 40)
 have Fm:w.heap.size+2<=((w.alloc (.cells #[a,b] 25)).alloc (.cells #[X,Y,E] 40)).heap.size:=by rw [DC,DC];omega
 generalize hw3:(w.alloc (.cells #[a,b] 25)).alloc (.cells #[X,Y,E] 40)=wc at *;have ⟨q0,q1,q2⟩:=Q.aO;have e_:=C.box.c0;have f_:=C.box.c1
 by_cases h0:E=0
 ·subst h0
  have hz0:M.aZ a b X 0 n=.inf:=rfl;rw [hz0];clear hz0;go_enter Tryz.func159,Tryz.ntmps159
  go_wp2;exact bodyPost_ret (v:=.tuple #[(0:Int),true,true]) (by simp [results,Tryz.results159,go_sem, *]) rfl (⟨rfl,B⟩)
 have hE:1<=E:=by omega
 have Kv:1<=E*E/\E*E<=400:=⟨by have:=Int.mul_le_mul hE hE (by omega) (by omega);omega,by have:=Int.mul_le_mul hE2 hE2 (by omega) (by omega);omega⟩
 have hE0:(E == 0)=false:=by rw [beq_eq_false_iff_ne];exact h0
 have hout:M.aZ a b X E n=M.run a b n (.val X (E*E)):=if_neg h0;rw [hout];clear hout h0;obtain ⟨e1,e2⟩:=Kv
 have P1:=DB fun W=>bX X W (by omega) (by omega)
 have P2:=DB fun W=>bX (E*E) W (by omega) (by omega)
 have zX:Wh.sz X 1000:=Wh.aM (Wh.bP (by omega) (by omega)) (by omega);have zE:Wh.sz (E*E) 1000:=Wh.aM (Wh.bP (by omega) (by omega)) (by omega);have zX:=DB zX;have zE:=DB zE
 have hb2:-10000<=b/\b<=10000:=⟨(M.ag (M.aj hg)).2.2.1,(M.ag (M.aj hg)).2.2.2⟩
 have ha2:-1000<=a/\a<=1000:=⟨(M.ag (M.aj hg)).1,(M.ag (M.aj hg)).2.1⟩
 obtain ⟨hb1,hb2⟩:=hb2;obtain ⟨ha1,ha2⟩:=ha2;have hg:=DB hg
 have PG:=DB fun (x z:Int) (s r:Bool) v v' W k k' (h1:aF W k v (Wh.a_ x.natAbs)) (h2:aF W k' v' (Wh.a_ z.natAbs)) (hx:Wh.sz x 1000) (hz:Wh.sz z 1000) (hs:s=decide (x<0)) (hr:r=decide (z<0))=>(hs ▸ hr ▸ eC a b x z v v' W k k' h1 h2 hx hz ha1 ha2 hb1 hb2:Calls Tryz.prog 167 #[.agg #[a,b],.agg #[s,v,r,v']] W fun e w'=>∃ sl,e=.returned (.agg #[decide (Wh.af a b x z<0),sl])/\ae w' W.heap.size sl (Wh.af a b x z)/\Below W.heap.size W w')
 have PD:=DB fun (x z:Int) (s r:Bool) v v' W k k' (h1:aF W k v (Wh.a_ x.natAbs)) (h2:aF W k' v' (Wh.a_ z.natAbs)) (hx:Wh.sz x 1000) (hz:Wh.sz z 1000) (hs:s=decide (x<0)) (hr:r=decide (z<0))=>(hs ▸ hr ▸ t8 a b x z v v' W k k' hg.out h1 h2 hx hz:Calls Tryz.prog 168 #[.agg #[a,b],.agg #[s,v,r,v']] W fun e w'=>∃ v1 v2,e=.returned (.tuple #[.agg #[decide (Wh.E5 (M.aS a b) (Wh.am a b x z) (Wh.af a b x z)<0),v1,decide (Wh.E6 (M.aS a b) (Wh.am a b x z) (Wh.af a b x z)<0),v2],Wh.eB (M.aS a b) (Wh.am a b x z) (Wh.af a b x z)])/\ae w' W.heap.size v1 (Wh.E5 (M.aS a b) (Wh.am a b x z) (Wh.af a b x z))/\ae w' W.heap.size v2 (Wh.E6 (M.aS a b) (Wh.am a b x z) (Wh.af a b x z))/\Below W.heap.size W w')
 have PB:=DB fun (x:Int) (s:Bool) v W k (h1:aF W k v (Wh.a_ x.natAbs)) (hx:Wh.sz x 1000) (hs:s=decide (x<0))=>(hs ▸ pS x v W k h1 (Wh.aU.2 (Wh.aM hx (by omega))) (Nat.le_trans (Wh.lh hx) (by omega)):Calls Tryz.prog 169 #[.agg #[s,v]] W fun e w'=>e=.returned (.int .i64 (Wh.bl x.natAbs:Nat))/\Below W.heap.size W w')
 clear ha1 ha2 hb1 hb2
 have Ps:=fun q A L C W=>jy q A L C W
 have i2:IntKind.i64.wrap (E*E)=E*E:=IntWalk.i64_in _ (by omega);have i2:=DB i2;go_enter Tryz.func159,Tryz.ntmps159
 go_upto_region 3 with fail
 refine Rg.bg 11 [.is (.pointer (some ⟨w.heap.size+1,0,none⟩)),.is X,.at (aI (wc.heap.size) (X)),.is (.pointer (some ⟨w.heap.size+1,2,none⟩)),.is E,.is (.pointer (some ⟨w.heap.size+1,2,none⟩)),.is E,.is (E*E:Int),.at (aI (wc.heap.size) (E*E)),.at (qw (wc.heap.size) (X) (E*E)),.new (wc.heap.size) 174 #[false,.slice none 0 0,false,.slice none 0 0]] (by kernel_rfl) (by kernel_rfl) (by kernel_rfl) ⟨?_,?_,?_,?_,?_,?_,?_,?_,?_,?_,?_,fun h_=>absurd h_ (by decide),trivial⟩ ?_
 all_goals try ((first | (refine Rg.b1 ?_;intro zZ w_ hB e) | (refine Rg.b2 ?_;intro zZ w_ hB e f));have kz:=aE hB Q.aO.1;have kz:=aE hB Q.aO.2.2;(first | (go_simp;done) | (go_simp;exact Rg.wo (by omega))))
 ·refine Rg.o1 ?_;intro zZ w_ hB e
  have ef:=Rg.ef zZ;refine Rg.ah rfl (by go_simp;exact ⟨rfl,rfl⟩) ?_;exact aI.ret hB (P1.out _)
 ·refine Rg.o1 ?_;intro zZ w_ hB e
  have ef:=Rg.ef zZ;refine Rg.ah rfl (by go_simp;exact ⟨rfl,rfl⟩) ?_;exact aI.ret hB (P2.out _)
 ·intro _ zZ w_ hB hr
  obtain ⟨HU,a17,HS,c17,HD,e17,MY⟩:=aI.get (hr 17 (by decide));obtain ⟨s23,a23,l23,c23,HF,e23,Ji⟩:=aI.get (hr 23 (by decide));obtain rfl:=HD.out;obtain rfl:=HF.out;exact Rg.Bl rfl (by first | (go_simp;done) | (go_simp;rfl)) (qw.Mp MY Ji (DF _) (DF _))
 ·intro _ zZ w_ hB hr
  exact ⟨by have:=hB.size;omega,rfl,by first | (go_simp;done) | (go_simp;rfl)⟩
 intro vals wz hB hv hne;have n9:(Rg.Val.new (wc.heap.size) 174 #[false,.slice none 0 0,false,.slice none 0 0]).ok (vals 10) wz:=hv 10 (by decide);have n24:(Rg.Val.at (qw (wc.heap.size) (X) (E*E))).ok (vals 9) wz:=hv 9 (by decide);simp only [Rg.bF,Rg.fill,Act.put,Nat.reduceAdd];clear hv;obtain ⟨g9,KB,Dj,o9⟩:=n9;replace o9:aG wz g9 174 #[false,.slice none 0 0,false,.slice none 0 0]:=o9;obtain ⟨s24,a24,Hi,c24,GY,Jr,Ip,m24,I6,LH,EM,KJ,p24⟩:=(Rg.bs n24).view;simp only [Dj,EM];clear Dj EM;have ⟨p0,p1,p2,p3,y0,y1,y2,y3,_⟩:=o9.aL;have R:=aG.mJ o9 (.bool s24) (.slice a24 Hi c24) (.bool Jr) (.slice Ip m24 I6);have ox:=DB (aF.base (aF.dI KJ o9 (by decide) (.bool s24) (.slice a24 Hi c24) (.bool Jr) (.slice Ip m24 I6)) (Nat.zero_le _));have oz:=DB (aF.base (aF.dI p24 o9 (by decide) (.bool s24) (.slice a24 Hi c24) (.bool Jr) (.slice Ip m24 I6)) (Nat.zero_le _))
 have hkg:w.heap.size+2<=g9:=by omega
 have B2:Below w.heap.size w ((((wz.setCell ⟨g9,0,none⟩ (.bool s24)).setCell ⟨g9,1,none⟩ (.slice a24 Hi c24)).setCell ⟨g9,2,none⟩ (.bool Jr)).setCell ⟨g9,3,none⟩ (.slice Ip m24 I6)):=DD (DD (DD (DD (d_ B hB) (by simp <;> omega) _) (by simp <;> omega) _) (by simp <;> omega) _) (by simp <;> omega) _;have C2:=((((C.keep hB).other (i:=0) (show w.heap.size≠g9 by omega) (.bool s24)).other (i:=1) (show w.heap.size≠g9 by omega) (.slice a24 Hi c24)).other (i:=2) (show w.heap.size≠g9 by omega) (.bool Jr)).other (i:=3) (show w.heap.size≠g9 by omega) (.slice Ip m24 I6);unfold Rg.aX Rg.aX Oper.wp;go_simp
 clear p0 p1 p2 p3 y0 y1 y2 y3 o9 KJ p24 hB B Q q0 q1 q2 e_ f_ C Fm KB i2 P1 P2 hE0 hw3;generalize ((((wz.setCell ⟨g9,0,none⟩ (.bool s24)).setCell ⟨g9,1,none⟩ (.slice a24 Hi c24)).setCell ⟨g9,2,none⟩ (.bool Jr)).setCell ⟨g9,3,none⟩ (.slice Ip m24 I6))=wd at *;have GA:M.run a b 0 (.val X (E*E))=.val X (E*E):=rfl;generalize hZ:E*E=Z at *;replace hZ:=DB hZ;replace GA:=DB GA;go_wp2
 go_loopw [26] (fun vi wr=>∃ (k:Nat) (x z:Int) (s:Bool) (av:Option Addr) (lv cv:Nat) (r:Bool) (bv:Option Addr) (mv dv:Nat),k<=n/\vi=.int .i64 k/\Hid (M.run a b k (.val X Z)=.val x z)/\aG wr g9 174 #[s,.slice av lv cv,r,.slice bv mv dv]/\aF wr 0 (.slice av lv cv) (Wh.a_ x.natAbs)/\aF wr 0 (.slice bv mv dv) (Wh.a_ z.natAbs)/\Hid (s=decide (x<0))/\Hid (r=decide (z<0))/\Wh.sz x 1000/\Wh.sz z 1000/\aG wr w.heap.size 25 #[a,b]/\Below w.heap.size w wr) (fun vi _=>n - (intOf vi).toNat)
 case atStart=>exact ⟨0,X,Z,s24,a24,Hi,c24,Jr,Ip,m24,I6,Nat.zero_le _,rfl,GA,R,ox.out,oz.out,GY,LH,zX.out,zE.out,C2,B2⟩
 case round=>
 clear R ox oz C2 B2 GA GY LH zX zE;obtain ⟨k,x,z,s,av,lv,cv,r,bv,mv,dv,hk,rfl,hrun,R,ox,oz,hs,hr,zx,zz,C,B⟩:=hrel;have ox:=DB ox;have oz:=DB oz;have zx:=DB zx;have zz:=DB zz;have p_:=R.aL.c0;have r_:=R.aL.c1;have y_:=R.aL.c2;have A_:=R.aL.c3;have e_:=C.box.c0;have f_:=C.box.c1
 by_cases hlt:k<n
 ·have Im:=DB fun v v' W i j h1 h2=>PG.out x z s r v v' W i j h1 h2 zx.out zz.out hs.out hr.out
  have E4:=DB fun v v' W i j h1 h2=>PD.out x z s r v v' W i j h1 h2 zx.out zz.out hs.out hr.out
  have hnx:M.run a b (k+1) (.val X Z)=M.nx a b (.val x z):=by show M.nx a b (M.run a b k (.val X Z))=_;rw [hrun.out]
  unfold M.nx at hnx
  dsimp only at hnx
  clear PG PD PB hs hr
  have FC:=fun h=>Wh.lW (Wh.k8 (D:=M.aS a b) (F:=Wh.am a b x z) (G:=Wh.af a b x z) h)
  have H3:Wh.eB (M.aS a b) (Wh.am a b x z) (Wh.af a b x z)=true->Wh.E5 (M.aS a b) (Wh.am a b x z) (Wh.af a b x z)=Wh.GL (M.aS a b) (Wh.am a b x z) (Wh.af a b x z)/\Wh.E6 (M.aS a b) (Wh.am a b x z) (Wh.af a b x z)=Wh.GK (M.aS a b) (Wh.am a b x z) (Wh.af a b x z):=fun h=>by unfold Wh.E5 Wh.E6;rw [if_pos h,if_pos h];exact ⟨rfl,rfl⟩
  generalize Wh.eB (M.aS a b) (Wh.am a b x z) (Wh.af a b x z)=ok,Wh.GK (M.aS a b) (Wh.am a b x z) (Wh.af a b x z)=dd,Wh.GL (M.aS a b) (Wh.am a b x z) (Wh.af a b x z)=nn,Wh.E6 (M.aS a b) (Wh.am a b x z) (Wh.af a b x z)=z',Wh.E5 (M.aS a b) (Wh.am a b x z) (Wh.af a b x z)=x' at *;have hG0:=@Wh.fX (Wh.af a b x z);generalize Wh.af a b x z=G at *;generalize decide (G<0)=sg at *
  by_cases hG:G=0
  ·rw [if_pos hG] at hnx
   have hfin:=DB (M.ov hnx n (by omega));have hl0:=hG0.2 hG;clear hnx hG hG0 FC H3 E4;generalize JO:(Wh.a_ G.natAbs).length=lg at *;subst hl0;replace JO:=DB JO
   go_wp2_with (go_at_call 167;(with_reducible refine (Im.out _ _ _ _ _ ox.out oz.out).mono ?_);rintro e w4 ⟨v4,rfl,DS,hb4⟩;obtain ⟨a4,c4,rfl,Db,DR⟩:=aF.view DS;clear Db DR;(rw [JO.out] at DS ⊢);replace C:=C.keep hb4;replace R:=R.keep hb4;replace B:=d_ B hb4;(replace ⟨e_,f_⟩:=C.b2);(replace ⟨p_,r_,y_,A_⟩:=R.b4))
   exact bodyPost_ret (v:=.tuple #[(0:Int),true,true]) (by simp [results,Tryz.results159,go_sem, *]) rfl (⟨by rw [hZ.out,hfin.out];rfl,B⟩)
  rw [if_neg hG] at hnx
  have hl0:¬ (Wh.a_ G.natAbs).length=0:=fun h=>hG (hG0.1 h)
  have hlq:(((Wh.a_ G.natAbs).length:Int) == 0)=false:=by rw [beq_eq_false_iff_ne];omega
  clear hG hG0
  cases ok with
  | false=>
   have hfin:=DB (M.ou hnx n (by omega));clear hnx FC H3;generalize decide (z'<0)=r',decide (x'<0)=s' at *
   go_wp2_with (first
    | (go_at_call 167;(with_reducible refine (Im.out _ _ _ _ _ ox.out oz.out).mono ?_);rintro e w4 ⟨v4,rfl,DS,hb4⟩;obtain ⟨a4,c4,rfl,Db,DR⟩:=aF.view DS;clear Db DR DS;(generalize (Wh.a_ G.natAbs).length=lg at *);replace C:=C.keep hb4;replace R:=R.keep hb4;replace ox:=kO ox hb4;replace oz:=kO oz hb4;replace B:=d_ B hb4;(replace ⟨e_,f_⟩:=C.b2);(replace ⟨p_,r_,y_,A_,s_,t_,C_,DG⟩:=R.Da))
    | (go_at_call 168;(with_reducible refine (E4.out _ _ _ _ _ ox.out oz.out).mono ?_);rintro e w5 ⟨v5,u5,rfl,Dw,FZ,hb5⟩;replace C:=C.keep hb5;replace R:=R.keep hb5;replace ox:=kO ox hb5;replace oz:=kO oz hb5;replace B:=d_ B hb5;obtain ⟨a5,c5,rfl,Db,DR⟩:=aF.view Dw;clear Db DR;obtain ⟨b5,d5,rfl,Db,DR⟩:=aF.view FZ;clear Db DR;have on:=DB (show aF _ _ _ _ from Dw);have om:=DB (show aF _ _ _ _ from FZ);clear Dw FZ;(generalize (Wh.a_ x'.natAbs).length=l5 at *);(generalize (Wh.a_ z'.natAbs).length=m5 at *);have N:=aG.new w5 #[s',.slice a5 l5 c5,r',.slice b5 m5 d5] 174;have b_:=bA w5 (.cells #[s',.slice a5 l5 c5,r',.slice b5 m5 d5] 174);replace C:=C.keep b_;replace R:=R.keep b_;replace ox:=kO ox b_;replace oz:=kO oz b_;replace on:=kO on b_;replace om:=kO om b_;replace B:=d_ B b_;clear b_;(replace ⟨e_,f_⟩:=C.b2);(replace ⟨p_,r_,y_,A_,s_,t_,C_,DG⟩:=R.Da);(replace ⟨Ft,Fu,Fv,Fw⟩:=N.b4)))
   exact bodyPost_ret (v:=.tuple #[(0:Int),false,false]) (by simp [results,Tryz.results159,go_sem, *]) rfl (⟨by rw [hZ.out,hfin.out];rfl,B⟩)
  | true=>
  rw [if_pos rfl] at hnx;obtain ⟨hxn,hzn⟩:=H3 rfl;obtain ⟨zn,zd⟩:=FC rfl;subst hxn hzn;clear H3 FC;have zn:=DB zn;have zd:=DB zd;have hnx:=DB hnx;generalize hs5:decide (x'<0)=s' at *;generalize JT:decide (z'<0)=r' at *;replace hs5:=DB hs5.symm;replace JT:=DB JT.symm;clear hrun zx zz
  go_wp2_with (first
   | (go_at_call 167;(with_reducible refine (Im.out _ _ _ _ _ ox.out oz.out).mono ?_);rintro e w4 ⟨v4,rfl,DS,hb4⟩;obtain ⟨a4,c4,rfl,Db,DR⟩:=aF.view DS;clear Db DR DS;(generalize (Wh.a_ G.natAbs).length=lg at *);replace C:=C.keep hb4;replace R:=R.keep hb4;replace ox:=kO ox hb4;replace oz:=kO oz hb4;replace B:=d_ B hb4;(replace ⟨e_,f_⟩:=C.b2);(replace ⟨p_,r_,y_,A_,s_,t_,C_,DG⟩:=R.Da))
   | (go_at_call 168;(with_reducible refine (E4.out _ _ _ _ _ ox.out oz.out).mono ?_);rintro e w5 ⟨v5,u5,rfl,Dw,FZ,hb5⟩;replace C:=C.keep hb5;replace R:=R.keep hb5;replace ox:=kO ox hb5;replace oz:=kO oz hb5;replace B:=d_ B hb5;obtain ⟨a5,c5,rfl,Db,DR⟩:=aF.view Dw;clear Db DR;obtain ⟨b5,d5,rfl,Db,DR⟩:=aF.view FZ;clear Db DR;have on:=DB (show aF _ _ _ _ from Dw);have om:=DB (show aF _ _ _ _ from FZ);clear Dw FZ;(generalize (Wh.a_ x'.natAbs).length=l5 at *);(generalize (Wh.a_ z'.natAbs).length=m5 at *);have N:=aG.new w5 #[s',.slice a5 l5 c5,r',.slice b5 m5 d5] 174;have b_:=bA w5 (.cells #[s',.slice a5 l5 c5,r',.slice b5 m5 d5] 174);replace C:=C.keep b_;replace R:=R.keep b_;replace ox:=kO ox b_;replace oz:=kO oz b_;replace on:=kO on b_;replace om:=kO om b_;replace B:=d_ B b_;clear b_;(replace ⟨e_,f_⟩:=C.b2);(replace ⟨p_,r_,y_,A_,s_,t_,C_,DG⟩:=R.Da);(replace ⟨Ft,Fu,Fv,Fw⟩:=N.b4)))
  go_roundw
  case rel=>exact ⟨k+1,_,_,s',a5,l5,c5,r',b5,m5,d5,by omega,by go_num,hnx,aG.mJ R (.bool s') (.slice a5 l5 c5) (.bool r') (.slice b5 m5 d5),aF.base (aF.dI on.out R (by decide) (.bool s') (.slice a5 l5 c5) (.bool r') (.slice b5 m5 d5)) (Nat.zero_le _),aF.base (aF.dI om.out R (by decide) (.bool s') (.slice a5 l5 c5) (.bool r') (.slice b5 m5 d5)) (Nat.zero_le _),hs5,JT,zn.out,zd.out,(((C.other (show w.heap.size≠g9 by omega) _).other (show w.heap.size≠g9 by omega) _).other (show w.heap.size≠g9 by omega) _).other (show w.heap.size≠g9 by omega) _,D9 B⟩
  case measure=>simp [intOf] <;> omega
 obtain rfl:k=n:=by omega
 have P1:=DB fun v W i h=>PB.out x s v W i h zx.out hs.out
 have P2:=DB fun v W i h=>PB.out z r v W i h zz.out hr.out
 have hfin:=DB (show M.du (M.run a b k (.val X Z))=max ((Wh.bl x.natAbs:Nat):Int) ((Wh.bl z.natAbs:Nat):Int)/\M.isInf (M.run a b k (.val X Z))=false/\M.isOk (M.run a b k (.val X Z))=true by rw [hrun.out];exact ⟨rfl,rfl,rfl⟩)
 have hm1:(Wh.bl x.natAbs:Int)<=14000:=by have:=Wh.lh zx.out;omega
 have hm2:(Wh.bl z.natAbs:Int)<=14000:=by have:=Wh.lh zz.out;omega
 generalize Wh.bl z.natAbs=k2,Wh.bl x.natAbs=k1 at *;have hmax:=DB (show (if (k1:Int)<k2 then (k2:Int) else k1)=max (k1:Int) k2 by split <;> omega);clear PG PD PB hs hr zx zz hrun
 go_upto_region 13 with fail
 refine Rg.bg 10 [.is (.pointer (some ⟨g9,0,none⟩)),.is (.agg #[s,.slice av lv cv]),.is (.int .i64 (k1:Nat)),.is (.pointer (some ⟨g9,2,none⟩)),.is (.agg #[r,.slice bv mv dv]),.is (.int .i64 (k2:Nat)),.is (max (k1:Int) k2:Int),.is (max (k1:Int) k2:Int),.is false,.is true] (by kernel_rfl) (by kernel_rfl) (by kernel_rfl) ⟨?_,?_,?_,?_,?_,?_,?_,?_,?_,?_,trivial⟩ ?_
 all_goals try ((first | (refine Rg.b0 ?_;intro zZ w_ hB) | (refine Rg.b1 ?_;intro zZ w_ hB e) | (refine Rg.b2 ?_;intro zZ w_ hB e f));have kz:=aE hB R.aL.c0;have kz:=aE hB R.aL.c1;have kz:=aE hB R.aL.c2;have kz:=aE hB R.aL.c3;have ec:=Rg.ec zZ;(first | (go_simp;done) | (go_simp;first | done | (rw [hmax.out];done) | (simp only [hmax.out];done);done)))
 ·refine Rg.o1 ?_;intro zZ w_ hB e
  have ef:=Rg.ef zZ;exact Rg.bV rfl (by go_simp) (P1.out _ _ _ (aF.below ox.out hB))
 ·refine Rg.o1 ?_;intro zZ w_ hB e
  have ef:=Rg.ef zZ;exact Rg.bV rfl (by go_simp) (P2.out _ _ _ (aF.below oz.out hB))
 intro vals wy hB9 hv hne;have E0:vals 7=.int .i64 (max (k1:Int) k2):=hv 7 (by decide);have GP:vals 8=.bool false:=hv 8 (by decide);have EM:vals 9=.bool true:=hv 9 (by decide);simp only [Rg.bF,Rg.fill,Act.put,Nat.reduceAdd];clear hv;simp only [E0,GP,EM];clear E0 GP EM;unfold Rg.aX;go_wp2;exact bodyPost_ret (v:=.tuple #[(max (k1:Int) k2:Int),false,true]) (by simp [results,Tryz.results159,go_sem, *]) rfl (⟨by rw [hZ.out,hfin.out.1,hfin.out.2.1,hfin.out.2.2],d_ B hB9⟩)
end
section
namespace M
def Ab (x n:Int):Prop:=-n<=x/\x<=n
theorem Ab.of (x:Int):Ab x x.natAbs:=by unfold Ab;omega
theorem Ab.nn {x n:Int} (h:Ab x n):0<=n:=by unfold Ab at h;omega
theorem Ab.mul {x y m n:Int} (h:Ab x m) (k:Ab y n):Ab (x*y) (m*n):=aH h.1 h.2 k.1 k.2
theorem Ab.add {x y m n:Int} (h:Ab x m) (k:Ab y n):Ab (x+y) (m+n):=by unfold Ab at *;omega
theorem Ab.sub {x y m n:Int} (h:Ab x m) (k:Ab y n):Ab (x - y) (m+n):=by unfold Ab at *;omega
theorem Ab.neg {x n:Int} (h:Ab x n):Ab (-x) n:=by unfold Ab at *;omega
theorem Ab.le {x m n:Int} (h:Ab x m) (k:m<=n):Ab x n:=by unfold Ab at *;omega
theorem Ab.num {n:Int} (h:0<=n):Ab n n:=by unfold Ab;omega
theorem vP {n:Nat} (h:n≠0):2 ^ (Wh.bl n - 1)<=n:=by
 unfold Wh.bl;rw [if_neg h,Nat.add_sub_cancel];exact Nat.log2_self_le h
theorem km (n:Nat):n<2 ^ Wh.bl n:=by
 unfold Wh.bl
 split
 ·rename_i h;subst h;decide
 exact Nat.lt_log2_self
theorem nP {n:Nat} (h:n≠0):1<=Wh.bl n:=by
 unfold Wh.bl;rw [if_neg h];omega
theorem sP {m n:Nat} (h:m<=n):Wh.bl m<=Wh.bl n:=Wh.pT (Nat.lt_of_le_of_lt h (km n))
theorem A1 (m n:Nat):max (Wh.bl m) (Wh.bl n)=Wh.bl (max m n):=by
 rcases Nat.le_total m n with h | h
 ·rw [Nat.max_eq_right h,Nat.max_eq_right (sP h)]
 rw [Nat.max_eq_left h,Nat.max_eq_left (sP h)]
def hh (x z:Int):Nat:=max x.natAbs z.natAbs
def hb (x z:Int):Nat:=Wh.bl (hh x z)
theorem qF (x z:Int):Ab x (hh x z)/\Ab z (hh x z):=by unfold Ab hh;omega
theorem Ce {x z n:Int} (h:Ab x n) (k:Ab z n):((hh x z:Nat):Int)<=n:=by unfold Ab at *;unfold hh;omega
theorem AG {a b x z h:Int} (hx:Ab x h) (hz:Ab z h):Ab (Wh.am a b x z) ((1+2*a.natAbs+8*b.natAbs+a.natAbs*a.natAbs)*(h*h*h*h)):=by
 have ha:=Ab.of a;have hb:=Ab.of b;unfold Wh.am
 have:=((((hx.mul hx).mul hx).mul hx).sub ((((((Ab.num (n:=2) (by decide)).mul ha).mul hx).mul hx).mul hz).mul hz)).sub ((((((Ab.num (n:=8) (by decide)).mul hb).mul hx).mul hz).mul hz).mul hz) |>.add ((((((ha.mul ha).mul hz).mul hz).mul hz).mul hz))
 refine this.le (Int.le_of_eq ?_)
 grind
theorem yY {a b x z h:Int} (hx:Ab x h) (hz:Ab z h):Ab (Wh.af a b x z) (4*(1+a.natAbs+b.natAbs)*(h*h*h*h)):=by
 have ha:=Ab.of a;have hb:=Ab.of b;unfold Wh.af;have:=((Ab.num (n:=4) (by decide)).mul hz).mul ((((hx.mul hx).mul hx).add (((ha.mul hx).mul hz).mul hz)).add (((hb.mul hz).mul hz).mul hz));refine this.le (Int.le_of_eq ?_)
 grind
def r1 (a x z:Int):Int:=12*x*x*z+16*a*z*z*z
def r2 (a b x z:Int):Int:=3*x*x*x - 5*a*x*z*z - 27*b*z*z*z
def r3 (a b x z:Int):Int:=4*aS a b*x*x*x - 4*a*a*b*x*x*z+4*a*(3*a*a*a+22*b*b)*x*z*z+12*b*(a*a*a+8*b*b)*z*z*z
def r4 (a b x z:Int):Int:=a*a*b*x*x*x+a*(5*a*a*a+32*b*b)*x*x*z+2*b*(13*a*a*a+96*b*b)*x*z*z - 3*a*a*(a*a*a+8*b*b)*z*z*z
theorem Ac (a b x z:Int):r1 a x z*Wh.am a b x z - r2 a b x z*Wh.af a b x z=4*aS a b*(z*z*z*z*z*z*z):=by
 unfold r1 r2 Wh.am Wh.af aS
 grind
theorem Aa (a b x z:Int):r3 a b x z*Wh.am a b x z+r4 a b x z*Wh.af a b x z=4*aS a b*(x*x*x*x*x*x*x):=by
 unfold r3 r4 Wh.am Wh.af aS
 grind
theorem Ct {a x z h:Int} (hx:Ab x h) (hz:Ab z h):Ab (r1 a x z) ((12+16*a.natAbs)*(h*h*h)):=by
 have ha:=Ab.of a;unfold r1;have:=((((Ab.num (n:=12) (by decide)).mul hx).mul hx).mul hz).add (((((Ab.num (n:=16) (by decide)).mul ha).mul hz).mul hz).mul hz);exact this.le (Int.le_of_eq (by grind))
theorem Cu {a b x z h:Int} (hx:Ab x h) (hz:Ab z h):Ab (r2 a b x z) ((3+5*a.natAbs+27*b.natAbs)*(h*h*h)):=by
 have ha:=Ab.of a;have hb:=Ab.of b;unfold r2;have:=(((((Ab.num (n:=3) (by decide)).mul hx).mul hx).mul hx).sub (((((Ab.num (n:=5) (by decide)).mul ha).mul hx).mul hz).mul hz)).sub (((((Ab.num (n:=27) (by decide)).mul hb).mul hz).mul hz).mul hz);exact this.le (Int.le_of_eq (by grind))
theorem Cv {a b x z h:Int} (hx:Ab x h) (hz:Ab z h):Ab (r3 a b x z) ((4*(aS a b).natAbs+4*a.natAbs*a.natAbs*b.natAbs+4*a.natAbs*(3*a.natAbs*a.natAbs*a.natAbs+22*b.natAbs*b.natAbs)+12*b.natAbs*(a.natAbs*a.natAbs*a.natAbs+8*b.natAbs*b.natAbs))*(h*h*h)):=by
 have ha:=Ab.of a;have hb:=Ab.of b;have hd:=Ab.of (aS a b);unfold r3;have t1:=((((Ab.num (n:=4) (by decide)).mul hd).mul hx).mul hx).mul hx;have t2:=((((((Ab.num (n:=4) (by decide)).mul ha).mul ha).mul hb).mul hx).mul hx).mul hz;have t3:=(((((Ab.num (n:=4) (by decide)).mul ha).mul (((((Ab.num (n:=3) (by decide)).mul ha).mul ha).mul ha).add (((Ab.num (n:=22) (by decide)).mul hb).mul hb))).mul hx).mul hz).mul hz;have t4:=(((((Ab.num (n:=12) (by decide)).mul hb).mul (((ha.mul ha).mul ha).add (((Ab.num (n:=8) (by decide)).mul hb).mul hb))).mul hz).mul hz).mul hz;exact (((t1.sub t2).add t3).add t4).le (Int.le_of_eq (by grind))
theorem Cw {a b x z h:Int} (hx:Ab x h) (hz:Ab z h):Ab (r4 a b x z) ((a.natAbs*a.natAbs*b.natAbs+a.natAbs*(5*a.natAbs*a.natAbs*a.natAbs+32*b.natAbs*b.natAbs)+2*b.natAbs*(13*a.natAbs*a.natAbs*a.natAbs+96*b.natAbs*b.natAbs)+3*a.natAbs*a.natAbs*(a.natAbs*a.natAbs*a.natAbs+8*b.natAbs*b.natAbs))*(h*h*h)):=by
 have ha:=Ab.of a;have hb:=Ab.of b;unfold r4;have t1:=((((ha.mul ha).mul hb).mul hx).mul hx).mul hx
 have t2:=((((ha.mul (((((Ab.num (n:=5) (by decide)).mul ha).mul ha).mul ha).add (((Ab.num (n:=32) (by decide)).mul hb).mul hb))).mul hx).mul hx).mul hz)
 have t3:=(((((Ab.num (n:=2) (by decide)).mul hb).mul (((((Ab.num (n:=13) (by decide)).mul ha).mul ha).mul ha).add (((Ab.num (n:=96) (by decide)).mul hb).mul hb))).mul hx).mul hz).mul hz;have t4:=((((((Ab.num (n:=3) (by decide)).mul ha).mul ha).mul (((ha.mul ha).mul ha).add (((Ab.num (n:=8) (by decide)).mul hb).mul hb))).mul hz).mul hz).mul hz;exact (((t1.add t2).add t3).sub t4).le (Int.le_of_eq (by grind))
theorem vg {a b x z:Int} (h0:hh x z≠0) :
  4*((aS a b).natAbs:Int)*((hh x z:Int)*hh x z*hh x z*hh x z)<=hK a.natAbs b.natAbs (aS a b).natAbs*hh (Wh.am a b x z) (Wh.af a b x z):=by
 obtain ⟨hx,hz⟩:=qF x z;obtain ⟨hF,hG⟩:=qF (Wh.am a b x z) (Wh.af a b x z);have e1:=Ac a b x z;have e2:=Aa a b x z;have k1:=((Ct (a:=a) hx hz).mul hF).sub ((Cu (a:=a) (b:=b) hx hz).mul hG);have k2:=((Cv (a:=a) (b:=b) hx hz).mul hF).add ((Cw (a:=a) (b:=b) hx hz).mul hG);rw [e1] at k1;rw [e2] at k2
 have hpos:(1:Int)<=hh x z:=by omega
 have hN:(0:Int)<=hh (Wh.am a b x z) (Wh.af a b x z):=by omega
 have hor:(hh x z:Int)=x.natAbs∨(hh x z:Int)=z.natAbs:=by unfold hh;omega
 generalize hh (Wh.am a b x z) (Wh.af a b x z)=N at *
 have ap:∀ u:Int,(4*aS a b*(u*u*u*u*u*u*u)).natAbs=4*(aS a b).natAbs*(u.natAbs*u.natAbs*u.natAbs*u.natAbs*u.natAbs*u.natAbs*u.natAbs):=fun u=>by simp [Int.natAbs_mul]
 have fin:∀ (u c:Int),(hh x z:Int)=u.natAbs->Ab (4*aS a b*(u*u*u*u*u*u*u)) (c*((hh x z:Int)*hh x z*hh x z)*N)->4*((aS a b).natAbs:Int)*((hh x z:Int)*hh x z*hh x z*hh x z)<=c*N:=fun u c hu hab=>by
  have h1:(((4*aS a b*(u*u*u*u*u*u*u)).natAbs:Nat):Int)<=c*((hh x z:Int)*hh x z*hh x z)*N:=by unfold Ab at hab;omega
  rw [ap] at h1
  push_cast at h1
  rw [←hu] at h1;have hq:(0:Int)<(hh x z:Int)*hh x z*hh x z:=Int.mul_pos (Int.mul_pos (by omega) (by omega)) (by omega);generalize (hh x z:Int)=h at *;refine Int.le_of_mul_le_mul_left (a:=h*h*h) ?_ hq
  calc h*h*h*(4*((aS a b).natAbs:Int)*(h*h*h*h))=4*((aS a b).natAbs:Int)*(h*h*h*h*h*h*h):=by grind
   _<=_:=h1
   _=_:=by grind
 unfold hK
 rcases hor with ho | ho
 ·refine Int.le_trans (fin x _ ho (k2.le (Int.le_of_eq ?_))) (Int.mul_le_mul_of_nonneg_right (Int.le_max_right _ _) hN)
  grind
 refine Int.le_trans (fin z _ ho (k1.le (Int.le_of_eq ?_))) (Int.mul_le_mul_of_nonneg_right (Int.le_max_left _ _) hN)
 grind
theorem BF (a b x z:Int):(hh (Wh.am a b x z) (Wh.af a b x z):Int)<=hM a.natAbs b.natAbs*((hh x z:Int)*hh x z*hh x z*hh x z):=by
 obtain ⟨hx,hz⟩:=qF x z;have hp:(0:Int)<=(hh x z:Int)*hh x z*hh x z*hh x z:=Int.mul_nonneg (Int.mul_nonneg (Int.mul_nonneg (by omega) (by omega)) (by omega)) (by omega);refine Ce ((AG (a:=a) (b:=b) hx hz).le ?_) ((yY (a:=a) (b:=b) hx hz).le ?_)
 ·exact Int.mul_le_mul_of_nonneg_right (by unfold hM;exact Int.le_max_left _ _) hp
 exact Int.mul_le_mul_of_nonneg_right (by unfold hM;exact Int.le_max_right _ _) hp
theorem yQ {a b x z f g:Int} {d:Nat} (h0:hh x z≠0) (hd:d≠0) (hdD:d<=4*(aS a b).natAbs) (hF:Wh.am a b x z=d*f) (hG:Wh.af a b x z=d*g) :
  4*hb x z<=hb f g+hC a b+3/\hb f g<=4*hb x z+hC a b:=by
 have h1:=vg (a:=a) (b:=b) h0;have h2:=BF a b x z
 have e:hh (Wh.am a b x z) (Wh.af a b x z)=d*hh f g:=by
  rw [hF,hG];unfold hh;simp only [Int.natAbs_mul,Int.natAbs_natCast];exact (Nat.mul_max_mul_left _ _ _)
 rw [e] at h1 h2;unfold hb hC
 have hKn:(0:Int)<=hK a.natAbs b.natAbs (aS a b).natAbs:=by
  unfold hK
  have:(0:Int)<=15+21*(a.natAbs:Int)+27*(b.natAbs:Int):=by omega
  exact Int.le_trans this (Int.le_max_left _ _)
 have hMn:(0:Int)<=hM a.natAbs b.natAbs:=by
  unfold hM
  have:(0:Int)<=4*(1+(a.natAbs:Int)+(b.natAbs:Int)):=by omega
  exact Int.le_trans this (Int.le_max_right _ _)
 obtain ⟨K,hK⟩:=Int.eq_ofNat_of_zero_le hKn;obtain ⟨M,hM⟩:=Int.eq_ofNat_of_zero_le hMn;rw [hK] at h1 ⊢;rw [hM] at h2 ⊢;generalize (aS a b).natAbs=D,hh f g=h',hh x z=h at *
 have eQ:(max (M:Int) (K:Int)).toNat=max M K:=by omega
 rw [eQ]
 have h1:4*D*(h*h*h*h)<=K*(d*h'):=by exact_mod_cast h1
 have h2:d*h'<=M*(h*h*h*h):=by exact_mod_cast h2
 have hC:=km (max M K);generalize Wh.bl (max M K)=C at *
 have hMC:M<2 ^ C:=by omega
 have hKC:K<2 ^ C:=by omega
 have hb1:=vP h0;have hb2:=km h;have hb3:=nP h0;generalize Wh.bl h=B at *
 obtain ⟨B,rfl⟩:∃ c,B=c+1:=⟨B - 1,by omega⟩
 rw [Nat.add_sub_cancel] at hb1
 have h3:h*h*h*h<=K*h':=by
  have hD:0<4*D:=by omega
  refine Nat.le_of_mul_le_mul_left (c:=4*D) ?_ hD;refine Nat.le_trans h1 ?_
  calc K*(d*h')=d*(K*h'):=by grind
   _<=4*D*(K*h'):=Nat.mul_le_mul_right _ hdD
 have h4:h'<=M*(h*h*h*h):=Nat.le_trans (Nat.le_mul_of_pos_left _ (by omega)) h2
 have p1:2 ^ (4*B)<=h*h*h*h:=by
  calc 2 ^ (4*B)=2 ^ B*2 ^ B*2 ^ B*2 ^ B:=by rw [←Nat.pow_add,←Nat.pow_add,←Nat.pow_add];congr 1;omega
   _<=_:=Nat.mul_le_mul (Nat.mul_le_mul (Nat.mul_le_mul hb1 hb1) hb1) hb1
 have p2:h*h*h*h<2 ^ (4*(B+1)):=by
  calc h*h*h*h<2 ^ (B+1)*2 ^ (B+1)*2 ^ (B+1)*2 ^ (B+1):=Nat.mul_lt_mul'' (Nat.mul_lt_mul'' (Nat.mul_lt_mul'' hb2 hb2) hb2) hb2
   _=_:=by rw [←Nat.pow_add,←Nat.pow_add,←Nat.pow_add];congr 1;omega
 have p3:=km h'
 constructor
 ·have:2 ^ (4*B)<2 ^ (C+Wh.bl h'):=by
   rw [Nat.pow_add 2 C]
   calc 2 ^ (4*B)<=K*h':=Nat.le_trans p1 h3
    _<_:=Nat.mul_lt_mul'' hKC p3
  have:=(Nat.pow_lt_pow_iff_right (by decide)).1 this;omega
 refine Wh.pT (Nat.lt_of_le_of_lt h4 ?_);rw [Nat.pow_add,Nat.mul_comm];exact Nat.mul_lt_mul'' p2 hMC
end M
namespace M
theorem ol (x:Rat):x*((x.den:Int):Rat)=((x.num:Int):Rat):=by
 have h1:=Rat.num_divInt_den x;rw [Rat.divInt_eq_div] at h1
 have h:((x.den:Int):Rat)≠0:=by
  have:=x.den_nz
  exact_mod_cast this
 have h2:=Rat.div_mul_cancel (a:=(x.num:Rat)) h;rw [h1] at h2;exact h2
theorem zj {x:Rat} {m n:Int} (hn:0<n) (hc:Int.gcd m n=1) (h:x*(n:Rat)=(m:Rat)):x.num=m/\(x.den:Int)=n:=by
 have hz:(n:Rat)≠0:=by
  have:n≠0:=by omega
  exact_mod_cast this
 have h1:x=Rat.divInt m n:=by
  rw [Rat.divInt_eq_div,←h,Rat.mul_div_cancel hz]
 obtain ⟨k,rfl⟩:=Int.eq_ofNat_of_zero_le (Int.le_of_lt hn)
 have hr:m.natAbs.Coprime k:=by simpa [Int.gcd] using hc
 have h2:x=⟨m,k,by omega,hr⟩:=by
  rw [h1];exact (Rat.mk_eq_divInt (nz:=by omega) (c:=hr)).symm
 rw [h2];exact ⟨rfl,rfl⟩
namespace i_
def px:i_->Int
 | O=>1
 | .fin x _=>x.num
def pz:i_->Int
 | O=>0
 | .fin x _=>x.den
def hp (P:i_):Nat:=hb (px P) (pz P)
theorem cop (P:i_):Int.gcd (px P) (pz P)=1:=by
 cases P with
 | O=>rfl
 | fin x y=>exact x.reduced
theorem xe (P:i_):0<=pz P:=by
 cases P with
 | O=>exact Int.le_refl _
 | fin x y=>exact Int.natCast_nonneg _
theorem Bo (P:i_):px (neg P)=px P:=by cases P <;> rfl
theorem Bp (P:i_):pz (neg P)=pz P:=by cases P <;> rfl
theorem gT {x z:Int} (h:Int.gcd x z=1):hh x z≠0:=by
 unfold hh;intro h0
 have h1:x=0:=by omega
 have h2:z=0:=by omega
 subst h1 h2;cases h
theorem BP (P:i_):1<=hp P:=nP (gT (cop P))
def rx:i_->Rat
 | O=>1
 | .fin x _=>x
def rz:i_->Rat
 | O=>0
 | .fin _ _=>1
def rs:i_->Rat
 | O=>1
 | .fin x _=>((x.den:Int):Rat)
theorem Cr (P:i_):((px P:Int):Rat)=rs P*rx P:=by
 cases P with
 | O=>unfold px rs rx;rw [Rat.mul_one];rfl
 | fin x y=>unfold px rs rx;rw [←ol,Rat.mul_comm]
theorem Cs (P:i_):((pz P:Int):Rat)=rs P*rz P:=by
 cases P with
 | O=>unfold pz rs rz;rw [Rat.mul_zero];rfl
 | fin x y=>unfold pz rs rz;rw [Rat.mul_one]
def q0 (x1 z1 x2 z2:Rat):Rat:=(x1*z2 - x2*z1)*(x1*z2 - x2*z1)
def q1 (a b x1 z1 x2 z2:Rat):Rat:=2*((x1*z2+x2*z1)*(a*z1*z2+x1*x2)+2*b*z1*z1*z2*z2)
def q2 (a b x1 z1 x2 z2:Rat):Rat:=(x1*x2 - a*z1*z2)*(x1*x2 - a*z1*z2) - 4*b*z1*z2*(x1*z2+x2*z1)
def Pr (q0 q1 q2 t0 t1 t2:Rat):Prop:=q0*t1=q1*t0/\q0*t2=q2*t0/\q1*t2=q2*t1
theorem zV {a b x1 y1 x2 y2:Rat} (h1:y1*y1=x1*x1*x1+a*x1+b) (h2:y2*y2=x2*x2*x2+a*x2+b) :
  ((y1 - y2)*(y1 - y2) - (x1+x2)*(x1 - x2)*(x1 - x2))*((y1+y2)*(y1+y2) - (x1+x2)*(x1 - x2)*(x1 - x2)) =
   (x1 - x2)*(x1 - x2)*(((x1*x2 - a*1*1)*(x1*x2 - a*1*1) - 4*b*1*1*(x1*1+x2*1))*(1*1)):=by
 have e:((y1 - y2)*(y1 - y2) - (x1+x2)*(x1 - x2)*(x1 - x2))*((y1+y2)*(y1+y2) - (x1+x2)*(x1 - x2)*(x1 - x2)) =
   (y1*y1 - y2*y2)*(y1*y1 - y2*y2) - 2*(y1*y1+y2*y2)*((x1+x2)*(x1 - x2)*(x1 - x2))+((x1+x2)*(x1 - x2)*(x1 - x2))*((x1+x2)*(x1 - x2)*(x1 - x2)):=by
  clear h1 h2
  grind
 rw [e,h1,h2];clear e h1 h2
 grind
theorem zP {a b:Rat} {P Q:i_} (h1:On a b P) (h2:On a b Q) :
  Pr (q0 (rx P) (rz P) (rx Q) (rz Q)) (q1 a b (rx P) (rz P) (rx Q) (rz Q)) (q2 a b (rx P) (rz P) (rx Q) (rz Q))
   (rz (add a P Q)*rz (add a P (neg Q))) (rx (add a P Q)*rz (add a P (neg Q))+rx (add a P (neg Q))*rz (add a P Q)) (rx (add a P Q)*rx (add a P (neg Q))):=by
 cases P with
 | O=>
  show Pr (q0 1 0 _ _) (q1 a b 1 0 _ _) (q2 a b 1 0 _ _) (rz Q*rz (neg Q)) (rx Q*rz (neg Q)+rx (neg Q)*rz Q) (rx Q*rx (neg Q))
  have e1:rx (neg Q)=rx Q:=by cases Q <;> rfl
  have e2:rz (neg Q)=rz Q:=by cases Q <;> rfl
  rw [e1,e2];unfold Pr q0 q1 q2;refine ⟨?_,?_,?_⟩ <;> grind
 | fin x1 y1=>
 cases Q with
 | O=>
  show Pr (q0 x1 1 1 0) (q1 a b x1 1 1 0) (q2 a b x1 1 1 0) (1*1) (x1*1+x1*1) (x1*x1)
  unfold Pr q0 q1 q2;refine ⟨?_,?_,?_⟩ <;> grind
 | fin x2 y2=>
 show Pr (q0 x1 1 x2 1) (q1 a b x1 1 x2 1) (q2 a b x1 1 x2 1) _ _ _
 unfold On at h1 h2
 by_cases hx:x1=x2
 ·subst hx
  have h3:(y1 - y2)*(y1+y2)=0:=by grind
  have key:∀ y:Rat,y*y=x1*x1*x1+a*x1+b->add a (.fin x1 y) (.fin x1 y)=O/\y=0∨∃ u v,add a (.fin x1 y) (.fin x1 y)=.fin u v/\q1 a b x1 1 x1 1*u=q2 a b x1 1 x1 1:=fun y hy=>by
   by_cases h0:y=0
   ·left
    refine ⟨b7 ⟨rfl,by grind⟩,h0⟩
   right
   have hv:¬ (x1=x1/\y=-y):=fun h=>h0 (by grind)
   have hs:=fP (a:=a) (b:=b) (x1:=x1) (y1:=y) (x2:=x1) (y2:=y) hy hy hv;have e:add a (.fin x1 y) (.fin x1 y)=thd x1 y x1 (lam a x1 y x1 y):=if_neg hv;rw [e];refine ⟨_,_,rfl,?_⟩;obtain ⟨-,e2⟩:=hs;generalize lam a x1 y x1 y=l at *;unfold q1 q2
   grind
  have hq0:q0 x1 1 x1 1=0:=by unfold q0;grind
  rw [hq0]
  rcases Rat.mul_eq_zero.1 h3 with h4 | h4
  ·obtain rfl:y1=y2:=by grind
   have ev:add a (.fin x1 y1) (neg (.fin x1 y1))=O:=b7 ⟨rfl,by grind⟩;rw [ev]
   rcases key y1 h1 with ⟨e,rfl⟩ | ⟨u,v,e,hu⟩
   ·rw [e]
    unfold Pr rx rz q1;refine ⟨?_,?_,?_⟩ <;> grind
   rw [e];unfold Pr rx rz;refine ⟨?_,?_,?_⟩ <;> grind
  obtain rfl:y2=-y1:=by grind
  have ev:add a (.fin x1 y1) (.fin x1 (-y1))=O:=b7 ⟨rfl,by grind⟩
  have en:neg (.fin x1 (-y1))=.fin x1 y1:=by
   show i_.fin x1 (- -y1)=_
   rw [Rat.neg_neg]
  rw [ev,en]
  rcases key y1 h1 with ⟨e,rfl⟩ | ⟨u,v,e,hu⟩
  ·rw [e]
   unfold Pr rx rz q1;refine ⟨?_,?_,?_⟩ <;> grind
  rw [e];unfold Pr rx rz;refine ⟨?_,?_,?_⟩ <;> grind
 have hd:x1 - x2≠0:=by grind
 have e1:add a (.fin x1 y1) (.fin x2 y2)=thd x1 y1 x2 ((y1 - y2) / (x1 - x2)):=by
  show (if x1=x2/\y1=-y2 then O else thd x1 y1 x2 (lam a x1 y1 x2 y2))=_
  rw [if_neg fun h=>hx h.1];unfold lam;rw [if_neg hx]
 have e2:add a (.fin x1 y1) (neg (.fin x2 y2))=thd x1 y1 x2 ((y1+y2) / (x1 - x2)):=by
  show (if x1=x2/\y1=- -y2 then O else thd x1 y1 x2 (lam a x1 y1 x2 (-y2)))=_
  rw [if_neg fun h=>hx h.1];unfold lam;rw [if_neg hx]
  congr 2
  grind
 rw [e1,e2];have g1:=Rat.div_mul_cancel (a:=y1 - y2) hd;have g2:=Rat.div_mul_cancel (a:=y1+y2) hd;generalize (y1+y2) / (x1 - x2)=m,(y1 - y2) / (x1 - x2)=l at *
 show Pr _ _ _ (1*1) ((l*l - x1 - x2)*1+(m*m - x1 - x2)*1) ((l*l - x1 - x2)*(m*m - x1 - x2))
 have k1:q0 x1 1 x2 1*((l*l - x1 - x2)*1+(m*m - x1 - x2)*1)=q1 a b x1 1 x2 1*(1*1):=by
  unfold q0 q1
  grind
 have k2:q0 x1 1 x2 1*((l*l - x1 - x2)*(m*m - x1 - x2))=q2 a b x1 1 x2 1*(1*1):=by
  have:(x1 - x2)*(x1 - x2)*(q0 x1 1 x2 1*((l*l - x1 - x2)*(m*m - x1 - x2)))=(x1 - x2)*(x1 - x2)*(q2 a b x1 1 x2 1*(1*1)):=by
   unfold q0 q2
   have f1:(x1 - x2)*(x1 - x2)*(l*l - x1 - x2)=(y1 - y2)*(y1 - y2) - (x1+x2)*(x1 - x2)*(x1 - x2):=by grind
   have f2:(x1 - x2)*(x1 - x2)*(m*m - x1 - x2)=(y1+y2)*(y1+y2) - (x1+x2)*(x1 - x2)*(x1 - x2):=by grind
   generalize m*m - x1 - x2=v,l*l - x1 - x2=u at *
   have f3:(x1 - x2)*(x1 - x2)*((x1*1 - x2*1)*(x1*1 - x2*1)*(u*v))=((x1 - x2)*(x1 - x2)*u)*((x1 - x2)*(x1 - x2)*v):=by grind
   rw [f3,f1,f2];exact zV h1 h2
  grind
 refine ⟨k1,k2,?_⟩
 have:q0 x1 1 x2 1≠0:=by
  unfold q0;intro h
  rcases Rat.mul_eq_zero.1 h with h | h <;> grind
 generalize m*m - x1 - x2=v,l*l - x1 - x2=u,q2 a b x1 1 x2 1=c2,q1 a b x1 1 x2 1=c1,q0 x1 1 x2 1=c0 at *
 have k3:c0*(c1*(u*v))=c0*(c2*(u*1+v*1)):=by grind
 grind
end i_
end M
namespace M
theorem BO {u1 w1 u2 w2 t:Int} (h0:Ab (w1*w2) t) (h1:Ab (u1*w2+u2*w1) t) (h2:Ab (u1*u2) t):((hh u1 w1*hh u2 w2:Nat):Int)<=2*t:=by
 have ht:=h0.nn
 have hab:∀ x y:Int,((x.natAbs*y.natAbs:Nat):Int)=((x*y).natAbs:Nat):=fun x y=>by rw [Int.natAbs_mul]
 have big:∀ x y:Int,2*t<x->t<y->t*t<x*y:=fun x y hx hy=>by
  have h1:(2*t+1)*(t+1)<=x*y:=Int.mul_le_mul (by omega) (by omega) (by omega) (by omega)
  have h2:(2*t+1)*(t+1)=2*(t*t)+3*t+1:=by grind
  have h3:=Int.mul_nonneg ht ht;omega
 have mix:∀ u1 w1 u2 w2:Int,Ab (w1*w2) t->Ab (u1*w2+u2*w1) t->Ab (u1*u2) t->((u1*w2).natAbs:Int)<=2*t:=by
  intro u1 w1 u2 w2 h0 h1 h2
  by_cases hc:((u1*w2).natAbs:Int)<=2*t
  ·exact hc
  exfalso
  have e:(u1*w2)*(u2*w1)=(w1*w2)*(u1*u2):=by grind
  have e2:=(h0.mul h2)
  rw [←e] at e2;unfold Ab at h1 e2;generalize u2*w1=q,u1*w2=p at *
  rcases Int.le_total 0 p with hp | hp
  ·have a1:2*t<p:=by omega
   have a2:q<0:=by omega
   have a3:t < -q:=by omega
   have:t*t<p*(-q):=big _ _ a1 a3
   have e4:p*(-q)=-(p*q):=by grind
   omega
  have a1:2*t < -p:=by omega
  have a3:t<q:=by omega
  have:t*t<(-p)*q:=big _ _ a1 a3
  have e4:(-p)*q=-(p*q):=by grind
  omega
 have m1:=mix u1 w1 u2 w2 h0 h1 h2;have m2:=mix u2 w2 u1 w1 (by rw [Int.mul_comm];exact h0) (by rw [Int.add_comm];exact h1) (by rw [Int.mul_comm];exact h2);unfold Ab at h0 h2
 have c1:hh u1 w1=u1.natAbs∨hh u1 w1=w1.natAbs:=by unfold hh;omega
 have c2:hh u2 w2=u2.natAbs∨hh u2 w2=w2.natAbs:=by unfold hh;omega
 rcases c1 with c1 | c1 <;> rcases c2 with c2 | c2 <;> rw [c1,c2,hab]
 ·omega
 ·exact m1
 ·rw [Int.mul_comm];exact m2
 omega
theorem uC {u1 w1 u2 w2:Int} (h1:Int.gcd u1 w1=1) (h2:Int.gcd u2 w2=1) {g:Nat} (d0:(g:Int) ∣ w1*w2) (d1:(g:Int) ∣ u1*w2+u2*w1) (d2:(g:Int) ∣ u1*u2):g=1:=by
 have cop:∀ (k:Nat) (x y:Int),Int.gcd x y=1->(k:Int) ∣ x->(k:Int) ∣ y->k=1:=fun k x y h hx hy=>by
  have:=Int.dvd_gcd hx hy;rw [h] at this;exact Nat.dvd_one.1 this
 have gd:∀ (x:Int),(Nat.gcd g x.natAbs=1)->∀ y:Int,(g:Int) ∣ x*y->(g:Int) ∣ y:=fun x hx y hd=>by
  have:g ∣ x.natAbs*y.natAbs:=by
   rw [←Int.natAbs_mul];exact Int.ofNat_dvd_left.1 hd
  exact Int.ofNat_dvd_left.2 (Nat.Coprime.dvd_of_dvd_mul_left hx this)
 have sub:∀ x:Int,((Nat.gcd g x.natAbs:Nat):Int) ∣ g/\((Nat.gcd g x.natAbs:Nat):Int) ∣ x:=fun x=>⟨Int.natCast_dvd_natCast.2 (Nat.gcd_dvd_left _ _),Int.ofNat_dvd_left.2 (Nat.gcd_dvd_right _ _)⟩
 have k1:Nat.gcd g w1.natAbs=1:=by
  obtain ⟨a1,a2⟩:=sub w1;generalize hk:Nat.gcd g w1.natAbs=k at *
  have cu:Nat.gcd k u1.natAbs=1:=by
   refine cop _ u1 w1 h1 (Int.ofNat_dvd_left.2 (Nat.gcd_dvd_right _ _)) (Int.dvd_trans (Int.natCast_dvd_natCast.2 (Nat.gcd_dvd_left _ _)) a2)
  have gk:∀ y:Int,(k:Int) ∣ u1*y->(k:Int) ∣ y:=fun y hd=>by
   have:k ∣ u1.natAbs*y.natAbs:=by
    rw [←Int.natAbs_mul];exact Int.ofNat_dvd_left.1 hd
   exact Int.ofNat_dvd_left.2 (Nat.Coprime.dvd_of_dvd_mul_left cu this)
  have b2:=gk u2 (Int.dvd_trans a1 d2)
  have b1:(k:Int) ∣ u1*w2:=by
   have h:=Int.dvd_sub (Int.dvd_trans a1 d1) (Int.dvd_trans a2 (Int.dvd_mul_left u2 w1))
   rwa [Int.add_sub_cancel] at h
  exact cop k u2 w2 h2 b2 (gk w2 b1)
 have b:=gd w1 k1 w2 d0;have k2:Nat.gcd g u2.natAbs=1:=cop _ u2 w2 h2 (sub u2).2 (Int.dvd_trans (sub u2).1 b);have c:=gd u2 k2 u1 (by rw [Int.mul_comm];exact d2)
 have e:(g:Int) ∣ u2*w1:=by
  have h:=Int.dvd_sub d1 (Int.dvd_trans b (Int.dvd_mul_left u1 w2))
  rwa [show u1*w2+u2*w1 - u1*w2=u2*w1 by omega] at h
 exact cop g u1 w1 h1 c (gd u2 k2 w1 e)
theorem zW {q0 q1 q2 t0 t1 t2 m:Int} (hq:¬ (q0=0/\q1=0/\q2=0)) (ht:∀ g:Nat,(g:Int) ∣ t0->(g:Int) ∣ t1->(g:Int) ∣ t2->g=1)
  (e1:q0*t1=q1*t0) (e2:q0*t2=q2*t0) (e3:q1*t2=q2*t1) (a0:Ab q0 m) (a1:Ab q1 m) (a2:Ab q2 m):Ab t0 m/\Ab t1 m/\Ab t2 m:=by
 have key:∀ q:Int,∀ t:Int,t ∣ q*t0->t ∣ q*t1->t ∣ q*t2->t ∣ q:=fun q t d0 d1 d2=>by
  have g1:t ∣ ((Int.gcd (q*t0) (Int.gcd (q*t1) (q*t2)):Nat):Int):=Int.dvd_coe_gcd d0 (Int.dvd_coe_gcd d1 d2)
  have e:Int.gcd (q*t0) (Int.gcd (q*t1) (q*t2))=q.natAbs:=by
   rw [Int.gcd_mul_left]
   have:((q.natAbs*Int.gcd t1 t2:Nat):Int)=(q.natAbs:Int)*(Int.gcd t1 t2:Nat):=by push_cast;rfl
   rw [this]
   have e3:Int.gcd (q*t0) ((q.natAbs:Int)*((Int.gcd t1 t2:Nat):Int))=Int.gcd ((q.natAbs:Int)*t0) ((q.natAbs:Int)*((Int.gcd t1 t2:Nat):Int)):=by
    unfold Int.gcd;simp [Int.natAbs_mul]
   rw [e3,Int.gcd_mul_left]
   have h1:Int.gcd t0 ((Int.gcd t1 t2:Nat):Int)=1:=by
    refine ht _ (Int.gcd_dvd_left ..) ?_ ?_
    ·exact Int.dvd_trans (Int.gcd_dvd_right ..) (Int.gcd_dvd_left ..)
    exact Int.dvd_trans (Int.gcd_dvd_right ..) (Int.gcd_dvd_right ..)
   rw [h1];simp
  rw [e] at g1;exact Int.dvd_natAbs.1 g1
 have fin:∀ l:Int,q0=l*t0->q1=l*t1->q2=l*t2->Ab t0 m/\Ab t1 m/\Ab t2 m:=fun l f0 f1 f2=>by
  have hl:l≠0:=fun h=>hq ⟨by rw [f0,h];simp,by rw [f1,h];simp,by rw [f2,h];simp⟩
  have sm:∀ t:Int,Ab (l*t) m->Ab t m:=fun t h=>by
   have h1:(l*t).natAbs=l.natAbs*t.natAbs:=Int.natAbs_mul _ _;have h2:1*t.natAbs<=l.natAbs*t.natAbs:=Nat.mul_le_mul_right _ (by omega);unfold Ab at *;omega
  exact ⟨sm _ (f0 ▸ a0),sm _ (f1 ▸ a1),sm _ (f2 ▸ a2)⟩
 by_cases h0:t0=0
 ·subst h0
  by_cases h1:t1=0
  ·subst h1
   have h2:t2≠0:=fun h=>by
    subst h;have:=ht 2 (by simp) (by simp) (by simp);cases this
   have z0:q0=0:=by
    have:q0*t2=0:=by rw [e2];simp
    rcases Int.mul_eq_zero.1 this with h | h
    ·exact h
    exact absurd h h2
   have z1:q1=0:=by
    have:q1*t2=0:=by rw [e3];simp
    rcases Int.mul_eq_zero.1 this with h | h
    ·exact h
    exact absurd h h2
   obtain ⟨l,hl⟩:=key q2 t2 (by simp) (by simp) (Int.dvd_mul_left _ _);exact fin l (by rw [z0];simp) (by rw [z1];simp) (by rw [hl,Int.mul_comm])
  have z0:q0=0:=by
   have:q0*t1=0:=by rw [e1];simp
   rcases Int.mul_eq_zero.1 this with h | h
   ·exact h
   exact absurd h h1
  obtain ⟨l,hl⟩:=key q1 t1 (by simp) (Int.dvd_mul_left _ _) (by rw [e3];exact Int.dvd_mul_left _ _);refine fin l (by rw [z0];simp) (by rw [hl,Int.mul_comm]) ?_
  have:t1*q2=t1*(l*t2):=by rw [Int.mul_comm,←e3,hl];grind
  exact Int.eq_of_mul_eq_mul_left h1 this
 obtain ⟨l,hl⟩:=key q0 t0 (Int.dvd_mul_left _ _) (by rw [e1];exact Int.dvd_mul_left _ _) (by rw [e2];exact Int.dvd_mul_left _ _);refine fin l (by rw [hl,Int.mul_comm]) ?_ ?_
 ·have:t0*q1=t0*(l*t1):=by rw [Int.mul_comm,←e1,hl];grind
  exact Int.eq_of_mul_eq_mul_left h0 this
 have:t0*q2=t0*(l*t2):=by rw [Int.mul_comm,←e2,hl];grind
 exact Int.eq_of_mul_eq_mul_left h0 this
end M
namespace M
namespace i_
def i0 (x1 z1 x2 z2:Int):Int:=(x1*z2 - x2*z1)*(x1*z2 - x2*z1)
def i1 (a b x1 z1 x2 z2:Int):Int:=2*((x1*z2+x2*z1)*(a*z1*z2+x1*x2)+2*b*z1*z1*z2*z2)
def i2 (a b x1 z1 x2 z2:Int):Int:=(x1*x2 - a*z1*z2)*(x1*x2 - a*z1*z2) - 4*b*z1*z2*(x1*z2+x2*z1)
def cT (a b:Int):Int:=4*(1+a.natAbs+b.natAbs)+(1+a.natAbs)*(1+a.natAbs)+8*b.natAbs
theorem Q1 {a b x1 z1 x2 z2 h k:Int} (hx1:Ab x1 h) (hz1:Ab z1 h) (hx2:Ab x2 k) (hz2:Ab z2 k) :
  Ab (i0 x1 z1 x2 z2) (cT a b*(h*h*k*k))/\Ab (i1 a b x1 z1 x2 z2) (cT a b*(h*h*k*k))/\Ab (i2 a b x1 z1 x2 z2) (cT a b*(h*h*k*k)):=by
 have ha:=Ab.of a;have hb:=Ab.of b;have hp:0<=h*h*k*k:=Int.mul_nonneg (Int.mul_nonneg (Int.mul_nonneg hx1.nn hx1.nn) hx2.nn) hx2.nn;have hA:(0:Int)<=(a.natAbs:Int)*a.natAbs:=Int.mul_nonneg (by omega) (by omega)
 have le:∀ c:Int,c<=cT a b->c*(h*h*k*k)<=cT a b*(h*h*k*k):=fun c hc=>Int.mul_le_mul_of_nonneg_right hc hp
 have eT:cT a b=5+6*a.natAbs+12*b.natAbs+(a.natAbs:Int)*a.natAbs:=by unfold cT;grind
 refine ⟨?_,?_,?_⟩
 ·have t:=(hx1.mul hz2).sub (hx2.mul hz1)
  refine (t.mul t).le (Int.le_trans (Int.le_of_eq ?_) (le 4 (by omega)))
  grind
 ·have t1:=(hx1.mul hz2).add (hx2.mul hz1)
  have t2:=((ha.mul hz1).mul hz2).add (hx1.mul hx2);have t3:=(((((Ab.num (n:=2) (by decide)).mul hb).mul hz1).mul hz1).mul hz2).mul hz2;refine ((Ab.num (n:=2) (by decide)).mul ((t1.mul t2).add t3)).le (Int.le_trans (Int.le_of_eq ?_) (le (4*(1+a.natAbs+b.natAbs)) (by omega)))
  grind
 have t1:=(hx1.mul hx2).sub ((ha.mul hz1).mul hz2);have t2:=(hx1.mul hz2).add (hx2.mul hz1);have t3:=((((Ab.num (n:=4) (by decide)).mul hb).mul hz1).mul hz2).mul t2;refine ((t1.mul t1).sub t3).le (Int.le_trans (Int.le_of_eq ?_) (le ((1+a.natAbs)*(1+a.natAbs)+8*b.natAbs) (by rw [eT];grind)))
 grind
theorem Bx {P Q:i_} (h:px P*pz Q=px Q*pz P):px P=px Q/\pz P=pz Q:=by
 cases P with
 | O=>
  cases Q with
  | O=>exact ⟨rfl,rfl⟩
  | fin x y=>
  have h:(1:Int)*(x.den:Int)=x.num*0:=h;have:=x.den_nz;omega
 | fin x1 y1=>
 cases Q with
 | O=>
  have h:x1.num*0=1*(x1.den:Int):=h;have:=x1.den_nz;omega
 | fin x2 y2=>
 have:x1=x2:=Rat.eq_iff_mul_eq_mul.2 h;subst this;exact ⟨rfl,rfl⟩
theorem Cg {a b:Int} (hd:aS a b≠0) (P Q:i_):¬ (i0 (px P) (pz P) (px Q) (pz Q)=0/\i1 a b (px P) (pz P) (px Q) (pz Q)=0/\i2 a b (px P) (pz P) (px Q) (pz Q)=0):=by
 rintro ⟨h0,h1,h2⟩
 have hx:px P*pz Q=px Q*pz P:=by
  unfold i0 at h0
  rcases Int.mul_eq_zero.1 h0 with h | h <;> omega
 obtain ⟨e1,e2⟩:=Bx hx;rw [←e1,←e2] at h1 h2
 have eG:Wh.af a b (px P) (pz P)=0:=by rw [←h1];unfold Wh.af i1;grind
 have eF:Wh.am a b (px P) (pz P)=0:=by rw [←h2];unfold Wh.am i2;grind
 have hp:=gT (cop P);have:=vg (a:=a) (b:=b) hp;rw [eG,eF] at this;have e0:hh 0 0=0:=rfl;rw [e0] at this;have hpos:(0:Int)<(hh (px P) (pz P):Int)*hh (px P) (pz P)*hh (px P) (pz P)*hh (px P) (pz P):=Int.mul_pos (Int.mul_pos (Int.mul_pos (by omega) (by omega)) (by omega)) (by omega)
 have hD:(0:Int)<4*((aS a b).natAbs:Int):=by omega
 have:=Int.mul_pos hD hpos;simp at *
 omega
theorem tF {a b:Int} {P Q:i_} (h1:On a b P) (h2:On a b Q) (S D:i_) (hS:add a P Q=S) (hD:add a P (neg Q)=D) :
  (i0 (px P) (pz P) (px Q) (pz Q)*(px S*pz D+px D*pz S)=i1 a b (px P) (pz P) (px Q) (pz Q)*(pz S*pz D))/\
  (i0 (px P) (pz P) (px Q) (pz Q)*(px S*px D)=i2 a b (px P) (pz P) (px Q) (pz Q)*(pz S*pz D))/\
  (i1 a b (px P) (pz P) (px Q) (pz Q)*(px S*px D)=i2 a b (px P) (pz P) (px Q) (pz Q)*(px S*pz D+px D*pz S)):=by
 obtain ⟨e1,e2,e3⟩:=zP h1 h2;rw [hS,hD] at e1 e2 e3;unfold q0 q1 at e1;unfold q0 q2 at e2;unfold q1 q2 at e3;unfold i0 i1 i2;refine ⟨?_,?_,?_⟩ <;> apply Rat.intCast_inj.1 <;> push_cast <;> simp only [Cr,Cs]
 all_goals
  clear h1 h2 hS hD;generalize rs D=s4,rz D=z4,rx D=x4,rs S=s3,rz S=z3,rx S=x3,rs Q=s2,rz Q=z2,rx Q=x2,rs P=s1,rz P=z1,rx P=x1 at *;generalize (a:Rat)=a at *;generalize (b:Rat)=b at *
 ·clear e2 e3
  have:=congrArg (fun t=>s1*s1*s2*s2*s3*s4*t) e1
  grind
 ·clear e1 e3
  have:=congrArg (fun t=>s1*s1*s2*s2*s3*s4*t) e2
  grind
 clear e1 e2;have:=congrArg (fun t=>s1*s1*s2*s2*s3*s4*t) e3
 grind
def cU (a b:Int):Nat:=Wh.bl (2*cT a b).toNat+2
theorem xP {a b:Int} (hd:aS a b≠0) {P Q:i_} (h1:On a b P) (h2:On a b Q):hp (add a P Q)+hp (add a P (neg Q))<=2*hp P+2*hp Q+cU a b:=by
 have hp:=tF h1 h2 _ _ rfl rfl;generalize add (a:Rat) P Q=S at *;generalize add (a:Rat) P (neg Q)=D at *;obtain ⟨e1,e2,e3⟩:=hp;obtain ⟨x1,z1⟩:=qF (px P) (pz P);obtain ⟨x2,z2⟩:=qF (px Q) (pz Q);obtain ⟨a0,a1,a2⟩:=Q1 (a:=a) (b:=b) x1 z1 x2 z2;obtain ⟨b0,b1,b2⟩:=zW (Cg hd P Q) (fun g=>uC (cop S) (cop D)) e1 e2 e3 a0 a1 a2;have hm:=BO b0 b1 b2;have n1:=gT (cop P);have n2:=gT (cop Q);have n3:=gT (cop S);have n4:=gT (cop D)
 have hcT:0<=cT a b:=by
  have hA:(0:Int)<=(1+(a.natAbs:Int))*(1+a.natAbs):=Int.mul_nonneg (by omega) (by omega);unfold cT;omega
 unfold i_.hp hb cU;obtain ⟨c,hc⟩:=Int.eq_ofNat_of_zero_le hcT;rw [hc] at hm ⊢;clear e1 e2 e3 x1 z1 x2 z2 a0 a1 a2 b0 b1 b2 hc hcT;generalize hh (px D) (pz D)=d,hh (px S) (pz S)=s,hh (px Q) (pz Q)=q,hh (px P) (pz P)=p at *
 have e:(2*(c:Int)).toNat=2*c:=by omega
 rw [e]
 have hm:s*d<=2*(c*(p*p*q*q)):=by exact_mod_cast hm
 have p1:=km p;have q1:=km q;have s1:=vP n3;have d1:=vP n4;have s2:=nP n3;have d2:=nP n4;have c1:=km (2*c);generalize Wh.bl (2*c)=C,Wh.bl d=D,Wh.bl s=S,Wh.bl q=Q,Wh.bl p=P at *
 have:2 ^ (S - 1+(D - 1))<2 ^ (C+(P+P+Q+Q)):=by
  rw [Nat.pow_add,Nat.pow_add 2 C,Nat.pow_add,Nat.pow_add,Nat.pow_add];have h1:2 ^ (S - 1)*2 ^ (D - 1)<=s*d:=Nat.mul_le_mul s1 d1;have h2:p*p*q*q<2 ^ P*2 ^ P*2 ^ Q*2 ^ Q:=Nat.mul_lt_mul'' (Nat.mul_lt_mul'' (Nat.mul_lt_mul'' p1 p1) q1) q1;have h3:=Nat.mul_lt_mul'' c1 h2
  have h4:2*(c*(p*p*q*q))=2*c*(p*p*q*q):=by grind
  omega
 have:=(Nat.pow_lt_pow_iff_right (by decide)).1 this;omega
end i_
end M
namespace M
theorem wI {a b x z d:Int} (hc:Int.gcd x z=1) (h1:d ∣ Wh.am a b x z) (h2:d ∣ Wh.af a b x z):d ∣ 4*aS a b:=by
 have e1:d ∣ 4*aS a b*(z*z*z*z*z*z*z):=by
  rw [←Ac];exact Int.dvd_sub (Int.dvd_trans h1 (Int.dvd_mul_left _ _)) (Int.dvd_trans h2 (Int.dvd_mul_left _ _))
 have e2:d ∣ 4*aS a b*(x*x*x*x*x*x*x):=by
  rw [←Aa];exact Int.dvd_add (Int.dvd_trans h1 (Int.dvd_mul_left _ _)) (Int.dvd_trans h2 (Int.dvd_mul_left _ _))
 have e3:=Int.dvd_coe_gcd e2 e1;rw [Int.gcd_mul_left] at e3
 have e4:Int.gcd (x*x*x*x*x*x*x) (z*z*z*z*z*z*z)=1:=by
  unfold Int.gcd at *
  have:∀ u:Int,(u*u*u*u*u*u*u).natAbs=u.natAbs ^ 7:=fun u=>by simp [Int.natAbs_mul];grind
  rw [this,this];exact Nat.Coprime.pow 7 7 hc
 rw [e4,Nat.mul_one] at e3;exact Int.dvd_natAbs.1 e3
namespace i_
theorem cN {a b:Int} (hd:aS a b≠0):4*(a:Rat)*a*a+27*(b:Rat)*b≠0:=by
 intro h
 apply hd
 unfold aS
 exact_mod_cast h
theorem pg {a b:Int} (hd:aS a b≠0) {P:i_} (h:On a b P):∃ d:Int,d≠0/\d ∣ 4*aS a b/\Wh.am a b (px P) (pz P)=d*px (add a P P)/\Wh.af a b (px P) (pz P)=d*pz (add a P P):=by
 have hO:add (a:Rat) P (neg P)=O:=by
  rw [add_comm (cN hd) h (cJ h)];exact dC _ _
 obtain ⟨-,-,e3⟩:=tF h h _ _ rfl hO
 have eG:i1 a b (px P) (pz P) (px P) (pz P)=Wh.af a b (px P) (pz P):=by unfold Wh.af i1;grind
 have eF:i2 a b (px P) (pz P) (px P) (pz P)=Wh.am a b (px P) (pz P):=by unfold Wh.am i2;grind
 have hne:=Cg hd P P
 have h0:i0 (px P) (pz P) (px P) (pz P)=0:=by unfold i0;grind
 rw [eG,eF] at e3 hne;have hO1:px O=1:=rfl;have hO2:pz O=0:=rfl;rw [hO1,hO2,Int.mul_one,Int.mul_zero,Int.zero_add,Int.one_mul] at e3;have hc:=cop (add a P P);generalize add (a:Rat) P P=S at *
 have dv:=fun d=>wI (a:=a) (b:=b) (d:=d) (cop P)
 generalize Wh.af a b (px P) (pz P)=G,Wh.am a b (px P) (pz P)=F at *
 have fin:∀ d:Int,F=d*px S->G=d*pz S->∃ d:Int,d≠0/\d ∣ 4*aS a b/\F=d*px S/\G=d*pz S:=fun d f g=>
  ⟨d,fun h=>hne ⟨h0,by rw [g,h];simp,by rw [f,h];simp⟩,dv d ⟨_,f⟩ ⟨_,g⟩,f,g⟩
 have cd:∀ x y k:Int,Int.gcd x y=1->x ∣ y*k->x ∣ k:=fun x y k hxy hk=>by
  have h1:x.natAbs ∣ y.natAbs*k.natAbs:=by
   rw [←Int.natAbs_mul];exact Int.natAbs_dvd_natAbs.2 hk
  exact Int.natAbs_dvd_natAbs.1 (Nat.Coprime.dvd_of_dvd_mul_left hxy h1)
 by_cases hz:pz S=0
 ·rw [hz] at e3 hc
  have hx:px S≠0:=fun h=>by rw [h] at hc;cases hc
  have hG:G=0:=by
   rw [Int.mul_zero] at e3
   rcases Int.mul_eq_zero.1 e3 with h | h
   ·exact h
   exact absurd h hx
  obtain ⟨d,hd⟩:=cd (px S) 0 F hc (by
   have:px S ∣ 1:=by
    unfold Int.gcd at hc;simp at hc
    exact Int.natAbs_dvd_natAbs.1 (by rw [hc];exact Nat.dvd_refl 1)
   exact Int.dvd_trans this (Int.one_dvd _))
  exact fin d (by rw [hd,Int.mul_comm]) (by rw [hG,hz];simp)
 obtain ⟨d,hd⟩:=cd (pz S) (px S) G (by rw [Int.gcd_comm];exact hc) ⟨F,by rw [Int.mul_comm,e3,Int.mul_comm]⟩;refine fin d ?_ (by rw [hd,Int.mul_comm])
 have:pz S*F=pz S*(d*px S):=by rw [Int.mul_comm,←e3,hd];grind
 exact Int.eq_of_mul_eq_mul_left hz this
theorem nc {a b:Int} (hd:aS a b≠0) {P:i_} (h:On a b P):4*hp P<=hp (add a P P)+hC a b+3/\hp (add a P P)<=4*hp P+hC a b:=by
 obtain ⟨d,h1,h2,h3,h4⟩:=pg hd h
 have hle:d.natAbs<=4*(aS a b).natAbs:=by
  have:=Int.natAbs_dvd_natAbs.2 h2;rw [Int.natAbs_mul] at this;exact Nat.le_of_dvd (by omega) this
 rcases Int.le_total 0 d with hs | hs
 ·have e:((d.natAbs:Nat):Int)=d:=by omega
  exact yQ (d:=d.natAbs) (gT (cop P)) (by omega) hle (by rw [e];exact h3) (by rw [e];exact h4)
 have e:((d.natAbs:Nat):Int)=-d:=by omega
 have w:=yQ (f:=-px (add a P P)) (g:=-pz (add a P P)) (d:=d.natAbs) (gT (cop P)) (by omega) hle (by rw [e,h3];grind) (by rw [e,h4];grind)
 have eh:hb (-px (add a P P)) (-pz (add a P P))=hp (add a P P):=by unfold hp hb hh;simp
 rw [eh] at w;exact w
def DY (a:Rat):Nat->i_->i_
 | 0,P=>P
 | n+1,P=>add a (DY a n P) (DY a n P)
theorem dk {a b:Rat} (hd:4*a*a*a+27*b*b≠0) {P:i_} (h:On a b P):∀ n,On a b (DY a n P)
 | 0=>h
 | n+1=>dJ hd (dk hd h n) (dk hd h n)
theorem Ax {a b:Rat} (hd:4*a*a*a+27*b*b≠0) {P Q R S:i_} (h1:On a b P) (h2:On a b Q) (h3:On a b R) (h4:On a b S):add a (add a P Q) (add a R S)=add a (add a P R) (add a Q S):=by
 rw [add_assoc hd h1 h2 (dJ hd h3 h4),←add_assoc hd h2 h3 h4,add_comm hd h2 h3,add_assoc hd h3 h2 h4,←add_assoc hd h1 h3 (dJ hd h2 h4)]
theorem nd {a b:Rat} (hd:4*a*a*a+27*b*b≠0) {P Q:i_} (h1:On a b P) (h2:On a b Q):∀ n,DY a n (add a P Q)=add a (DY a n P) (DY a n Q)
 | 0=>rfl
 | n+1=>by
  show add a (DY a n (add a P Q)) (DY a n (add a P Q))=add a (add a _ _) (add a _ _)
  rw [nd hd h1 h2 n,Ax hd (dk hd h1 n) (dk hd h2 n) (dk hd h1 n) (dk hd h2 n)]
theorem sc {a b:Rat} (hd:4*a*a*a+27*b*b≠0) {P:i_} (h1:On a b P):∀ n,DY a n (neg P)=neg (DY a n P)
 | 0=>rfl
 | n+1=>by
  show add a (DY a n (neg P)) (DY a n (neg P))=neg (add a _ _)
  rw [sc hd h1 n,oO hd (dk hd h1 n) (dk hd h1 n)]
theorem wH (a:Rat):∀ n,DY a n O=O
 | 0=>rfl
 | n+1=>by
  show add a (DY a n O) (DY a n O)=O
  rw [wH a n];rfl
def hs (a:Int) (P:i_) (n:Nat):Int:=(hp (DY a n P):Nat)
def Cl (f g:Nat->Int):Prop:=∃ c:Int,∀ n,-c<=f n - g n/\f n - g n<=c
theorem Cl.refl (f:Nat->Int):Cl f f:=⟨0,fun n=>by omega⟩
theorem Cl.symm {f g:Nat->Int} (h:Cl f g):Cl g f:=by
 obtain ⟨c,h⟩:=h;exact ⟨c,fun n=>by have:=h n;omega⟩
theorem Cl.trans {f g k:Nat->Int} (h:Cl f g) (h':Cl g k):Cl f k:=by
 obtain ⟨c,h⟩:=h;obtain ⟨d,h'⟩:=h';exact ⟨c+d,fun n=>by have:=h n;have:=h' n;omega⟩
theorem Cl.add {f g k l:Nat->Int} (h:Cl f g) (h':Cl k l):Cl (fun n=>f n+k n) (fun n=>g n+l n):=by
 obtain ⟨c,h⟩:=h;obtain ⟨d,h'⟩:=h';exact ⟨c+d,fun n=>by have:=h n;have:=h' n;show _<=f n+k n - (g n+l n)/\f n+k n - (g n+l n)<=_;omega⟩
theorem Cl.sub {f g k l:Nat->Int} (h:Cl f g) (h':Cl k l):Cl (fun n=>f n - k n) (fun n=>g n - l n):=by
 obtain ⟨c,h⟩:=h;obtain ⟨d,h'⟩:=h';exact ⟨c+d,fun n=>by have:=h n;have:=h' n;show _<=f n - k n - (g n - l n)/\f n - k n - (g n - l n)<=_;omega⟩
theorem Cl.mul {f g:Nat->Int} (k:Int) (h:Cl f g):Cl (fun n=>k*f n) (fun n=>k*g n):=by
 obtain ⟨c,h⟩:=h;refine ⟨k.natAbs*c,fun n=>?_⟩;have h1:=h n;have:=(Ab.of k).mul (show Ab (f n - g n) c from h1);rw [Int.mul_sub] at this;exact this
theorem Cl.of {f g:Nat->Int} (h:∀ n,f n=g n):Cl f g:=⟨0,fun n=>by rw [h n];omega⟩
theorem Cf (a:Int) (n:Nat):hs a O n=1:=by
 unfold hs;rw [wH]
 decide
theorem BS (a:Int) (P:i_) (n:Nat):1<=hs a P n:=by
 have:=BP (DY a n P);unfold hs;omega
theorem wX {a b:Int} (hd:aS a b≠0) {P:i_} (h:On a b P) (n:Nat):4*hs a P n<=hs a P (n+1)+hC a b+3/\hs a P (n+1)<=4*hs a P n+hC a b:=by
 have:=nc hd (dk (cN hd) h n);unfold hs
 show 4*((hp (DY a n P):Nat):Int)<=((hp (add a (DY a n P) (DY a n P)):Nat):Int)+_+3/\((hp (add a (DY a n P) (DY a n P)):Nat):Int)<=_
 omega
theorem par {a b:Int} (hd:aS a b≠0) {P Q:i_} (h1:On a b P) (h2:On a b Q):Cl (fun n=>hs a (add a P Q) n+hs a (add a P (neg Q)) n) (fun n=>2*hs a P n+2*hs a Q n):=by
 refine ⟨cU a b+hC a b+3,fun n=>?_⟩;have rd:=cN hd;have o1:=dk rd h1 n;have o2:=dk rd h2 n;have k1:=xP hd o1 o2;have k2:=xP hd (dJ rd o1 o2) (dJ rd o1 (cJ o2))
 have e1:add (a:Rat) (add a (DY a n P) (DY a n Q)) (add a (DY a n P) (neg (DY a n Q)))=add a (DY a n P) (DY a n P):=by
  rw [Ax rd o1 o2 o1 (cJ o2),add_comm rd o2 (cJ o2),dC,jo]
 have e2:add (a:Rat) (add a (DY a n P) (DY a n Q)) (neg (add a (DY a n P) (neg (DY a n Q))))=add a (DY a n Q) (DY a n Q):=by
  rw [oO rd o1 (cJ o2),neg_neg,Ax rd o1 o2 (cJ o1) o2,add_comm rd o1 (cJ o1),dC,CN]
 rw [e1,e2] at k2;have w1:=nc hd o1;have w2:=nc hd o2;have e3:DY (a:Rat) n (add a P Q)=_:=nd rd h1 h2 n;have e4:DY (a:Rat) n (add a P (neg Q))=_:=nd rd h1 (cJ h2) n;rw [sc rd h2] at e4;unfold hs;simp only;rw [e3,e4];omega
end i_
end M
namespace M
namespace i_
theorem Cl.div {f g:Nat->Int} {k:Int} (hk:k≠0) (h:Cl (fun n=>k*f n) (fun n=>k*g n)):Cl f g:=by
 obtain ⟨c,h⟩:=h;refine ⟨c,fun n=>?_⟩;have h1:=h n;simp only at h1;rw [←Int.mul_sub] at h1;generalize f n - g n=x at *;have h2:(k*x).natAbs=k.natAbs*x.natAbs:=Int.natAbs_mul _ _;have h3:1*x.natAbs<=k.natAbs*x.natAbs:=Nat.mul_le_mul_right _ (by omega);omega
def pr (a:Int) (P Q:i_) (n:Nat):Int:=hs a (add a P Q) n - hs a P n - hs a Q n
theorem zS {a b:Int} (hd:aS a b≠0) {P Q:i_} (h1:On a b P) (h2:On a b Q) (n:Nat):pr a P Q n=pr a Q P n:=by
 unfold pr;rw [add_comm (cN hd) h1 h2];omega
theorem zR (a:Int) (Q:i_) (n:Nat):pr a O Q n=-1:=by
 unfold pr;rw [Cf]
 show hs a Q n - 1 - hs a Q n=-1
 omega
theorem rg {a b:Int} (hd:aS a b≠0) {P Q R:i_} (h1:On a b P) (h2:On a b Q) (h3:On a b R):Cl (pr a (add a P Q) R) (fun n=>pr a P R n+pr a Q R n):=by
 have rd:=cN hd;have q1:=par hd (dJ rd h1 h2) h3;have q2:=par hd h1 (dJ rd h2 (cJ h3));have q3:=par hd (dJ rd h1 h3) h2;have q4:=par hd h2 h3;have e1:add (a:Rat) (add a P Q) (neg R)=add a P (add a Q (neg R)):=add_assoc rd h1 h2 (cJ h3)
 have e2:add (a:Rat) (add a P R) Q=add a (add a P Q) R:=by rw [add_assoc rd h1 h3 h2,add_comm rd h3 h2,add_assoc rd h1 h2 h3]
 have e3:add (a:Rat) P (neg (add a Q (neg R)))=add a (add a P R) (neg Q):=by
  rw [oO rd h2 (cJ h3),neg_neg,add_comm rd (cJ h2) h3,add_assoc rd h1 h3 (cJ h2)]
 rw [e1] at q1;rw [e3] at q2;rw [e2] at q3;obtain ⟨c1,q1⟩:=q1;obtain ⟨c2,q2⟩:=q2;obtain ⟨c3,q3⟩:=q3;obtain ⟨c4,q4⟩:=q4;refine ⟨c1+c2+c3+2*c4,fun n=>?_⟩;have q1:=q1 n;have q2:=q2 n;have q3:=q3 n;have q4:=q4 n;unfold pr;simp only at *;omega
theorem BQ {a b:Int} (hd:aS a b≠0) {P:i_} (h:On a b P):Cl (hs a (add a P P)) (fun n=>4*hs a P n):=by
 have q:=par hd h h;rw [add_comm (cN hd) h (cJ h),dC] at q;obtain ⟨c,q⟩:=q;refine ⟨c+1,fun n=>?_⟩;have:=q n;simp only at this;rw [Cf] at this
 show _<=hs a (add a P P) n - 4*hs a P n/\hs a (add a P P) n - 4*hs a P n<=_
 omega
theorem zT {a b:Int} (hd:aS a b≠0) {P:i_} (h:On a b P):Cl (pr a P P) (fun n=>2*hs a P n):=by
 obtain ⟨c,q⟩:=BQ hd h;refine ⟨c,fun n=>?_⟩;have:=q n;unfold pr;simp only at *;omega
theorem Bg {a b:Int} (hd:aS a b≠0) {P Q:i_} (h1:On a b P) (h2:On a b Q):Cl (pr a (neg P) Q) (fun n=>-1*pr a P Q n):=by
 have q:=rg hd h1 (cJ h1) h2;rw [add_comm (cN hd) h1 (cJ h1),dC] at q;obtain ⟨c,q⟩:=q;refine ⟨c+1,fun n=>?_⟩;have:=q n;simp only at this;rw [zR] at this;simp only;omega
def mul (a:Rat):Nat->i_->i_
 | 0,_=>O
 | n+1,P=>add a (mul a n P) P
def qs (a:Rat) (z:Int) (P:i_):i_:=if z<0 then mul a z.natAbs (neg P) else mul a z.natAbs P
theorem iZ {a b:Rat} (hd:4*a*a*a+27*b*b≠0) {P:i_} (h:On a b P):∀ n,On a b (mul a n P)
 | 0=>trivial
 | n+1=>dJ hd (iZ hd h n) h
theorem tY {a b:Rat} (hd:4*a*a*a+27*b*b≠0) {P:i_} (h:On a b P) (z:Int):On a b (qs a z P):=by
 unfold qs
 split
 ·exact iZ hd (cJ h) _
 exact iZ hd h _
theorem oZ {a b:Int} (hd:aS a b≠0) {P Q:i_} (h1:On a b P) (h2:On a b Q):∀ k:Nat,Cl (pr a (mul a k P) Q) (fun n=>(k:Int)*pr a P Q n)
 | 0
   => ⟨1,fun n=>by
   show _<=pr a O Q n - _/\pr a O Q n - _<=_
   rw [zR]
   simp⟩
 | k+1=>by
  have ih:=oZ hd h1 h2 k;have:=(rg hd (iZ (cN hd) h1 k) h1 h2).trans (ih.add (Cl.refl (pr a P Q)));refine this.trans (Cl.of fun n=>?_)
  push_cast
  grind
theorem zU {a b:Int} (hd:aS a b≠0) {P Q:i_} (h1:On a b P) (h2:On a b Q) (z:Int):Cl (pr a (qs a z P) Q) (fun n=>z*pr a P Q n):=by
 unfold qs
 split
 ·refine ((oZ hd (cJ h1) h2 _).trans ((Bg hd h1 h2).mul _)).trans (Cl.of fun n=>?_)
  have e:(z.natAbs:Int)=-z:=by omega
  rw [e]
  grind
 refine (oZ hd h1 h2 _).trans (Cl.of fun n=>?_)
 have e:(z.natAbs:Int)=z:=by omega
 rw [e]
theorem xS {a b:Int} (hd:aS a b≠0) {P Q:i_} (h:On a b P) (h2:On a b Q) {k:Nat} (hk:k≠0) (hm:mul a k P=O):Cl (pr a P Q) (fun _=>0):=by
 have q:=oZ hd h h2 k;rw [hm] at q;refine Cl.div (k:=(k:Int)) (by omega) (q.symm.trans ⟨1,fun n=>?_⟩);rw [zR];simp
end i_
end M
end
end Go.Proofs.YtkalaljcbmkbmaaGreat
