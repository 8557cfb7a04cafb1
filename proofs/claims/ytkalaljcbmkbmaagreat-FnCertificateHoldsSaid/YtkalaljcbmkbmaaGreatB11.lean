/-
  Joined texts: contracts and plain lemmas.
-/
import Derived.Test.YtkalaljcbmkbmaaGreatB1
import Derived.Test.YtkalaljcbmkbmaaGreatB10
import Derived.Test.YtkalaljcbmkbmaaGreatB9
set_option linter.unusedSimpArgs false
set_option linter.unusedVariables false
set_option maxRecDepth 100000
set_option maxHeartbeats 8000000
namespace Go.Proofs.YtkalaljcbmkbmaaGreat
section
open Go.RowKit
namespace M
noncomputable def iU (a X1 Y1 E1 X2 Y2 E2:Int):Bool:=if sD X1 Y1 E1 X2 Y2 E2=0 then true else ei (EC a X1 Y1 E1 X2 Y2 E2) (Dz a X1 Y1 E1 X2 Y2 E2) X1 E1 X2 E2
noncomputable def FP (a X1 Y1 E1 X2 Y2 E2:Int):Int:=if sD X1 Y1 E1 X2 Y2 E2=0 then 0 else if ei (EC a X1 Y1 E1 X2 Y2 E2) (Dz a X1 Y1 E1 X2 Y2 E2) X1 E1 X2 E2 then FO (EC a X1 Y1 E1 X2 Y2 E2) (Dz a X1 Y1 E1 X2 Y2 E2) X1 E1 X2 E2 else 0
noncomputable def Fi (a X1 Y1 E1 X2 Y2 E2:Int):Int:=if sD X1 Y1 E1 X2 Y2 E2=0 then 0 else if ei (EC a X1 Y1 E1 X2 Y2 E2) (Dz a X1 Y1 E1 X2 Y2 E2) X1 E1 X2 E2 then G1 (EC a X1 Y1 E1 X2 Y2 E2) (Dz a X1 Y1 E1 X2 Y2 E2) X1 Y1 E1 X2 E2 else 0
noncomputable def Ev (a X1 Y1 E1 X2 Y2 E2:Int):Int:=if sD X1 Y1 E1 X2 Y2 E2=0 then 0 else if ei (EC a X1 Y1 E1 X2 Y2 E2) (Dz a X1 Y1 E1 X2 Y2 E2) X1 E1 X2 E2 then EJ (EC a X1 Y1 E1 X2 Y2 E2) (Dz a X1 Y1 E1 X2 Y2 E2) X1 E1 X2 E2 else 0
theorem AJ (n d X1 E1 X2 E2:Int):n*n*(E1*E1)*(E2*E2) - X1*d*d*(E2*E2) - X2*d*d*(E1*E1)=top n d X1 E1 X2 E2:=by unfold top;grind
theorem ya (d E1 E2:Int):d*d*(E1*E1)*(E2*E2)=bot d E1 E2:=by unfold bot;grind
theorem tR {Y:Int} (h:Y*Y<=4000000000000):-2000000<=Y/\Y<=2000000:=by
 refine ⟨Int.not_lt.1 fun q=>?_,Int.not_lt.1 fun q=>?_⟩
 ·have:=Int.mul_le_mul_of_nonneg_left (show (2000001:Int)<=-Y by omega) (show 0<=-Y by omega)
  have e:-Y*-Y=Y*Y:=Int.neg_mul_neg Y Y;rw [e] at this;omega
 have:=Int.mul_le_mul_of_nonneg_left (show (2000001:Int)<=Y by omega) (show 0<=Y by omega);omega
theorem fQ {x b:Int} (hx:0<=x) (hb:0<b):0<=x.tdiv b/\x.tdiv b<=x:=by
 rw [Int.tdiv_eq_ediv_of_nonneg hx];exact ⟨Int.ediv_nonneg hx (by omega),Int.ediv_le_self _ hx⟩
end M
theorem rh (a b X1 Y1 E1 X2 Y2 E2:Int) (w:World) (ha1:-1000<=a) (ha2:a<=1000) (hx1:-10000<=X1) (hx2:X1<=10000) (hy1:-3000000<=Y1) (hy2:Y1<=3000000) (he1:1<=E1) (he2:E1<=20) (hx3:-10000<=X2) (hx4:X2<=10000) (hy3:-3000000<=Y2) (hy4:Y2<=3000000) (FE:1<=E2) (Fj:E2<=20) (hb1:-10000<=b) (hb2:b<=10000) (hc1:Y1*Y1=M.cv a b X1 E1) (hc2:Y2*Y2=M.cv a b X2 E2) :
  Calls Tryz.prog 55 #[.agg #[a,b],.agg #[X1,Y1,E1],.agg #[X2,Y2,E2]] w fun e w'=>e=.returned (.tuple #[.agg #[M.FP a X1 Y1 E1 X2 Y2 E2,M.Fi a X1 Y1 E1 X2 Y2 E2,M.Ev a X1 Y1 E1 X2 Y2 E2],M.iU a X1 Y1 E1 X2 Y2 E2])/\Below w.heap.size w w':=by
 have PS:=fun W=>ub a b X1 Y1 E1 X2 Y2 E2 W ha1 ha2 hx1 hx2 hy1 hy2 he1 he2 hx3 hx4 hy3 hy4 FE Fj
 have hE1:(E1 == 0)=false:=by rw [beq_eq_false_iff_ne];omega
 have hE2:(E2 == 0)=false:=by rw [beq_eq_false_iff_ne];omega
 by_cases h0:M.sD X1 Y1 E1 X2 Y2 E2=0
 ·have e1:M.EC a X1 Y1 E1 X2 Y2 E2=1:=if_pos h0
  have e2:M.Dz a X1 Y1 E1 X2 Y2 E2=0:=if_pos h0;have hf:=DB (show M.FP a X1 Y1 E1 X2 Y2 E2=0/\M.Fi a X1 Y1 E1 X2 Y2 E2=0/\M.Ev a X1 Y1 E1 X2 Y2 E2=0/\M.iU a X1 Y1 E1 X2 Y2 E2=true from ⟨if_pos h0,if_pos h0,if_pos h0,if_pos h0⟩);rw [e1,e2] at PS;rw [hf.out.1,hf.out.2.1,hf.out.2.2.1,hf.out.2.2.2];clear e1 e2 hf h0 hc1 hc2;have PS:=DB PS;obtain ⟨wc,hw3,C,Q,U,R,B⟩:=di w #[a,b] 25 #[X1,Y1,E1] 40 #[X2,Y2,E2] 40 #[(0:Int),(0:Int),(0:Int)] 40;have ⟨q0,q1,q2⟩:=Q.aO;have ⟨u0,u1,u2⟩:=U.aO;have e_:=C.box.c0;have f_:=C.box.c1;have ⟨r0,r1,r2⟩:=R.aO;go_enter Tryz.func55,Tryz.ntmps55
  go_wp2_with (go_at_call 98;(with_reducible refine (PS.out _).mono ?_);rintro e w4 ⟨rfl,hb4⟩;replace B:=d_ B hb4;replace R:=R.keep hb4;(obtain ⟨r0,r1,r2⟩:=R.aO);have f0:=R.DJ 0;have f1:=R.DJ 1;have f2:=R.DJ 2;have rl:=R.lt)
  exact bodyPost_ret (v:=.tuple #[.agg #[(0:Int),(0:Int),(0:Int)],true]) (by simp [results,Tryz.results55,go_sem, *]) rfl (⟨rfl,EW B⟩)
 have hsb:=M.Bu (a:=a) ha1 ha2 hx1 hx2 hy1 hy2 he1 he2 hx3 hx4 hy3 hy4 FE Fj;obtain ⟨hs,hd0,hg,hn,hdd⟩:=M.tO (a:=a) h0
 have g1:=show M.FP a X1 Y1 E1 X2 Y2 E2=_ from if_neg h0
 have g2:=show M.Fi a X1 Y1 E1 X2 Y2 E2=_ from if_neg h0
 have g3:=show M.Ev a X1 Y1 E1 X2 Y2 E2=_ from if_neg h0
 have g4:=show M.iU a X1 Y1 E1 X2 Y2 E2=_ from if_neg h0
 rw [g1,g2,g3,g4];clear g1 g2 g3 g4;generalize M.Dz a X1 Y1 E1 X2 Y2 E2=d,M.EC a X1 Y1 E1 X2 Y2 E2=n at *
 have hn1:-200000000000<=n/\n<=200000000000:=by omega
 have hd1:d<=200000000000:=by omega
 have hbd:=fun (k:M.ei n d X1 E1 X2 E2=true)=>M.pP (n:=n) (m:=d) (by omega) he1 he2 FE Fj hx2 hx4 hg k
 have Fb:=fun (k:M.ei n d X1 E1 X2 E2=true)=>M.CP hc1 hc2 (by omega) (by omega) (by omega) hs h0 k
 have hii:=fun (k:M.ei n d X1 E1 X2 E2=true)=>M.sK (by omega) (by omega) (by omega) k
 clear hsb hn hdd hs h0 hc1 hc2 hg
 by_cases hbig:8000<d∨200*d<(n.natAbs:Int)
 ·have hk:M.ei n d X1 E1 X2 E2=false:=by
   cases hq:M.ei n d X1 E1 X2 E2
   ·rfl
   have:=hbd hq;omega
  rw [hk];clear hbd Fb hii hk;have hz:=DB (show (if false=true then M.FO n d X1 E1 X2 E2 else 0)=0/\(if false=true then M.G1 n d X1 Y1 E1 X2 E2 else 0)=0/\(if false=true then M.EJ n d X1 E1 X2 E2 else 0)=0 from ⟨rfl,rfl,rfl⟩);rw [hz.out.1,hz.out.2.1,hz.out.2.2];clear hz
  have PA:=fun W=>dH n W (by omega) (by omega)
  have hh:decide (200*d<(n.natAbs:Int))=true∨8000<d:=by rcases hbig with h | h;exact Or.inr h;exact Or.inl (decide_eq_true h)
  have hnn:(n.natAbs:Int)<=200000000000:=by omega
  generalize (n.natAbs:Int)=na at *;have PS:=DB PS;have PA:=DB PA;obtain ⟨wc,hw3,C,Q,U,R,B⟩:=di w #[a,b] 25 #[X1,Y1,E1] 40 #[X2,Y2,E2] 40 #[(0:Int),(0:Int),(0:Int)] 40;have ⟨q0,q1,q2⟩:=Q.aO;have ⟨u0,u1,u2⟩:=U.aO;have e_:=C.box.c0;have f_:=C.box.c1;have ⟨r0,r1,r2⟩:=R.aO
  by_cases h8:8000<d
  ·clear hh hbig
   go_enter Tryz.func55,Tryz.ntmps55
   go_wp2_with first | (go_at_call 98;(with_reducible refine (PS.out _).mono ?_);rintro e w4 ⟨rfl,hb4⟩;replace B:=d_ B hb4;replace R:=R.keep hb4;(obtain ⟨r0,r1,r2⟩:=R.aO);have f0:=R.DJ 0;have f1:=R.DJ 1;have f2:=R.DJ 2;have rl:=R.lt) | (go_at_call 53;(with_reducible refine (PA.out _).mono ?_);rintro e w5 ⟨rfl,rfl⟩)
   exact bodyPost_ret (v:=.tuple #[.agg #[(0:Int),(0:Int),(0:Int)],false]) (by simp [results,Tryz.results55,go_sem, *]) rfl (⟨rfl,EW B⟩)
  have h9:200*d<na:=by omega
  clear hh hbig;go_enter Tryz.func55,Tryz.ntmps55
  go_wp2_with first | (go_at_call 98;(with_reducible refine (PS.out _).mono ?_);rintro e w4 ⟨rfl,hb4⟩;replace B:=d_ B hb4;replace R:=R.keep hb4;(obtain ⟨r0,r1,r2⟩:=R.aO);have f0:=R.DJ 0;have f1:=R.DJ 1;have f2:=R.DJ 2;have rl:=R.lt) | (go_at_call 53;(with_reducible refine (PA.out _).mono ?_);rintro e w5 ⟨rfl,rfl⟩)
  exact bodyPost_ret (v:=.tuple #[.agg #[(0:Int),(0:Int),(0:Int)],false]) (by simp [results,Tryz.results55,go_sem, *]) rfl (⟨rfl,EW B⟩)
 have ML:d<=8000:=by omega
 have hn8:-1600000<=n/\n<=1600000:=by omega
 have hna:(n.natAbs:Int)<=200*d:=by omega
 have PA:=fun W=>dH n W (by omega) (by omega)
 have hnn:(n.natAbs:Int)<=1600000:=by omega
 have sb1:=M.aH (x:=n) (y:=n) (m:=1600000) (n:=1600000);have Md:=M.aH (x:=E1) (y:=E1) (m:=20) (n:=20);have Me:=M.aH (x:=n*n) (y:=E1*E1) (m:=2560000000000) (n:=400);have Mf:=M.aH (x:=E2) (y:=E2) (m:=20) (n:=20);have Mg:=M.aH (x:=n*n*(E1*E1)) (y:=E2*E2) (m:=1024000000000000) (n:=400);have Mh:=M.aH (x:=X1) (y:=d) (m:=10000) (n:=8000);have Mi:=M.aH (x:=X1*d) (y:=d) (m:=80000000) (n:=8000);have Mj:=M.aH (x:=X1*d*d) (y:=E2*E2) (m:=640000000000) (n:=400);have Mk:=M.aH (x:=X2) (y:=d) (m:=10000) (n:=8000);have IF:=M.aH (x:=X2*d) (y:=d) (m:=80000000) (n:=8000);have IG:=M.aH (x:=X2*d*d) (y:=E1*E1) (m:=640000000000) (n:=400);have IH:=M.aH (x:=d) (y:=d) (m:=8000) (n:=8000);have II:=M.aH (x:=d*d) (y:=E1*E1) (m:=64000000) (n:=400);have IJ:=M.aH (x:=d*d*(E1*E1)) (y:=E2*E2) (m:=25600000000) (n:=400);have ht:n*n*(E1*E1)*(E2*E2) - X1*d*d*(E2*E2) - X2*d*d*(E1*E1)=M.top n d X1 E1 X2 E2:=M.AJ ..;have hb:d*d*(E1*E1)*(E2*E2)=M.bot d E1 E2:=M.ya ..;have hbp:0<M.bot d E1 E2:=M.kG (by omega) (by omega) (by omega)
 have PE:=fun W=>iv (n*n*(E1*E1)*(E2*E2) - X1*d*d*(E2*E2) - X2*d*d*(E1*E1)) (d*d*(E1*E1)*(E2*E2)) W (by omega) (by omega) (by omega) (by omega) (by omega)
 have hpx:b9 (n*n*(E1*E1)*(E2*E2) - X1*d*d*(E2*E2) - X2*d*d*(E1*E1)) (d*d*(E1*E1)*(E2*E2))=M.FO n d X1 E1 X2 E2:=by rw [ht,hb];rfl
 have MP:bK (n*n*(E1*E1)*(E2*E2) - X1*d*d*(E2*E2) - X2*d*d*(E1*E1)) (d*d*(E1*E1)*(E2*E2))=bK (M.top n d X1 E1 X2 E2) (M.bot d E1 E2):=by rw [ht,hb]
 rw [hpx,MP] at PE;have hF:=M.iD (t:=M.top n d X1 E1 X2 E2) (b:=M.bot d E1 E2) (by omega);have hF0:=(M.ge (t:=M.top n d X1 E1 X2 E2) (b:=M.bot d E1 E2) (by omega)).2.1;have hxs:(M.FO n d X1 E1 X2 E2).natAbs<=(M.top n d X1 E1 X2 E2).natAbs:=hF.1;have hR:=M.iF (show 0<=bK (M.top n d X1 E1 X2 E2) (M.bot d E1 E2) by omega)
 have PR:=fun W=>wO (bK (M.top n d X1 E1 X2 E2) (M.bot d E1 E2)) W (by omega) (by omega)
 have hre:M.root (bK (M.top n d X1 E1 X2 E2) (M.bot d E1 E2))=M.EJ n d X1 E1 X2 E2:=rfl;rw [hre] at PR hR;have hok:M.ei n d X1 E1 X2 E2=(decide (M.EJ n d X1 E1 X2 E2*M.EJ n d X1 E1 X2 E2=bK (M.top n d X1 E1 X2 E2) (M.bot d E1 E2)) && decide (M.EJ n d X1 E1 X2 E2<=20) && M.ins (M.FO n d X1 E1 X2 E2) (-10000) 10000):=rfl
 have PI:=fun W=>dl (M.FO n d X1 E1 X2 E2) (-10000) 10000 W
 have hF1:bK (M.top n d X1 E1 X2 E2) (M.bot d E1 E2)<=11000000000000:=by omega
 have hF2:M.EJ n d X1 E1 X2 E2*M.EJ n d X1 E1 X2 E2<=11000000000000:=Int.le_trans hR.2.1 hF1;clear hF hF0 hxs hre hbp hpx MP ht hb hbd hna;generalize MV:M.FO n d X1 E1 X2 E2=x at *;generalize hee:M.EJ n d X1 E1 X2 E2=e at *;generalize bK (M.top n d X1 E1 X2 E2) (M.bot d E1 E2)=F at *;obtain ⟨R0,R1,R2⟩:=hR;clear R2;have R3:0<=e*e:=Int.mul_nonneg R0 R0;have PS:=DB PS;have PA:=DB PA;have PE:=DB PE;have PR:=DB PR;generalize (n.natAbs:Int)=na at *;have hfz:=DB (show (if false=true then x else 0)=0/\(if false=true then M.G1 n d X1 Y1 E1 X2 E2 else 0)=0/\(if false=true then e else 0)=0 from ⟨rfl,rfl,rfl⟩)
 by_cases c1:e*e=F
 ·subst c1
  clear R1 hF1;have R4:=hF2
  by_cases c2:e<=20
  ·cases c3:M.ins x (-10000) 10000
   ·have hk:M.ei n d X1 E1 X2 E2=false:=by rw [hok,c3,Bool.and_false]
    rw [hk,hfz.out.1,hfz.out.2.1,hfz.out.2.2];clear hk hfz hok Fb hii;rw [c3] at PI;have PI:=DB PI;obtain ⟨wc,hw3,C,Q,U,R,B⟩:=di w #[a,b] 25 #[X1,Y1,E1] 40 #[X2,Y2,E2] 40 #[(0:Int),(0:Int),(0:Int)] 40;have ⟨q0,q1,q2⟩:=Q.aO;have ⟨u0,u1,u2⟩:=U.aO;have e_:=C.box.c0;have f_:=C.box.c1;have ⟨r0,r1,r2⟩:=R.aO;go_enter Tryz.func55,Tryz.ntmps55
    go_wp2_with first | (go_at_call 98;(with_reducible refine (PS.out _).mono ?_);rintro e w4 ⟨rfl,hb4⟩;replace B:=d_ B hb4;replace R:=R.keep hb4;replace Q:=Q.keep hb4;replace U:=U.keep hb4;replace C:=C.keep hb4;(obtain ⟨q0,q1,q2⟩:=Q.aO);(obtain ⟨u0,u1,u2⟩:=U.aO);(obtain ⟨r0,r1,r2⟩:=R.aO);have f0:=R.DJ 0;have f1:=R.DJ 1;have f2:=R.DJ 2;have rl:=R.lt) | (go_at_call 53;(with_reducible refine (PA.out _).mono ?_);rintro e w5 ⟨rfl,rfl⟩)
    go_region
    all_goals
     go_wp2_with first | (go_at_call 99;(with_reducible refine (PE.out _).mono ?_);rintro e w6 ⟨rfl,hb6⟩;replace B:=B.trans ((aN (DE w4.heap.size w4) 1).mono B.size);replace R:=R.drew;replace Q:=Q.drew;replace U:=U.drew;replace C:=C.drew;replace B:=d_ B hb6;replace R:=R.keep hb6;replace Q:=Q.keep hb6;replace U:=U.keep hb6;replace C:=C.keep hb6;(obtain ⟨q0,q1,q2⟩:=Q.aO);(obtain ⟨u0,u1,u2⟩:=U.aO);(obtain ⟨r0,r1,r2⟩:=R.aO);have f0:=R.DJ 0;have f1:=R.DJ 1;have f2:=R.DJ 2;have rl:=R.lt) | (go_at_call 97;(with_reducible refine (PR.out _).mono ?_);rintro e w7 ⟨rfl,rfl⟩) | (go_at_call 35;(with_reducible refine (PI.out _).mono ?_);rintro e w8 ⟨rfl,rfl⟩)
     exact bodyPost_ret (v:=.tuple #[.agg #[(0:Int),(0:Int),(0:Int)],false]) (by simp [results,Tryz.results55,go_sem, *]) rfl (⟨rfl,EW B⟩)
   have hk:M.ei n d X1 E1 X2 E2=true:=by rw [hok,c3,decide_eq_true c2,decide_eq_true rfl];rfl
   rw [c3] at PI;have PI:=DB PI;clear hok;obtain ⟨i1,i2,i3,i4,i5,i6⟩:=hii hk;obtain ⟨y1,y2⟩:=Fb hk;rw [hk];have hft:=DB (show (if true=true then x else 0)=x/\(if true=true then M.G1 n d X1 Y1 E1 X2 E2 else 0)=M.G1 n d X1 Y1 E1 X2 E2/\(if true=true then e else 0)=e from ⟨rfl,rfl,rfl⟩);rw [hft.out.1,hft.out.2.1,hft.out.2.2];clear hft hfz Fb hii hk i5 i6;generalize M.G1 n d X1 Y1 E1 X2 E2=Y at *;have hcv:=M.pf (a:=a) (b:=b) (x:=x) (e:=e) ha1 ha2 hb1 hb2 i3 i4 (by omega) i2;have hYb:-2000000<=Y/\Y<=2000000:=M.tR (by omega);clear hcv y2;have IK:=M.aH (x:=X1) (y:=e) (m:=10000) (n:=20);have IL:=M.aH (x:=X1*e) (y:=e) (m:=200000) (n:=20);have Ju:=M.aH (x:=x) (y:=E1*E1) (m:=10000) (n:=400);have Jv:=M.aH (x:=n) (y:=X1*e*e - x*(E1*E1)) (m:=1600000) (n:=8000000);have Jw:=M.aH (x:=d) (y:=E1*E1) (m:=8000) (n:=400);have Jx:=M.aH (x:=d*(E1*E1)) (y:=e) (m:=3200000) (n:=20);have Jy:=M.aH (x:=d*(E1*E1)*e) (y:=e) (m:=64000000) (n:=20);have p1:0<d*(E1*E1)*e*e:=Int.mul_pos (Int.mul_pos (Int.mul_pos hd0 (Int.mul_pos (by omega) (by omega))) (by omega)) (by omega)
   have P2:=fun W=>iv (n*(X1*e*e - x*(E1*E1))) (d*(E1*E1)*e*e) W (by omega) (by omega) (by omega) (by omega) (by omega)
   have s1:=M.iD (t:=n*(X1*e*e - x*(E1*E1))) (b:=d*(E1*E1)*e*e) (by omega);have a1:=M.ge (t:=n*(X1*e*e - x*(E1*E1))) (b:=d*(E1*E1)*e*e) (by omega);generalize bK (n*(X1*e*e - x*(E1*E1))) (d*(E1*E1)*e*e)=under,b9 (n*(X1*e*e - x*(E1*E1))) (d*(E1*E1)*e*e)=up at *
   have s2:-12800000000000<=up/\up<=12800000000000:=by omega
   have s3:under<=1280000000:=by omega
   obtain ⟨a1,a2,a3⟩:=a1;clear s1 a3;have Jz:=M.aH (x:=up) (y:=E1*E1) (m:=12800000000000) (n:=400);have J0:=M.aH (x:=up*(E1*E1)) (y:=E1) (m:=5120000000000000) (n:=20);have J1:=M.aH (x:=Y1) (y:=under) (m:=3000000) (n:=1280000000);have J2:=M.aH (x:=under) (y:=E1*E1) (m:=1280000000) (n:=400);have J3:=M.aH (x:=under*(E1*E1)) (y:=E1) (m:=512000000000) (n:=20);have p2:0<under*(E1*E1)*E1:=Int.mul_pos (Int.mul_pos a2 (Int.mul_pos (by omega) (by omega))) (by omega)
   have P3:=fun W=>iv (up*(E1*E1)*E1 - Y1*under) (under*(E1*E1)*E1) W (by omega) (by omega) (by omega) (by omega) (by omega)
   have s1:=M.iD (t:=up*(E1*E1)*E1 - Y1*under) (b:=under*(E1*E1)*E1) (by omega);have a3:=M.ge (t:=up*(E1*E1)*E1 - Y1*under) (b:=under*(E1*E1)*E1) (by omega);generalize bK (up*(E1*E1)*E1 - Y1*under) (under*(E1*E1)*E1)=bottom,b9 (up*(E1*E1)*E1 - Y1*under) (under*(E1*E1)*E1)=y at *;obtain ⟨a3,a4,a5⟩:=a3;have hY:=M.Cy hd0 (by omega) (by omega) y1 a1 a2 a3 a4 a5
   have s4:bottom<=10240000000000:=by omega
   clear a1 a3 a5 y1 s1;have J4:=M.aH (x:=e) (y:=e) (m:=20) (n:=20);have Lm:=M.aH (x:=e*e) (y:=e) (m:=400) (n:=20);have ee:0<=e*e*e:=Int.mul_nonneg R3 R0;have hq:=M.fQ ee a4
   have hb0:bottom≠0:=by omega
   have hb1_:(bottom == 0)=false:=by rw [beq_eq_false_iff_ne];omega
   have P2:=DB P2;have P3:=DB P3;have hY:=DB hY
   have hyb2:-2000000<=y*(e*e*e).tdiv bottom/\y*(e*e*e).tdiv bottom<=2000000:=by rw [hY.out];exact hYb
   obtain ⟨wc,hw3,C,Q,U,R,B⟩:=di w #[a,b] 25 #[X1,Y1,E1] 40 #[X2,Y2,E2] 40 #[(0:Int),(0:Int),(0:Int)] 40;have ⟨q0,q1,q2⟩:=Q.aO;have ⟨u0,u1,u2⟩:=U.aO;have e_:=C.box.c0;have f_:=C.box.c1;have ⟨r0,r1,r2⟩:=R.aO;go_enter Tryz.func55,Tryz.ntmps55
   go_wp2_with first | (go_at_call 98;(with_reducible refine (PS.out _).mono ?_);rintro e w4 ⟨rfl,hb4⟩;replace B:=d_ B hb4;replace R:=R.keep hb4;replace Q:=Q.keep hb4;replace U:=U.keep hb4;replace C:=C.keep hb4;(obtain ⟨q0,q1,q2⟩:=Q.aO);(obtain ⟨u0,u1,u2⟩:=U.aO);(obtain ⟨r0,r1,r2⟩:=R.aO);have f0:=R.DJ 0;have f1:=R.DJ 1;have f2:=R.DJ 2;have rl:=R.lt) | (go_at_call 53;(with_reducible refine (PA.out _).mono ?_);rintro e w5 ⟨rfl,rfl⟩)
   go_region
   all_goals
    go_wp2_with first | (go_at_call 99;(with_reducible refine (PE.out _).mono ?_);rintro e w6 ⟨rfl,hb6⟩;replace B:=B.trans ((aN (DE w4.heap.size w4) 1).mono B.size);replace R:=R.drew;replace Q:=Q.drew;replace U:=U.drew;replace C:=C.drew;replace B:=d_ B hb6;replace R:=R.keep hb6;replace Q:=Q.keep hb6;replace U:=U.keep hb6;replace C:=C.keep hb6;(obtain ⟨q0,q1,q2⟩:=Q.aO);(obtain ⟨u0,u1,u2⟩:=U.aO);(obtain ⟨r0,r1,r2⟩:=R.aO);have f0:=R.DJ 0;have f1:=R.DJ 1;have f2:=R.DJ 2;have rl:=R.lt) | (go_at_call 97;(with_reducible refine (PR.out _).mono ?_);rintro e w7 ⟨rfl,rfl⟩) | (go_at_call 35;(with_reducible refine (PI.out _).mono ?_);rintro e w8 ⟨rfl,rfl⟩) | (go_at_call 99;(with_reducible refine (P2.out _).mono ?_);rintro e w9 ⟨rfl,DP⟩;replace B:=d_ B DP;replace R:=R.keep DP;replace Q:=Q.keep DP;replace U:=U.keep DP;replace C:=C.keep DP;(obtain ⟨q0,q1,q2⟩:=Q.aO);(obtain ⟨u0,u1,u2⟩:=U.aO);(obtain ⟨r0,r1,r2⟩:=R.aO);have f0:=R.DJ 0;have f1:=R.DJ 1;have f2:=R.DJ 2;have rl:=R.lt) | (go_at_call 99;(with_reducible refine (P3.out _).mono ?_);rintro e wa ⟨rfl,hba⟩;replace B:=d_ B hba;replace R:=R.keep hba;replace Q:=Q.keep hba;replace U:=U.keep hba;replace C:=C.keep hba;(obtain ⟨q0,q1,q2⟩:=Q.aO);(obtain ⟨u0,u1,u2⟩:=U.aO);(obtain ⟨r0,r1,r2⟩:=R.aO);have f0:=R.DJ 0;have f1:=R.DJ 1;have f2:=R.DJ 2;have rl:=R.lt)
    exact bodyPost_ret (v:=.tuple #[.agg #[x,(y*(e*e*e).tdiv bottom:Int),e],true]) (by simp [results,Tryz.results55,go_sem, *]) rfl (⟨by rw [hY.out],EW B⟩)
  have hk:M.ei n d X1 E1 X2 E2=false:=by rw [hok,decide_eq_false c2,Bool.and_false];rfl
  rw [hk,hfz.out.1,hfz.out.2.1,hfz.out.2.2];clear hk hfz hok Fb hii;have PI:=DB PI
  have c4:20<e:=by omega
  clear c2;obtain ⟨wc,hw3,C,Q,U,R,B⟩:=di w #[a,b] 25 #[X1,Y1,E1] 40 #[X2,Y2,E2] 40 #[(0:Int),(0:Int),(0:Int)] 40;have ⟨q0,q1,q2⟩:=Q.aO;have ⟨u0,u1,u2⟩:=U.aO;have e_:=C.box.c0;have f_:=C.box.c1;have ⟨r0,r1,r2⟩:=R.aO;go_enter Tryz.func55,Tryz.ntmps55
  go_wp2_with first | (go_at_call 98;(with_reducible refine (PS.out _).mono ?_);rintro e w4 ⟨rfl,hb4⟩;replace B:=d_ B hb4;replace R:=R.keep hb4;replace Q:=Q.keep hb4;replace U:=U.keep hb4;replace C:=C.keep hb4;(obtain ⟨q0,q1,q2⟩:=Q.aO);(obtain ⟨u0,u1,u2⟩:=U.aO);(obtain ⟨r0,r1,r2⟩:=R.aO);have f0:=R.DJ 0;have f1:=R.DJ 1;have f2:=R.DJ 2;have rl:=R.lt) | (go_at_call 53;(with_reducible refine (PA.out _).mono ?_);rintro e w5 ⟨rfl,rfl⟩)
  go_region
  all_goals
   go_wp2_with first | (go_at_call 99;(with_reducible refine (PE.out _).mono ?_);rintro e w6 ⟨rfl,hb6⟩;replace B:=B.trans ((aN (DE w4.heap.size w4) 1).mono B.size);replace R:=R.drew;replace Q:=Q.drew;replace U:=U.drew;replace C:=C.drew;replace B:=d_ B hb6;replace R:=R.keep hb6;replace Q:=Q.keep hb6;replace U:=U.keep hb6;replace C:=C.keep hb6;(obtain ⟨q0,q1,q2⟩:=Q.aO);(obtain ⟨u0,u1,u2⟩:=U.aO);(obtain ⟨r0,r1,r2⟩:=R.aO);have f0:=R.DJ 0;have f1:=R.DJ 1;have f2:=R.DJ 2;have rl:=R.lt) | (go_at_call 97;(with_reducible refine (PR.out _).mono ?_);rintro e w7 ⟨rfl,rfl⟩) | (go_at_call 35;(with_reducible refine (PI.out _).mono ?_);rintro e w8 ⟨rfl,rfl⟩)
   exact bodyPost_ret (v:=.tuple #[.agg #[(0:Int),(0:Int),(0:Int)],false]) (by simp [results,Tryz.results55,go_sem, *]) rfl (⟨rfl,EW B⟩)
 have hk:M.ei n d X1 E1 X2 E2=false:=by rw [hok,decide_eq_false c1];rfl
 rw [hk,hfz.out.1,hfz.out.2.1,hfz.out.2.2];clear hk hfz hok Fb hii;have PI:=DB PI;have c1b:(e*e == F)=false:=beq_eq_false_iff_ne.2 c1
 have c1c:(e*e != F)=true:=by simp [c1]
 obtain ⟨wc,hw3,C,Q,U,R,B⟩:=di w #[a,b] 25 #[X1,Y1,E1] 40 #[X2,Y2,E2] 40 #[(0:Int),(0:Int),(0:Int)] 40;have ⟨q0,q1,q2⟩:=Q.aO;have ⟨u0,u1,u2⟩:=U.aO;have e_:=C.box.c0;have f_:=C.box.c1;have ⟨r0,r1,r2⟩:=R.aO;go_enter Tryz.func55,Tryz.ntmps55
 go_wp2_with first | (go_at_call 98;(with_reducible refine (PS.out _).mono ?_);rintro e w4 ⟨rfl,hb4⟩;replace B:=d_ B hb4;replace R:=R.keep hb4;replace Q:=Q.keep hb4;replace U:=U.keep hb4;replace C:=C.keep hb4;(obtain ⟨q0,q1,q2⟩:=Q.aO);(obtain ⟨u0,u1,u2⟩:=U.aO);(obtain ⟨r0,r1,r2⟩:=R.aO);have f0:=R.DJ 0;have f1:=R.DJ 1;have f2:=R.DJ 2;have rl:=R.lt) | (go_at_call 53;(with_reducible refine (PA.out _).mono ?_);rintro e w5 ⟨rfl,rfl⟩)
 go_region
 all_goals
  go_wp2_with first | (go_at_call 99;(with_reducible refine (PE.out _).mono ?_);rintro e w6 ⟨rfl,hb6⟩;replace B:=B.trans ((aN (DE w4.heap.size w4) 1).mono B.size);replace R:=R.drew;replace Q:=Q.drew;replace U:=U.drew;replace C:=C.drew;replace B:=d_ B hb6;replace R:=R.keep hb6;replace Q:=Q.keep hb6;replace U:=U.keep hb6;replace C:=C.keep hb6;(obtain ⟨q0,q1,q2⟩:=Q.aO);(obtain ⟨u0,u1,u2⟩:=U.aO);(obtain ⟨r0,r1,r2⟩:=R.aO);have f0:=R.DJ 0;have f1:=R.DJ 1;have f2:=R.DJ 2;have rl:=R.lt) | (go_at_call 97;(with_reducible refine (PR.out _).mono ?_);rintro e w7 ⟨rfl,rfl⟩) | (go_at_call 35;(with_reducible refine (PI.out _).mono ?_);rintro e w8 ⟨rfl,rfl⟩)
  exact bodyPost_ret (v:=.tuple #[.agg #[(0:Int),(0:Int),(0:Int)],false]) (by simp [results,Tryz.results55,go_sem, *]) rfl (⟨rfl,EW B⟩)
end
section
namespace M
theorem tA {a b X1 Y1 E1 X2 Y2 E2:Int} (h1:Y1*Y1=cv a b X1 E1) (h2:Y2*Y2=cv a b X2 E2) (he1:1<=E1) (he2:1<=E2) (g1:Int.gcd X1 E1=1) (g2:Int.gcd X2 E2=1):sD X1 Y1 E1 X2 Y2 E2=0 ↔ X1=X2/\Y1=-Y2/\E1=E2:=by
 have p1:0<E1*E1:=Int.mul_pos (by omega) (by omega);have p2:0<E2*E2:=Int.mul_pos (by omega) (by omega);unfold sD
 split
 ·rename_i h
  obtain ⟨rfl,rfl,rfl⟩:=h
  constructor
  ·intro h
   have:2*Y1=0:=(Int.mul_eq_zero.1 h).resolve_right (by omega);exact ⟨rfl,by omega,rfl⟩
  intro h
  have:Y1=0:=by omega
  rw [this];simp
 rename_i h
 constructor
 ·intro k
  have k1:X2*E1*E1 - X1*E2*E2=0:=(Int.mul_eq_zero.1 k).resolve_left (Int.mul_ne_zero (by omega) (by omega));have q1:=oX (b:=E1*E1) (t:=X1) p1 p1 (nu.2 g1) (Int.mul_comm _ _);have q2:=oX (b:=E1*E1) (t:=X1) p1 p2 (nu.2 g2) (show E1*E1*X2=X1*(E2*E2) by clear h1 h2 h;grind);have hX:X1=X2:=q1.1.symm.trans q2.1;have hE2:E1*E1=E2*E2:=q1.2.symm.trans q2.2
  have hE:E1=E2:=by
   have e:(E1 - E2)*(E1+E2)=0:=by clear h1 h2 h;grind
   have:=(Int.mul_eq_zero.1 e).resolve_right (by omega);omega
  subst hX;subst hE
  have e:(Y1 - Y2)*(Y1+Y2)=0:=by rw [←h2] at h1;clear h2 h;grind
  rcases Int.mul_eq_zero.1 e with q | q
  ·exact absurd ⟨rfl,by omega,rfl⟩ h
  exact ⟨rfl,by omega,rfl⟩
 rintro ⟨rfl,-,rfl⟩;simp
theorem Cq {a X1 Y1 E1 X2 Y2 E2:Int} (h:sD X1 Y1 E1 X2 Y2 E2≠0):((sN a X1 Y1 E1 X2 Y2 E2).tdiv (M.gcd (sN a X1 Y1 E1 X2 Y2 E2) (sD X1 Y1 E1 X2 Y2 E2))=EC a X1 Y1 E1 X2 Y2 E2/\(sD X1 Y1 E1 X2 Y2 E2).tdiv (M.gcd (sN a X1 Y1 E1 X2 Y2 E2) (sD X1 Y1 E1 X2 Y2 E2))=Dz a X1 Y1 E1 X2 Y2 E2)∨((sN a X1 Y1 E1 X2 Y2 E2).tdiv (M.gcd (sN a X1 Y1 E1 X2 Y2 E2) (sD X1 Y1 E1 X2 Y2 E2))=-EC a X1 Y1 E1 X2 Y2 E2/\(sD X1 Y1 E1 X2 Y2 E2).tdiv (M.gcd (sN a X1 Y1 E1 X2 Y2 E2) (sD X1 Y1 E1 X2 Y2 E2))=-Dz a X1 Y1 E1 X2 Y2 E2):=by
 unfold EC Dz b9 bK;rw [if_neg h,if_neg h]
 split
 ·right;exact ⟨(Int.neg_neg _).symm,(Int.neg_neg _).symm⟩
 left;exact ⟨rfl,rfl⟩
theorem AH (n m X1 E1 X2 E2:Int):top (-n) (-m) X1 E1 X2 E2=top n m X1 E1 X2 E2:=by unfold top;grind
theorem yZ (m E1 E2:Int):bot (-m) E1 E2=bot m E1 E2:=by unfold bot;grind
theorem xu (n m X1 Y1 E1 x e:Int):fi (-n) (-m) X1 Y1 E1 x e=-fi n m X1 Y1 E1 x e:=by unfold fi;grind
theorem si {a X1 Y1 E1 X2 Y2 E2:Int} (h0:sD X1 Y1 E1 X2 Y2 E2≠0) (hk:iU a X1 Y1 E1 X2 Y2 E2=false):FP a X1 Y1 E1 X2 Y2 E2=0/\Fi a X1 Y1 E1 X2 Y2 E2=0/\Ev a X1 Y1 E1 X2 Y2 E2=0:=by
 unfold iU at hk;rw [if_neg h0] at hk;unfold FP Fi Ev;rw [if_neg h0,if_neg h0,if_neg h0,hk];exact ⟨rfl,rfl,rfl⟩
theorem nj {a b X1 Y1 E1 X2 Y2 E2 n m:Int} (h1:Y1*Y1=cv a b X1 E1) (h2:Y2*Y2=cv a b X2 E2) (hx1:X1<=10000) (hx2:X2<=10000) (he1:1<=E1) (he2:E1<=20) (FE:1<=E2) (Fj:E2<=20) (h0:sD X1 Y1 E1 X2 Y2 E2≠0)
  (hnm:(n=EC a X1 Y1 E1 X2 Y2 E2/\m=Dz a X1 Y1 E1 X2 Y2 E2)∨(n=-EC a X1 Y1 E1 X2 Y2 E2/\m=-Dz a X1 Y1 E1 X2 Y2 E2)) :
  m≠0/\(∀ x e,1<=e->e<=20->-10000<=x->x<=10000->Int.gcd x e=1->bot m E1 E2*x=top n m X1 E1 X2 E2*(e*e)->iU a X1 Y1 E1 X2 Y2 E2=true/\FP a X1 Y1 E1 X2 Y2 E2=x/\Ev a X1 Y1 E1 X2 Y2 E2=e)/\
  (iU a X1 Y1 E1 X2 Y2 E2=true->∀ X Y E,X=FP a X1 Y1 E1 X2 Y2 E2->Y=Fi a X1 Y1 E1 X2 Y2 E2->E=Ev a X1 Y1 E1 X2 Y2 E2->1<=E/\E<=20/\-10000<=X/\X<=10000/\Int.gcd X E=1/\bot m E1 E2*X=top n m X1 E1 X2 E2*(E*E)/\E*fi n m X1 Y1 E1 X E=m*E1*E1*E1*Y/\Y*Y=cv a b X E/\(m.natAbs:Int)<=8000/\(n.natAbs:Int)<=1600000):=by
 obtain ⟨hs,hd0,hg,-,-⟩:=tO (a:=a) h0
 have ht:top n m X1 E1 X2 E2=top (EC a X1 Y1 E1 X2 Y2 E2) (Dz a X1 Y1 E1 X2 Y2 E2) X1 E1 X2 E2:=by
  rcases hnm with ⟨rfl,rfl⟩ | ⟨rfl,rfl⟩
  ·rfl
  exact AH ..
 have hb:bot m E1 E2=bot (Dz a X1 Y1 E1 X2 Y2 E2) E1 E2:=by
  rcases hnm with ⟨rfl,rfl⟩ | ⟨rfl,rfl⟩
  ·rfl
  exact yZ ..
 have hm0:m≠0:=by omega
 have hna:m.natAbs=(Dz a X1 Y1 E1 X2 Y2 E2).natAbs/\n.natAbs=(EC a X1 Y1 E1 X2 Y2 E2).natAbs:=by omega
 have hsd:∀ x e,(fi n m X1 Y1 E1 x e=fi (EC a X1 Y1 E1 X2 Y2 E2) (Dz a X1 Y1 E1 X2 Y2 E2) X1 Y1 E1 x e/\m=Dz a X1 Y1 E1 X2 Y2 E2)∨(fi n m X1 Y1 E1 x e=-fi (EC a X1 Y1 E1 X2 Y2 E2) (Dz a X1 Y1 E1 X2 Y2 E2) X1 Y1 E1 x e/\m=-Dz a X1 Y1 E1 X2 Y2 E2):=by
  intro x e
  rcases hnm with ⟨rfl,rfl⟩ | ⟨rfl,rfl⟩
  ·left;exact ⟨rfl,rfl⟩
  right;exact ⟨xu ..,rfl⟩
 clear hnm;rw [ht,hb,hna.1,hna.2];clear ht hb hna;unfold iU FP Fi Ev;rw [if_neg h0,if_neg h0,if_neg h0,if_neg h0]
 have hbd:=fun (k:ei (EC a X1 Y1 E1 X2 Y2 E2) (Dz a X1 Y1 E1 X2 Y2 E2) X1 E1 X2 E2=true)=>pP (by omega) he1 he2 FE Fj hx1 hx2 hg k
 have Fb:=fun (k:ei (EC a X1 Y1 E1 X2 Y2 E2) (Dz a X1 Y1 E1 X2 Y2 E2) X1 E1 X2 E2=true)=>CP h1 h2 (by omega) (by omega) (by omega) hs h0 k
 have hii:=fun (k:ei (EC a X1 Y1 E1 X2 Y2 E2) (Dz a X1 Y1 E1 X2 Y2 E2) X1 E1 X2 E2=true)=>sK (by omega) (by omega) (by omega) k
 generalize Dz a X1 Y1 E1 X2 Y2 E2=D,EC a X1 Y1 E1 X2 Y2 E2=N at *;refine ⟨hm0,?_,?_⟩
 ·intro x e q1 q2 q3 q4 q5 q6
  obtain ⟨k1,k2,k3⟩:=Aw (by omega) (by omega) (by omega) q1 q2 q3 q4 q5 q6;rw [k1];exact ⟨rfl,k2,k3⟩
 intro k X Y E eX eY eE;rw [if_pos k] at eX eY eE;obtain ⟨i1,i2,i3,i4,i5,i6⟩:=hii k;obtain ⟨y1,y2⟩:=Fb k;obtain ⟨b1,b2⟩:=hbd k;rw [←eX,←eE] at i5 i6;rw [←eX,←eE,←eY] at y1 y2;rw [←eE] at i1 i2;rw [←eX] at i3 i4;refine ⟨i1,i2,i3,i4,i5,i6,?_,y2,b1,by omega⟩
 rcases hsd X E with ⟨s1,s2⟩ | ⟨s1,s2⟩
 ·rw [s1,s2,y1]
 rw [s1,s2,Int.mul_neg,y1];clear hsd hbd Fb hii
 grind
end M
end
section
open Go.RowKit
def Eb (W:World) (g:Nat) (z:Int):Prop:=∃ (s:Bool) (a:Option Addr) (l c:Nat),Hid (s=decide (z<0))/\aG W g 116 #[s,.slice a l c]/\aF W 0 (.slice a l c) (Wh.a_ z.natAbs)
theorem Eb.keep {W W':World} {g:Nat} {z:Int} (h:Eb W g z) (hb:Below W.heap.size W W'):Eb W' g z:=by
 obtain ⟨s,a,l,c,hs,hv,ho⟩:=h;exact ⟨s,a,l,c,hs,hv.keep hb,aF.below ho hb⟩
theorem Eb.lt {W:World} {g:Nat} {z:Int} (h:Eb W g z):g<W.heap.size:=by
 obtain ⟨s,a,l,c,hs,hv,ho⟩:=h;exact hv.lt
theorem Eb.cK {W:World} {g k:Nat} {z:Int} {u v:Value} (h:Eb W g z) (hk:g≠k) (hv:aG W k 116 #[u,v]) (x y:Value):Eb ((W.setCell ⟨k,0,none⟩ x).setCell ⟨k,1,none⟩ y) g z:=by
 obtain ⟨s,a,l,c,hs,hw,ho⟩:=h;exact ⟨s,a,l,c,hs,hw.cK hk x y,aF.bG ho hv (by decide) x y⟩
theorem Eb.put {W:World} {g b:Nat} {z:Int} {u v:Value} {s:Bool} {a:Option Addr} {l c:Nat} (hv:aG W g 116 #[u,v]) (hs:Hid (s=decide (z<0))) (ho:aF W b (.slice a l c) (Wh.a_ z.natAbs)):Eb ((W.setCell ⟨g,0,none⟩ (.bool s)).setCell ⟨g,1,none⟩ (.slice a l c)) g z:=
 ⟨s,a,l,c,hs,hv.set2 _ _,aF.base (aF.bG ho hv (by decide) _ _) (Nat.zero_le _)⟩
theorem iY (W:World) (x y:Value):Below W.heap.size W (W.alloc (.cells #[x,y] 116)):=(DE W.heap.size W).alloc (DF _) _
theorem Eb.made {W:World} {b:Nat} {z:Int} {a:Option Addr} {l c:Nat} (ho:aF W b (.slice a l c) (Wh.a_ z.natAbs)):Eb (W.alloc (.cells #[decide (z<0),.slice a l c] 116)) W.heap.size z:=
 ⟨_,a,l,c,DB rfl,aG.new W _ _,aF.base (aF.alloc ho _) (Nat.zero_le _)⟩
namespace M
theorem xV (n m X1 E1 X2 E2:Int):n*n*(E1*E1*E2*E2)+-(m*m*(X1*E2*E2+X2*E1*E1))=top n m X1 E1 X2 E2:=by unfold top;grind
theorem xU (m E1 E2:Int):m*m*(E1*E1*E2*E2)=bot m E1 E2:=by unfold bot;grind
end M
theorem vF (a b X1 Y1 E1 X2 Y2 E2:Int) (w:World) (ha1:-1000<=a) (ha2:a<=1000) (hx1:-10000<=X1) (hx2:X1<=10000) (hy1:-3000000<=Y1) (hy2:Y1<=3000000) (he1:1<=E1) (he2:E1<=20) (hx3:-10000<=X2) (hx4:X2<=10000) (hy3:-3000000<=Y2) (hy4:Y2<=3000000) (FE:1<=E2) (Fj:E2<=20) (hb1:-10000<=b) (hb2:b<=10000) (hc1:Y1*Y1=M.cv a b X1 E1) (hc2:Y2*Y2=M.cv a b X2 E2) (g1:Int.gcd X1 E1=1) (g2:Int.gcd X2 E2=1) :
  Calls Tryz.prog 50 #[.agg #[a,b],.agg #[X1,Y1,E1],.agg #[X2,Y2,E2]] w fun e w'=>e=.returned (.tuple #[.agg #[M.FP a X1 Y1 E1 X2 Y2 E2,M.Fi a X1 Y1 E1 X2 Y2 E2,M.Ev a X1 Y1 E1 X2 Y2 E2],M.iU a X1 Y1 E1 X2 Y2 E2])/\Below w.heap.size w w':=by
 have hE1:(E1 == 0)=false:=by rw [beq_eq_false_iff_ne];omega
 have hE2:(E2 == 0)=false:=by rw [beq_eq_false_iff_ne];omega
 have PO:=DB fun W=>lQ X2 Y2 E2 W (by omega) (by omega)
 have hop:=M.tA hc1 hc2 he1 FE g1 g2
 by_cases h0:M.sD X1 Y1 E1 X2 Y2 E2=0
 ·obtain ⟨k1,k2,k3⟩:=hop.1 h0
  have hf:=DB (show M.FP a X1 Y1 E1 X2 Y2 E2=0/\M.Fi a X1 Y1 E1 X2 Y2 E2=0/\M.Ev a X1 Y1 E1 X2 Y2 E2=0/\M.iU a X1 Y1 E1 X2 Y2 E2=true from ⟨if_pos h0,if_pos h0,if_pos h0,if_pos h0⟩);rw [hf.out.1,hf.out.2.1,hf.out.2.2.1,hf.out.2.2.2];have heq:=DB (show X1=X2/\Y1=-Y2/\E1=E2 from ⟨k1,k2,k3⟩);clear hf h0 hc1 hc2 hop k1 k2 k3 g1 g2;obtain ⟨wc,hw3,C,Q,U,R,B⟩:=di w #[a,b] 25 #[X1,Y1,E1] 40 #[X2,Y2,E2] 40 #[(0:Int),(0:Int),(0:Int)] 40;have e_:=C.box.c0;have f_:=C.box.c1;have ⟨q0,q1,q2⟩:=Q.aO;have ⟨u0,u1,u2⟩:=U.aO;have ⟨r0,r1,r2⟩:=R.aO;go_enter Tryz.func50,Tryz.ntmps50
  go_wp2
  go_upto_region 5 with fail
  refine Rg.bg 5 [.is (.agg #[X1,Y1,E1]),.is (.agg #[X2,Y2,E2]),.is (.agg #[X2,(-Y2:Int),E2]),.is true,.is true] (by kernel_rfl) (by kernel_rfl) (by kernel_rfl) ⟨?_,?_,?_,?_,?_,trivial⟩ ?_
  all_goals try ((first | (refine Rg.b1 ?_;intro zZ w_ hB e) | (refine Rg.b2 ?_;intro zZ w_ hB e f));have kz:=aE hB q0;have kz:=aE hB q1;have kz:=aE hB q2;have kz:=aE hB u0;have kz:=aE hB u1;have kz:=aE hB u2;(first | (go_simp;done) | (go_simp;first | done | (simp [heq.out];done) | (exact fun x y z=>heq.out ⟨x,y,z⟩);done)))
  ·refine Rg.o1 ?_;intro zZ w_ hB e
   have ef:=Rg.ef zZ;exact Rg.bV rfl (by go_simp) (PO.out _)
  intro vals wz Hz hv hne;have Gm:vals 4=.bool true:=hv 4 (by decide);simp only [Rg.bF,Rg.fill,Act.put,Nat.reduceAdd];clear hv;simp only [Gm];clear Gm;unfold Rg.aX
  (replace B:=d_ B Hz);replace R:=R.keep Hz;(obtain ⟨r0,r1,r2⟩:=R.aO);have f0:=R.DJ 0;have f1:=R.DJ 1;have f2:=R.DJ 2;(have rl:=R.lt)
  go_wp2;exact bodyPost_ret (v:=.tuple #[.agg #[(0:Int),(0:Int),(0:Int)],true]) (by simp [results,Tryz.results50,go_sem, *]) rfl (⟨rfl,EW B⟩)
 have hni:¬ (X1=X2/\Y1=-Y2/\E1=E2):=fun k=>h0 (hop.2 k)
 have heq:=DB hni;have hsb:=M.Bu (a:=a) ha1 ha2 hx1 hx2 hy1 hy2 he1 he2 hx3 hx4 hy3 hy4 FE Fj;obtain ⟨-,hd0,-,hsn,hsd⟩:=M.tO (a:=a) h0;have hpn:=M.Cq (a:=a) h0
 have hcore:=fun n m=>M.nj (n:=n) (m:=m) hc1 hc2 hx2 hx4 he1 he2 FE Fj h0
 have hno:=M.si (a:=a) h0
 have PS:=fun W=>z8 a b X1 Y1 E1 X2 Y2 E2 W ha1 ha2 hx1 hx2 hy1 hy2 he1 he2 hx3 hx4 hy3 hy4 FE Fj
 have hg0:M.gcd (M.sN a X1 Y1 E1 X2 Y2 E2) (M.sD X1 Y1 E1 X2 Y2 E2)≠0:=by
  unfold M.gcd;intro h;have:=Int.gcd_eq_zero_iff.1 (Int.ofNat_eq_zero.1 h);exact h0 this.2
 have PG:=fun W=>qC (M.sN a X1 Y1 E1 X2 Y2 E2) (M.sD X1 Y1 E1 X2 Y2 E2) W (by omega) (by omega) (by omega) (by omega)
 obtain ⟨n,hn⟩:∃ n,Hid ((M.sN a X1 Y1 E1 X2 Y2 E2).tdiv (M.gcd (M.sN a X1 Y1 E1 X2 Y2 E2) (M.sD X1 Y1 E1 X2 Y2 E2))=n):=⟨_,DB rfl⟩
 obtain ⟨m,hm⟩:∃ m,Hid ((M.sD X1 Y1 E1 X2 Y2 E2).tdiv (M.gcd (M.sN a X1 Y1 E1 X2 Y2 E2) (M.sD X1 Y1 E1 X2 Y2 E2))=m):=⟨_,DB rfl⟩
 rw [hn.out,hm.out] at hpn;obtain ⟨hm0,H1,H2⟩:=hcore n m hpn
 have hnb:(-200000000000<=n/\n<=200000000000)/\-200000000000<=m/\m<=200000000000:=by
  clear hcore H1 H2 hno hop;omega
 clear hcore hpn hsn hsd hd0 hop hni;generalize M.sD X1 Y1 E1 X2 Y2 E2=D0,M.sN a X1 Y1 E1 X2 Y2 E2=N0,M.gcd (M.sN a X1 Y1 E1 X2 Y2 E2) (M.sD X1 Y1 E1 X2 Y2 E2)=g at *;generalize hX:M.FP a X1 Y1 E1 X2 Y2 E2=X at *;generalize hY:M.Fi a X1 Y1 E1 X2 Y2 E2=Y at *;generalize hE:M.Ev a X1 Y1 E1 X2 Y2 E2=E at *;generalize M.iU a X1 Y1 E1 X2 Y2 E2=K at *
 have hgb:(g == 0)=false:=by rw [beq_eq_false_iff_ne];exact hg0
 obtain ⟨⟨n1,n2⟩,m1,m2⟩:=hnb;replace H1:=DB H1;replace H2:=DB (fun k=>H2 k X Y E rfl rfl rfl);replace hno:=DB hno;replace PS:=DB PS;replace PG:=DB PG;have hm0:=DB hm0;clear hc1 hc2 g1 g2 hX hY hE;have zn:=Wh.bP (n:=n) (by omega) (by omega);have zm:=Wh.bP (n:=m) (by omega) (by omega);have sb1:=M.aH (x:=E1) (y:=E1) (m:=20) (n:=20);have Md:=M.aH (x:=E1*E1) (y:=E2) (m:=400) (n:=20);have Me:=M.aH (x:=E1*E1*E2) (y:=E2) (m:=8000) (n:=20);have Mf:=M.aH (x:=X1) (y:=E2) (m:=10000) (n:=20);have Mg:=M.aH (x:=X1*E2) (y:=E2) (m:=200000) (n:=20);have Mh:=M.aH (x:=X2) (y:=E1) (m:=10000) (n:=20);have Mi:=M.aH (x:=X2*E1) (y:=E1) (m:=200000) (n:=20);have ze:=Wh.bP (n:=E1*E1*E2*E2) (by omega) (by omega);have zq:=Wh.bP (n:=X1*E2*E2+X2*E1*E1) (by omega) (by omega);have L7:=Wh.ak zm zm;have Re:=Wh.ak zn zn;have Rd:=Wh.ak Re ze;have Rc:=Wh.ak L7 zq;have Rf:=Wh.jh Rc;have zt:=Wh.gp Rd (Wh.aM Rf (show 5+5+5<=5+5+5 by omega));have zb:=Wh.ak L7 ze;have tT:=M.xV n m X1 E1 X2 E2;have tB:=M.xU m E1 E2
 have P1:=fun W=>bX (m) W (by omega) (by omega)
 have P2:=fun W=>bX (n) W (by omega) (by omega)
 have P3:=fun W=>bX (E1*E1*E2*E2) W (by omega) (by omega)
 have P4:=fun W=>bX (X1*E2*E2+X2*E1*E1) W (by omega) (by omega)
 have P5:=fun v v' W k k' (h:aF W k v (Wh.a_ (m).natAbs)) (h':aF W k' v' (Wh.a_ (m).natAbs))=>cn (m) (m) v v' W k k' h h' (Wh.aU.2 (Wh.aM zm (by omega))) (Wh.aU.2 (Wh.aM zm (by omega)))
 have P6:=fun v v' W k k' (h:aF W k v (Wh.a_ (n).natAbs)) (h':aF W k' v' (Wh.a_ (n).natAbs))=>cn (n) (n) v v' W k k' h h' (Wh.aU.2 (Wh.aM zn (by omega))) (Wh.aU.2 (Wh.aM zn (by omega)))
 have P7:=fun v v' W k k' (h:aF W k v (Wh.a_ (n*n).natAbs)) (h':aF W k' v' (Wh.a_ (E1*E1*E2*E2).natAbs))=>cn (n*n) (E1*E1*E2*E2) v v' W k k' h h' (Wh.aU.2 (Wh.aM Re (by omega))) (Wh.aU.2 (Wh.aM ze (by omega)))
 have P8:=fun v v' W k k' (h:aF W k v (Wh.a_ (m*m).natAbs)) (h':aF W k' v' (Wh.a_ (X1*E2*E2+X2*E1*E1).natAbs))=>cn (m*m) (X1*E2*E2+X2*E1*E1) v v' W k k' h h' (Wh.aU.2 (Wh.aM L7 (by omega))) (Wh.aU.2 (Wh.aM zq (by omega)))
 have P9:=fun v W k (h:aF W k v (Wh.a_ (m*m*(X1*E2*E2+X2*E1*E1)).natAbs))=>jX (m*m*(X1*E2*E2+X2*E1*E1)) v W k h (Wh.aU.2 (Wh.aM Rc (by omega)))
 have PA:=fun v v' W k k' (h:aF W k v (Wh.a_ (n*n*(E1*E1*E2*E2)).natAbs)) (h':aF W k' v' (Wh.a_ (-(m*m*(X1*E2*E2+X2*E1*E1))).natAbs))=>gR (n*n*(E1*E1*E2*E2)) (-(m*m*(X1*E2*E2+X2*E1*E1))) v v' W k k' h h' (Wh.aU.2 (Wh.aM Rd (by omega))) (Wh.aU.2 (Wh.aM Rf (by omega)))
 have PB:=fun v v' W k k' (h:aF W k v (Wh.a_ (m*m).natAbs)) (h':aF W k' v' (Wh.a_ (E1*E1*E2*E2).natAbs))=>cn (m*m) (E1*E1*E2*E2) v v' W k k' h h' (Wh.aU.2 (Wh.aM L7 (by omega))) (Wh.aU.2 (Wh.aM ze (by omega)))
 rw [tT] at PA zt;rw [tB] at PB zb;have hbp:0<M.bot m E1 E2:=M.kG hm0.out (by omega) (by omega);have hTe:=DB (rfl:M.top n m X1 E1 X2 E2=M.top n m X1 E1 X2 E2);generalize M.bot m E1 E2=Bt,M.top n m X1 E1 X2 E2=T at *;clear tT tB hTe zn zm ze zq Re Rd Rc Rf L7;generalize n*n=nn,m*m=mm,n*n*(E1*E1*E2*E2)=ne,m*m*(X1*E2*E2+X2*E1*E1)=mq,-(m*m*(X1*E2*E2+X2*E1*E1))=nq at *;replace P1:=DB P1;replace P2:=DB P2;replace P3:=DB P3;replace P4:=DB P4;replace P5:=DB P5;replace P6:=DB P6;replace P7:=DB P7;replace P8:=DB P8;replace P9:=DB P9;replace PA:=DB PA;replace PB:=DB PB;obtain ⟨wc,hw3,C,Q,U,R,B⟩:=di w #[a,b] 25 #[X1,Y1,E1] 40 #[X2,Y2,E2] 40 #[(0:Int),(0:Int),(0:Int)] 40;have e_:=C.box.c0;have f_:=C.box.c1;have ⟨q0,q1,q2⟩:=Q.aO;have ⟨u0,u1,u2⟩:=U.aO;have ⟨r0,r1,r2⟩:=R.aO;go_enter Tryz.func50,Tryz.ntmps50
 go_wp2
 go_upto_region 5 with fail
 refine Rg.bg 5 [.is (.agg #[X1,Y1,E1]),.is (.agg #[X2,Y2,E2]),.is (.agg #[X2,(-Y2:Int),E2]),.is false,.is false] (by kernel_rfl) (by kernel_rfl) (by kernel_rfl) ⟨?_,?_,?_,?_,?_,trivial⟩ ?_
 all_goals try ((first | (refine Rg.b1 ?_;intro zZ w_ hB e) | (refine Rg.b2 ?_;intro zZ w_ hB e f));have kz:=aE hB q0;have kz:=aE hB q1;have kz:=aE hB q2;have kz:=aE hB u0;have kz:=aE hB u1;have kz:=aE hB u2;(first | (go_simp;done) | (go_simp;first | done | (simp [heq.out];done) | (exact fun x y z=>heq.out ⟨x,y,z⟩);done)))
 ·refine Rg.o1 ?_;intro zZ w_ hB e
  have ef:=Rg.ef zZ;exact Rg.bV rfl (by go_simp) (PO.out _)
 intro vals wz Hz hv hne;have Gm:vals 4=.bool false:=hv 4 (by decide);simp only [Rg.bF,Rg.fill,Act.put,Nat.reduceAdd];clear hv;simp only [Gm];clear Gm;unfold Rg.aX
 (replace B:=d_ B Hz);replace C:=C.keep Hz;replace Q:=Q.keep Hz;replace U:=U.keep Hz;replace R:=R.keep Hz;have e_:=C.box.c0;have f_:=C.box.c1;(obtain ⟨q0,q1,q2⟩:=Q.aO);(obtain ⟨u0,u1,u2⟩:=U.aO);(obtain ⟨r0,r1,r2⟩:=R.aO)
 clear Hz
 go_upto_region 9 with first | (go_at_call 86;(with_reducible refine (PS.out _).mono ?_);rintro e w4 ⟨rfl,hb4⟩;replace B:=d_ B hb4;replace C:=C.keep hb4;replace Q:=Q.keep hb4;replace U:=U.keep hb4;replace R:=R.keep hb4;have e_:=C.box.c0;have f_:=C.box.c1;(obtain ⟨q0,q1,q2⟩:=Q.aO);(obtain ⟨u0,u1,u2⟩:=U.aO);(obtain ⟨r0,r1,r2⟩:=R.aO)) | (go_at_call 83;(with_reducible refine (PG.out _).mono ?_);rintro e w5 ⟨rfl,j5,rfl⟩;have hb5:=aN (DE w4.heap.size w4) j5;replace B:=d_ B hb5;replace C:=C.keep hb5;replace Q:=Q.keep hb5;replace U:=U.keep hb5;replace R:=R.keep hb5;have e_:=C.box.c0;have f_:=C.box.c1;(obtain ⟨q0,q1,q2⟩:=Q.aO);(obtain ⟨u0,u1,u2⟩:=U.aO);(obtain ⟨r0,r1,r2⟩:=R.aO))
 have hN1:=hsb;have hnn:=hn.out;have hmm:=hm.out
 go_cut [8,9] (fun p q wx=>p=.int .i64 n/\q=.int .i64 m/\aG wx w.heap.size 25 #[a,b]/\aG wx (w.heap.size+1) 40 #[X1,Y1,E1]/\aG wx (w.heap.size+1+1) 40 #[X2,Y2,E2]/\aG wx (w.heap.size+1+1+1) 40 #[(0:Int),(0:Int),(0:Int)]/\Below w.heap.size w wx)
 case first=>
  go_region
  all_goals
   go_wp2_with fail
   go_meet
   exact ⟨rfl,rfl,C.drew,Q.drew,U.drew,R.drew,B.trans ((aN (DE _ _) 1).mono B.size)⟩
 case rest=>
 obtain ⟨rfl,rfl,C,Q,U,R,B⟩:=hcut;clear hN1 hnn hmm hn hm n1 n2 hsb hg0 hgb PS PG PO heq hw3
 have D7:w.heap.size+4<=wc.heap.size:=by have:=R.lt;omega
 go_upto_region 10 with fail
 go_cut [11] (fun p wx=>∃ ga:Nat,p=.pointer (some ⟨ga,0,none⟩)/\w.heap.size+4<=ga/\aG wx w.heap.size 25 #[a,b]/\aG wx (w.heap.size+1) 40 #[X1,Y1,E1]/\aG wx (w.heap.size+1+1) 40 #[X2,Y2,E2]/\aG wx (w.heap.size+1+1+1) 40 #[(0:Int),(0:Int),(0:Int)]/\Below w.heap.size w wx/\Eb wx ga (mm))
 case first=>
  go_wp2_with first | (go_at_call 87;(with_reducible refine (P5.out _ _ _ _ _ o4 o5).mono ?_);rintro e w6 ⟨v6,rfl,o6,hb6⟩;(replace o6:aF _ _ _ _:=o6);replace B:=d_ B hb6;replace C:=C.keep hb6;replace Q:=Q.keep hb6;replace U:=U.keep hb6;replace R:=R.keep hb6;have e_:=C.box.c0;have f_:=C.box.c1;(obtain ⟨q0,q1,q2⟩:=Q.aO);(obtain ⟨u0,u1,u2⟩:=U.aO);(obtain ⟨r0,r1,r2⟩:=R.aO);obtain ⟨av,cv,rfl,Db,DR⟩:=aF.view o6;clear Db DR;have V:=aG.new w6 #[false,.slice none 0 0] 116;have V0:=V.box.c0;have V1:=V.box.c1;have V2:=V.box.f0;have V3:=V.box.f1;have M0:=iY w6 (.bool (decide (mm<0))) (.slice av (Wh.a_ (mm).natAbs).length cv);have M1:=Eb.made o6) | ((have _t:=o4);clear _t;go_at_call 88;(with_reducible refine (P1.out _).mono ?_);rintro e w5 ⟨v5,rfl,o5,hb5⟩;(replace o5:aF _ _ _ _:=o5);replace B:=d_ B hb5;replace C:=C.keep hb5;replace Q:=Q.keep hb5;replace U:=U.keep hb5;replace R:=R.keep hb5;replace o4:=aF.below o4 hb5;have e_:=C.box.c0;have f_:=C.box.c1;(obtain ⟨q0,q1,q2⟩:=Q.aO);(obtain ⟨u0,u1,u2⟩:=U.aO);(obtain ⟨r0,r1,r2⟩:=R.aO)) | (go_at_call 88;(with_reducible refine (P1.out _).mono ?_);rintro e w4 ⟨v4,rfl,o4,hb4⟩;(replace o4:aF _ _ _ _:=o4);replace B:=d_ B hb4;replace C:=C.keep hb4;replace Q:=Q.keep hb4;replace U:=U.keep hb4;replace R:=R.keep hb4;have e_:=C.box.c0;have f_:=C.box.c1;(obtain ⟨q0,q1,q2⟩:=Q.aO);(obtain ⟨u0,u1,u2⟩:=U.aO);(obtain ⟨r0,r1,r2⟩:=R.aO))
  go_meet
  exact ⟨w6.heap.size,rfl,by have:=R.lt;omega,C.keep M0,Q.keep M0,U.keep M0,R.keep M0,d_ B M0,M1⟩
 case rest=>
 obtain ⟨ga,rfl,ha0,C,Q,U,R,B,MA⟩:=hcut;clear P1 P5 D7
 go_upto_region 11 with fail
 go_cut [12] (fun p wx=>∃ gb:Nat,p=.pointer (some ⟨gb,0,none⟩)/\ga<gb/\aG wx w.heap.size 25 #[a,b]/\aG wx (w.heap.size+1) 40 #[X1,Y1,E1]/\aG wx (w.heap.size+1+1) 40 #[X2,Y2,E2]/\aG wx (w.heap.size+1+1+1) 40 #[(0:Int),(0:Int),(0:Int)]/\Below w.heap.size w wx/\Eb wx ga (mm)/\Eb wx gb (E1*E1*E2*E2))
 case first=>
  have e_:=C.box.c0;have f_:=C.box.c1;have ⟨q0,q1,q2⟩:=Q.aO;have ⟨u0,u1,u2⟩:=U.aO;have ⟨r0,r1,r2⟩:=R.aO
  go_wp2_with (go_at_call 88;(with_reducible refine (P3.out _).mono ?_);rintro e w4 ⟨v4,rfl,o4,hb4⟩;(replace o4:aF _ _ _ _:=o4);replace B:=d_ B hb4;replace C:=C.keep hb4;replace Q:=Q.keep hb4;replace U:=U.keep hb4;replace R:=R.keep hb4;replace MA:=MA.keep hb4;have e_:=C.box.c0;have f_:=C.box.c1;(obtain ⟨q0,q1,q2⟩:=Q.aO);(obtain ⟨u0,u1,u2⟩:=U.aO);(obtain ⟨r0,r1,r2⟩:=R.aO);obtain ⟨av,cv,rfl,Db,DR⟩:=aF.view o4;clear Db DR;have V:=aG.new w4 #[false,.slice none 0 0] 116;have V0:=V.box.c0;have V1:=V.box.c1;have V2:=V.box.f0;have V3:=V.box.f1;have M0:=iY w4 (.bool (decide (E1*E1*E2*E2<0))) (.slice av (Wh.a_ (E1*E1*E2*E2).natAbs).length cv);have M1:=Eb.made o4)
  go_meet
  exact ⟨w4.heap.size,rfl,MA.lt,C.keep M0,Q.keep M0,U.keep M0,R.keep M0,d_ B M0,MA.keep M0,M1⟩
 case rest=>
 obtain ⟨gb,rfl,hab,C,Q,U,R,B,MA,MB⟩:=hcut;clear P3
 go_upto_region 12 with fail
 have ⟨sB,aB,lB,cB,hsB,VB,oB⟩:=MB;refine Rg.bg 8 [.is n,.at (aI (wc.heap.size) (n)),.is n,.at (aI (wc.heap.size) (n)),.at (aI (wc.heap.size) (nn)),.is (.agg #[sB,.slice aB lB cB]),.at (aI (wc.heap.size) (ne)),.new (wc.heap.size) 116 #[false,.slice none 0 0]] (by kernel_rfl) (by kernel_rfl) (by kernel_rfl) ⟨?_,?_,?_,?_,?_,?_,?_,?_,fun h_=>absurd h_ (by decide),trivial⟩ ?_
 all_goals try ((refine Rg.b1 ?_;intro zZ w_ hB e);have kz:=aE hB VB.box.c0;have kz:=aE hB VB.box.c1;(go_simp;done))
 ·refine Rg.o1 ?_;intro zZ w_ hB e
  have ef:=Rg.ef zZ;refine Rg.ah rfl (by go_simp;exact ⟨rfl,rfl⟩) ?_;exact aI.ret hB (P2.out _)
 ·refine Rg.o1 ?_;intro zZ w_ hB e
  have ef:=Rg.ef zZ;refine Rg.ah rfl (by go_simp;exact ⟨rfl,rfl⟩) ?_;exact aI.ret hB (P2.out _)
 ·intro _ zZ w_ hB hr
  obtain ⟨s71,a71,l71,c71,Qi,e71,o71⟩:=aI.get (hr 71 (by decide));obtain ⟨s73,a73,l73,c73,Qj,e73,o73⟩:=aI.get (hr 73 (by decide));have ef:=Rg.ef zZ;refine Rg.ah rfl (by go_simp;exact ⟨rfl,rfl⟩) ?_;obtain rfl:=Qi.out;obtain rfl:=Qj.out;exact aI.ret hB (P6.out _ _ _ _ _ o71 o73)
 ·intro _ zZ w_ hB hr
  obtain ⟨s74,a74,l74,c74,Qk,e74,o74⟩:=aI.get (hr 74 (by decide));have e75:=Rg.l_ (hr 75 (by decide));have ef:=Rg.ef zZ;refine Rg.ah rfl (by go_simp;exact ⟨rfl,rfl⟩) ?_;obtain rfl:=Qk.out;rw [hsB.out];exact aI.ret hB (P7.out _ _ _ _ _ o74 (aF.below oB hB))
 ·intro _ zZ w_ hB hr
  exact ⟨by have:=hB.size;omega,rfl,by first | (go_simp;done) | (go_simp;rfl)⟩
 intro vals wz Ku hv hne;have n13:(Rg.Val.new (wc.heap.size) 116 #[false,.slice none 0 0]).ok (vals 7) wz:=hv 7 (by decide);have n76:(Rg.Val.at (aI (wc.heap.size) (ne))).ok (vals 6) wz:=hv 6 (by decide);simp only [Rg.bF,Rg.fill,Act.put,Nat.reduceAdd];clear hv;obtain ⟨g13,JK,E0,Lj⟩:=n13;replace Lj:aG wz g13 116 #[false,.slice none 0 0]:=Lj;obtain ⟨s76,a76,l76,c76,Ql,Gq,o76⟩:=(Rg.bs n76).view;simp only [E0,Gq];clear E0 Gq;have hB2:Below wc.heap.size wc ((wz.setCell ⟨g13,0,none⟩ (.bool s76)).setCell ⟨g13,1,none⟩ (.slice a76 l76 c76)):=DD (DD Ku JK _) JK _;have ⟨c0,c1,f0,f1,_⟩:=Lj.box;have MC:=Eb.put Lj Ql o76;have hlt:=MB.lt;unfold Rg.aX Rg.aX Oper.wp;go_simp
 clear c0 c1 f0 f1 Lj VB oB;replace MA:=MA.keep hB2;replace MB:=MB.keep hB2;replace C:=C.keep hB2;replace Q:=Q.keep hB2;replace U:=U.keep hB2;replace R:=R.keep hB2;replace B:=d_ B hB2
 have hbc:gb<g13:=by omega
 clear hB2 Ku hlt JK P2 P6 P7;generalize ((wz.setCell ⟨g13,0,none⟩ (.bool s76)).setCell ⟨g13,1,none⟩ (.slice a76 l76 c76))=wd at *
 skip
 have e_:=C.box.c0;have f_:=C.box.c1;have ⟨q0,q1,q2⟩:=Q.aO;have ⟨u0,u1,u2⟩:=U.aO;have ⟨r0,r1,r2⟩:=R.aO
 go_upto_region 13 with fail
 obtain ⟨e1,e2,e3,e4,e5,e6⟩:w.heap.size<=g13/\ga≠g13/\gb≠g13/\w.heap.size≠g13/\w.heap.size+1≠g13/\w.heap.size+1+1+1≠g13:=⟨by omega,by omega,by omega,by omega,by omega,by omega⟩
 have ⟨sA,aA,lA,cA,hsA,VA,oA⟩:=MA;have ⟨sC,aC,lC,cC,hsC,VC,oC⟩:=MC;refine Rg.bg 23 [.is (.agg #[sC,.slice aC lC cC]),.is (.agg #[sA,.slice aA lA cA]),.is (.pointer (some ⟨w.heap.size+1,0,none⟩)),.is X1,.is (.pointer (some ⟨w.heap.size+1+1,2,none⟩)),.is E2,.is (X1*E2:Int),.is (.pointer (some ⟨w.heap.size+1+1,2,none⟩)),.is E2,.is ((X1*E2)*E2:Int),.is (.pointer (some ⟨w.heap.size+1+1,0,none⟩)),.is X2,.is (.pointer (some ⟨w.heap.size+1,2,none⟩)),.is E1,.is (X2*E1:Int),.is (.pointer (some ⟨w.heap.size+1,2,none⟩)),.is E1,.is ((X2*E1)*E1:Int),.is (((X1*E2)*E2)+((X2*E1)*E1):Int),.at (aI (wd.heap.size) (X1*E2*E2+X2*E1*E1)),.at (aI (wd.heap.size) (mq)),.at (aI (wd.heap.size) (nq)),.at (aI (wd.heap.size) (T))] (by kernel_rfl) (by kernel_rfl) (by kernel_rfl) ⟨?_,?_,?_,?_,?_,?_,?_,?_,?_,?_,?_,?_,?_,?_,?_,?_,?_,?_,?_,?_,?_,?_,?_,fun h_=>absurd h_ (by decide),trivial⟩ ?_
 all_goals try ((first | (refine Rg.b1 ?_;intro zZ w_ hB e) | (refine Rg.b2 ?_;intro zZ w_ hB e f));have kz:=aE hB VC.box.c0;have kz:=aE hB VC.box.c1;have kz:=aE hB VA.box.c0;have kz:=aE hB VA.box.c1;have kz:=aE hB q0;have kz:=aE hB u2;have kz:=aE hB u0;have kz:=aE hB q2;(first | (go_simp;done) | (go_simp;exact Rg.wo (by omega))))
 ·refine Rg.o1 ?_;intro zZ w_ hB e
  have ef:=Rg.ef zZ;refine Rg.ah rfl (by go_simp;exact ⟨rfl,rfl⟩) ?_;exact aI.ret hB (P4.out _)
 ·intro _ zZ w_ hB hr
  have e78:=Rg.l_ (hr 78 (by decide));obtain ⟨s96,a96,l96,c96,Qm,e96,o96⟩:=aI.get (hr 96 (by decide));have ef:=Rg.ef zZ;refine Rg.ah rfl (by go_simp;exact ⟨rfl,rfl⟩) ?_;obtain rfl:=Qm.out;rw [hsA.out];exact aI.ret hB (P8.out _ _ _ _ _ (aF.below oA hB) o96)
 ·intro _ zZ w_ hB hr
  obtain ⟨s97,a97,l97,c97,Qn,e97,o97⟩:=aI.get (hr 97 (by decide));have ef:=Rg.ef zZ;refine Rg.ah rfl (by go_simp;exact ⟨rfl,rfl⟩) ?_;obtain rfl:=Qn.out;exact aI.ret hB (P9.out _ _ _ o97)
 ·intro _ zZ w_ hB hr
  have e77:=Rg.l_ (hr 77 (by decide));obtain ⟨s98,a98,l98,c98,Qo,e98,o98⟩:=aI.get (hr 98 (by decide));have ef:=Rg.ef zZ;refine Rg.ah rfl (by go_simp;exact ⟨rfl,rfl⟩) ?_;obtain rfl:=Qo.out;rw [hsC.out];exact aI.ret hB (PA.out _ _ _ _ _ (aF.below oC hB) o98)
 intro vals wy Hd hv hne;have n99:(Rg.Val.at (aI (wd.heap.size) (T))).ok (vals 22) wy:=hv 22 (by decide);simp only [Rg.bF,Rg.fill,Act.put,Nat.reduceAdd];clear hv;obtain ⟨Jt,Io,Jh,I4,Qp,Fg,o99⟩:=(Rg.bs n99).view;simp only [Fg];clear Fg;have KU:=VC.keep Hd;have hB2:Below w.heap.size w ((wy.setCell ⟨g13,0,none⟩ (.bool Jt)).setCell ⟨g13,1,none⟩ (.slice Io Jh I4)):=DD (DD (d_ B Hd) e1 _) e1 _;replace MA:=(MA.keep Hd).cK e2 KU (.bool Jt) (.slice Io Jh I4);replace MB:=(MB.keep Hd).cK e3 KU (.bool Jt) (.slice Io Jh I4);have MT:=Eb.put KU Qp o99;have ⟨c0,c1,f0,f1,_⟩:=KU.box;replace C:=(C.keep Hd).cK e4 (.bool Jt) (.slice Io Jh I4);replace Q:=(Q.keep Hd).cK e5 (.bool Jt) (.slice Io Jh I4);replace R:=(R.keep Hd).cK e6 (.bool Jt) (.slice Io Jh I4);unfold Rg.aX Rg.aX Oper.wp;go_simp
 clear c0 c1 f0 f1 KU VC oC VA oA MC U Hd B
 skip
 have B:=hB2;clear hB2;generalize ((wy.setCell ⟨g13,0,none⟩ (.bool Jt)).setCell ⟨g13,1,none⟩ (.slice Io Jh I4))=wf at *;clear q0 q1 q2 u0 u1 u2 r0 r1 r2 e_ f_;clear P4 P8 P9 PA
 go_upto_region 14 with fail
 go_cut [14] (fun p wx=>∃ gd:Nat,p=.pointer (some ⟨gd,0,none⟩)/\aG wx w.heap.size 25 #[a,b]/\aG wx (w.heap.size+1) 40 #[X1,Y1,E1]/\aG wx (w.heap.size+1+1+1) 40 #[(0:Int),(0:Int),(0:Int)]/\Below w.heap.size w wx/\Eb wx g13 (T)/\Eb wx gd (Bt))
 case first=>
  have ⟨sA,aA,lA,cA,hsA,VA,oA⟩:=MA;have ⟨sB,aB,lB,cB,hsB,VB,oB⟩:=MB;obtain rfl:=hsA.out;obtain rfl:=hsB.out;have a0:=VA.box.c0;have a1:=VA.box.c1;have b0:=VB.box.c0;have b1:=VB.box.c1
  go_wp2_with (go_at_call 87;(with_reducible refine (PB.out _ _ _ _ _ oA oB).mono ?_);rintro e w4 ⟨v4,rfl,o4,hb4⟩;(replace o4:aF _ _ _ _:=o4);replace B:=d_ B hb4;replace C:=C.keep hb4;replace Q:=Q.keep hb4;replace R:=R.keep hb4;replace MT:=MT.keep hb4;have e_:=C.box.c0;have f_:=C.box.c1;(obtain ⟨q0,q1,q2⟩:=Q.aO);(obtain ⟨r0,r1,r2⟩:=R.aO);obtain ⟨av,cv,rfl,Db,DR⟩:=aF.view o4;clear Db DR;have V:=aG.new w4 #[false,.slice none 0 0] 116;have V0:=V.box.c0;have V1:=V.box.c1;have V2:=V.box.f0;have V3:=V.box.f1;have M0:=iY w4 (.bool (decide (Bt<0))) (.slice av (Wh.a_ (Bt).natAbs).length cv);have M1:=Eb.made o4)
  go_meet
  exact ⟨w4.heap.size,rfl,C.keep M0,Q.keep M0,R.keep M0,d_ B M0,MT.keep M0,M1⟩
 case rest=>
 obtain ⟨gd,rfl,C,Q,R,B,MT,MD⟩:=hcut;clear MA MB PB e1 e2 e3 e4 e5 e6 hab ha0;go_wp2
 go_loopw [15] (fun vk wr=>∃ k:Int,vk=.int .i64 k/\1<=k/\k<=21/\Hid (K=true->k<=E)/\aG wr w.heap.size 25 #[a,b]/\aG wr (w.heap.size+1) 40 #[X1,Y1,E1]/\aG wr (w.heap.size+1+1+1) 40 #[(0:Int),(0:Int),(0:Int)]/\Below w.heap.size w wr/\Eb wr g13 (T)/\Eb wr gd (Bt)) (fun vk _=>(21 - intOf vk).toNat)
 case atStart=>exact ⟨1,rfl,by omega,by omega,DB (fun h=>(H2.out h).1),C,Q,R,B,MT,MD⟩
 case round=>
 clear C Q R B MT MD;obtain ⟨k,rfl,k1,k2,hk,C,Q,R,B,MT,MD⟩:=hrel;have e_:=C.box.c0;have f_:=C.box.c1;obtain ⟨q0,q1,q2⟩:=Q.aO;obtain ⟨r0,r1,r2⟩:=R.aO;have f0:=R.DJ 0;have f1:=R.DJ 1;have f2:=R.DJ 2;have rl:=R.lt
 by_cases h20:k<=20
 ·have hkk:=M.aH (x:=k) (y:=k) (m:=20) (n:=20)
  have PT:=fun v W j (h:aF W j v (Wh.a_ T.natAbs))=>ll T (k*k) v W j h (Wh.aU.2 (Wh.aM zt (by omega))) (by omega) (by omega)
  have zs:=Wh.ak zt (Wh.bP (n:=k*k) (by omega) (by omega))
  have PQ:=fun v v' W j j' (h:aF W j v (Wh.a_ (T*(k*k)).natAbs)) (h':aF W j' v' (Wh.a_ Bt.natAbs))=>kC (T*(k*k)) Bt v v' W j j' h h' (Wh.aM zs (by omega)) (Wh.aM zb (by omega)) hbp
  have hxb:-10000<=M.sq (T*(k*k)) Bt/\M.sq (T*(k*k)) Bt<=10000:=by unfold M.sq;omega
  have hxe:=fun x' (h1:-10000<=x') (h2:x'<=10000) (h:Bt*x'=T*(k*k))=>M.C4 hbp h1 h2 h
  have hat:K=true->E=k->M.sq (T*(k*k)) Bt=X/\Bt*X=T*(k*k)/\Int.gcd X k=1:=by
   intro hK hE;obtain ⟨c1,c2,c3,c4,c5,c6,-⟩:=H2.out hK;rw [hE] at c5 c6;exact ⟨hxe X c3 c4 c6,c6,c5⟩
  clear hxe zs
  have h1k:=fun x' (q3:-10000<=x') (q4:x'<=10000) q5 q6=>H1.out x' k k1 h20 q3 q4 q5 q6
  generalize T*(k*k)=S,M.sq (T*(k*k)) Bt=x at *
  have PG:=fun W=>qC x k W (by omega) (by omega) (by omega) (by omega)
  obtain ⟨x1,x2⟩:=hxb
  obtain ⟨ok,hok⟩:∃ ok,Hid (decide (Bt*x=S)=ok):=⟨_,DB rfl⟩
  rw [hok.out] at PQ;have PT:=DB PT;have PQ:=DB PQ
  have MM:M.gcd x k=1 ↔ Int.gcd x k=1:=by unfold M.gcd;omega
  generalize M.gcd x k=gk at *;have PG:=DB PG;have ⟨sT,aT,lT,cT,Ja,VT,oT⟩:=MT;have ⟨sD,aD,lD,cD,hsD,VD,oD⟩:=MD
  go_upto_region 18 with fail
  refine Rg.bg 12 [.is (.agg #[sT,.slice aT lT cT]),.is k,.is k,.is (k*k:Int),.at (aI (wr.heap.size) (S)),.is (.agg #[sD,.slice aD lD cD]),.is (.tuple #[x,ok]),.is (.tuple #[x,ok]),.is x,.is ok,.is x,.is ok] (by kernel_rfl) (by kernel_rfl) (by kernel_rfl) ⟨?_,?_,?_,?_,?_,?_,?_,?_,?_,?_,?_,?_,trivial⟩ ?_
  all_goals try ((first | (refine Rg.b1 ?_;intro zZ w_ hB e) | (refine Rg.b2 ?_;intro zZ w_ hB e f));have kz:=aE hB VT.box.c0;have kz:=aE hB VT.box.c1;have kz:=aE hB VD.box.c0;have kz:=aE hB VD.box.c1;(first | (go_simp;done) | (go_simp;exact Rg.wo (by omega))))
  ·intro _ zZ w_ hB hr
   have e108:=Rg.l_ (hr 108 (by decide));have e111:=Rg.l_ (hr 111 (by decide));have ef:=Rg.ef zZ;refine Rg.ah rfl (by go_simp;exact ⟨rfl,rfl⟩) ?_;rw [Ja.out];exact aI.ret hB (PT.out _ _ _ (aF.below oT hB))
  ·intro _ zZ w_ hB hr
   obtain ⟨s112,a112,l112,c112,LL,e112,Q_⟩:=aI.get (hr 112 (by decide));have e113:=Rg.l_ (hr 113 (by decide));have ec:=Rg.ec zZ;have ef:=Rg.ef zZ;refine Rg.ah rfl (by go_simp;exact ⟨rfl,rfl⟩) ?_;obtain rfl:=LL.out;rw [hsD.out];refine (PQ.out _ _ _ _ _ Q_ (aF.below oD hB)).mono ?_;rintro e w5 ⟨rfl,hb5⟩;exact ⟨_,rfl,rfl,hb5⟩
  intro vals wz I9 hv hne;have Dj:vals 10=.int .i64 x:=hv 10 (by decide);have Ff:vals 11=.bool ok:=hv 11 (by decide);simp only [Rg.bF,Rg.fill,Act.put,Nat.reduceAdd];clear hv;simp only [Dj,Ff];clear Dj Ff;replace C:=C.keep I9;replace Q:=Q.keep I9;replace R:=R.keep I9;replace MT:=MT.keep I9;replace MD:=MD.keep I9;replace B:=d_ B I9;clear I9 VT oT VD oD;unfold Rg.aX;have e_:=C.box.c0;have f_:=C.box.c1;obtain ⟨q0,q1,q2⟩:=Q.aO;obtain ⟨r0,r1,r2⟩:=R.aO;have f0:=R.DJ 0;have f1:=R.DJ 1;have f2:=R.DJ 2;have rl:=R.lt
  by_cases hgood:ok=true/\gk=1
  ·obtain ⟨rfl,rfl⟩:=hgood
   obtain ⟨hK,hX,hE⟩:=h1k x x1 x2 (MM.1 rfl) (of_decide_eq_true hok.out);obtain ⟨c1,c2,c3,c4,c5,c6,c7,c8,c9,ca⟩:=H2.out hK;rw [hX,hE] at c7 c8;have hfin:=DB (show K=true/\X=x/\E=k from ⟨hK,hX,hE⟩);clear hat h1k MM hok c1 c2 c3 c4 c5 c6 hK hX hE hk H1 H2 hno zt zb hbp
   have m3:-8000<=m/\m<=8000:=by omega
   have n3:-1600000<=n/\n<=1600000:=by omega
   clear c9 ca;have Mj:=M.aH (x:=X1) (y:=k) (m:=10000) (n:=20);have Mk:=M.aH (x:=X1*k) (y:=k) (m:=200000) (n:=20);have IF:=M.aH (x:=x) (y:=E1) (m:=10000) (n:=20);have IG:=M.aH (x:=x*E1) (y:=E1) (m:=200000) (n:=20);have IH:=M.aH (x:=n) (y:=X1*k*k - x*E1*E1) (m:=1600000) (n:=8000000);have II:=M.aH (x:=n*(X1*k*k - x*E1*E1)) (y:=E1) (m:=12800000000000) (n:=20);have IJ:=M.aH (x:=Y1) (y:=m) (m:=3000000) (n:=8000);have IK:=M.aH (x:=Y1*m) (y:=k) (m:=24000000000) (n:=20);have IL:=M.aH (x:=Y1*m*k) (y:=k) (m:=480000000000) (n:=20)
   have PV:=fun W=>f8 a b x k W ha1 ha2 hb1 hb2 x1 x2 (by omega) (by omega)
   have hcv:=M.pf (a:=a) (b:=b) (x:=x) (e:=k) ha1 ha2 hb1 hb2 x1 x2 (by omega) (by omega);rw [←c8] at PV hcv;have hyb:=M.tR (Y:=Y) (by omega);have hr2:(Y.natAbs:Int)*(Y.natAbs:Int)=Y*Y:=Int.natAbs_mul_self
   have hr0:(0:Int)<=(Y.natAbs:Int):=by omega
   have hrb:(Y.natAbs:Int)<=2000000:=by omega
   have PR:=fun W=>iw (Y*Y) W (by omega)
   rw [M.ot hr0 hr2,M.iz hr2] at PR
   have hy:=fun h=>M.Bh (r:=(Y.natAbs:Int)) hm0.out (by omega) (by omega) (show k*(n*(X1*k*k - x*E1*E1)*E1 - Y1*m*k*k)=m*E1*E1*E1*Y from h) hr0 hr2
   replace hy:=hy c7;clear c7 c8 hcv;generalize (Y.natAbs:Int)=r at *;generalize Y*Y=yy at *;clear hr2;have PV:=DB PV;have PR:=DB PR
   obtain ⟨q1,d1⟩:∃ q,decide (n*(X1*k*k - x*E1*E1)*E1 - Y1*m*k*k<0)=q:=⟨_,rfl⟩
   obtain ⟨q2,d2⟩:∃ q,decide (m<0)=q:=⟨_,rfl⟩
   have hyv:(if (q1 != q2)=true then -r else r)=Y:=by
    rw [←hy,←d1,←d2]
   clear hy
   cases q1 <;> cases q2
   all_goals
    first | (replace hyv:r=Y:=hyv) | (replace hyv:-r=Y:=hyv)
    replace hyv:=DB hyv
    go_wp2_with first | (go_at_call 83;(with_reducible refine (PG.out _).mono ?_);rintro e w5 ⟨rfl,j5,rfl⟩;have hb5:=aN (DE wz.heap.size wz) j5;replace B:=d_ B hb5;replace C:=C.keep hb5;replace Q:=Q.keep hb5;replace R:=R.keep hb5;replace MT:=MT.keep hb5;replace MD:=MD.keep hb5;have e_:=C.box.c0;have f_:=C.box.c1;(obtain ⟨q0,q1,q2⟩:=Q.aO);(obtain ⟨r0,r1,r2⟩:=R.aO);have f0:=R.DJ 0;have f1:=R.DJ 1;have f2:=R.DJ 2;have rl:=R.lt) | (go_at_call 84;(with_reducible refine (PV.out _).mono ?_);rintro e w6 ⟨rfl,hb6⟩;replace B:=d_ B hb6;replace C:=C.keep hb6;replace Q:=Q.keep hb6;replace R:=R.keep hb6;replace MT:=MT.keep hb6;replace MD:=MD.keep hb6;have e_:=C.box.c0;have f_:=C.box.c1;(obtain ⟨q0,q1,q2⟩:=Q.aO);(obtain ⟨r0,r1,r2⟩:=R.aO);have f0:=R.DJ 0;have f1:=R.DJ 1;have f2:=R.DJ 2;have rl:=R.lt) | (go_at_call 85;(with_reducible refine (PR.out _).mono ?_);rintro e w7 ⟨rfl,rfl⟩)
    first | (exact bodyPost_ret (v:=.tuple #[.agg #[x,r,k],true]) (by simp [results,Tryz.results50,go_sem, *]) rfl (⟨by rw [hfin.out.1,hfin.out.2.1,hfin.out.2.2,hyv.out],EW B⟩)) | (exact bodyPost_ret (v:=.tuple #[.agg #[x,(-r:Int),k],true]) (by simp [results,Tryz.results50,go_sem, *]) rfl (⟨by rw [hfin.out.1,hfin.out.2.1,hfin.out.2.2,hyv.out],EW B⟩))
  have QD:K=true->k+1<=E:=by
   intro hK;have q1:=hk.out hK
   rcases Int.lt_or_le k E with q | q
   ·omega
   exfalso
   obtain ⟨z1,z2,z3⟩:=hat hK (by omega)
   apply hgood
   rw [←z1] at z2 z3;exact ⟨by rw [←hok.out];exact decide_eq_true z2,MM.2 z3⟩
  clear hat h1k MM hok hk hbp;have QD:=DB QD;cases ok
  all_goals
   first | (have hg1:gk≠1:=fun h=>hgood ⟨rfl,h⟩) | skip
   clear hgood
   go_wp2_with (go_at_call 83;(with_reducible refine (PG.out _).mono ?_);rintro e w5 ⟨rfl,j5,rfl⟩;have hb5:=aN (DE wz.heap.size wz) j5;replace B:=d_ B hb5;replace C:=C.keep hb5;replace Q:=Q.keep hb5;replace R:=R.keep hb5;replace MT:=MT.keep hb5;replace MD:=MD.keep hb5;have e_:=C.box.c0;have f_:=C.box.c1;(obtain ⟨q0,q1,q2⟩:=Q.aO);(obtain ⟨r0,r1,r2⟩:=R.aO);have f0:=R.DJ 0;have f1:=R.DJ 1;have f2:=R.DJ 2;have rl:=R.lt)
   go_roundw
   case rel=>exact ⟨k+1,rfl,by omega,by omega,QD,C,Q,R,B,MT,MD⟩
   case measure=>simp [intOf] <;> omega
 have hK:K=false:=by
  cases hK:K
  ·rfl
  have q1:=hk.out hK;have q2:=(H2.out hK).2.1;omega
 obtain ⟨z1,z2,z3⟩:=hno.out hK;have hfin:=DB (show K=false/\X=0/\Y=0/\E=0 from ⟨hK,z1,z2,z3⟩);clear hk H1 H2 hno z1 z2 z3 hK;go_wp2;exact bodyPost_ret (v:=.tuple #[.agg #[(0:Int),(0:Int),(0:Int)],false]) (by simp [results,Tryz.results50,go_sem, *]) rfl (⟨by rw [hfin.out.1,hfin.out.2.1,hfin.out.2.2.1,hfin.out.2.2.2],EW B⟩)
namespace M
noncomputable def cX (a X1 Y1 E1 X2 Y2 E2:Int):Bool:=if E1=0 then true else if E2=0 then true else iU a X1 Y1 E1 X2 Y2 E2
noncomputable def dV (a X1 Y1 E1 X2 Y2 E2:Int):Int:=if E1=0 then X2 else if E2=0 then X1 else FP a X1 Y1 E1 X2 Y2 E2
noncomputable def fH (a X1 Y1 E1 X2 Y2 E2:Int):Int:=if E1=0 then Y2 else if E2=0 then Y1 else Fi a X1 Y1 E1 X2 Y2 E2
noncomputable def dU (a X1 Y1 E1 X2 Y2 E2:Int):Int:=if E1=0 then E2 else if E2=0 then E1 else Ev a X1 Y1 E1 X2 Y2 E2
theorem gD {a b X Y E:Int} (hin:M.aw a b=true) (h:aY a b X Y E=true):(E=0/\X=0/\Y=0)∨(1<=E/\E<=20/\-10000<=X/\X<=10000/\Int.gcd X E=1/\Y*Y=cv a b X E/\-3000000<=Y/\Y<=3000000):=by
 obtain ⟨ha1,ha2,hb1,hb2⟩:=M.ag hin;unfold aY at h
 split at h
 ·simp only [Bool.and_eq_true,decide_eq_true_eq] at h
  left;exact ⟨by assumption,h.1,h.2⟩
 right
 simp only [Bool.and_eq_true,decide_eq_true_eq,M.ins,beq_iff_eq] at h;obtain ⟨⟨⟨⟨h1,h2⟩,h3,h4⟩,h5⟩,h6⟩:=h;have hv:=M.pf (a:=a) (b:=b) ha1 ha2 hb1 hb2 h1 h2 (by omega) h4;have hy:=M.AN h6 hv.2;exact ⟨h3,h4,h1,h2,by unfold M.gcd at h5;omega,h6,hy.1,hy.2⟩
theorem zZ {a b X Y E:Int} (h1:1<=E) (h2:E<=20) (h3:-10000<=X) (h4:X<=10000) (h5:Int.gcd X E=1) (h6:Y*Y=cv a b X E):aY a b X Y E=true:=by
 unfold aY;rw [if_neg (by omega)];simp only [Bool.and_eq_true,decide_eq_true_eq,M.ins,beq_iff_eq];exact ⟨⟨⟨⟨h3,h4⟩,h1,h2⟩,by unfold M.gcd;omega⟩,h6⟩
theorem jL {a b X1 Y1 E1 X2 Y2 E2:Int} (hin:M.aw a b=true) (hp:aY a b X1 Y1 E1=true) (hq:aY a b X2 Y2 E2=true):aY a b (dV a X1 Y1 E1 X2 Y2 E2) (fH a X1 Y1 E1 X2 Y2 E2) (dU a X1 Y1 E1 X2 Y2 E2)=true:=by
 unfold dV fH dU
 by_cases h1:E1=0
 ·rw [if_pos h1,if_pos h1,if_pos h1];exact hq
 rw [if_neg h1,if_neg h1,if_neg h1]
 by_cases h2:E2=0
 ·rw [if_pos h2,if_pos h2,if_pos h2];exact hp
 rw [if_neg h2,if_neg h2,if_neg h2];have z0:aY a b 0 0 0=true:=rfl
 by_cases h0:sD X1 Y1 E1 X2 Y2 E2=0
 ·unfold FP Fi Ev
  rw [if_pos h0,if_pos h0,if_pos h0];exact z0
 cases hk:iU a X1 Y1 E1 X2 Y2 E2
 ·obtain ⟨q1,q2,q3⟩:=si h0 hk
  rw [q1,q2,q3];exact z0
 obtain ⟨p1,p2,p3,p4,p5,p6,-⟩:=(gD hin hp).resolve_left (fun h=>h1 h.1);obtain ⟨r1,r2,r3,r4,r5,r6,-⟩:=(gD hin hq).resolve_left (fun h=>h2 h.1);obtain ⟨-,-,H⟩:=nj (n:=EC a X1 Y1 E1 X2 Y2 E2) (m:=Dz a X1 Y1 E1 X2 Y2 E2) p6 r6 p4 r4 p1 p2 r1 r2 h0 (Or.inl ⟨rfl,rfl⟩);obtain ⟨c1,c2,c3,c4,c5,-,-,c8,-⟩:=H hk _ _ _ rfl rfl rfl;exact zZ c1 c2 c3 c4 c5 c8
theorem dq {a b X Y E:Int} (hin:M.aw a b=true) (h:aY a b X Y E=true):-10000<=X/\X<=10000/\0<=E/\E<=20/\-3000000<=Y/\Y<=3000000:=by
 rcases gD hin h with ⟨rfl,rfl,rfl⟩ | ⟨h1,h2,h3,h4,-,-,h7,h8⟩ <;> omega
end M
theorem fM (a b X1 Y1 E1 X2 Y2 E2:Int) (w:World) (hg:M.good a b=true) (hp:M.aY a b X1 Y1 E1=true) (hq:M.aY a b X2 Y2 E2=true) :
  Calls Tryz.prog 50 #[.agg #[a,b],.agg #[X1,Y1,E1],.agg #[X2,Y2,E2]] w fun e w'=>e=.returned (.tuple #[.agg #[M.dV a X1 Y1 E1 X2 Y2 E2,M.fH a X1 Y1 E1 X2 Y2 E2,M.dU a X1 Y1 E1 X2 Y2 E2],M.cX a X1 Y1 E1 X2 Y2 E2])/\Below w.heap.size w w':=by
 have hin:=M.aj hg;obtain ⟨ha1,ha2,hb1,hb2⟩:=M.ag hin
 by_cases hE1:E1=0
 ·have hf:=DB (show M.dV a X1 Y1 E1 X2 Y2 E2=X2/\M.fH a X1 Y1 E1 X2 Y2 E2=Y2/\M.dU a X1 Y1 E1 X2 Y2 E2=E2/\M.cX a X1 Y1 E1 X2 Y2 E2=true from ⟨if_pos hE1,if_pos hE1,if_pos hE1,if_pos hE1⟩)
  rw [hf.out.1,hf.out.2.1,hf.out.2.2.1,hf.out.2.2.2];clear hf hg hp hq hin;subst hE1;obtain ⟨wc,hw3,C,Q,U,R,B⟩:=di w #[a,b] 25 #[X1,Y1,(0:Int)] 40 #[X2,Y2,E2] 40 #[(0:Int),(0:Int),(0:Int)] 40;have e_:=C.box.c0;have f_:=C.box.c1;have ⟨q0,q1,q2⟩:=Q.aO;have ⟨u0,u1,u2⟩:=U.aO;have ⟨r0,r1,r2⟩:=R.aO;have f0:=R.DJ 0;have f1:=R.DJ 1;have f2:=R.DJ 2;have rl:=R.lt;go_enter Tryz.func50,Tryz.ntmps50
  go_wp2;exact bodyPost_ret (v:=.tuple #[.agg #[X2,Y2,E2],true]) (by simp [results,Tryz.results50,go_sem, *]) rfl (⟨rfl,EW B⟩)
 obtain ⟨p1,p2,p3,p4,p5,p6,p7,p8⟩:=(M.gD hin hp).resolve_left (fun h=>hE1 h.1)
 by_cases hE2:E2=0
 ·have hf:=DB (show M.dV a X1 Y1 E1 X2 Y2 E2=X1/\M.fH a X1 Y1 E1 X2 Y2 E2=Y1/\M.dU a X1 Y1 E1 X2 Y2 E2=E1/\M.cX a X1 Y1 E1 X2 Y2 E2=true from ⟨(if_neg hE1).trans (if_pos hE2),(if_neg hE1).trans (if_pos hE2),(if_neg hE1).trans (if_pos hE2),(if_neg hE1).trans (if_pos hE2)⟩)
  rw [hf.out.1,hf.out.2.1,hf.out.2.2.1,hf.out.2.2.2];clear hf hg hp hq hin p5 p6
  have hE3:(E1 == 0)=false:=by rw [beq_eq_false_iff_ne];exact hE1
  subst hE2;obtain ⟨wc,hw3,C,Q,U,R,B⟩:=di w #[a,b] 25 #[X1,Y1,E1] 40 #[X2,Y2,(0:Int)] 40 #[(0:Int),(0:Int),(0:Int)] 40;have e_:=C.box.c0;have f_:=C.box.c1;have ⟨q0,q1,q2⟩:=Q.aO;have ⟨u0,u1,u2⟩:=U.aO;have ⟨r0,r1,r2⟩:=R.aO;have f0:=R.DJ 0;have f1:=R.DJ 1;have f2:=R.DJ 2;have rl:=R.lt;go_enter Tryz.func50,Tryz.ntmps50
  go_wp2;exact bodyPost_ret (v:=.tuple #[.agg #[X1,Y1,E1],true]) (by simp [results,Tryz.results50,go_sem, *]) rfl (⟨rfl,EW B⟩)
 obtain ⟨r1,r2,r3,r4,r5,r6,r7,r8⟩:=(M.gD hin hq).resolve_left (fun h=>hE2 h.1);have hf:=DB (show M.dV a X1 Y1 E1 X2 Y2 E2=M.FP a X1 Y1 E1 X2 Y2 E2/\M.fH a X1 Y1 E1 X2 Y2 E2=M.Fi a X1 Y1 E1 X2 Y2 E2/\M.dU a X1 Y1 E1 X2 Y2 E2=M.Ev a X1 Y1 E1 X2 Y2 E2/\M.cX a X1 Y1 E1 X2 Y2 E2=M.iU a X1 Y1 E1 X2 Y2 E2 from ⟨(if_neg hE1).trans (if_neg hE2),(if_neg hE1).trans (if_neg hE2),(if_neg hE1).trans (if_neg hE2),(if_neg hE1).trans (if_neg hE2)⟩);rw [hf.out.1,hf.out.2.1,hf.out.2.2.1,hf.out.2.2.2];exact vF a b X1 Y1 E1 X2 Y2 E2 w ha1 ha2 p3 p4 p7 p8 p1 p2 r3 r4 r7 r8 r1 r2 hb1 hb2 p6 r6 p5 r5
theorem zY (a b X1 Y1 E1 X2 Y2 E2:Int) (w:World) (hg:M.good a b=true) (hp:M.aY a b X1 Y1 E1=true) (hq:M.aY a b X2 Y2 E2=true) :
  Calls Tryz.prog 55 #[.agg #[a,b],.agg #[X1,Y1,E1],.agg #[X2,Y2,E2]] w fun e w'=>e=.returned (.tuple #[.agg #[M.dV a X1 Y1 E1 X2 Y2 E2,M.fH a X1 Y1 E1 X2 Y2 E2,M.dU a X1 Y1 E1 X2 Y2 E2],M.cX a X1 Y1 E1 X2 Y2 E2])/\Below w.heap.size w w':=by
 have hin:=M.aj hg;obtain ⟨ha1,ha2,hb1,hb2⟩:=M.ag hin
 by_cases hE1:E1=0
 ·have hf:=DB (show M.dV a X1 Y1 E1 X2 Y2 E2=X2/\M.fH a X1 Y1 E1 X2 Y2 E2=Y2/\M.dU a X1 Y1 E1 X2 Y2 E2=E2/\M.cX a X1 Y1 E1 X2 Y2 E2=true from ⟨if_pos hE1,if_pos hE1,if_pos hE1,if_pos hE1⟩)
  rw [hf.out.1,hf.out.2.1,hf.out.2.2.1,hf.out.2.2.2];clear hf hg hp hq hin;subst hE1;obtain ⟨wc,hw3,C,Q,U,R,B⟩:=di w #[a,b] 25 #[X1,Y1,(0:Int)] 40 #[X2,Y2,E2] 40 #[(0:Int),(0:Int),(0:Int)] 40;have e_:=C.box.c0;have f_:=C.box.c1;have ⟨q0,q1,q2⟩:=Q.aO;have ⟨u0,u1,u2⟩:=U.aO;have ⟨r0,r1,r2⟩:=R.aO;have f0:=R.DJ 0;have f1:=R.DJ 1;have f2:=R.DJ 2;have rl:=R.lt;go_enter Tryz.func55,Tryz.ntmps55
  go_wp2;exact bodyPost_ret (v:=.tuple #[.agg #[X2,Y2,E2],true]) (by simp [results,Tryz.results55,go_sem, *]) rfl (⟨rfl,EW B⟩)
 obtain ⟨p1,p2,p3,p4,p5,p6,p7,p8⟩:=(M.gD hin hp).resolve_left (fun h=>hE1 h.1)
 by_cases hE2:E2=0
 ·have hf:=DB (show M.dV a X1 Y1 E1 X2 Y2 E2=X1/\M.fH a X1 Y1 E1 X2 Y2 E2=Y1/\M.dU a X1 Y1 E1 X2 Y2 E2=E1/\M.cX a X1 Y1 E1 X2 Y2 E2=true from ⟨(if_neg hE1).trans (if_pos hE2),(if_neg hE1).trans (if_pos hE2),(if_neg hE1).trans (if_pos hE2),(if_neg hE1).trans (if_pos hE2)⟩)
  rw [hf.out.1,hf.out.2.1,hf.out.2.2.1,hf.out.2.2.2];clear hf hg hp hq hin p5 p6
  have hE3:(E1 == 0)=false:=by rw [beq_eq_false_iff_ne];exact hE1
  subst hE2;obtain ⟨wc,hw3,C,Q,U,R,B⟩:=di w #[a,b] 25 #[X1,Y1,E1] 40 #[X2,Y2,(0:Int)] 40 #[(0:Int),(0:Int),(0:Int)] 40;have e_:=C.box.c0;have f_:=C.box.c1;have ⟨q0,q1,q2⟩:=Q.aO;have ⟨u0,u1,u2⟩:=U.aO;have ⟨r0,r1,r2⟩:=R.aO;have f0:=R.DJ 0;have f1:=R.DJ 1;have f2:=R.DJ 2;have rl:=R.lt;go_enter Tryz.func55,Tryz.ntmps55
  go_wp2;exact bodyPost_ret (v:=.tuple #[.agg #[X1,Y1,E1],true]) (by simp [results,Tryz.results55,go_sem, *]) rfl (⟨rfl,EW B⟩)
 obtain ⟨r1,r2,r3,r4,r5,r6,r7,r8⟩:=(M.gD hin hq).resolve_left (fun h=>hE2 h.1);have hf:=DB (show M.dV a X1 Y1 E1 X2 Y2 E2=M.FP a X1 Y1 E1 X2 Y2 E2/\M.fH a X1 Y1 E1 X2 Y2 E2=M.Fi a X1 Y1 E1 X2 Y2 E2/\M.dU a X1 Y1 E1 X2 Y2 E2=M.Ev a X1 Y1 E1 X2 Y2 E2/\M.cX a X1 Y1 E1 X2 Y2 E2=M.iU a X1 Y1 E1 X2 Y2 E2 from ⟨(if_neg hE1).trans (if_neg hE2),(if_neg hE1).trans (if_neg hE2),(if_neg hE1).trans (if_neg hE2),(if_neg hE1).trans (if_neg hE2)⟩);rw [hf.out.1,hf.out.2.1,hf.out.2.2.1,hf.out.2.2.2];exact rh a b X1 Y1 E1 X2 Y2 E2 w ha1 ha2 p3 p4 p7 p8 p1 p2 r3 r4 r7 r8 r1 r2 hb1 hb2 p6 r6
theorem dj {B:Nat} {w w':World} (h:Below B w w') (p:Addr) (x:Value):Below B (w.setCell p x) (w'.setCell p x):=
 ⟨h.os,h.tape,h.output,by simp [World.setCell];exact h.size,fun k hk=>by
  show (w'.heap.modify p.block _)[k]?=(w.heap.modify p.block _)[k]?
  rw [Array.getElem?_modify,Array.getElem?_modify,h.block k hk]⟩
theorem aV (w:World) (p:Addr) (x:Value):(w.setCell p x).heap.size=w.heap.size:=by simp [World.setCell]
theorem bB {w w':World} {p:Addr} {x:Value} (h:Below w.heap.size (w.setCell p x) w'):Below (w.setCell p x).heap.size (w.setCell p x) w':=h.mono (Nat.le_of_eq (aV w p x))
theorem oI (g:Nat) (ok:Bool) (lo hi:Int) (w:World) (K:aG w g 103 #[ok]) :
  Calls Tryz.prog 134 #[.pointer (some ⟨g,0,none⟩),.agg #[lo,hi]] w fun e w'=>e=.returned (.agg #[M.pick (ok && M.aJ lo hi) lo,M.pick (ok && M.aJ lo hi) hi])/\Below w.heap.size (w.setCell ⟨g,0,none⟩ (.bool (ok && M.aJ lo hi))) w':=by
 have PV:=DB fun W=>pK lo hi W
 have hgl:=K.lt;have B:=((DE w.heap.size w).alloc (DF _) (.cells #[lo,hi] 74)).alloc (by rw [DC];omega) (.cells #[(0:Int),(0:Int)] 74);have S:=(aG.new w #[lo,hi] 74).alloc (.cells #[(0:Int),(0:Int)] 74);have R:=aG.new (w.alloc (.cells #[lo,hi] 74)) #[(0:Int),(0:Int)] 74;rw [DC] at R;have K2:=(K.alloc (.cells #[lo,hi] 74)).alloc (.cells #[(0:Int),(0:Int)] 74);generalize hw3:(w.alloc (.cells #[lo,hi] 74)).alloc (.cells #[(0:Int),(0:Int)] 74)=wc at *;have k0:=K2.cell 0;have kf:=K2.DJ 0;have kl:=K2.lt
 have n1:g≠w.heap.size:=by omega
 have n2:g≠w.heap.size+1:=by omega
 have ⟨s0,s1,s2,s3,s4⟩:=S.box;have ⟨r0,r1,r2,r3,r4⟩:=R.box;cases ok
 ·go_enter Tryz.func134,Tryz.ntmps134
  go_wp2;exact bodyPost_ret (v:=.agg #[(0:Int),(0:Int)]) (by simp [results,Tryz.results134,go_sem, *]) rfl (⟨rfl,DD (DD (dj B ⟨g,0,none⟩ (.bool false)) (by simp) _) (by simp) _⟩)
 cases hv:M.aJ lo hi
 ·rw [hv] at PV
  go_enter Tryz.func134,Tryz.ntmps134
  go_wp2_with (go_at_call 149;(with_reducible refine (PV.out _).mono ?_);rintro e w4 ⟨rfl,hb4⟩;replace B:=d_ B hb4;replace S:=S.keep hb4;replace R:=R.keep hb4;replace K2:=K2.keep hb4;have k0:=K2.cell 0;have kf:=K2.DJ 0;have kl:=K2.lt;(obtain ⟨s0,s1,s2,s3,s4⟩:=S.box);(obtain ⟨r0,r1,r2,r3,r4⟩:=R.box))
  exact bodyPost_ret (v:=.agg #[(0:Int),(0:Int)]) (by simp [results,Tryz.results134,go_sem, *]) rfl (⟨rfl,DD (DD (dj B ⟨g,0,none⟩ (.bool false)) (by simp) _) (by simp) _⟩)
 rw [hv] at PV;go_enter Tryz.func134,Tryz.ntmps134
 go_wp2_with (go_at_call 149;(with_reducible refine (PV.out _).mono ?_);rintro e w4 ⟨rfl,hb4⟩;replace B:=d_ B hb4;replace S:=S.keep hb4;replace R:=R.keep hb4;replace K2:=K2.keep hb4;have k0:=K2.cell 0;have kf:=K2.DJ 0;have kl:=K2.lt;(obtain ⟨s0,s1,s2,s3,s4⟩:=S.box);(obtain ⟨r0,r1,r2,r3,r4⟩:=R.box))
 exact bodyPost_ret (v:=.agg #[lo,hi]) (by simp [results,Tryz.results134,go_sem, *]) rfl (⟨rfl,DD (DD (dj B ⟨g,0,none⟩ (.bool true)) (by simp) _) (by simp) _⟩)
end
end Go.Proofs.YtkalaljcbmkbmaaGreat
