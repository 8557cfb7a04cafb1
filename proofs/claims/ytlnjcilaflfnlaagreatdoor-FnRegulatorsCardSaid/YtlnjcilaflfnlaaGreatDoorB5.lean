/-
  Joined: contracts, lemmas.
-/
import Derived.Test.YtlnjcilaflfnlaaGreatDoorB4
set_option linter.unusedSimpArgs false
set_option linter.unusedVariables false
set_option maxRecDepth 100000
set_option maxHeartbeats 8000000
namespace Go.Proofs.YtlnjcilaflfnlaaGreatDoor
open _root_.Go.Proofs.Tryz
section
open Go.RowKit open Gr M Rg Rw Wh
theorem Ud {p:Prop} (h:p:=by
 obtain ⟨wc,hw3,C,Q,U,R,B⟩:=fP w #[a,b] 24 #[X1,Y1,E1] 47 #[X2,Y2,E2] 47 #[(0:Int),(0:Int),(0:Int)] 47;have ⟨q0,q1,q2⟩:=Q.aM;have ⟨u0,u1,u2⟩:=U.aM;have f_:=C.box.c0;have j_:=C.box.c1;have ⟨r0,r1,r2⟩:=R.aM;go_enter func43,ntmps43
 go_wp2_with first | ((with_reducible refine (PS.out _).mono ?_);rintro e w4 ⟨rfl,hb4⟩;replace B:=p_ B hb4;replace R:=R.keep hb4;replace Q:=Q.keep hb4;replace U:=U.keep hb4;replace C:=C.keep hb4;(obtain ⟨q0,q1,q2⟩:=Q.aM);(obtain ⟨u0,u1,u2⟩:=U.aM);(obtain ⟨r0,r1,r2⟩:=R.aM);have f0:=R.Kx 0;have f1:=R.Kx 1;have f2:=R.Kx 2;have rl:=R.lt) | ((with_reducible refine (PA.out _).mono ?_);rintro e w5 ⟨rfl,rfl⟩)
 go_region
 all_goals
  go_wp2_with first | ((with_reducible refine (PE.out _).mono ?_);rintro e w6 ⟨rfl,hb6⟩;replace B:=B.trans ((aP (KS w4 w4) 1).mono B.size);replace R:=R.drew;replace Q:=Q.drew;replace U:=U.drew;replace C:=C.drew;replace B:=p_ B hb6;replace R:=R.keep hb6;replace Q:=Q.keep hb6;replace U:=U.keep hb6;replace C:=C.keep hb6;(obtain ⟨q0,q1,q2⟩:=Q.aM);(obtain ⟨u0,u1,u2⟩:=U.aM);(obtain ⟨r0,r1,r2⟩:=R.aM);have f0:=R.Kx 0;have f1:=R.Kx 1;have f2:=R.Kx 2;have rl:=R.lt) | ((with_reducible refine (PR.out _).mono ?_);rintro e w7 ⟨rfl,rfl⟩) | ((with_reducible refine (PI.out _).mono ?_);rintro e w8 ⟨rfl,rfl⟩)
  exact KU results43 ⟨rfl,MN B⟩):p:=h
theorem YU {p:Prop} (h:p:=by
 go_enter func43,ntmps43
 go_wp2_with first | ((with_reducible refine (PS.out _).mono ?_);rintro e w4 ⟨rfl,hb4⟩;replace B:=p_ B hb4;replace R:=R.keep hb4;(obtain ⟨r0,r1,r2⟩:=R.aM);have f0:=R.Kx 0;have f1:=R.Kx 1;have f2:=R.Kx 2;have rl:=R.lt) | ((with_reducible refine (PA.out _).mono ?_);rintro e w5 ⟨rfl,rfl⟩)
 exact KU results43 ⟨rfl,MN B⟩):p:=h
namespace M
noncomputable def lZ (a X1 Y1 E1 X2 Y2 E2:Int):Bool:=if sD X1 Y1 E1 X2 Y2 E2=0 then true else gS (Lu a X1 Y1 E1 X2 Y2 E2) (Le a X1 Y1 E1 X2 Y2 E2) X1 E1 X2 E2
noncomputable def NY (a X1 Y1 E1 X2 Y2 E2:Int):Int:=if sD X1 Y1 E1 X2 Y2 E2=0 then 0 else if gS (Lu a X1 Y1 E1 X2 Y2 E2) (Le a X1 Y1 E1 X2 Y2 E2) X1 E1 X2 E2 then NX (Lu a X1 Y1 E1 X2 Y2 E2) (Le a X1 Y1 E1 X2 Y2 E2) X1 E1 X2 E2 else 0
noncomputable def Nt (a X1 Y1 E1 X2 Y2 E2:Int):Int:=if sD X1 Y1 E1 X2 Y2 E2=0 then 0 else if gS (Lu a X1 Y1 E1 X2 Y2 E2) (Le a X1 Y1 E1 X2 Y2 E2) X1 E1 X2 E2 then QJ (Lu a X1 Y1 E1 X2 Y2 E2) (Le a X1 Y1 E1 X2 Y2 E2) X1 Y1 E1 X2 E2 else 0
noncomputable def Mn (a X1 Y1 E1 X2 Y2 E2:Int):Int:=if sD X1 Y1 E1 X2 Y2 E2=0 then 0 else if gS (Lu a X1 Y1 E1 X2 Y2 E2) (Le a X1 Y1 E1 X2 Y2 E2) X1 E1 X2 E2 then L9 (Lu a X1 Y1 E1 X2 Y2 E2) (Le a X1 Y1 E1 X2 Y2 E2) X1 E1 X2 E2 else 0
theorem Gx (n d X1 E1 X2 E2:Int):n*n*(E1*E1)*(E2*E2) - X1*d*d*(E2*E2) - X2*d*d*(E1*E1)=top n d X1 E1 X2 E2:=by unfold top;grind
theorem FP (d E1 E2:Int):d*d*(E1*E1)*(E2*E2)=bot d E1 E2:=by unfold bot;grind
theorem AD {Y:Int} (h:Y*Y<=4000000000000):-2000000<=Y/\Y<=2000000:=by
 refine ⟨Int.not_lt.1 fun q=>?_,Int.not_lt.1 fun q=>?_⟩
 ·have:=Int.mul_le_mul_of_nonneg_left (show (2000001:Int)<=-Y by omega) (show 0<=-Y by omega)
  have e:-Y*-Y=Y*Y:=Int.neg_mul_neg Y Y;rw [e] at this;omega
 have:=Int.mul_le_mul_of_nonneg_left (show (2000001:Int)<=Y by omega) (show 0<=Y by omega);omega
theorem fY {x b:Int} (hx:0<=x) (hb:0<b):0<=x.tdiv b/\x.tdiv b<=x:=by
 rw [Int.tdiv_eq_ediv_of_nonneg hx];exact ⟨Int.ediv_nonneg hx ω,Int.ediv_le_self _ hx⟩
end M
theorem xv (a b X1 Y1 E1 X2 Y2 E2:Int) (w:World) (ha1:-1000<=a) (ha2:a<=1000) (hx1:-10000<=X1) (hx2:X1<=10000) (hy1:-3000000<=Y1) (hy2:Y1<=3000000) (he1:1<=E1) (he2:E1<=20) (hx3:-10000<=X2) (hx4:X2<=10000) (hy3:-3000000<=Y2) (hy4:Y2<=3000000) (NH:1<=E2) (Nu:E2<=20) (hb1:-10000<=b) (hb2:b<=10000) (hc1:Y1*Y1=M.cv a b X1 E1) (hc2:Y2*Y2=M.cv a b X2 E2) :
  cB 43 #[.agg #[a,b],.agg #[X1,Y1,E1],.agg #[X2,Y2,E2]] w (.tuple #[.agg #[M.NY a X1 Y1 E1 X2 Y2 E2,M.Nt a X1 Y1 E1 X2 Y2 E2,M.Mn a X1 Y1 E1 X2 Y2 E2],lZ a X1 Y1 E1 X2 Y2 E2]):=by
 have PS:=fun W=>BR a b X1 Y1 E1 X2 Y2 E2 W ha1 ha2 hx1 hx2 hy1 hy2 he1 he2 hx3 hx4 hy3 hy4 NH Nu
 have hE1:(E1 == 0)=false:=by rw [beq_eq_false_iff_ne];omega
 have hE2:(E2 == 0)=false:=by rw [beq_eq_false_iff_ne];omega
 by_cases h0:M.sD X1 Y1 E1 X2 Y2 E2=0
 ·have e1:M.Lu a X1 Y1 E1 X2 Y2 E2=1:=if_pos h0
  have e2:M.Le a X1 Y1 E1 X2 Y2 E2=0:=if_pos h0;have hf:=KO (show M.NY a X1 Y1 E1 X2 Y2 E2=0/\M.Nt a X1 Y1 E1 X2 Y2 E2=0/\M.Mn a X1 Y1 E1 X2 Y2 E2=0/\lZ a X1 Y1 E1 X2 Y2 E2=true from ⟨if_pos h0,if_pos h0,if_pos h0,if_pos h0⟩);rw [e1,e2] at PS;rw [hf.out.1,hf.out.2.1,hf.out.2.2.1,hf.out.2.2.2];clear e1 e2 hf h0 hc1 hc2;have PS:=KO PS;obtain ⟨wc,hw3,C,Q,U,R,B⟩:=fP w #[a,b] 24 #[X1,Y1,E1] 47 #[X2,Y2,E2] 47 #[(0:Int),(0:Int),(0:Int)] 47;have ⟨q0,q1,q2⟩:=Q.aM;have ⟨u0,u1,u2⟩:=U.aM;have f_:=C.box.c0;have j_:=C.box.c1;have ⟨r0,r1,r2⟩:=R.aM;go_enter func43,ntmps43
  go_wp2_with ((with_reducible refine (PS.out _).mono ?_);rintro e w4 ⟨rfl,hb4⟩;replace B:=p_ B hb4;replace R:=R.keep hb4;(obtain ⟨r0,r1,r2⟩:=R.aM);have f0:=R.Kx 0;have f1:=R.Kx 1;have f2:=R.Kx 2;have rl:=R.lt)
  exact KU results43 ⟨rfl,MN B⟩
 have hsb:=I9 (a:=a) ha1 ha2 hx1 hx2 hy1 hy2 he1 he2 hx3 hx4 hy3 hy4 NH Nu;obtain ⟨hs,hd0,hg,hn,hdd⟩:=AA (a:=a) h0
 have g1:=show M.NY a X1 Y1 E1 X2 Y2 E2=_ from if_neg h0
 have g2:=show M.Nt a X1 Y1 E1 X2 Y2 E2=_ from if_neg h0
 have g3:=show M.Mn a X1 Y1 E1 X2 Y2 E2=_ from if_neg h0
 have g4:=show lZ a X1 Y1 E1 X2 Y2 E2=_ from if_neg h0
 rw [g1,g2,g3,g4];clear g1 g2 g3 g4;generalize M.Le a X1 Y1 E1 X2 Y2 E2=d,M.Lu a X1 Y1 E1 X2 Y2 E2=n at *
 have hn1:-200000000000<=n/\n<=200000000000:=ω
 have hd1:d<=200000000000:=ω
 have hbd:=fun (k:gS n d X1 E1 X2 E2=true)=>uf (n:=n) (m:=d) ω he1 he2 NH Nu hx2 hx4 hg k
 have Ni:=fun (k:gS n d X1 E1 X2 E2=true)=>JX hc1 hc2 ω ω ω hs h0 k
 have hii:=fun (k:gS n d X1 E1 X2 E2=true)=>yS ω ω ω k
 clear hsb hn hdd hs h0 hc1 hc2 hg
 by_cases hbig:8000<d∨200*d<(n.natAbs:Int)
 ·have hk:gS n d X1 E1 X2 E2=false:=by
   cases hq:gS n d X1 E1 X2 E2
   ·rfl
   have:=hbd hq;omega
  rw [hk];clear hbd Ni hii hk;have hz:=KO (show (if false=true then M.NX n d X1 E1 X2 E2 else 0)=0/\(if false=true then M.QJ n d X1 Y1 E1 X2 E2 else 0)=0/\(if false=true then M.L9 n d X1 E1 X2 E2 else 0)=0 from ⟨rfl,rfl,rfl⟩);rw [hz.out.1,hz.out.2.1,hz.out.2.2];clear hz
  have PA:=fun W=>eP n W ω ω
  have hh:decide (200*d<(n.natAbs:Int))=true∨8000<d:=by rcases hbig with h | h;exact Or.inr h;exact Or.inl (decide_eq_true h)
  have hnn:(n.natAbs:Int)<=200000000000:=ω
  generalize (n.natAbs:Int)=na at *;have PS:=KO PS;have PA:=KO PA;obtain ⟨wc,hw3,C,Q,U,R,B⟩:=fP w #[a,b] 24 #[X1,Y1,E1] 47 #[X2,Y2,E2] 47 #[(0:Int),(0:Int),(0:Int)] 47;have ⟨q0,q1,q2⟩:=Q.aM;have ⟨u0,u1,u2⟩:=U.aM;have f_:=C.box.c0;have j_:=C.box.c1;have ⟨r0,r1,r2⟩:=R.aM
  by_cases h8:8000<d
  ·clear hh hbig
   exact YU
  have h9:200*d<na:=ω
  clear hh hbig;exact YU
 have hd8:d<=8000:=ω
 have hn8:-1600000<=n/\n<=1600000:=ω
 have hna:(n.natAbs:Int)<=200*d:=ω
 have PA:=fun W=>eP n W ω ω
 have hnn:(n.natAbs:Int)<=1600000:=ω
 have sb1:=aH (x:=n) (y:=n) (m:=1600000) (n:=1600000);have sb2:=aH (x:=E1) (y:=E1) (m:=20) (n:=20);have sb3:=aH (x:=n*n) (y:=E1*E1) (m:=2560000000000) (n:=400);have sb4:=aH (x:=E2) (y:=E2) (m:=20) (n:=20);have sb5:=aH (x:=n*n*(E1*E1)) (y:=E2*E2) (m:=1024000000000000) (n:=400);have sb6:=aH (x:=X1) (y:=d) (m:=10000) (n:=8000);have sb7:=aH (x:=X1*d) (y:=d) (m:=80000000) (n:=8000);have sb8:=aH (x:=X1*d*d) (y:=E2*E2) (m:=640000000000) (n:=400);have sb9:=aH (x:=X2) (y:=d) (m:=10000) (n:=8000);have Rj:=aH (x:=X2*d) (y:=d) (m:=80000000) (n:=8000);have Rk:=aH (x:=X2*d*d) (y:=E1*E1) (m:=640000000000) (n:=400);have Rl:=aH (x:=d) (y:=d) (m:=8000) (n:=8000);have Rm:=aH (x:=d*d) (y:=E1*E1) (m:=64000000) (n:=400);have Rn:=aH (x:=d*d*(E1*E1)) (y:=E2*E2) (m:=25600000000) (n:=400);have ht:n*n*(E1*E1)*(E2*E2) - X1*d*d*(E2*E2) - X2*d*d*(E1*E1)=M.top n d X1 E1 X2 E2:=Gx ..;have hb:d*d*(E1*E1)*(E2*E2)=M.bot d E1 E2:=FP ..;have hbp:0<M.bot d E1 E2:=pF ω ω ω
 have PE:=fun W=>mL (n*n*(E1*E1)*(E2*E2) - X1*d*d*(E2*E2) - X2*d*d*(E1*E1)) (d*d*(E1*E1)*(E2*E2)) W ω ω ω ω ω
 have hpx:cM (n*n*(E1*E1)*(E2*E2) - X1*d*d*(E2*E2) - X2*d*d*(E1*E1)) (d*d*(E1*E1)*(E2*E2))=M.NX n d X1 E1 X2 E2:=by rw [ht,hb];rfl
 have hpd:bW (n*n*(E1*E1)*(E2*E2) - X1*d*d*(E2*E2) - X2*d*d*(E1*E1)) (d*d*(E1*E1)*(E2*E2))=bW (M.top n d X1 E1 X2 E2) (M.bot d E1 E2):=by rw [ht,hb]
 rw [hpx,hpd] at PE;have hF:=kv (t:=M.top n d X1 E1 X2 E2) (b:=M.bot d E1 E2) ω;have hF0:=(kL (t:=M.top n d X1 E1 X2 E2) (b:=M.bot d E1 E2) ω).2.1;have hxs:(M.NX n d X1 E1 X2 E2).natAbs<=(M.top n d X1 E1 X2 E2).natAbs:=hF.1;have hR:=iU (show 0<=bW (M.top n d X1 E1 X2 E2) (M.bot d E1 E2) by omega)
 have PR:=fun W=>qQ (bW (M.top n d X1 E1 X2 E2) (M.bot d E1 E2)) W ω ω
 have hre:M.root (bW (M.top n d X1 E1 X2 E2) (M.bot d E1 E2))=M.L9 n d X1 E1 X2 E2:=rfl;rw [hre] at PR hR;have hok:gS n d X1 E1 X2 E2=(decide (M.L9 n d X1 E1 X2 E2*M.L9 n d X1 E1 X2 E2=bW (M.top n d X1 E1 X2 E2) (M.bot d E1 E2)) && decide (M.L9 n d X1 E1 X2 E2<=20) && M.ins (M.NX n d X1 E1 X2 E2) (-10000) 10000):=rfl
 have PI:=fun W=>eW (M.NX n d X1 E1 X2 E2) (-10000) 10000 W
 have hF1:bW (M.top n d X1 E1 X2 E2) (M.bot d E1 E2)<=11000000000000:=ω
 have hF2:M.L9 n d X1 E1 X2 E2*M.L9 n d X1 E1 X2 E2<=11000000000000:=Int.le_trans hR.2.1 hF1;clear hF hF0 hxs hre hbp hpx hpd ht hb hbd hna;generalize hxx:M.NX n d X1 E1 X2 E2=x at *;generalize hee:M.L9 n d X1 E1 X2 E2=e at *;generalize bW (M.top n d X1 E1 X2 E2) (M.bot d E1 E2)=F at *;obtain ⟨R0,R1,R2⟩:=hR;clear R2;have R3:0<=e*e:=Int.mul_nonneg R0 R0;have PS:=KO PS;have PA:=KO PA;have PE:=KO PE;have PR:=KO PR;generalize (n.natAbs:Int)=na at *;have hfz:=KO (show (if false=true then x else 0)=0/\(if false=true then M.QJ n d X1 Y1 E1 X2 E2 else 0)=0/\(if false=true then e else 0)=0 from ⟨rfl,rfl,rfl⟩)
 by_cases c1:e*e=F
 ·subst c1
  clear R1 hF1;have R4:=hF2
  by_cases c2:e<=20
  ·cases c3:M.ins x (-10000) 10000
   ·have hk:gS n d X1 E1 X2 E2=false:=by rw [hok,c3,Bool.and_false]
    rw [hk,hfz.out.1,hfz.out.2.1,hfz.out.2.2];clear hk hfz hok Ni hii;rw [c3] at PI;have PI:=KO PI;exact Ud
   have hk:gS n d X1 E1 X2 E2=true:=by rw [hok,c3,decide_eq_true c2,decide_eq_true rfl];rfl
   rw [c3] at PI;have PI:=KO PI;clear hok;obtain ⟨i1,i2,i3,i4,i5,i6⟩:=hii hk;obtain ⟨y1,y2⟩:=Ni hk;rw [hk];have hft:=KO (show (if true=true then x else 0)=x/\(if true=true then M.QJ n d X1 Y1 E1 X2 E2 else 0)=M.QJ n d X1 Y1 E1 X2 E2/\(if true=true then e else 0)=e from ⟨rfl,rfl,rfl⟩);rw [hft.out.1,hft.out.2.1,hft.out.2.2];clear hft hfz Ni hii hk i5 i6;generalize M.QJ n d X1 Y1 E1 X2 E2=Y at *;have hcv:=rh (a:=a) (b:=b) (x:=x) (e:=e) ha1 ha2 hb1 hb2 i3 i4 ω i2;have hYb:-2000000<=Y/\Y<=2000000:=AD ω;clear hcv y2;have Ro:=aH (x:=X1) (y:=e) (m:=10000) (n:=20);have Rp:=aH (x:=X1*e) (y:=e) (m:=200000) (n:=20);have UQ:=aH (x:=x) (y:=E1*E1) (m:=10000) (n:=400);have UR:=aH (x:=n) (y:=X1*e*e - x*(E1*E1)) (m:=1600000) (n:=8000000);have US:=aH (x:=d) (y:=E1*E1) (m:=8000) (n:=400);have UT:=aH (x:=d*(E1*E1)) (y:=e) (m:=3200000) (n:=20);have UU:=aH (x:=d*(E1*E1)*e) (y:=e) (m:=64000000) (n:=20);have p1:0<d*(E1*E1)*e*e:=Int.mul_pos (Int.mul_pos (Int.mul_pos hd0 (Int.mul_pos ω ω)) ω) ω
   have P2:=fun W=>mL (n*(X1*e*e - x*(E1*E1))) (d*(E1*E1)*e*e) W ω ω ω ω ω
   have s1:=kv (t:=n*(X1*e*e - x*(E1*E1))) (b:=d*(E1*E1)*e*e) ω;have a1:=kL (t:=n*(X1*e*e - x*(E1*E1))) (b:=d*(E1*E1)*e*e) ω;generalize bW (n*(X1*e*e - x*(E1*E1))) (d*(E1*E1)*e*e)=under,cM (n*(X1*e*e - x*(E1*E1))) (d*(E1*E1)*e*e)=up at *
   have s2:-12800000000000<=up/\up<=12800000000000:=ω
   have s3:under<=1280000000:=ω
   obtain ⟨a1,a2,a3⟩:=a1;clear s1 a3;have UV:=aH (x:=up) (y:=E1*E1) (m:=12800000000000) (n:=400);have UW:=aH (x:=up*(E1*E1)) (y:=E1) (m:=5120000000000000) (n:=20);have UX:=aH (x:=Y1) (y:=under) (m:=3000000) (n:=1280000000);have UY:=aH (x:=under) (y:=E1*E1) (m:=1280000000) (n:=400);have UZ:=aH (x:=under*(E1*E1)) (y:=E1) (m:=512000000000) (n:=20);have p2:0<under*(E1*E1)*E1:=Int.mul_pos (Int.mul_pos a2 (Int.mul_pos ω ω)) ω
   have P3:=fun W=>mL (up*(E1*E1)*E1 - Y1*under) (under*(E1*E1)*E1) W ω ω ω ω ω
   have s1:=kv (t:=up*(E1*E1)*E1 - Y1*under) (b:=under*(E1*E1)*E1) ω;have a3:=kL (t:=up*(E1*E1)*E1 - Y1*under) (b:=under*(E1*E1)*E1) ω;generalize bW (up*(E1*E1)*E1 - Y1*under) (under*(E1*E1)*E1)=bottom,cM (up*(E1*E1)*E1 - Y1*under) (under*(E1*E1)*E1)=y at *;obtain ⟨a3,a4,a5⟩:=a3;have hY:=KC hd0 ω ω y1 a1 a2 a3 a4 a5
   have s4:bottom<=10240000000000:=ω
   clear a1 a3 a5 y1 s1;have Ua:=aH (x:=e) (y:=e) (m:=20) (n:=20);have Xo:=aH (x:=e*e) (y:=e) (m:=400) (n:=20);have ee:0<=e*e*e:=Int.mul_nonneg R3 R0;have hq:=M.fY ee a4
   have hb0:bottom≠0:=ω
   have hb1_:(bottom == 0)=false:=by rw [beq_eq_false_iff_ne];omega
   have P2:=KO P2;have P3:=KO P3;have hY:=KO hY
   have hyb2:-2000000<=y*(e*e*e).tdiv bottom/\y*(e*e*e).tdiv bottom<=2000000:=by rw [hY.out];exact hYb
   obtain ⟨wc,hw3,C,Q,U,R,B⟩:=fP w #[a,b] 24 #[X1,Y1,E1] 47 #[X2,Y2,E2] 47 #[(0:Int),(0:Int),(0:Int)] 47;have ⟨q0,q1,q2⟩:=Q.aM;have ⟨u0,u1,u2⟩:=U.aM;have f_:=C.box.c0;have j_:=C.box.c1;have ⟨r0,r1,r2⟩:=R.aM;go_enter func43,ntmps43
   go_wp2_with first | ((with_reducible refine (PS.out _).mono ?_);rintro e w4 ⟨rfl,hb4⟩;replace B:=p_ B hb4;replace R:=R.keep hb4;replace Q:=Q.keep hb4;replace U:=U.keep hb4;replace C:=C.keep hb4;(obtain ⟨q0,q1,q2⟩:=Q.aM);(obtain ⟨u0,u1,u2⟩:=U.aM);(obtain ⟨r0,r1,r2⟩:=R.aM);have f0:=R.Kx 0;have f1:=R.Kx 1;have f2:=R.Kx 2;have rl:=R.lt) | ((with_reducible refine (PA.out _).mono ?_);rintro e w5 ⟨rfl,rfl⟩)
   go_region
   all_goals
    go_wp2_with first | ((with_reducible refine (PE.out _).mono ?_);rintro e w6 ⟨rfl,hb6⟩;replace B:=B.trans ((aP (KS w4 w4) 1).mono B.size);replace R:=R.drew;replace Q:=Q.drew;replace U:=U.drew;replace C:=C.drew;replace B:=p_ B hb6;replace R:=R.keep hb6;replace Q:=Q.keep hb6;replace U:=U.keep hb6;replace C:=C.keep hb6;(obtain ⟨q0,q1,q2⟩:=Q.aM);(obtain ⟨u0,u1,u2⟩:=U.aM);(obtain ⟨r0,r1,r2⟩:=R.aM);have f0:=R.Kx 0;have f1:=R.Kx 1;have f2:=R.Kx 2;have rl:=R.lt) | ((with_reducible refine (PR.out _).mono ?_);rintro e w7 ⟨rfl,rfl⟩) | ((with_reducible refine (PI.out _).mono ?_);rintro e w8 ⟨rfl,rfl⟩) | ((with_reducible refine (P2.out _).mono ?_);rintro e w9 ⟨rfl,Kr⟩;replace B:=p_ B Kr;replace R:=R.keep Kr;replace Q:=Q.keep Kr;replace U:=U.keep Kr;replace C:=C.keep Kr;(obtain ⟨q0,q1,q2⟩:=Q.aM);(obtain ⟨u0,u1,u2⟩:=U.aM);(obtain ⟨r0,r1,r2⟩:=R.aM);have f0:=R.Kx 0;have f1:=R.Kx 1;have f2:=R.Kx 2;have rl:=R.lt) | ((with_reducible refine (P3.out _).mono ?_);rintro e wa ⟨rfl,hba⟩;replace B:=p_ B hba;replace R:=R.keep hba;replace Q:=Q.keep hba;replace U:=U.keep hba;replace C:=C.keep hba;(obtain ⟨q0,q1,q2⟩:=Q.aM);(obtain ⟨u0,u1,u2⟩:=U.aM);(obtain ⟨r0,r1,r2⟩:=R.aM);have f0:=R.Kx 0;have f1:=R.Kx 1;have f2:=R.Kx 2;have rl:=R.lt)
    exact KU (v:=.tuple #[.agg #[x,(y*(e*e*e).tdiv bottom:Int),e],true]) results43 ⟨by rw [hY.out],MN B⟩
  have hk:gS n d X1 E1 X2 E2=false:=by rw [hok,decide_eq_false c2,Bool.and_false];rfl
  rw [hk,hfz.out.1,hfz.out.2.1,hfz.out.2.2];clear hk hfz hok Ni hii;have PI:=KO PI
  have c4:20<e:=ω
  clear c2;exact Ud
 have hk:gS n d X1 E1 X2 E2=false:=by rw [hok,decide_eq_false c1];rfl
 rw [hk,hfz.out.1,hfz.out.2.1,hfz.out.2.2];clear hk hfz hok Ni hii;have PI:=KO PI;have c1b:(e*e == F)=false:=beq_eq_false_iff_ne.2 c1
 have c1c:(e*e != F)=true:=by simp [c1]
 exact Ud
end
section
open Gr M Rg Rw Wh
namespace M
theorem zI {a b X1 Y1 E1 X2 Y2 E2:Int} (h1:Y1*Y1=cv a b X1 E1) (h2:Y2*Y2=cv a b X2 E2) (he1:1<=E1) (he2:1<=E2) (g1:Int.gcd X1 E1=1) (g2:Int.gcd X2 E2=1):sD X1 Y1 E1 X2 Y2 E2=0 ↔ X1=X2/\Y1=-Y2/\E1=E2:=by
 have p1:0<E1*E1:=Int.mul_pos ω ω;have p2:0<E2*E2:=Int.mul_pos ω ω;unfold sD
 split
 ·rename_i h
  obtain ⟨rfl,rfl,rfl⟩:=h
  constructor
  ·intro h
   have:2*Y1=0:=(Int.mul_eq_zero.1 h).resolve_right ω;exact ⟨rfl,ω,rfl⟩
  intro h
  have:Y1=0:=ω
  rw [this];simp
 rename_i h
 constructor
 ·intro k
  have k1:X2*E1*E1 - X1*E2*E2=0:=(Int.mul_eq_zero.1 k).resolve_left (Int.mul_ne_zero ω ω);have q1:=uB (b:=E1*E1) (t:=X1) p1 p1 (tU.2 g1) (Int.mul_comm _ _);have q2:=uB (b:=E1*E1) (t:=X1) p1 p2 (tU.2 g2) (show E1*E1*X2=X1*(E2*E2) by clear h1 h2 h;grind);have hX:X1=X2:=q1.1.symm.trans q2.1;have hE2:E1*E1=E2*E2:=q1.2.symm.trans q2.2
  have hE:E1=E2:=by
   have e:(E1 - E2)*(E1+E2)=0:=by clear h1 h2 h;grind
   have:=(Int.mul_eq_zero.1 e).resolve_right ω;omega
  subst hX;subst hE
  have e:(Y1 - Y2)*(Y1+Y2)=0:=by rw [←h2] at h1;clear h2 h;grind
  rcases Int.mul_eq_zero.1 e with q | q
  ·exact absurd ⟨rfl,ω,rfl⟩ h
  exact ⟨rfl,ω,rfl⟩
 rintro ⟨rfl,-,rfl⟩;simp
theorem J1 {a X1 Y1 E1 X2 Y2 E2:Int} (h:sD X1 Y1 E1 X2 Y2 E2≠0):((sN a X1 Y1 E1 X2 Y2 E2).tdiv (M.gcd (sN a X1 Y1 E1 X2 Y2 E2) (sD X1 Y1 E1 X2 Y2 E2))=Lu a X1 Y1 E1 X2 Y2 E2/\(sD X1 Y1 E1 X2 Y2 E2).tdiv (M.gcd (sN a X1 Y1 E1 X2 Y2 E2) (sD X1 Y1 E1 X2 Y2 E2))=Le a X1 Y1 E1 X2 Y2 E2)∨((sN a X1 Y1 E1 X2 Y2 E2).tdiv (M.gcd (sN a X1 Y1 E1 X2 Y2 E2) (sD X1 Y1 E1 X2 Y2 E2))=-Lu a X1 Y1 E1 X2 Y2 E2/\(sD X1 Y1 E1 X2 Y2 E2).tdiv (M.gcd (sN a X1 Y1 E1 X2 Y2 E2) (sD X1 Y1 E1 X2 Y2 E2))=-Le a X1 Y1 E1 X2 Y2 E2):=by
 unfold Lu Le cM bW;rw [if_neg h,if_neg h]
 split
 ·right;exact ⟨(Int.neg_neg _).symm,(Int.neg_neg _).symm⟩
 left;exact ⟨rfl,rfl⟩
theorem Gw (n m X1 E1 X2 E2:Int):top (-n) (-m) X1 E1 X2 E2=top n m X1 E1 X2 E2:=by unfold top;grind
theorem FO (m E1 E2:Int):bot (-m) E1 E2=bot m E1 E2:=by unfold bot;grind
theorem Eb (n m X1 Y1 E1 x e:Int):iV (-n) (-m) X1 Y1 E1 x e=-iV n m X1 Y1 E1 x e:=by unfold iV;grind
theorem yo {a X1 Y1 E1 X2 Y2 E2:Int} (h0:sD X1 Y1 E1 X2 Y2 E2≠0) (hk:lZ a X1 Y1 E1 X2 Y2 E2=false):NY a X1 Y1 E1 X2 Y2 E2=0/\Nt a X1 Y1 E1 X2 Y2 E2=0/\Mn a X1 Y1 E1 X2 Y2 E2=0:=by
 unfold lZ at hk;rw [if_neg h0] at hk;unfold NY Nt Mn;rw [if_neg h0,if_neg h0,if_neg h0,hk];exact ⟨rfl,rfl,rfl⟩
theorem tQ {a b X1 Y1 E1 X2 Y2 E2 n m:Int} (h1:Y1*Y1=cv a b X1 E1) (h2:Y2*Y2=cv a b X2 E2) (hx1:X1<=10000) (hx2:X2<=10000) (he1:1<=E1) (he2:E1<=20) (NH:1<=E2) (Nu:E2<=20) (h0:sD X1 Y1 E1 X2 Y2 E2≠0)
  (hnm:(n=Lu a X1 Y1 E1 X2 Y2 E2/\m=Le a X1 Y1 E1 X2 Y2 E2)∨(n=-Lu a X1 Y1 E1 X2 Y2 E2/\m=-Le a X1 Y1 E1 X2 Y2 E2)) :
  m≠0/\(∀ x e,1<=e->e<=20->-10000<=x->x<=10000->Int.gcd x e=1->bot m E1 E2*x=top n m X1 E1 X2 E2*(e*e)->lZ a X1 Y1 E1 X2 Y2 E2=true/\NY a X1 Y1 E1 X2 Y2 E2=x/\Mn a X1 Y1 E1 X2 Y2 E2=e)/\
  (lZ a X1 Y1 E1 X2 Y2 E2=true->∀ X Y E,X=NY a X1 Y1 E1 X2 Y2 E2->Y=Nt a X1 Y1 E1 X2 Y2 E2->E=Mn a X1 Y1 E1 X2 Y2 E2->1<=E/\E<=20/\-10000<=X/\X<=10000/\Int.gcd X E=1/\bot m E1 E2*X=top n m X1 E1 X2 E2*(E*E)/\E*iV n m X1 Y1 E1 X E=m*E1*E1*E1*Y/\Y*Y=cv a b X E/\(m.natAbs:Int)<=8000/\(n.natAbs:Int)<=1600000):=by
 obtain ⟨hs,hd0,hg,-,-⟩:=AA (a:=a) h0
 have ht:top n m X1 E1 X2 E2=top (Lu a X1 Y1 E1 X2 Y2 E2) (Le a X1 Y1 E1 X2 Y2 E2) X1 E1 X2 E2:=by
  rcases hnm with ⟨rfl,rfl⟩ | ⟨rfl,rfl⟩
  ·rfl
  exact Gw ..
 have hb:bot m E1 E2=bot (Le a X1 Y1 E1 X2 Y2 E2) E1 E2:=by
  rcases hnm with ⟨rfl,rfl⟩ | ⟨rfl,rfl⟩
  ·rfl
  exact FO ..
 have hm0:m≠0:=ω
 have hna:m.natAbs=(Le a X1 Y1 E1 X2 Y2 E2).natAbs/\n.natAbs=(Lu a X1 Y1 E1 X2 Y2 E2).natAbs:=ω
 have hsd:∀ x e,(iV n m X1 Y1 E1 x e=iV (Lu a X1 Y1 E1 X2 Y2 E2) (Le a X1 Y1 E1 X2 Y2 E2) X1 Y1 E1 x e/\m=Le a X1 Y1 E1 X2 Y2 E2)∨(iV n m X1 Y1 E1 x e=-iV (Lu a X1 Y1 E1 X2 Y2 E2) (Le a X1 Y1 E1 X2 Y2 E2) X1 Y1 E1 x e/\m=-Le a X1 Y1 E1 X2 Y2 E2):=by
  intro x e
  rcases hnm with ⟨rfl,rfl⟩ | ⟨rfl,rfl⟩
  ·left;exact ⟨rfl,rfl⟩
  right;exact ⟨Eb ..,rfl⟩
 clear hnm;rw [ht,hb,hna.1,hna.2];clear ht hb hna;unfold lZ NY Nt Mn;rw [if_neg h0,if_neg h0,if_neg h0,if_neg h0]
 have hbd:=fun (k:gS (Lu a X1 Y1 E1 X2 Y2 E2) (Le a X1 Y1 E1 X2 Y2 E2) X1 E1 X2 E2=true)=>uf ω he1 he2 NH Nu hx1 hx2 hg k
 have Ni:=fun (k:gS (Lu a X1 Y1 E1 X2 Y2 E2) (Le a X1 Y1 E1 X2 Y2 E2) X1 E1 X2 E2=true)=>JX h1 h2 ω ω ω hs h0 k
 have hii:=fun (k:gS (Lu a X1 Y1 E1 X2 Y2 E2) (Le a X1 Y1 E1 X2 Y2 E2) X1 E1 X2 E2=true)=>yS ω ω ω k
 generalize Le a X1 Y1 E1 X2 Y2 E2=D,Lu a X1 Y1 E1 X2 Y2 E2=N at *;refine ⟨hm0,?_,?_⟩
 ·intro x e q1 q2 q3 q4 q5 q6
  obtain ⟨k1,k2,k3⟩:=H8 ω ω ω q1 q2 q3 q4 q5 q6;rw [k1];exact ⟨rfl,k2,k3⟩
 intro k X Y E eX eY eE;rw [if_pos k] at eX eY eE;obtain ⟨i1,i2,i3,i4,i5,i6⟩:=hii k;obtain ⟨y1,y2⟩:=Ni k;obtain ⟨b1,b2⟩:=hbd k;rw [←eX,←eE] at i5 i6;rw [←eX,←eE,←eY] at y1 y2;rw [←eE] at i1 i2;rw [←eX] at i3 i4;refine ⟨i1,i2,i3,i4,i5,i6,?_,y2,b1,ω⟩
 rcases hsd X E with ⟨s1,s2⟩ | ⟨s1,s2⟩
 ·rw [s1,s2,y1]
 rw [s1,s2,Int.mul_neg,y1];clear hsd hbd Ni hii
 grind
end M
end
section
open Go.RowKit open Gr M Rg Rw Wh
def MO (W:World) (g:Nat) (z:Int):Prop:=∃ (s:Bool) (a:Option Addr) (l c:Nat),Hid (s=decide (z<0))/\aG W g 145 #[s,.slice a l c]/\aF W 0 (.slice a l c) (Wh.a_ z.natAbs)
theorem MO.keep {W W':World} {g:Nat} {z:Int} (h:MO W g z) (hb:Below W W W'):MO W' g z:=by
 obtain ⟨s,a,l,c,hs,hv,ho⟩:=h;exact ⟨s,a,l,c,hs,hv.keep hb,aF.below ho hb⟩
theorem MO.lt {W:World} {g:Nat} {z:Int} (h:MO W g z):g<W.heap.size:=by
 obtain ⟨s,a,l,c,hs,hv,ho⟩:=h;exact hv.lt
theorem MO.dE {W:World} {g k:Nat} {z:Int} {u v:Value} (h:MO W g z) (hk:g≠k) (hv:aG W k 145 #[u,v]) (x y:Value):MO ((W.setCell ⟨k,0,none⟩ x).setCell ⟨k,1,none⟩ y) g z:=by
 obtain ⟨s,a,l,c,hs,hw,ho⟩:=h;exact ⟨s,a,l,c,hs,hw.dE hk x y,aF.bV ho hv δ x y⟩
theorem MO.put {W:World} {g b:Nat} {z:Int} {u v:Value} {s:Bool} {a:Option Addr} {l c:Nat} (hv:aG W g 145 #[u,v]) (hs:Hid (s=decide (z<0))) (ho:aF W b (.slice a l c) (Wh.a_ z.natAbs)):MO ((W.setCell ⟨g,0,none⟩ (.bool s)).setCell ⟨g,1,none⟩ (.slice a l c)) g z:=
 ⟨s,a,l,c,hs,hv.set2 _ _,aF.base (aF.bV ho hv δ _ _) (Nat.zero_le _)⟩
theorem lj (W:World) (x y:Value):Below W W (W.alloc (.cells #[x,y] 145)):=(KS W W).alloc (KT _) _
theorem MO.made {W:World} {b:Nat} {z:Int} {a:Option Addr} {l c:Nat} (ho:aF W b (.slice a l c) (Wh.a_ z.natAbs)):MO (W.alloc (.cells #[decide (z<0),.slice a l c] 145)) W z:=
 ⟨_,a,l,c,KO rfl,aG.new W _ _,aF.base (aF.alloc ho _) (Nat.zero_le _)⟩
namespace M
theorem EA (n m X1 E1 X2 E2:Int):n*n*(E1*E1*E2*E2)+-(m*m*(X1*E2*E2+X2*E1*E1))=top n m X1 E1 X2 E2:=by unfold top;grind
theorem D9 (m E1 E2:Int):m*m*(E1*E1*E2*E2)=bot m E1 E2:=by unfold bot;grind
end M
theorem CP (a b X1 Y1 E1 X2 Y2 E2:Int) (w:World) (ha1:-1000<=a) (ha2:a<=1000) (hx1:-10000<=X1) (hx2:X1<=10000) (hy1:-3000000<=Y1) (hy2:Y1<=3000000) (he1:1<=E1) (he2:E1<=20) (hx3:-10000<=X2) (hx4:X2<=10000) (hy3:-3000000<=Y2) (hy4:Y2<=3000000) (NH:1<=E2) (Nu:E2<=20) (hb1:-10000<=b) (hb2:b<=10000) (hc1:Y1*Y1=M.cv a b X1 E1) (hc2:Y2*Y2=M.cv a b X2 E2) (g1:Int.gcd X1 E1=1) (g2:Int.gcd X2 E2=1) :
  cB 81 #[.agg #[a,b],.agg #[X1,Y1,E1],.agg #[X2,Y2,E2]] w (.tuple #[.agg #[M.NY a X1 Y1 E1 X2 Y2 E2,M.Nt a X1 Y1 E1 X2 Y2 E2,M.Mn a X1 Y1 E1 X2 Y2 E2],lZ a X1 Y1 E1 X2 Y2 E2]):=by
 have hE1:(E1 == 0)=false:=by rw [beq_eq_false_iff_ne];omega
 have hE2:(E2 == 0)=false:=by rw [beq_eq_false_iff_ne];omega
 have PO:=KO fun W=>qr X2 Y2 E2 W ω ω
 have hop:=zI hc1 hc2 he1 NH g1 g2
 by_cases h0:M.sD X1 Y1 E1 X2 Y2 E2=0
 ·obtain ⟨k1,k2,k3⟩:=hop.1 h0
  have hf:=KO (show M.NY a X1 Y1 E1 X2 Y2 E2=0/\M.Nt a X1 Y1 E1 X2 Y2 E2=0/\M.Mn a X1 Y1 E1 X2 Y2 E2=0/\lZ a X1 Y1 E1 X2 Y2 E2=true from ⟨if_pos h0,if_pos h0,if_pos h0,if_pos h0⟩);rw [hf.out.1,hf.out.2.1,hf.out.2.2.1,hf.out.2.2.2];have heq:=KO (show X1=X2/\Y1=-Y2/\E1=E2 from ⟨k1,k2,k3⟩);clear hf h0 hc1 hc2 hop k1 k2 k3 g1 g2;obtain ⟨wc,hw3,C,Q,U,R,B⟩:=fP w #[a,b] 24 #[X1,Y1,E1] 47 #[X2,Y2,E2] 47 #[(0:Int),(0:Int),(0:Int)] 47;have f_:=C.box.c0;have j_:=C.box.c1;have ⟨q0,q1,q2⟩:=Q.aM;have ⟨u0,u1,u2⟩:=U.aM;have ⟨r0,r1,r2⟩:=R.aM;go_enter func81,ntmps81
  go_wp2
  go_upto_region 5 with fail
  refine be 5 [.is (.agg #[X1,Y1,E1]),.is (.agg #[X2,Y2,E2]),.is (.agg #[X2,(-Y2:Int),E2]),.is true,.is true] κ κ κ ⟨?_,?_,?_,?_,?_,trivial⟩ ?_
  all_goals try ((first | (refine Rg.b1 ?_;intro zZ w_ hB e) | (refine Rg.b2 ?_;intro zZ w_ hB e f));have kz:=aE hB q0;have kz:=aE hB q1;have kz:=aE hB q2;have kz:=aE hB u0;have kz:=aE hB u1;have kz:=aE hB u2;(first | (go_simp;done) | (go_simp;first | done | (simp [heq.out];done) | (exact fun x y z=>heq.out ⟨x,y,z⟩);done)))
  ·refine Rg.o1 ?_;intro zZ w_ hB e
   have ef:=Rg.ef zZ;exact bO rfl γ (PO.out _)
  intro vals wz QL hv hne;have Pg:vals 4=.bool true:=hv 4 δ;simp only [bD,Rg.fill,Act.put,Nat.reduceAdd];clear hv;simp only [Pg];clear Pg;unfold aU
  (replace B:=p_ B QL);replace R:=R.keep QL;(obtain ⟨r0,r1,r2⟩:=R.aM);have f0:=R.Kx 0;have f1:=R.Kx 1;have f2:=R.Kx 2;(have rl:=R.lt)
  go_wp2;exact KU results81 ⟨rfl,MN B⟩
 have hni:¬ (X1=X2/\Y1=-Y2/\E1=E2):=fun k=>h0 (hop.2 k)
 have heq:=KO hni;have hsb:=I9 (a:=a) ha1 ha2 hx1 hx2 hy1 hy2 he1 he2 hx3 hx4 hy3 hy4 NH Nu;obtain ⟨-,hd0,-,hsn,hsd⟩:=AA (a:=a) h0;have hpn:=J1 (a:=a) h0
 have hcore:=fun n m=>tQ (n:=n) (m:=m) hc1 hc2 hx2 hx4 he1 he2 NH Nu h0
 have hno:=yo (a:=a) h0
 have PS:=fun W=>Gk a b X1 Y1 E1 X2 Y2 E2 W ha1 ha2 hx1 hx2 hy1 hy2 he1 he2 hx3 hx4 hy3 hy4 NH Nu
 have hg0:M.gcd (M.sN a X1 Y1 E1 X2 Y2 E2) (M.sD X1 Y1 E1 X2 Y2 E2)≠0:=by
  unfold M.gcd;intro h;have:=Int.gcd_eq_zero_iff.1 (Int.ofNat_eq_zero.1 h);exact h0 this.2
 have PG:=fun W=>qR (M.sN a X1 Y1 E1 X2 Y2 E2) (M.sD X1 Y1 E1 X2 Y2 E2) W ω ω ω ω
 obtain ⟨n,hn⟩:∃ n,Hid ((M.sN a X1 Y1 E1 X2 Y2 E2).tdiv (M.gcd (M.sN a X1 Y1 E1 X2 Y2 E2) (M.sD X1 Y1 E1 X2 Y2 E2))=n):=⟨_,KO rfl⟩
 obtain ⟨m,hm⟩:∃ m,Hid ((M.sD X1 Y1 E1 X2 Y2 E2).tdiv (M.gcd (M.sN a X1 Y1 E1 X2 Y2 E2) (M.sD X1 Y1 E1 X2 Y2 E2))=m):=⟨_,KO rfl⟩
 rw [hn.out,hm.out] at hpn;obtain ⟨hm0,H1,H2⟩:=hcore n m hpn
 have hnb:(-200000000000<=n/\n<=200000000000)/\-200000000000<=m/\m<=200000000000:=by
  clear hcore H1 H2 hno hop;omega
 clear hcore hpn hsn hsd hd0 hop hni;generalize M.sD X1 Y1 E1 X2 Y2 E2=D0,M.sN a X1 Y1 E1 X2 Y2 E2=N0,M.gcd (M.sN a X1 Y1 E1 X2 Y2 E2) (M.sD X1 Y1 E1 X2 Y2 E2)=g at *;generalize hX:M.NY a X1 Y1 E1 X2 Y2 E2=X at *;generalize hY:M.Nt a X1 Y1 E1 X2 Y2 E2=Y at *;generalize hE:M.Mn a X1 Y1 E1 X2 Y2 E2=E at *;generalize lZ a X1 Y1 E1 X2 Y2 E2=K at *
 have hgb:(g == 0)=false:=by rw [beq_eq_false_iff_ne];exact hg0
 obtain ⟨⟨n1,n2⟩,m1,m2⟩:=hnb;replace H1:=KO H1;replace H2:=KO (fun k=>H2 k X Y E rfl rfl rfl);replace hno:=KO hno;replace PS:=KO PS;replace PG:=KO PG;have hm0:=KO hm0;clear hc1 hc2 g1 g2 hX hY hE;have zn:=bi (n:=n) ω ω;have zm:=bi (n:=m) ω ω;have sb1:=aH (x:=E1) (y:=E1) (m:=20) (n:=20);have sb2:=aH (x:=E1*E1) (y:=E2) (m:=400) (n:=20);have sb3:=aH (x:=E1*E1*E2) (y:=E2) (m:=8000) (n:=20);have sb4:=aH (x:=X1) (y:=E2) (m:=10000) (n:=20);have sb5:=aH (x:=X1*E2) (y:=E2) (m:=200000) (n:=20);have sb6:=aH (x:=X2) (y:=E1) (m:=10000) (n:=20);have sb7:=aH (x:=X2*E1) (y:=E1) (m:=200000) (n:=20);have ze:=bi (n:=E1*E1*E2*E2) ω ω;have zq:=bi (n:=X1*E2*E2+X2*E1*E1) ω ω;have zmm:=ay zm zm;have znn:=ay zn zn;have zne:=ay znn ze;have zmq:=ay zmm zq;have znq:=oQ zmq;have zt:=kT zne (aL znq (show 5+5+5<=5+5+5 by omega));have zb:=ay zmm ze;have tT:=EA n m X1 E1 X2 E2;have tB:=D9 m E1 E2
 have P1:=fun W=>bw (m) W ω ω
 have P2:=fun W=>bw (n) W ω ω
 have P3:=fun W=>bw (E1*E1*E2*E2) W ω ω
 have P4:=fun W=>bw (X1*E2*E2+X2*E1*E1) W ω ω
 have P5:=fun v v' W k k' (h:aF W k v (Wh.a_ (m).natAbs)) (h':aF W k' v' (Wh.a_ (m).natAbs))=>dm (m) (m) v v' W k k' h h' (aR.2 (aL zm ω)) (aR.2 (aL zm ω))
 have P6:=fun v v' W k k' (h:aF W k v (Wh.a_ (n).natAbs)) (h':aF W k' v' (Wh.a_ (n).natAbs))=>dm (n) (n) v v' W k k' h h' (aR.2 (aL zn ω)) (aR.2 (aL zn ω))
 have P7:=fun v v' W k k' (h:aF W k v (Wh.a_ (n*n).natAbs)) (h':aF W k' v' (Wh.a_ (E1*E1*E2*E2).natAbs))=>dm (n*n) (E1*E1*E2*E2) v v' W k k' h h' (aR.2 (aL znn ω)) (aR.2 (aL ze ω))
 have P8:=fun v v' W k k' (h:aF W k v (Wh.a_ (m*m).natAbs)) (h':aF W k' v' (Wh.a_ (X1*E2*E2+X2*E1*E1).natAbs))=>dm (m*m) (X1*E2*E2+X2*E1*E1) v v' W k k' h h' (aR.2 (aL zmm ω)) (aR.2 (aL zq ω))
 have P9:=fun v W k (h:aF W k v (Wh.a_ (m*m*(X1*E2*E2+X2*E1*E1)).natAbs))=>np (m*m*(X1*E2*E2+X2*E1*E1)) v W k h (aR.2 (aL zmq ω))
 have PA:=fun v v' W k k' (h:aF W k v (Wh.a_ (n*n*(E1*E1*E2*E2)).natAbs)) (h':aF W k' v' (Wh.a_ (-(m*m*(X1*E2*E2+X2*E1*E1))).natAbs))=>ji (n*n*(E1*E1*E2*E2)) (-(m*m*(X1*E2*E2+X2*E1*E1))) v v' W k k' h h' (aR.2 (aL zne ω)) (aR.2 (aL znq ω))
 have PB:=fun v v' W k k' (h:aF W k v (Wh.a_ (m*m).natAbs)) (h':aF W k' v' (Wh.a_ (E1*E1*E2*E2).natAbs))=>dm (m*m) (E1*E1*E2*E2) v v' W k k' h h' (aR.2 (aL zmm ω)) (aR.2 (aL ze ω))
 rw [tT] at PA zt;rw [tB] at PB zb;have hbp:0<M.bot m E1 E2:=pF hm0.out ω ω;have hTe:=KO (rfl:M.top n m X1 E1 X2 E2=M.top n m X1 E1 X2 E2);generalize M.bot m E1 E2=Bt,M.top n m X1 E1 X2 E2=T at *;clear tT tB hTe zn zm ze zq znn zne zmq znq zmm;generalize n*n=nn,m*m=mm,n*n*(E1*E1*E2*E2)=ne,m*m*(X1*E2*E2+X2*E1*E1)=mq,-(m*m*(X1*E2*E2+X2*E1*E1))=nq at *;replace P1:=KO P1;replace P2:=KO P2;replace P3:=KO P3;replace P4:=KO P4;replace P5:=KO P5;replace P6:=KO P6;replace P7:=KO P7;replace P8:=KO P8;replace P9:=KO P9;replace PA:=KO PA;replace PB:=KO PB;obtain ⟨wc,hw3,C,Q,U,R,B⟩:=fP w #[a,b] 24 #[X1,Y1,E1] 47 #[X2,Y2,E2] 47 #[(0:Int),(0:Int),(0:Int)] 47;have f_:=C.box.c0;have j_:=C.box.c1;have ⟨q0,q1,q2⟩:=Q.aM;have ⟨u0,u1,u2⟩:=U.aM;have ⟨r0,r1,r2⟩:=R.aM;go_enter func81,ntmps81
 go_wp2
 go_upto_region 5 with fail
 refine be 5 [.is (.agg #[X1,Y1,E1]),.is (.agg #[X2,Y2,E2]),.is (.agg #[X2,(-Y2:Int),E2]),.is false,.is false] κ κ κ ⟨?_,?_,?_,?_,?_,trivial⟩ ?_
 all_goals try ((first | (refine Rg.b1 ?_;intro zZ w_ hB e) | (refine Rg.b2 ?_;intro zZ w_ hB e f));have kz:=aE hB q0;have kz:=aE hB q1;have kz:=aE hB q2;have kz:=aE hB u0;have kz:=aE hB u1;have kz:=aE hB u2;(first | (go_simp;done) | (go_simp;first | done | (simp [heq.out];done) | (exact fun x y z=>heq.out ⟨x,y,z⟩);done)))
 ·refine Rg.o1 ?_;intro zZ w_ hB e
  have ef:=Rg.ef zZ;exact bO rfl γ (PO.out _)
 intro vals wz QL hv hne;have Pg:vals 4=.bool false:=hv 4 δ;simp only [bD,Rg.fill,Act.put,Nat.reduceAdd];clear hv;simp only [Pg];clear Pg;unfold aU
 (replace B:=p_ B QL);replace C:=C.keep QL;replace Q:=Q.keep QL;replace U:=U.keep QL;replace R:=R.keep QL;have f_:=C.box.c0;have j_:=C.box.c1;(obtain ⟨q0,q1,q2⟩:=Q.aM);(obtain ⟨u0,u1,u2⟩:=U.aM);(obtain ⟨r0,r1,r2⟩:=R.aM)
 clear QL
 go_upto_region 9 with first | (with_reducible refine G_ PS fun w4 hb4=>?_;replace B:=p_ B hb4;replace C:=C.keep hb4;replace Q:=Q.keep hb4;replace U:=U.keep hb4;replace R:=R.keep hb4;have f_:=C.box.c0;have j_:=C.box.c1;(obtain ⟨q0,q1,q2⟩:=Q.aM);(obtain ⟨u0,u1,u2⟩:=U.aM);(obtain ⟨r0,r1,r2⟩:=R.aM)) | ((with_reducible refine (PG.out _).mono ?_);rintro e w5 ⟨rfl,j5,rfl⟩;have hb5:=aP (KS w4 w4) j5;replace B:=p_ B hb5;replace C:=C.keep hb5;replace Q:=Q.keep hb5;replace U:=U.keep hb5;replace R:=R.keep hb5;have f_:=C.box.c0;have j_:=C.box.c1;(obtain ⟨q0,q1,q2⟩:=Q.aM);(obtain ⟨u0,u1,u2⟩:=U.aM);(obtain ⟨r0,r1,r2⟩:=R.aM))
 have hN1:=hsb;have hnn:=hn.out;have hmm:=hm.out
 go_cut [8,9] (fun p q wx=>p=.int .i64 n/\q=.int .i64 m/\aG wx w 24 #[a,b]/\aG wx (w.heap.size+1) 47 #[X1,Y1,E1]/\aG wx (w.heap.size+1+1) 47 #[X2,Y2,E2]/\aG wx (w.heap.size+1+1+1) 47 #[(0:Int),(0:Int),(0:Int)]/\Below w w wx)
 case first=>
  go_region
  all_goals
   go_wp2_with fail
   go_meet
   exact ⟨rfl,rfl,C.drew,Q.drew,U.drew,R.drew,B.trans ((aP (KS _ _) 1).mono B.size)⟩
 case rest=>
 obtain ⟨rfl,rfl,C,Q,U,R,B⟩:=hcut;clear hN1 hnn hmm hn hm n1 n2 hsb hg0 hgb PS PG PO heq hw3
 have MG:w.heap.size+4<=wc.heap.size:=by have:=R.lt;omega
 go_upto_region 10 with fail
 go_cut [11] (fun p wx=>∃ ga:Nat,p=.pointer (some ⟨ga,0,none⟩)/\w.heap.size+4<=ga/\aG wx w 24 #[a,b]/\aG wx (w.heap.size+1) 47 #[X1,Y1,E1]/\aG wx (w.heap.size+1+1) 47 #[X2,Y2,E2]/\aG wx (w.heap.size+1+1+1) 47 #[(0:Int),(0:Int),(0:Int)]/\Below w w wx/\MO wx ga (mm))
 case first=>
  go_wp2_with first | ((with_reducible refine (P5.out _ _ _ _ _ o4 o5).mono ?_);rintro e w6 ⟨v6,rfl,o6,hb6⟩;(replace o6:aF _ _ _ _:=o6);replace B:=p_ B hb6;replace C:=C.keep hb6;replace Q:=Q.keep hb6;replace U:=U.keep hb6;replace R:=R.keep hb6;have f_:=C.box.c0;have j_:=C.box.c1;(obtain ⟨q0,q1,q2⟩:=Q.aM);(obtain ⟨u0,u1,u2⟩:=U.aM);(obtain ⟨r0,r1,r2⟩:=R.aM);obtain ⟨av,cv,rfl,K7,Ke⟩:=aF.view o6;clear K7 Ke;have V:=aG.new w6 #[false,.slice none 0 0] 145;have V0:=V.box.c0;have V1:=V.box.c1;have V2:=V.box.f0;have V3:=V.box.f1;have M0:=lj w6 (.bool (decide (mm<0))) (.slice av (Wh.a_ (mm).natAbs).length cv);have M1:=MO.made o6) | ((have _t:=o4);clear _t;go_at_call 130;(with_reducible refine (P1.out _).mono ?_);rintro e w5 ⟨v5,rfl,o5,hb5⟩;(replace o5:aF _ _ _ _:=o5);replace B:=p_ B hb5;replace C:=C.keep hb5;replace Q:=Q.keep hb5;replace U:=U.keep hb5;replace R:=R.keep hb5;replace o4:=aF.below o4 hb5;have f_:=C.box.c0;have j_:=C.box.c1;(obtain ⟨q0,q1,q2⟩:=Q.aM);(obtain ⟨u0,u1,u2⟩:=U.aM);(obtain ⟨r0,r1,r2⟩:=R.aM)) | ((with_reducible refine (P1.out _).mono ?_);rintro e w4 ⟨v4,rfl,o4,hb4⟩;(replace o4:aF _ _ _ _:=o4);replace B:=p_ B hb4;replace C:=C.keep hb4;replace Q:=Q.keep hb4;replace U:=U.keep hb4;replace R:=R.keep hb4;have f_:=C.box.c0;have j_:=C.box.c1;(obtain ⟨q0,q1,q2⟩:=Q.aM);(obtain ⟨u0,u1,u2⟩:=U.aM);(obtain ⟨r0,r1,r2⟩:=R.aM))
  go_meet
  exact ⟨w6,rfl,by have:=R.lt;omega,C.keep M0,Q.keep M0,U.keep M0,R.keep M0,p_ B M0,M1⟩
 case rest=>
 obtain ⟨ga,rfl,ha0,C,Q,U,R,B,MA⟩:=hcut;clear P1 P5 MG
 go_upto_region 11 with fail
 go_cut [12] (fun p wx=>∃ gb:Nat,p=.pointer (some ⟨gb,0,none⟩)/\ga<gb/\aG wx w 24 #[a,b]/\aG wx (w.heap.size+1) 47 #[X1,Y1,E1]/\aG wx (w.heap.size+1+1) 47 #[X2,Y2,E2]/\aG wx (w.heap.size+1+1+1) 47 #[(0:Int),(0:Int),(0:Int)]/\Below w w wx/\MO wx ga (mm)/\MO wx gb (E1*E1*E2*E2))
 case first=>
  have f_:=C.box.c0;have j_:=C.box.c1;have ⟨q0,q1,q2⟩:=Q.aM;have ⟨u0,u1,u2⟩:=U.aM;have ⟨r0,r1,r2⟩:=R.aM
  go_wp2_with ((with_reducible refine (P3.out _).mono ?_);rintro e w4 ⟨v4,rfl,o4,hb4⟩;(replace o4:aF _ _ _ _:=o4);replace B:=p_ B hb4;replace C:=C.keep hb4;replace Q:=Q.keep hb4;replace U:=U.keep hb4;replace R:=R.keep hb4;replace MA:=MA.keep hb4;have f_:=C.box.c0;have j_:=C.box.c1;(obtain ⟨q0,q1,q2⟩:=Q.aM);(obtain ⟨u0,u1,u2⟩:=U.aM);(obtain ⟨r0,r1,r2⟩:=R.aM);obtain ⟨av,cv,rfl,K7,Ke⟩:=aF.view o4;clear K7 Ke;have V:=aG.new w4 #[false,.slice none 0 0] 145;have V0:=V.box.c0;have V1:=V.box.c1;have V2:=V.box.f0;have V3:=V.box.f1;have M0:=lj w4 (.bool (decide (E1*E1*E2*E2<0))) (.slice av (Wh.a_ (E1*E1*E2*E2).natAbs).length cv);have M1:=MO.made o4)
  go_meet
  exact ⟨w4,rfl,MA.lt,C.keep M0,Q.keep M0,U.keep M0,R.keep M0,p_ B M0,MA.keep M0,M1⟩
 case rest=>
 obtain ⟨gb,rfl,hab,C,Q,U,R,B,MA,MB⟩:=hcut;clear P3
 go_upto_region 12 with fail
 have ⟨sB,aB,lB,cB,hsB,VB,oB⟩:=MB;refine be 8 [.is n,.at (aK (wc.heap.size) (n)),.is n,.at (aK (wc.heap.size) (n)),.at (aK (wc.heap.size) (nn)),.is (.agg #[sB,.slice aB lB cB]),.at (aK (wc.heap.size) (ne)),.new (wc.heap.size) 145 #[false,.slice none 0 0]] κ κ κ ⟨?_,?_,?_,?_,?_,?_,?_,?_,fun h_=>absurd h_ δ,trivial⟩ ?_
 all_goals try ((refine Rg.b1 ?_;intro zZ w_ hB e);have kz:=aE hB VB.box.c0;have kz:=aE hB VB.box.c1;(go_simp;done))
 ·exact Uz
 ·exact Uz
 ·intro _ zZ w_ hB hr
  obtain ⟨s71,a71,l71,c71,hs71,e71,o71⟩:=aK.get (hr 71 δ);obtain ⟨s73,a73,l73,c73,hs73,e73,o73⟩:=aK.get (hr 73 δ);have ef:=Rg.ef zZ;refine aj rfl τ ?_;obtain rfl:=hs71.out;obtain rfl:=hs73.out;exact aK.ret hB (P6.out _ _ _ _ _ o71 o73)
 ·intro _ zZ w_ hB hr
  obtain ⟨s74,a74,l74,c74,hs74,e74,o74⟩:=aK.get (hr 74 δ);have e75:=Rg.A_ (hr 75 δ);have ef:=Rg.ef zZ;refine aj rfl τ ?_;obtain rfl:=hs74.out;rw [hsB.out];exact aK.ret hB (P7.out _ _ _ _ _ o74 (aF.below oB hB))
 ·exact M4
 intro vals wz Wi hv hne;have n13:(Rg.Val.new (wc.heap.size) 145 #[false,.slice none 0 0]).ok (vals 7) wz:=hv 7 δ;have n76:(Rg.Val.at (aK (wc.heap.size) (ne))).ok (vals 6) wz:=hv 6 δ;simp only [bD,Rg.fill,Act.put,Nat.reduceAdd];clear hv;obtain ⟨g13,Tg,Mi,Xi⟩:=n13;replace Xi:aG wz g13 145 #[false,.slice none 0 0]:=Xi;obtain ⟨s76,a76,l76,c76,hs76,Px,o76⟩:=(cX n76).view;simp only [Mi,Px];clear Mi Px;have hB2:Below wc wc ((wz.setCell ⟨g13,0,none⟩ (.bool s76)).setCell ⟨g13,1,none⟩ (.slice a76 l76 c76)):=KR (KR Wi Tg _) Tg _;have ⟨c0,c1,f0,f1,_⟩:=Xi.box;have MC:=MO.put Xi hs76 o76;have hlt:=MB.lt;unfold aU aU Oper.wp;go_simp
 clear c0 c1 f0 f1 Xi VB oB;replace MA:=MA.keep hB2;replace MB:=MB.keep hB2;replace C:=C.keep hB2;replace Q:=Q.keep hB2;replace U:=U.keep hB2;replace R:=R.keep hB2;replace B:=p_ B hB2
 have hbc:gb<g13:=ω
 clear hB2 Wi hlt Tg P2 P6 P7;generalize ((wz.setCell ⟨g13,0,none⟩ (.bool s76)).setCell ⟨g13,1,none⟩ (.slice a76 l76 c76))=wd at *
 skip
 have f_:=C.box.c0;have j_:=C.box.c1;have ⟨q0,q1,q2⟩:=Q.aM;have ⟨u0,u1,u2⟩:=U.aM;have ⟨r0,r1,r2⟩:=R.aM
 go_upto_region 13 with fail
 obtain ⟨e1,e2,e3,e4,e5,e6⟩:w.heap.size<=g13/\ga≠g13/\gb≠g13/\w.heap.size≠g13/\w.heap.size+1≠g13/\w.heap.size+1+1+1≠g13:=⟨ω,ω,ω,ω,ω,ω⟩
 have ⟨sA,aA,lA,cA,hsA,VA,oA⟩:=MA;have ⟨sC,aC,lC,cC,hsC,VC,oC⟩:=MC;refine be 23 [.is (.agg #[sC,.slice aC lC cC]),.is (.agg #[sA,.slice aA lA cA]),.is (.pointer (some ⟨w.heap.size+1,0,none⟩)),.is X1,.is (.pointer (some ⟨w.heap.size+1+1,2,none⟩)),.is E2,.is (X1*E2:Int),.is (.pointer (some ⟨w.heap.size+1+1,2,none⟩)),.is E2,.is ((X1*E2)*E2:Int),.is (.pointer (some ⟨w.heap.size+1+1,0,none⟩)),.is X2,.is (.pointer (some ⟨w.heap.size+1,2,none⟩)),.is E1,.is (X2*E1:Int),.is (.pointer (some ⟨w.heap.size+1,2,none⟩)),.is E1,.is ((X2*E1)*E1:Int),.is (((X1*E2)*E2)+((X2*E1)*E1):Int),.at (aK (wd.heap.size) (X1*E2*E2+X2*E1*E1)),.at (aK (wd.heap.size) (mq)),.at (aK (wd.heap.size) (nq)),.at (aK (wd.heap.size) (T))] κ κ κ ⟨?_,?_,?_,?_,?_,?_,?_,?_,?_,?_,?_,?_,?_,?_,?_,?_,?_,?_,?_,?_,?_,?_,?_,fun h_=>absurd h_ δ,trivial⟩ ?_
 all_goals try ((first | (refine Rg.b1 ?_;intro zZ w_ hB e) | (refine Rg.b2 ?_;intro zZ w_ hB e f));have kz:=aE hB VC.box.c0;have kz:=aE hB VC.box.c1;have kz:=aE hB VA.box.c0;have kz:=aE hB VA.box.c1;have kz:=aE hB q0;have kz:=aE hB u2;have kz:=aE hB u0;have kz:=aE hB q2;(first | (go_simp;done) | (go_simp;exact Rg.wo ω)))
 ·refine Rg.o1 ?_;intro zZ w_ hB e
  have ef:=Rg.ef zZ;refine aj rfl τ ?_;exact aK.ret hB (P4.out _)
 ·intro _ zZ w_ hB hr
  have e78:=Rg.A_ (hr 78 δ);obtain ⟨s96,a96,l96,c96,hs96,e96,o96⟩:=aK.get (hr 96 δ);have ef:=Rg.ef zZ;refine aj rfl τ ?_;obtain rfl:=hs96.out;rw [hsA.out];exact aK.ret hB (P8.out _ _ _ _ _ (aF.below oA hB) o96)
 ·intro _ zZ w_ hB hr
  obtain ⟨s97,a97,l97,c97,hs97,e97,o97⟩:=aK.get (hr 97 δ);have ef:=Rg.ef zZ;refine aj rfl τ ?_;obtain rfl:=hs97.out;exact aK.ret hB (P9.out _ _ _ o97)
 ·intro _ zZ w_ hB hr
  have e77:=Rg.A_ (hr 77 δ);obtain ⟨s98,a98,l98,c98,hs98,e98,o98⟩:=aK.get (hr 98 δ);have ef:=Rg.ef zZ;refine aj rfl τ ?_;obtain rfl:=hs98.out;rw [hsC.out];exact aK.ret hB (PA.out _ _ _ _ _ (aF.below oC hB) o98)
 intro vals wy Qn hv hne;have n99:(Rg.Val.at (aK (wd.heap.size) (T))).ok (vals 22) wy:=hv 22 δ;simp only [bD,Rg.fill,Act.put,Nat.reduceAdd];clear hv;obtain ⟨UP,Sv,UH,TE,hs99,Oc,o99⟩:=(cX n99).view;simp only [Oc];clear Oc;have Vz:=VC.keep Qn;have hB2:Below w w ((wy.setCell ⟨g13,0,none⟩ (.bool UP)).setCell ⟨g13,1,none⟩ (.slice Sv UH TE)):=KR (KR (p_ B Qn) e1 _) e1 _;replace MA:=(MA.keep Qn).dE e2 Vz (.bool UP) (.slice Sv UH TE);replace MB:=(MB.keep Qn).dE e3 Vz (.bool UP) (.slice Sv UH TE);have MT:=MO.put Vz hs99 o99;have ⟨c0,c1,f0,f1,_⟩:=Vz.box;replace C:=(C.keep Qn).dE e4 (.bool UP) (.slice Sv UH TE);replace Q:=(Q.keep Qn).dE e5 (.bool UP) (.slice Sv UH TE);replace R:=(R.keep Qn).dE e6 (.bool UP) (.slice Sv UH TE);unfold aU aU Oper.wp;go_simp
 clear c0 c1 f0 f1 Vz VC oC VA oA MC U Qn B
 skip
 have B:=hB2;clear hB2;generalize ((wy.setCell ⟨g13,0,none⟩ (.bool UP)).setCell ⟨g13,1,none⟩ (.slice Sv UH TE))=wf at *;clear q0 q1 q2 u0 u1 u2 r0 r1 r2 f_ j_;clear P4 P8 P9 PA
 go_upto_region 14 with fail
 go_cut [14] (fun p wx=>∃ gd:Nat,p=.pointer (some ⟨gd,0,none⟩)/\aG wx w 24 #[a,b]/\aG wx (w.heap.size+1) 47 #[X1,Y1,E1]/\aG wx (w.heap.size+1+1+1) 47 #[(0:Int),(0:Int),(0:Int)]/\Below w w wx/\MO wx g13 (T)/\MO wx gd (Bt))
 case first=>
  have ⟨sA,aA,lA,cA,hsA,VA,oA⟩:=MA;have ⟨sB,aB,lB,cB,hsB,VB,oB⟩:=MB;obtain rfl:=hsA.out;obtain rfl:=hsB.out;have a0:=VA.box.c0;have a1:=VA.box.c1;have b0:=VB.box.c0;have b1:=VB.box.c1
  go_wp2_with ((with_reducible refine (PB.out _ _ _ _ _ oA oB).mono ?_);rintro e w4 ⟨v4,rfl,o4,hb4⟩;(replace o4:aF _ _ _ _:=o4);replace B:=p_ B hb4;replace C:=C.keep hb4;replace Q:=Q.keep hb4;replace R:=R.keep hb4;replace MT:=MT.keep hb4;have f_:=C.box.c0;have j_:=C.box.c1;(obtain ⟨q0,q1,q2⟩:=Q.aM);(obtain ⟨r0,r1,r2⟩:=R.aM);obtain ⟨av,cv,rfl,K7,Ke⟩:=aF.view o4;clear K7 Ke;have V:=aG.new w4 #[false,.slice none 0 0] 145;have V0:=V.box.c0;have V1:=V.box.c1;have V2:=V.box.f0;have V3:=V.box.f1;have M0:=lj w4 (.bool (decide (Bt<0))) (.slice av (Wh.a_ (Bt).natAbs).length cv);have M1:=MO.made o4)
  go_meet
  exact ⟨w4,rfl,C.keep M0,Q.keep M0,R.keep M0,p_ B M0,MT.keep M0,M1⟩
 case rest=>
 obtain ⟨gd,rfl,C,Q,R,B,MT,MD⟩:=hcut;clear MA MB PB e1 e2 e3 e4 e5 e6 hab ha0;go_wp2
 go_loopw [15] (fun vk wr=>∃ k:Int,vk=.int .i64 k/\1<=k/\k<=21/\Hid (K=true->k<=E)/\aG wr w 24 #[a,b]/\aG wr (w.heap.size+1) 47 #[X1,Y1,E1]/\aG wr (w.heap.size+1+1+1) 47 #[(0:Int),(0:Int),(0:Int)]/\Below w w wr/\MO wr g13 (T)/\MO wr gd (Bt)) (fun vk _=>(21 - intOf vk).toNat)
 case atStart=>exact ⟨1,rfl,ω,ω,KO (fun h=>(H2.out h).1),C,Q,R,B,MT,MD⟩
 case round=>
 clear C Q R B MT MD;obtain ⟨k,rfl,k1,k2,hk,C,Q,R,B,MT,MD⟩:=hrel;have f_:=C.box.c0;have j_:=C.box.c1;obtain ⟨q0,q1,q2⟩:=Q.aM;obtain ⟨r0,r1,r2⟩:=R.aM;have f0:=R.Kx 0;have f1:=R.Kx 1;have f2:=R.Kx 2;have rl:=R.lt
 by_cases h20:k<=20
 ·have hkk:=aH (x:=k) (y:=k) (m:=20) (n:=20)
  have PT:=fun v W j (h:aF W j v (Wh.a_ T.natAbs))=>rI T (k*k) v W j h (aR.2 (aL zt ω)) ω ω
  have zs:=ay zt (bi (n:=k*k) ω ω)
  have PQ:=fun v v' W j j' (h:aF W j v (Wh.a_ (T*(k*k)).natAbs)) (h':aF W j' v' (Wh.a_ Bt.natAbs))=>pB (T*(k*k)) Bt v v' W j j' h h' (aL zs ω) (aL zb ω) hbp
  have hxb:-10000<=M.sq (T*(k*k)) Bt/\M.sq (T*(k*k)) Bt<=10000:=by unfold M.sq;omega
  have hxe:=fun x' (h1:-10000<=x') (h2:x'<=10000) (h:Bt*x'=T*(k*k))=>KH hbp h1 h2 h
  have hat:K=true->E=k->M.sq (T*(k*k)) Bt=X/\Bt*X=T*(k*k)/\Int.gcd X k=1:=by
   intro hK hE;obtain ⟨c1,c2,c3,c4,c5,c6,-⟩:=H2.out hK;rw [hE] at c5 c6;exact ⟨hxe X c3 c4 c6,c6,c5⟩
  clear hxe zs
  have h1k:=fun x' (q3:-10000<=x') (q4:x'<=10000) q5 q6=>H1.out x' k k1 h20 q3 q4 q5 q6
  generalize T*(k*k)=S,M.sq (T*(k*k)) Bt=x at *
  have PG:=fun W=>qR x k W ω ω ω ω
  obtain ⟨x1,x2⟩:=hxb
  obtain ⟨ok,hok⟩:∃ ok,Hid (decide (Bt*x=S)=ok):=⟨_,KO rfl⟩
  rw [hok.out] at PQ;have PT:=KO PT;have PQ:=KO PQ
  have hgk:M.gcd x k=1 ↔ Int.gcd x k=1:=by unfold M.gcd;omega
  generalize M.gcd x k=gk at *;have PG:=KO PG;have ⟨sT,aT,lT,cT,T8,VT,oT⟩:=MT;have ⟨sD,aD,lD,cD,hsD,VD,oD⟩:=MD
  go_upto_region 18 with fail
  refine be 12 [.is (.agg #[sT,.slice aT lT cT]),.is k,.is k,.is (k*k:Int),.at (aK (wr.heap.size) (S)),.is (.agg #[sD,.slice aD lD cD]),.is (.tuple #[x,ok]),.is (.tuple #[x,ok]),.is x,.is ok,.is x,.is ok] κ κ κ ⟨?_,?_,?_,?_,?_,?_,?_,?_,?_,?_,?_,?_,trivial⟩ ?_
  all_goals try ((first | (refine Rg.b1 ?_;intro zZ w_ hB e) | (refine Rg.b2 ?_;intro zZ w_ hB e f));have kz:=aE hB VT.box.c0;have kz:=aE hB VT.box.c1;have kz:=aE hB VD.box.c0;have kz:=aE hB VD.box.c1;(first | (go_simp;done) | (go_simp;exact Rg.wo ω)))
  ·intro _ zZ w_ hB hr
   have e108:=Rg.A_ (hr 108 δ);have e111:=Rg.A_ (hr 111 δ);have ef:=Rg.ef zZ;refine aj rfl τ ?_;rw [T8.out];exact aK.ret hB (PT.out _ _ _ (aF.below oT hB))
  ·intro _ zZ w_ hB hr
   obtain ⟨s112,a112,l112,c112,XG,e112,o112⟩:=aK.get (hr 112 δ);have e113:=Rg.A_ (hr 113 δ);have ec:=Rg.ec zZ;have ef:=Rg.ef zZ;refine aj rfl τ ?_;obtain rfl:=XG.out;rw [hsD.out];refine (PQ.out _ _ _ _ _ o112 (aF.below oD hB)).mono ?_;rintro e w5 ⟨rfl,hb5⟩;exact ⟨_,rfl,rfl,hb5⟩
  intro vals wz TS hv hne;have LG:vals 10=.int .i64 x:=hv 10 δ;have MV:vals 11=.bool ok:=hv 11 δ;simp only [bD,Rg.fill,Act.put,Nat.reduceAdd];clear hv;simp only [LG,MV];clear LG MV;replace C:=C.keep TS;replace Q:=Q.keep TS;replace R:=R.keep TS;replace MT:=MT.keep TS;replace MD:=MD.keep TS;replace B:=p_ B TS;clear TS VT oT VD oD;unfold aU;have f_:=C.box.c0;have j_:=C.box.c1;obtain ⟨q0,q1,q2⟩:=Q.aM;obtain ⟨r0,r1,r2⟩:=R.aM;have f0:=R.Kx 0;have f1:=R.Kx 1;have f2:=R.Kx 2;have rl:=R.lt
  by_cases hgood:ok=true/\gk=1
  ·obtain ⟨rfl,rfl⟩:=hgood
   obtain ⟨hK,hX,hE⟩:=h1k x x1 x2 (hgk.1 rfl) (of_decide_eq_true hok.out);obtain ⟨c1,c2,c3,c4,c5,c6,c7,c8,c9,ca⟩:=H2.out hK;rw [hX,hE] at c7 c8;have hfin:=KO (show K=true/\X=x/\E=k from ⟨hK,hX,hE⟩);clear hat h1k hgk hok c1 c2 c3 c4 c5 c6 hK hX hE hk H1 H2 hno zt zb hbp
   have m3:-8000<=m/\m<=8000:=ω
   have n3:-1600000<=n/\n<=1600000:=ω
   clear c9 ca;have sb8:=aH (x:=X1) (y:=k) (m:=10000) (n:=20);have sb9:=aH (x:=X1*k) (y:=k) (m:=200000) (n:=20);have Rj:=aH (x:=x) (y:=E1) (m:=10000) (n:=20);have Rk:=aH (x:=x*E1) (y:=E1) (m:=200000) (n:=20);have Rl:=aH (x:=n) (y:=X1*k*k - x*E1*E1) (m:=1600000) (n:=8000000);have Rm:=aH (x:=n*(X1*k*k - x*E1*E1)) (y:=E1) (m:=12800000000000) (n:=20);have Rn:=aH (x:=Y1) (y:=m) (m:=3000000) (n:=8000);have Ro:=aH (x:=Y1*m) (y:=k) (m:=24000000000) (n:=20);have Rp:=aH (x:=Y1*m*k) (y:=k) (m:=480000000000) (n:=20)
   have PV:=fun W=>ir a b x k W ha1 ha2 hb1 hb2 x1 x2 ω ω
   have hcv:=rh (a:=a) (b:=b) (x:=x) (e:=k) ha1 ha2 hb1 hb2 x1 x2 ω ω;rw [←c8] at PV hcv;have hyb:=AD (Y:=Y) ω;have hr2:(Y.natAbs:Int)*(Y.natAbs:Int)=Y*Y:=Int.natAbs_mul_self
   have hr0:(0:Int)<=(Y.natAbs:Int):=ω
   have hrb:(Y.natAbs:Int)<=2000000:=ω
   have PR:=fun W=>mN (Y*Y) W ω
   rw [uL hr0 hr2,mV hr2] at PR
   have hy:=fun h=>I0 (r:=(Y.natAbs:Int)) hm0.out ω ω (show k*(n*(X1*k*k - x*E1*E1)*E1 - Y1*m*k*k)=m*E1*E1*E1*Y from h) hr0 hr2
   replace hy:=hy c7;clear c7 c8 hcv;generalize (Y.natAbs:Int)=r at *;generalize Y*Y=yy at *;clear hr2;have PV:=KO PV;have PR:=KO PR
   obtain ⟨q1,d1⟩:∃ q,decide (n*(X1*k*k - x*E1*E1)*E1 - Y1*m*k*k<0)=q:=⟨_,rfl⟩
   obtain ⟨q2,d2⟩:∃ q,decide (m<0)=q:=⟨_,rfl⟩
   have hyv:(if (q1 != q2)=true then -r else r)=Y:=by
    rw [←hy,←d1,←d2]
   clear hy
   cases q1 <;> cases q2
   all_goals
    first | (replace hyv:r=Y:=hyv) | (replace hyv:-r=Y:=hyv)
    replace hyv:=KO hyv
    go_wp2_with first | ((with_reducible refine (PG.out _).mono ?_);rintro e w5 ⟨rfl,j5,rfl⟩;have hb5:=aP (KS wz wz) j5;replace B:=p_ B hb5;replace C:=C.keep hb5;replace Q:=Q.keep hb5;replace R:=R.keep hb5;replace MT:=MT.keep hb5;replace MD:=MD.keep hb5;have f_:=C.box.c0;have j_:=C.box.c1;(obtain ⟨q0,q1,q2⟩:=Q.aM);(obtain ⟨r0,r1,r2⟩:=R.aM);have f0:=R.Kx 0;have f1:=R.Kx 1;have f2:=R.Kx 2;have rl:=R.lt) | (with_reducible refine G_ PV fun w6 hb6=>?_;replace B:=p_ B hb6;replace C:=C.keep hb6;replace Q:=Q.keep hb6;replace R:=R.keep hb6;replace MT:=MT.keep hb6;replace MD:=MD.keep hb6;have f_:=C.box.c0;have j_:=C.box.c1;(obtain ⟨q0,q1,q2⟩:=Q.aM);(obtain ⟨r0,r1,r2⟩:=R.aM);have f0:=R.Kx 0;have f1:=R.Kx 1;have f2:=R.Kx 2;have rl:=R.lt) | (with_reducible refine Kw (PR.out _) ?_)
    first | (exact KU (v:=.tuple #[.agg #[x,r,k],true]) results81 ⟨by rw [hfin.out.1,hfin.out.2.1,hfin.out.2.2,hyv.out],MN B⟩) | (exact KU (v:=.tuple #[.agg #[x,(-r:Int),k],true]) results81 ⟨by rw [hfin.out.1,hfin.out.2.1,hfin.out.2.2,hyv.out],MN B⟩)
  have hkE:K=true->k+1<=E:=by
   intro hK;have q1:=hk.out hK
   rcases Int.lt_or_le k E with q | q
   ·omega
   exfalso
   obtain ⟨z1,z2,z3⟩:=hat hK ω
   apply hgood
   rw [←z1] at z2 z3;exact ⟨by rw [←hok.out];exact decide_eq_true z2,hgk.2 z3⟩
  clear hat h1k hgk hok hk hbp;have hkE:=KO hkE;cases ok
  all_goals
   first | (have hg1:gk≠1:=fun h=>hgood ⟨rfl,h⟩) | skip
   clear hgood
   go_wp2_with ((with_reducible refine (PG.out _).mono ?_);rintro e w5 ⟨rfl,j5,rfl⟩;have hb5:=aP (KS wz wz) j5;replace B:=p_ B hb5;replace C:=C.keep hb5;replace Q:=Q.keep hb5;replace R:=R.keep hb5;replace MT:=MT.keep hb5;replace MD:=MD.keep hb5;have f_:=C.box.c0;have j_:=C.box.c1;(obtain ⟨q0,q1,q2⟩:=Q.aM);(obtain ⟨r0,r1,r2⟩:=R.aM);have f0:=R.Kx 0;have f1:=R.Kx 1;have f2:=R.Kx 2;have rl:=R.lt)
   go_roundw
   case rel=>exact ⟨k+1,rfl,ω,ω,hkE,C,Q,R,B,MT,MD⟩
   case measure=>simp [intOf] <;> omega
 have hK:K=false:=by
  cases hK:K
  ·rfl
  have q1:=hk.out hK;have q2:=(H2.out hK).2.1;omega
 obtain ⟨z1,z2,z3⟩:=hno.out hK;have hfin:=KO (show K=false/\X=0/\Y=0/\E=0 from ⟨hK,z1,z2,z3⟩);clear hk H1 H2 hno z1 z2 z3 hK;go_wp2;exact KU (v:=.tuple #[.agg #[(0:Int),(0:Int),(0:Int)],false]) results81 ⟨by rw [hfin.out.1,hfin.out.2.1,hfin.out.2.2.1,hfin.out.2.2.2],MN B⟩
instance {W W':World} {g:Nat} {z:Int}:HAdd (PLift (MO W g z)) (PLift (Below W W W')) (PLift (MO W' g z)):=⟨fun x h=>⟨x.down.keep h.down⟩⟩
theorem Ye {p:Prop} (h:p:=by
 have f_:=C.box.c0;have j_:=C.box.c1;have ⟨q0,q1,q2⟩:=Q.aM;have ⟨u0,u1,u2⟩:=U.aM;have ⟨r0,r1,r2⟩:=R.aM;have f0:=R.Kx 0;have f1:=R.Kx 1;have f2:=R.Kx 2;have rl:=R.lt;go_enter func43,ntmps43
 go_wp2;exact KU results43 ⟨rfl,MN B⟩):p:=h
theorem Yf {p:Prop} (h:p:=by
 have f_:=C.box.c0;have j_:=C.box.c1;have ⟨q0,q1,q2⟩:=Q.aM;have ⟨u0,u1,u2⟩:=U.aM;have ⟨r0,r1,r2⟩:=R.aM;have f0:=R.Kx 0;have f1:=R.Kx 1;have f2:=R.Kx 2;have rl:=R.lt;go_enter func81,ntmps81
 go_wp2;exact KU results81 ⟨rfl,MN B⟩):p:=h
namespace M
noncomputable def dI (a X1 Y1 E1 X2 Y2 E2:Int):Bool:=if E1=0 then true else if E2=0 then true else lZ a X1 Y1 E1 X2 Y2 E2
noncomputable def eI (a X1 Y1 E1 X2 Y2 E2:Int):Int:=if E1=0 then X2 else if E2=0 then X1 else NY a X1 Y1 E1 X2 Y2 E2
noncomputable def ft (a X1 Y1 E1 X2 Y2 E2:Int):Int:=if E1=0 then Y2 else if E2=0 then Y1 else Nt a X1 Y1 E1 X2 Y2 E2
noncomputable def eD (a X1 Y1 E1 X2 Y2 E2:Int):Int:=if E1=0 then E2 else if E2=0 then E1 else Mn a X1 Y1 E1 X2 Y2 E2
theorem jH {a b X Y E:Int} (hin:bK a b=true) (h:aV a b X Y E=true):(E=0/\X=0/\Y=0)∨(1<=E/\E<=20/\-10000<=X/\X<=10000/\Int.gcd X E=1/\Y*Y=cv a b X E/\-3000000<=Y/\Y<=3000000):=by
 obtain ⟨ha1,ha2,hb1,hb2⟩:=ag hin;unfold aV at h
 split at h
 ·simp only [Bool.and_eq_true,decide_eq_true_eq] at h
  left;exact ⟨ψ,h.1,h.2⟩
 right
 simp only [Bool.and_eq_true,decide_eq_true_eq,M.ins,beq_iff_eq] at h;obtain ⟨⟨⟨⟨h1,h2⟩,h3,h4⟩,h5⟩,h6⟩:=h;have hv:=rh (a:=a) (b:=b) ha1 ha2 hb1 hb2 h1 h2 ω h4;have hy:=G0 h6 hv.2;exact ⟨h3,h4,h1,h2,by unfold M.gcd at h5;omega,h6,hy.1,hy.2⟩
theorem GO {a b X Y E:Int} (h1:1<=E) (h2:E<=20) (h3:-10000<=X) (h4:X<=10000) (h5:Int.gcd X E=1) (h6:Y*Y=cv a b X E):aV a b X Y E=true:=by
 unfold aV;rw [if_neg ω];simp only [Bool.and_eq_true,decide_eq_true_eq,M.ins,beq_iff_eq];exact ⟨⟨⟨⟨h3,h4⟩,h1,h2⟩,by unfold M.gcd;omega⟩,h6⟩
theorem nI {a b X1 Y1 E1 X2 Y2 E2:Int} (hin:bK a b=true) (hp:aV a b X1 Y1 E1=true) (hq:aV a b X2 Y2 E2=true):aV a b (eI a X1 Y1 E1 X2 Y2 E2) (ft a X1 Y1 E1 X2 Y2 E2) (eD a X1 Y1 E1 X2 Y2 E2)=true:=by
 unfold eI ft eD
 by_cases h1:E1=0
 ·rw [if_pos h1,if_pos h1,if_pos h1];exact hq
 rw [if_neg h1,if_neg h1,if_neg h1]
 by_cases h2:E2=0
 ·rw [if_pos h2,if_pos h2,if_pos h2];exact hp
 rw [if_neg h2,if_neg h2,if_neg h2];have z0:aV a b 0 0 0=true:=rfl
 by_cases h0:sD X1 Y1 E1 X2 Y2 E2=0
 ·unfold NY Nt Mn
  rw [if_pos h0,if_pos h0,if_pos h0];exact z0
 cases hk:lZ a X1 Y1 E1 X2 Y2 E2
 ·obtain ⟨q1,q2,q3⟩:=yo h0 hk
  rw [q1,q2,q3];exact z0
 obtain ⟨p1,p2,p3,p4,p5,p6,-⟩:=(jH hin hp).resolve_left (fun h=>h1 h.1);obtain ⟨r1,r2,r3,r4,r5,r6,-⟩:=(jH hin hq).resolve_left (fun h=>h2 h.1);obtain ⟨-,-,H⟩:=tQ (n:=Lu a X1 Y1 E1 X2 Y2 E2) (m:=Le a X1 Y1 E1 X2 Y2 E2) p6 r6 p4 r4 p1 p2 r1 r2 h0 (Or.inl ⟨rfl,rfl⟩);obtain ⟨c1,c2,c3,c4,c5,-,-,c8,-⟩:=H hk _ _ _ rfl rfl rfl;exact GO c1 c2 c3 c4 c5 c8
theorem df {a b X Y E:Int} (hin:bK a b=true) (h:aV a b X Y E=true):-10000<=X/\X<=10000/\0<=E/\E<=20/\-3000000<=Y/\Y<=3000000:=by
 rcases jH hin h with ⟨rfl,rfl,rfl⟩ | ⟨h1,h2,h3,h4,-,-,h7,h8⟩ <;> omega
end M
theorem iA (a b X1 Y1 E1 X2 Y2 E2:Int) (w:World) (hg:M.good a b=true) (hp:aV a b X1 Y1 E1=true) (hq:aV a b X2 Y2 E2=true) :
  cB 81 #[.agg #[a,b],.agg #[X1,Y1,E1],.agg #[X2,Y2,E2]] w (.tuple #[.agg #[eI a X1 Y1 E1 X2 Y2 E2,ft a X1 Y1 E1 X2 Y2 E2,eD a X1 Y1 E1 X2 Y2 E2],dI a X1 Y1 E1 X2 Y2 E2]):=by
 have hin:=ae hg;obtain ⟨ha1,ha2,hb1,hb2⟩:=ag hin
 by_cases hE1:E1=0
 ·have hf:=KO (show eI a X1 Y1 E1 X2 Y2 E2=X2/\ft a X1 Y1 E1 X2 Y2 E2=Y2/\eD a X1 Y1 E1 X2 Y2 E2=E2/\dI a X1 Y1 E1 X2 Y2 E2=true from ⟨if_pos hE1,if_pos hE1,if_pos hE1,if_pos hE1⟩)
  rw [hf.out.1,hf.out.2.1,hf.out.2.2.1,hf.out.2.2.2];clear hf hg hp hq hin;subst hE1;obtain ⟨wc,hw3,C,Q,U,R,B⟩:=fP w #[a,b] 24 #[X1,Y1,(0:Int)] 47 #[X2,Y2,E2] 47 #[(0:Int),(0:Int),(0:Int)] 47;exact Yf
 obtain ⟨p1,p2,p3,p4,p5,p6,p7,p8⟩:=(jH hin hp).resolve_left (fun h=>hE1 h.1)
 by_cases hE2:E2=0
 ·have hf:=KO (show eI a X1 Y1 E1 X2 Y2 E2=X1/\ft a X1 Y1 E1 X2 Y2 E2=Y1/\eD a X1 Y1 E1 X2 Y2 E2=E1/\dI a X1 Y1 E1 X2 Y2 E2=true from ⟨(if_neg hE1).trans (if_pos hE2),(if_neg hE1).trans (if_pos hE2),(if_neg hE1).trans (if_pos hE2),(if_neg hE1).trans (if_pos hE2)⟩)
  rw [hf.out.1,hf.out.2.1,hf.out.2.2.1,hf.out.2.2.2];clear hf hg hp hq hin p5 p6
  have hE3:(E1 == 0)=false:=by rw [beq_eq_false_iff_ne];exact hE1
  subst hE2;obtain ⟨wc,hw3,C,Q,U,R,B⟩:=fP w #[a,b] 24 #[X1,Y1,E1] 47 #[X2,Y2,(0:Int)] 47 #[(0:Int),(0:Int),(0:Int)] 47;exact Yf
 obtain ⟨r1,r2,r3,r4,r5,r6,r7,r8⟩:=(jH hin hq).resolve_left (fun h=>hE2 h.1);have hf:=KO (show eI a X1 Y1 E1 X2 Y2 E2=M.NY a X1 Y1 E1 X2 Y2 E2/\ft a X1 Y1 E1 X2 Y2 E2=M.Nt a X1 Y1 E1 X2 Y2 E2/\eD a X1 Y1 E1 X2 Y2 E2=M.Mn a X1 Y1 E1 X2 Y2 E2/\dI a X1 Y1 E1 X2 Y2 E2=lZ a X1 Y1 E1 X2 Y2 E2 from ⟨(if_neg hE1).trans (if_neg hE2),(if_neg hE1).trans (if_neg hE2),(if_neg hE1).trans (if_neg hE2),(if_neg hE1).trans (if_neg hE2)⟩);rw [hf.out.1,hf.out.2.1,hf.out.2.2.1,hf.out.2.2.2];exact CP a b X1 Y1 E1 X2 Y2 E2 w ha1 ha2 p3 p4 p7 p8 p1 p2 r3 r4 r7 r8 r1 r2 hb1 hb2 p6 r6 p5 r5
theorem uE (a b X1 Y1 E1 X2 Y2 E2:Int) (w:World) (hg:M.good a b=true) (hp:aV a b X1 Y1 E1=true) (hq:aV a b X2 Y2 E2=true) :
  cB 43 #[.agg #[a,b],.agg #[X1,Y1,E1],.agg #[X2,Y2,E2]] w (.tuple #[.agg #[eI a X1 Y1 E1 X2 Y2 E2,ft a X1 Y1 E1 X2 Y2 E2,eD a X1 Y1 E1 X2 Y2 E2],dI a X1 Y1 E1 X2 Y2 E2]):=by
 have hin:=ae hg;obtain ⟨ha1,ha2,hb1,hb2⟩:=ag hin
 by_cases hE1:E1=0
 ·have hf:=KO (show eI a X1 Y1 E1 X2 Y2 E2=X2/\ft a X1 Y1 E1 X2 Y2 E2=Y2/\eD a X1 Y1 E1 X2 Y2 E2=E2/\dI a X1 Y1 E1 X2 Y2 E2=true from ⟨if_pos hE1,if_pos hE1,if_pos hE1,if_pos hE1⟩)
  rw [hf.out.1,hf.out.2.1,hf.out.2.2.1,hf.out.2.2.2];clear hf hg hp hq hin;subst hE1;obtain ⟨wc,hw3,C,Q,U,R,B⟩:=fP w #[a,b] 24 #[X1,Y1,(0:Int)] 47 #[X2,Y2,E2] 47 #[(0:Int),(0:Int),(0:Int)] 47;exact Ye
 obtain ⟨p1,p2,p3,p4,p5,p6,p7,p8⟩:=(jH hin hp).resolve_left (fun h=>hE1 h.1)
 by_cases hE2:E2=0
 ·have hf:=KO (show eI a X1 Y1 E1 X2 Y2 E2=X1/\ft a X1 Y1 E1 X2 Y2 E2=Y1/\eD a X1 Y1 E1 X2 Y2 E2=E1/\dI a X1 Y1 E1 X2 Y2 E2=true from ⟨(if_neg hE1).trans (if_pos hE2),(if_neg hE1).trans (if_pos hE2),(if_neg hE1).trans (if_pos hE2),(if_neg hE1).trans (if_pos hE2)⟩)
  rw [hf.out.1,hf.out.2.1,hf.out.2.2.1,hf.out.2.2.2];clear hf hg hp hq hin p5 p6
  have hE3:(E1 == 0)=false:=by rw [beq_eq_false_iff_ne];exact hE1
  subst hE2;obtain ⟨wc,hw3,C,Q,U,R,B⟩:=fP w #[a,b] 24 #[X1,Y1,E1] 47 #[X2,Y2,(0:Int)] 47 #[(0:Int),(0:Int),(0:Int)] 47;exact Ye
 obtain ⟨r1,r2,r3,r4,r5,r6,r7,r8⟩:=(jH hin hq).resolve_left (fun h=>hE2 h.1);have hf:=KO (show eI a X1 Y1 E1 X2 Y2 E2=M.NY a X1 Y1 E1 X2 Y2 E2/\ft a X1 Y1 E1 X2 Y2 E2=M.Nt a X1 Y1 E1 X2 Y2 E2/\eD a X1 Y1 E1 X2 Y2 E2=M.Mn a X1 Y1 E1 X2 Y2 E2/\dI a X1 Y1 E1 X2 Y2 E2=lZ a X1 Y1 E1 X2 Y2 E2 from ⟨(if_neg hE1).trans (if_neg hE2),(if_neg hE1).trans (if_neg hE2),(if_neg hE1).trans (if_neg hE2),(if_neg hE1).trans (if_neg hE2)⟩);rw [hf.out.1,hf.out.2.1,hf.out.2.2.1,hf.out.2.2.2];exact xv a b X1 Y1 E1 X2 Y2 E2 w ha1 ha2 p3 p4 p7 p8 p1 p2 r3 r4 r7 r8 r1 r2 hb1 hb2 p6 r6
theorem wau2 {p:Prop} (h:p:=by exact KU results88 ⟨rfl,KR (KR (fR B ⟨g,0,none⟩ (.bool false)) σ _) σ _⟩):p:=h
theorem fR {B:Nat} {w w':World} (h:Below B w w') (p:Addr) (x:Value):Below B (w.setCell p x) (w'.setCell p x):=
 ⟨h.os,h.tape,h.output,by simp [World.setCell];exact h.size,fun k hk=>by
  show (w'.heap.modify p.block _)[k]?=(w.heap.modify p.block _)[k]?
  rw [Array.getElem?_modify,Array.getElem?_modify,h.block k hk]⟩
theorem aO (w:World) (p:Addr) (x:Value):(w.setCell p x).heap.size=w.heap.size:=by simp [World.setCell]
theorem bI {w w':World} {p:Addr} {x:Value} (h:Below w (w.setCell p x) w'):Below (w.setCell p x).heap.size (w.setCell p x) w':=h.mono (Nat.le_of_eq (aO w p x))
theorem ta (g:Nat) (ok:Bool) (lo hi:Int) (w:World) (K:aG w g 83 #[ok]) :
  Calls prog 88 #[.pointer (some ⟨g,0,none⟩),.agg #[lo,hi]] w fun e w'=>e=.returned (.agg #[M.pick (ok && aJ lo hi) lo,M.pick (ok && aJ lo hi) hi])/\Below w (w.setCell ⟨g,0,none⟩ (.bool (ok && aJ lo hi))) w':=by
 have PV:=KO fun W=>my lo hi W
 have hgl:=K.lt;have B:=((KS w w).alloc (KT _) (.cells #[lo,hi] 72)).alloc (by rw [KQ];omega) (.cells #[(0:Int),(0:Int)] 72);have S:=(aG.new w #[lo,hi] 72).alloc (.cells #[(0:Int),(0:Int)] 72);have R:=aG.new (w.alloc (.cells #[lo,hi] 72)) #[(0:Int),(0:Int)] 72;rw [KQ] at R;have K2:=(K.alloc (.cells #[lo,hi] 72)).alloc (.cells #[(0:Int),(0:Int)] 72);generalize hw3:(w.alloc (.cells #[lo,hi] 72)).alloc (.cells #[(0:Int),(0:Int)] 72)=wc at *;have k0:=K2.cell 0;have kf:=K2.Kx 0;have kl:=K2.lt
 have n1:g≠w.heap.size:=ω
 have n2:g≠w.heap.size+1:=ω
 have ⟨s0,s1,s2,s3,s4⟩:=S.box;have ⟨r0,r1,r2,r3,r4⟩:=R.box;cases ok
 ·go_enter func88,ntmps88
  go_wp2;exact wau2
 cases hv:aJ lo hi
 ·rw [hv] at PV
  go_enter func88,ntmps88
  go_wp2_with (with_reducible refine G_ PV fun w4 hb4=>?_;replace ⟨B,S,R,K2⟩:=Kl hb4 B S R K2;have k0:=K2.cell 0;have kf:=K2.Kx 0;have kl:=K2.lt;(obtain ⟨s0,s1,s2,s3,s4⟩:=S.box);(obtain ⟨r0,r1,r2,r3,r4⟩:=R.box))
  exact wau2
 rw [hv] at PV;go_enter func88,ntmps88
 go_wp2_with (with_reducible refine G_ PV fun w4 hb4=>?_;replace ⟨B,S,R,K2⟩:=Kl hb4 B S R K2;have k0:=K2.cell 0;have kf:=K2.Kx 0;have kl:=K2.lt;(obtain ⟨s0,s1,s2,s3,s4⟩:=S.box);(obtain ⟨r0,r1,r2,r3,r4⟩:=R.box))
 exact KU results88 ⟨rfl,KR (KR (fR B ⟨g,0,none⟩ (.bool true)) σ _) σ _⟩
theorem VE {p:Prop} (h:p:=by cases ok <;> cases bo <;> first | rfl | (rw [hbo rfl];rfl)):p:=h
namespace M
abbrev Sp:=Option (Int × Int)
def Kd (s:Sp):Int:=(s.getD (0,0)).1
def Kj (s:Sp):Int:=(s.getD (0,0)).2
def mkS (l h:Int):Sp:=if aJ l h=true then some (l,h) else none
def fQ (s t:Sp):Sp:=s.bind fun p=>t.bind fun q=>mkS (p.1+q.1) (p.2+q.2)
def dX (s t:Sp):Sp:=s.bind fun p=>t.bind fun q=>mkS (p.1 - q.2) (p.2 - q.1)
def cn (s t:Sp):Sp:=s.bind fun p=>t.bind fun q=>mkS (cO p.1 p.2 q.1 q.2 / 4096) (-(-cN p.1 p.2 q.1 q.2 / 4096))
noncomputable def bU (a b X E:Int):Sp:=if Lm a b X E=true then some (bL a b X E (bN a b X E),bH a b X E (bN a b X E)) else none
def gd (f:Bool) (s:Sp):Sp:=if f=true then s else none
def LR (s:Sp):Prop:=∀ p,s=some p->aJ p.1 p.2=true
theorem eN:LR none:=fun _ h=>by cases h
theorem Is (l h:Int):LR (mkS l h):=by
 intro p hp;unfold mkS at hp
 split at hp
 ·injection hp with hp;subst hp;assumption
 cases hp
theorem kH {f:Bool} {s:Sp} (h:LR s):LR (gd f s):=by
 unfold gd;split
 ·exact h
 exact eN
theorem nu {s t:Sp} {F G:Int × Int->Int × Int->Int}:LR (s.bind fun p=>t.bind fun q=>mkS (F p q) (G p q)):=by
 cases s
 ·exact eN
 cases t
 ·exact eN
 exact Is _ _
theorem tv {s t:Sp}:LR (fQ s t):=nu
theorem pR {s t:Sp}:LR (dX s t):=nu
theorem kq {s t:Sp}:LR (cn s t):=nu
theorem kG {s:Sp} (h:LR s):Kd s<=Kj s/\-409600000<=Kd s/\Kj s<=409600000:=by
 cases s with
 | none=>exact ⟨Int.le_refl _,δ,δ⟩
 | some p=>exact bM (h p rfl)
theorem yU {a b X E:Int} (hin:bK a b=true) (hX1:-10000<=X) (hX2:X<=10000) (hE1:0<=E) (hE2:E<=20) (h:Lm a b X E=true):aJ (bL a b X E (bN a b X E)) (bH a b X E (bN a b X E))=true:=by
 cases hs:aJ (bL a b X E (bN a b X E)) (bH a b X E (bN a b X E))
 ·rw [Ja hin hX1 hX2 hE1 hE2 (KT _) hs] at h;cases h
 rfl
theorem fg {a b X E:Int} (hin:bK a b=true) (hX1:-10000<=X) (hX2:X<=10000) (hE1:0<=E) (hE2:E<=20):LR (bU a b X E):=by
 intro p hp;unfold bU at hp
 split at hp
 ·rename_i h
  injection hp with hp;subst hp;exact yU hin hX1 hX2 hE1 hE2 h
 cases hp
theorem step2 {ok:Bool} {s t:Sp} {F G:Int->Int->Int->Int->Int} (h1:ok=true->s.isSome=true) (h2:ok=true->t.isSome=true):(ok && aJ (F (Kd s) (Kj s) (Kd t) (Kj t)) (G (Kd s) (Kj s) (Kd t) (Kj t)))=(gd ok (s.bind fun p=>t.bind fun q=>mkS (F p.1 p.2 q.1 q.2) (G p.1 p.2 q.1 q.2))).isSome/\pick (ok && aJ (F (Kd s) (Kj s) (Kd t) (Kj t)) (G (Kd s) (Kj s) (Kd t) (Kj t))) (F (Kd s) (Kj s) (Kd t) (Kj t))=Kd (gd ok (s.bind fun p=>t.bind fun q=>mkS (F p.1 p.2 q.1 q.2) (G p.1 p.2 q.1 q.2)))/\pick (ok && aJ (F (Kd s) (Kj s) (Kd t) (Kj t)) (G (Kd s) (Kj s) (Kd t) (Kj t))) (G (Kd s) (Kj s) (Kd t) (Kj t))=Kj (gd ok (s.bind fun p=>t.bind fun q=>mkS (F p.1 p.2 q.1 q.2) (G p.1 p.2 q.1 q.2))):=by
 cases ok with
 | false=>exact ⟨rfl,rfl,rfl⟩
 | true=>
 obtain ⟨p,rfl⟩:=Option.isSome_iff_exists.1 (h1 rfl);obtain ⟨q,rfl⟩:=Option.isSome_iff_exists.1 (h2 rfl)
 show (true && aJ (F p.1 p.2 q.1 q.2) (G p.1 p.2 q.1 q.2))=(mkS (F p.1 p.2 q.1 q.2) (G p.1 p.2 q.1 q.2)).isSome/\pick (true && aJ (F p.1 p.2 q.1 q.2) (G p.1 p.2 q.1 q.2)) (F p.1 p.2 q.1 q.2)=Kd (mkS (F p.1 p.2 q.1 q.2) (G p.1 p.2 q.1 q.2))/\pick (true && aJ (F p.1 p.2 q.1 q.2) (G p.1 p.2 q.1 q.2)) (G p.1 p.2 q.1 q.2)=Kj (mkS (F p.1 p.2 q.1 q.2) (G p.1 p.2 q.1 q.2))
 unfold mkS
 cases aJ (F p.1 p.2 q.1 q.2) (G p.1 p.2 q.1 q.2) <;> exact ⟨rfl,rfl,rfl⟩
end M
theorem Dl (g:Nat) (ok:Bool) (a b c d:Int) (w:World) (K:aG w g 83 #[ok]) (h1:-4000000000000000000<=a) (h2:a<=4000000000000000000) (h3:-4000000000000000000<=b) (h4:b<=4000000000000000000) (h5:-4000000000000000000<=c) (h6:c<=4000000000000000000) (h7:-4000000000000000000<=d) (h8:d<=4000000000000000000) :
  Calls prog 44 #[.pointer (some ⟨g,0,none⟩),.agg #[a,b],.agg #[c,d]] w fun e w'=>e=.returned (.agg #[M.pick (ok && aJ (a+c) (b+d)) (a+c),M.pick (ok && aJ (a+c) (b+d)) (b+d)])/\Below w (w.setCell ⟨g,0,none⟩ (.bool (ok && aJ (a+c) (b+d)))) w':=by
 have PP:=fun W=>Iw a b c d W h1 h2 h3 h4 h5 h6 h7 h8
 have PK:=fun W (k:aG W g 83 #[ok])=>ta g ok (a+c) (b+d) W k
 generalize (b+d)=hi,(a+c)=lo at *;generalize (ok && aJ lo hi)=f at *;replace PP:=KO PP;replace PK:=KO PK;have hgl:=K.lt;have B:=(((KS w w).alloc (KT _) (.cells #[a,b] 72)).alloc (by rw [KQ];omega) (.cells #[c,d] 72)).alloc (by rw [KQ,KQ];omega) (.cells #[(0:Int),(0:Int)] 72);have S:=((aG.new w #[a,b] 72).alloc (.cells #[c,d] 72)).alloc (.cells #[(0:Int),(0:Int)] 72);have T:=(aG.new (w.alloc (.cells #[a,b] 72)) #[c,d] 72).alloc (.cells #[(0:Int),(0:Int)] 72);rw [KQ] at T;have R:=aG.new ((w.alloc (.cells #[a,b] 72)).alloc (.cells #[c,d] 72)) #[(0:Int),(0:Int)] 72;rw [KQ,KQ] at R;have K2:=((K.alloc (.cells #[a,b] 72)).alloc (.cells #[c,d] 72)).alloc (.cells #[(0:Int),(0:Int)] 72);generalize hw3:((w.alloc (.cells #[a,b] 72)).alloc (.cells #[c,d] 72)).alloc (.cells #[(0:Int),(0:Int)] 72)=wc at *
 have n1:w.heap.size+1+1≠g:=ω
 have ⟨s0,s1,_,_,_⟩:=S.box;have ⟨t0,t1,_,_,_⟩:=T.box;go_enter func44,ntmps44
 go_wp2_with first | ((with_reducible refine (PP.out _).mono ?_);rintro e w4 ⟨rfl,hb4⟩;replace ⟨B,R,K2⟩:=Ky hb4 B R K2) | ((with_reducible refine (PK.out _ K2).mono ?_);rintro e w5 ⟨rfl,hb5⟩;have hz:=B.size;replace B:=(fR B ⟨g,0,none⟩ (.bool f)).trans (hb5.mono hz);replace R:=(R.other n1 (.bool f)).keep (bI hb5);(obtain ⟨r0,r1,r2,r3,r4⟩:=R.box))
 exact KU results44 ⟨rfl,Pf B⟩
theorem tg (g:Nat) (ok:Bool) (s t:M.Sp) (w:World) (K:aG w g 83 #[ok]) (hs:M.LR s) (ht:M.LR t) (h1:ok=true->s.isSome=true) (h2:ok=true->t.isSome=true) :
  Calls prog 44 #[.pointer (some ⟨g,0,none⟩),.agg #[M.Kd s,M.Kj s],.agg #[M.Kd t,M.Kj t]] w fun e w'=>e=.returned (.agg #[M.Kd (M.gd ok (fQ s t)),M.Kj (M.gd ok (fQ s t))])/\Below w (w.setCell ⟨g,0,none⟩ (.bool (M.gd ok (fQ s t)).isSome)) w':=by
 obtain ⟨e1,e2,e3⟩:=M.step2 (F:=fun a _ c _=>a+c) (G:=fun _ b _ d=>b+d) h1 h2;have b1:=kG hs;have b2:=kG ht;have h:=Dl g ok (M.Kd s) (M.Kj s) (M.Kd t) (M.Kj t) w K ω ω ω ω ω ω ω ω;rw [e2,e3,e1] at h;exact h
theorem At (g:Nat) (ok:Bool) (a b c d:Int) (w:World) (K:aG w g 83 #[ok]) (h1:-4000000000000000000<=a) (h2:a<=4000000000000000000) (h3:-4000000000000000000<=b) (h4:b<=4000000000000000000) (h5:-4000000000000000000<=c) (h6:c<=4000000000000000000) (h7:-4000000000000000000<=d) (h8:d<=4000000000000000000) :
  Calls prog 115 #[.pointer (some ⟨g,0,none⟩),.agg #[a,b],.agg #[c,d]] w fun e w'=>e=.returned (.agg #[M.pick (ok && aJ (a - d) (b - c)) (a - d),M.pick (ok && aJ (a - d) (b - c)) (b - c)])/\Below w (w.setCell ⟨g,0,none⟩ (.bool (ok && aJ (a - d) (b - c)))) w':=by
 have PP:=fun W=>GA a b c d W h1 h2 h3 h4 h5 h6 h7 h8
 have PK:=fun W (k:aG W g 83 #[ok])=>ta g ok (a - d) (b - c) W k
 generalize (b - c)=hi,(a - d)=lo at *;generalize (ok && aJ lo hi)=f at *;replace PP:=KO PP;replace PK:=KO PK;have hgl:=K.lt;have B:=(((KS w w).alloc (KT _) (.cells #[a,b] 72)).alloc (by rw [KQ];omega) (.cells #[c,d] 72)).alloc (by rw [KQ,KQ];omega) (.cells #[(0:Int),(0:Int)] 72);have S:=((aG.new w #[a,b] 72).alloc (.cells #[c,d] 72)).alloc (.cells #[(0:Int),(0:Int)] 72);have T:=(aG.new (w.alloc (.cells #[a,b] 72)) #[c,d] 72).alloc (.cells #[(0:Int),(0:Int)] 72);rw [KQ] at T;have R:=aG.new ((w.alloc (.cells #[a,b] 72)).alloc (.cells #[c,d] 72)) #[(0:Int),(0:Int)] 72;rw [KQ,KQ] at R;have K2:=((K.alloc (.cells #[a,b] 72)).alloc (.cells #[c,d] 72)).alloc (.cells #[(0:Int),(0:Int)] 72);generalize hw3:((w.alloc (.cells #[a,b] 72)).alloc (.cells #[c,d] 72)).alloc (.cells #[(0:Int),(0:Int)] 72)=wc at *
 have n1:w.heap.size+1+1≠g:=ω
 have ⟨s0,s1,_,_,_⟩:=S.box;have ⟨t0,t1,_,_,_⟩:=T.box;go_enter func115,ntmps115
 go_wp2_with first | ((with_reducible refine (PP.out _).mono ?_);rintro e w4 ⟨rfl,hb4⟩;replace ⟨B,R,K2⟩:=Ky hb4 B R K2) | ((with_reducible refine (PK.out _ K2).mono ?_);rintro e w5 ⟨rfl,hb5⟩;have hz:=B.size;replace B:=(fR B ⟨g,0,none⟩ (.bool f)).trans (hb5.mono hz);replace R:=(R.other n1 (.bool f)).keep (bI hb5);(obtain ⟨r0,r1,r2,r3,r4⟩:=R.box))
 exact KU results115 ⟨rfl,Pf B⟩
theorem qa (g:Nat) (ok:Bool) (s t:M.Sp) (w:World) (K:aG w g 83 #[ok]) (hs:M.LR s) (ht:M.LR t) (h1:ok=true->s.isSome=true) (h2:ok=true->t.isSome=true) :
  Calls prog 115 #[.pointer (some ⟨g,0,none⟩),.agg #[M.Kd s,M.Kj s],.agg #[M.Kd t,M.Kj t]] w fun e w'=>e=.returned (.agg #[M.Kd (M.gd ok (dX s t)),M.Kj (M.gd ok (dX s t))])/\Below w (w.setCell ⟨g,0,none⟩ (.bool (M.gd ok (dX s t)).isSome)) w':=by
 obtain ⟨e1,e2,e3⟩:=M.step2 (F:=fun a _ _ d=>a - d) (G:=fun _ b c _=>b - c) h1 h2;have b1:=kG hs;have b2:=kG ht;have h:=At g ok (M.Kd s) (M.Kj s) (M.Kd t) (M.Kj t) w K ω ω ω ω ω ω ω ω;rw [e2,e3,e1] at h;exact h
theorem Aw (g:Nat) (ok:Bool) (a b c d:Int) (w:World) (K:aG w g 83 #[ok]) (h1:-1000000000<=a) (h2:a<=1000000000) (h3:-1000000000<=b) (h4:b<=1000000000) (h5:-1000000000<=c) (h6:c<=1000000000) (h7:-1000000000<=d) (h8:d<=1000000000) :
  Calls prog 45 #[.pointer (some ⟨g,0,none⟩),.agg #[a,b],.agg #[c,d]] w fun e w'=>e=.returned (.agg #[M.pick (ok && aJ (cO a b c d / 4096) (-(-cN a b c d / 4096))) (cO a b c d / 4096),M.pick (ok && aJ (cO a b c d / 4096) (-(-cN a b c d / 4096))) (-(-cN a b c d / 4096))])/\Below w (w.setCell ⟨g,0,none⟩ (.bool (ok && aJ (cO a b c d / 4096) (-(-cN a b c d / 4096))))) w':=by
 have PP:=fun W=>Gt a b c d W h1 h2 h3 h4 h5 h6 h7 h8
 have PK:=fun W (k:aG W g 83 #[ok])=>ta g ok (cO a b c d / 4096) (-(-cN a b c d / 4096)) W k
 generalize (-(-cN a b c d / 4096))=hi,(cO a b c d / 4096)=lo at *;generalize (ok && aJ lo hi)=f at *;replace PP:=KO PP;replace PK:=KO PK;have hgl:=K.lt;have B:=(((KS w w).alloc (KT _) (.cells #[a,b] 72)).alloc (by rw [KQ];omega) (.cells #[c,d] 72)).alloc (by rw [KQ,KQ];omega) (.cells #[(0:Int),(0:Int)] 72);have S:=((aG.new w #[a,b] 72).alloc (.cells #[c,d] 72)).alloc (.cells #[(0:Int),(0:Int)] 72);have T:=(aG.new (w.alloc (.cells #[a,b] 72)) #[c,d] 72).alloc (.cells #[(0:Int),(0:Int)] 72);rw [KQ] at T;have R:=aG.new ((w.alloc (.cells #[a,b] 72)).alloc (.cells #[c,d] 72)) #[(0:Int),(0:Int)] 72;rw [KQ,KQ] at R;have K2:=((K.alloc (.cells #[a,b] 72)).alloc (.cells #[c,d] 72)).alloc (.cells #[(0:Int),(0:Int)] 72);generalize hw3:((w.alloc (.cells #[a,b] 72)).alloc (.cells #[c,d] 72)).alloc (.cells #[(0:Int),(0:Int)] 72)=wc at *
 have n1:w.heap.size+1+1≠g:=ω
 have ⟨s0,s1,_,_,_⟩:=S.box;have ⟨t0,t1,_,_,_⟩:=T.box;go_enter func45,ntmps45
 go_wp2_with first | ((with_reducible refine (PP.out _).mono ?_);rintro e w4 ⟨rfl,hb4⟩;replace ⟨B,R,K2⟩:=Ky hb4 B R K2) | ((with_reducible refine (PK.out _ K2).mono ?_);rintro e w5 ⟨rfl,hb5⟩;have hz:=B.size;replace B:=(fR B ⟨g,0,none⟩ (.bool f)).trans (hb5.mono hz);replace R:=(R.other n1 (.bool f)).keep (bI hb5);(obtain ⟨r0,r1,r2,r3,r4⟩:=R.box))
 exact KU results45 ⟨rfl,Pf B⟩
theorem qb (g:Nat) (ok:Bool) (s t:M.Sp) (w:World) (K:aG w g 83 #[ok]) (hs:M.LR s) (ht:M.LR t) (h1:ok=true->s.isSome=true) (h2:ok=true->t.isSome=true) :
  Calls prog 45 #[.pointer (some ⟨g,0,none⟩),.agg #[M.Kd s,M.Kj s],.agg #[M.Kd t,M.Kj t]] w fun e w'=>e=.returned (.agg #[M.Kd (M.gd ok (cn s t)),M.Kj (M.gd ok (cn s t))])/\Below w (w.setCell ⟨g,0,none⟩ (.bool (M.gd ok (cn s t)).isSome)) w':=by
 obtain ⟨e1,e2,e3⟩:=M.step2 (F:=fun a b c d=>cO a b c d / 4096) (G:=fun a b c d=>-(-cN a b c d / 4096)) h1 h2;have b1:=kG hs;have b2:=kG ht;have h:=Aw g ok (M.Kd s) (M.Kj s) (M.Kd t) (M.Kj t) w K ω ω ω ω ω ω ω ω;rw [e2,e3,e1] at h;exact h
theorem pv {B g:Nat} {w W:World} {T:TypeId} {u v x y:Value} (h:Below B w W) (K:aG w g T #[u]) (K2:aG W g T #[v]):Below B (w.setCell ⟨g,0,none⟩ y) ((W.setCell ⟨g,0,none⟩ x).setCell ⟨g,0,none⟩ y):=
 ⟨h.os,h.tape,h.output,by rw [aO,aO,aO];exact h.size,fun k hk=>by
  by_cases hg:k=g
  ·subst hg
   exact ((K2.one x).one y).trans (K.one y).symm
  rw [Below.heap_setCell _ _ _ _ hg,Below.heap_setCell _ _ _ _ hg,Below.heap_setCell _ _ _ _ hg]
  exact h.block k hk⟩
theorem pO (g:Nat) (ok:Bool) (a b X Y E:Int) (w:World) (K:aG w g 83 #[ok]) (hg:M.good a b=true) (hX1:-10000<=X) (hX2:X<=10000) (hE1:0<=E) (hE2:E<=20) :
  Calls prog 114 #[.pointer (some ⟨g,0,none⟩),.agg #[a,b],.agg #[X,Y,E]] w fun e w'=>e=.returned (.agg #[M.Kd (M.gd ok (bU a b X E)),M.Kj (M.gd ok (bU a b X E))])/\Below w (w.setCell ⟨g,0,none⟩ (.bool (M.gd ok (bU a b X E)).isSome)) w':=by
 have PB:=fun W=>mG a b X Y E W hg hX1 hX2 hE1 hE2
 have hbo:=fun h=>yU (a:=a) (b:=b) (X:=X) (E:=E) (ae hg) hX1 hX2 hE1 hE2 h
 have hv:Hid (bU a b X E=if M.Lm a b X E=true then some (M.bL a b X E (M.bN a b X E),M.bH a b X E (M.bN a b X E)) else none):=KO rfl;rw [hv.out];generalize M.Lm a b X E=bo,M.bH a b X E (M.bN a b X E)=hi,M.bL a b X E (M.bN a b X E)=lo at *;generalize ((M.bN a b X E:Nat):Int)=bn at *
 have PK:=fun W (k:aG W g 83 #[.bool (ok && bo)])=>ta g (ok && bo) lo hi W k
 have e1:(ok && bo && aJ lo hi)=(M.gd ok (if bo=true then some (lo,hi) else none)).isSome:=by
  exact VE
 have e2:M.pick (ok && bo && aJ lo hi) lo=M.Kd (M.gd ok (if bo=true then some (lo,hi) else none)):=by
  exact VE
 have e3:M.pick (ok && bo && aJ lo hi) hi=M.Kj (M.gd ok (if bo=true then some (lo,hi) else none)):=by
  exact VE
 rw [e2,e3,e1] at PK;generalize M.gd ok (if bo=true then some (lo,hi) else none)=r at *;replace PB:=KO PB;have hgl:=K.lt;have B:=(((KS w w).alloc (KT _) (.cells #[a,b] 24)).alloc (by rw [KQ];omega) (.cells #[X,Y,E] 47)).alloc (by rw [KQ,KQ];omega) (.cells #[(0:Int),(0:Int)] 72);have C:=((aG.new w #[a,b] 24).alloc (.cells #[X,Y,E] 47)).alloc (.cells #[(0:Int),(0:Int)] 72);have Q:=(aG.new (w.alloc (.cells #[a,b] 24)) #[X,Y,E] 47).alloc (.cells #[(0:Int),(0:Int)] 72);rw [KQ] at Q;have R:=aG.new ((w.alloc (.cells #[a,b] 24)).alloc (.cells #[X,Y,E] 47)) #[(0:Int),(0:Int)] 72;rw [KQ,KQ] at R;have K2:=((K.alloc (.cells #[a,b] 24)).alloc (.cells #[X,Y,E] 47)).alloc (.cells #[(0:Int),(0:Int)] 72);generalize hw3:((w.alloc (.cells #[a,b] 24)).alloc (.cells #[X,Y,E] 47)).alloc (.cells #[(0:Int),(0:Int)] 72)=wc at *
 have n1:w.heap.size+1+1≠g:=ω
 have f_:=C.box.c0;have j_:=C.box.c1;have ⟨q0,q1,q2⟩:=Q.aM
 have hgm:g≠w.heap.size+1+1:=fun e=>n1 e.symm
 cases ok
 ·replace PK:=KO (show ∀ W,aG W g 83 #[(.bool false)]->_ from PK)
  go_enter func114,ntmps114
  go_wp2_with first | ((with_reducible refine (PB.out _).mono ?_);rintro e w4 ⟨rfl,hb4⟩;replace B:=(p_ B hb4).alloc (Nat.le_trans B.size hb4.size) (.cells #[lo,hi] 72);replace R:=(R.keep hb4).alloc (.cells #[lo,hi] 72);replace K2:=K2.keep hb4;(have n3:w4.heap.size≠g:=by have:=K2.lt;omega);(have n4:g≠w4.heap.size:=fun e=>n3 e.symm);replace K2:=K2.alloc (.cells #[lo,hi] 72);have k0:=K2.cell 0;have kf:=K2.Kx 0;have kl:=K2.lt;have V:=aG.new w4 #[lo,hi] 72;have v0:=V.cell 0;have v1:=V.cell 1;have V2:=V.other (i:=0) n3 (.bool false);have v2:=V2.cell 0;have v3:=V2.cell 1) | ((with_reducible refine (PK.out _ (K2.one (.bool false))).mono ?_);rintro e w5 ⟨rfl,hb5⟩;have hz:=B.size;replace R:=((R.other n1 (.bool false)).other n1 (.bool r.isSome)).keep (bI hb5);replace B:=(pv (x:=(.bool false)) (y:=.bool r.isSome) B K K2).trans (hb5.mono (by rw [aO];exact hz));(obtain ⟨r0,r1,r2,r3,r4⟩:=R.box))
  exact KU results114 ⟨rfl,Pf B⟩
 replace PK:=KO (show ∀ W,aG W g 83 #[(.bool bo)]->_ from PK);go_enter func114,ntmps114
 go_wp2_with first | ((with_reducible refine (PB.out _).mono ?_);rintro e w4 ⟨rfl,hb4⟩;replace B:=(p_ B hb4).alloc (Nat.le_trans B.size hb4.size) (.cells #[lo,hi] 72);replace R:=(R.keep hb4).alloc (.cells #[lo,hi] 72);replace K2:=K2.keep hb4;(have n3:w4.heap.size≠g:=by have:=K2.lt;omega);(have n4:g≠w4.heap.size:=fun e=>n3 e.symm);replace K2:=K2.alloc (.cells #[lo,hi] 72);have k0:=K2.cell 0;have kf:=K2.Kx 0;have kl:=K2.lt;have V:=aG.new w4 #[lo,hi] 72;have v0:=V.cell 0;have v1:=V.cell 1;have V2:=V.other (i:=0) n3 (.bool bo);have v2:=V2.cell 0;have v3:=V2.cell 1) | ((with_reducible refine (PK.out _ (K2.one (.bool bo))).mono ?_);rintro e w5 ⟨rfl,hb5⟩;have hz:=B.size;replace R:=((R.other n1 (.bool bo)).other n1 (.bool r.isSome)).keep (bI hb5);replace B:=(pv (x:=(.bool bo)) (y:=.bool r.isSome) B K K2).trans (hb5.mono (by rw [aO];exact hz));(obtain ⟨r0,r1,r2,r3,r4⟩:=R.box))
 exact KU results114 ⟨rfl,Pf B⟩
namespace M
noncomputable def gB (a b X E:Int):Sp:=fQ (bU a b X E) (bU a b X E)
noncomputable def ep (a b X1 Y1 E1 X2 Y2 E2:Int):Sp:=if dI a X1 Y1 E1 X2 Y2 E2=true then dX (dX (bU a b (eI a X1 Y1 E1 X2 Y2 E2) (eD a X1 Y1 E1 X2 Y2 E2)) (bU a b X1 E1)) (bU a b X2 E2) else none
theorem ke {f:Bool} {s:Sp} (h:(gd f s).isSome=true):f=true/\s.isSome=true/\gd f s=s:=by
 cases f
 ·cases h
 exact ⟨rfl,h,rfl⟩
theorem mQ (s:Sp):gd true s=s:=rfl
theorem Fg (s t:Sp):gd s.isSome (fQ s t)=fQ s t:=by cases s <;> rfl
end M
theorem rV (a b X Y E:Int) (w:World) (hg:M.good a b=true) (hX1:-10000<=X) (hX2:X<=10000) (hE1:0<=E) (hE2:E<=20) :
  cB 65 #[.agg #[a,b],.agg #[X,Y,E]] w (.tuple #[.agg #[M.Kd (gB a b X E),M.Kj (gB a b X E)],.bool (gB a b X E).isSome]):=by
 have PB:=fun W K=>pO (w.heap.size+1+1+1) true a b X Y E W K hg hX1 hX2 hE1 hE2
 have hr:=fg (a:=a) (b:=b) (ae hg) hX1 hX2 hE1 hE2;have hv:gB a b X E=M.gd (bU a b X E).isSome (fQ (bU a b X E) (bU a b X E)):=(Fg _ _).symm;rw [hv];clear hv;rw [mQ] at PB;generalize bU a b X E=r at *
 have PP:=fun W K=>tg (w.heap.size+1+1+1) r.isSome r r W K hr hr (fun h=>h) (fun h=>h)
 generalize r.isSome=f,M.gd r.isSome (fQ r r)=q at *;generalize M.Kj q=qh,M.Kd q=ql,q.isSome=fq at *;have PB:=KO PB;have PP:=KO PP;obtain ⟨wc,hw3,C,Q,R,K,B⟩:=fP w #[a,b] 24 #[X,Y,E] 47 #[(0:Int),(0:Int)] 72 #[true] 83;have f_:=C.box.c0;have j_:=C.box.c1;have ⟨q0,q1,q2⟩:=Q.aM;go_enter func65,ntmps65
 go_wp2_with first | ((with_reducible refine (PB.out _ K).mono ?_);rintro e w4 ⟨rfl,hb4⟩;have hb:=bI hb4;replace R:=(R.other (i:=0) ω (.bool f)).keep hb;replace K:=(K.one (.bool f)).keep hb;replace B:=(KR B (by simp;omega) _).trans (hb4.mono B.size);clear hb hb4 f_ j_ q0 q1 q2 C Q;have V:=aG.new w4 #[M.Kd r,M.Kj r] 72;have rl:=R.lt;have kl:=K.lt;(have n1:w.heap.size+1+1≠w4.heap.size:=by omega);(have n2:w.heap.size+1+1+1≠w4.heap.size:=by omega);have n3:=n1.symm;have n4:=n2.symm;replace B:=B.alloc B.size (.cells #[M.Kd r,M.Kj r] 72);replace R:=R.alloc (.cells #[M.Kd r,M.Kj r] 72);replace K:=K.alloc (.cells #[M.Kd r,M.Kj r] 72);have v0:=V.cell 0;have v1:=V.cell 1) | ((with_reducible refine (PP.out _ K).mono ?_);rintro e w5 ⟨rfl,hb5⟩;have hb:=bI hb5;replace R:=(R.other (i:=0) ω (.bool fq)).keep hb;replace V:=(V.other (i:=0) n4 (.bool fq)).keep hb;replace K:=(K.one (.bool fq)).keep hb;replace B:=(KR B (by simp;omega) _).trans (hb5.mono B.size);clear hb hb5 v0 v1;(have ⟨v0,v1,v2,v3,v4⟩:=V.box);have V5:=V.set2 (.int .i64 ql) (.int .i64 qh);have R5:=R.dE n1 (.int .i64 ql) (.int .i64 qh);have K5:=K.dE n2 (.int .i64 ql) (.int .i64 qh);have B5:=gT B (k:=w4.heap.size) ω (.int .i64 ql) (.int .i64 qh);(have ⟨z0,z1,_,_,_⟩:=V5.box);(have ⟨r0,r1,r2,r3,r4⟩:=R5.box);have k0:=K5.cell 0)
 go_region
 all_goals
  go_wp2;exact KU results65 ⟨rfl,Below.drew (Pf B5)⟩
namespace M
noncomputable def Kc (s:Sp):Int:=match s with | some p=>pn p.1 | none=>0
noncomputable def Kf (s:Sp):Int:=match s with | some p=>pd p.1 | none=>0
noncomputable def Kg (s:Sp):Int:=match s with | some p=>pn p.2 | none=>0
noncomputable def Kh (s:Sp):Int:=match s with | some p=>pd p.2 | none=>0
theorem nk (l h:Int):(mkS l h).isSome=aJ l h:=by
 unfold mkS
 cases aJ l h <;> rfl
theorem xf (l h:Int):pick (aJ l h) (pn l)=Kc (mkS l h):=by
 unfold mkS
 cases aJ l h <;> rfl
theorem xg (l h:Int):pick (aJ l h) (pd l)=Kf (mkS l h):=by
 unfold mkS
 cases aJ l h <;> rfl
theorem xh (l h:Int):pick (aJ l h) (pn h)=Kg (mkS l h):=by
 unfold mkS
 cases aJ l h <;> rfl
theorem xi (l h:Int):pick (aJ l h) (pd h)=Kh (mkS l h):=by
 unfold mkS
 cases aJ l h <;> rfl
end M
theorem ju (a b X Y E:Int) (w:World) (hg:M.good a b=true) (hX1:-10000<=X) (hX2:X<=10000) (hE1:0<=E) (hE2:E<=20) :
  cB 117 #[.agg #[a,b],.agg #[X,Y,E]] w (.tuple #[.agg #[M.Kc (bU a b X E),M.Kf (bU a b X E),M.Kg (bU a b X E),M.Kh (bU a b X E)],.bool (bU a b X E).isSome]):=by
 have h:=xQ a b X Y E w hg hX1 hX2 hE1 hE2;unfold bU
 cases hb:M.Lm a b X E
 ·rw [hb] at h;exact h
 rw [hb] at h;exact h
theorem qX (p q:Int × Int) (w:World) (hp:aJ p.1 p.2=true) (hq:aJ q.1 q.2=true) :
  cB 48 #[.agg #[M.Kc (some p),M.Kf (some p),M.Kg (some p),M.Kh (some p)],.agg #[M.Kc (some q),M.Kf (some q),M.Kg (some q),M.Kh (some q)]] w (.tuple #[.agg #[M.Kc (fQ (some p) (some q)),M.Kf (fQ (some p) (some q)),M.Kg (fQ (some p) (some q)),M.Kh (fQ (some p) (some q))],.bool (fQ (some p) (some q)).isSome]):=by
 have h:=Fm p.1 p.2 q.1 q.2 w hp hq;rw [xf,xg,xh,xi,←nk] at h;exact h
theorem vS (p q:Int × Int) (w:World) (hp:aJ p.1 p.2=true) (hq:aJ q.1 q.2=true) :
  cB 121 #[.agg #[M.Kc (some p),M.Kf (some p),M.Kg (some p),M.Kh (some p)],.agg #[M.Kc (some q),M.Kf (some q),M.Kg (some q),M.Kh (some q)]] w (.tuple #[.agg #[M.Kc (dX (some p) (some q)),M.Kf (dX (some p) (some q)),M.Kg (dX (some p) (some q)),M.Kh (dX (some p) (some q))],.bool (dX (some p) (some q)).isSome]):=by
 have h:=Fq p.1 p.2 q.1 q.2 w hp hq;rw [xf,xg,xh,xi,←nk] at h;exact h
theorem qZ (p q:Int × Int) (w:World) (hp:aJ p.1 p.2=true) (hq:aJ q.1 q.2=true) :
  cB 49 #[.agg #[M.Kc (some p),M.Kf (some p),M.Kg (some p),M.Kh (some p)],.agg #[M.Kc (some q),M.Kf (some q),M.Kg (some q),M.Kh (some q)]] w (.tuple #[.agg #[M.Kc (cn (some p) (some q)),M.Kf (cn (some p) (some q)),M.Kg (cn (some p) (some q)),M.Kh (cn (some p) (some q))],.bool (cn (some p) (some q)).isSome]):=by
 have h:=Fp p.1 p.2 q.1 q.2 w hp hq;rw [xf,xg,xh,xi,←nk] at h;exact h
theorem DX (a b X Y E:Int) (w:World) (hg:M.good a b=true) (hX1:-10000<=X) (hX2:X<=10000) (hE1:0<=E) (hE2:E<=20) :
  cB 72 #[.agg #[a,b],.agg #[X,Y,E]] w (.tuple #[.agg #[M.Kc (gB a b X E),M.Kf (gB a b X E),M.Kg (gB a b X E),M.Kh (gB a b X E)],.bool (gB a b X E).isSome]):=by
 have PH:=fun W=>ju a b X Y E W hg hX1 hX2 hE1 hE2
 have hr:=fg (a:=a) (b:=b) (ae hg) hX1 hX2 hE1 hE2;unfold gB;generalize bU a b X E=r at *;clear hg hX1 hX2 hE1 hE2
 cases r with
 | none=>
  have e1:=KO (show M.Kc none=0/\M.Kf none=0/\M.Kg none=0/\M.Kh none=0/\(none:M.Sp).isSome=false from ⟨rfl,rfl,rfl,rfl,rfl⟩);have e2:=KO (show fQ none none=none from rfl);rw [e2.out,e1.out.1,e1.out.2.1,e1.out.2.2.1,e1.out.2.2.2.1,e1.out.2.2.2.2];rw [e1.out.1,e1.out.2.1,e1.out.2.2.1,e1.out.2.2.2.1,e1.out.2.2.2.2] at PH;clear e1 e2;replace PH:=KO PH;obtain ⟨wc,hw3,C,Q,R,B⟩:=dF w #[a,b] 24 #[X,Y,E] 47 #[(0:Int),(0:Int),(0:Int),(0:Int)] 34;have f_:=C.box.c0;have j_:=C.box.c1;have ⟨q0,q1,q2⟩:=Q.aM;go_enter func72,ntmps72
  go_wp2_with (with_reducible refine G_ PH fun w4 hb4=>?_;replace R:=(R.keep hb4).alloc (.cells #[(0:Int),(0:Int),(0:Int),(0:Int)] 34);replace B:=(p_ B hb4).alloc (Nat.le_trans B.size hb4.size) (.cells #[(0:Int),(0:Int),(0:Int),(0:Int)] 34);have V:=aG.new w4 #[(0:Int),(0:Int),(0:Int),(0:Int)] 34;have n1:=R.lt;(have ⟨r0,r1,r2,r3,z0,z1,z2,z3,rl⟩:=R.aI);(have ⟨v0,v1,v2,v3,y0,y1,y2,y3,vl⟩:=V.aI))
  exact KU results72 ⟨rfl,Lv B⟩
 | some p=>
 have hp:=hr p rfl
 have PI:=fun W=>qX p p W hp hp
 have e1:=KO (show (some p:M.Sp).isSome=true from rfl);rw [e1.out] at PH;clear e1 hr hp;generalize fQ (some p) (some p)=q,M.Kh (some p)=i4,M.Kg (some p)=i3,M.Kf (some p)=i2,M.Kc (some p)=i1 at *;generalize q.isSome=f,M.Kh q=k4,M.Kg q=k3,M.Kf q=k2,M.Kc q=k1 at *;replace PH:=KO PH;replace PI:=KO PI;obtain ⟨wc,hw3,C,Q,R,B⟩:=dF w #[a,b] 24 #[X,Y,E] 47 #[(0:Int),(0:Int),(0:Int),(0:Int)] 34;have f_:=C.box.c0;have j_:=C.box.c1;have ⟨q0,q1,q2⟩:=Q.aM;go_enter func72,ntmps72
 go_wp2_with first | (with_reducible refine G_ PH fun w4 hb4=>?_;replace R:=(R.keep hb4).alloc (.cells #[i1,i2,i3,i4] 34);replace B:=(p_ B hb4).alloc (Nat.le_trans B.size hb4.size) (.cells #[i1,i2,i3,i4] 34);have V:=aG.new w4 #[i1,i2,i3,i4] 34;have n1:=R.lt;(have ⟨r0,r1,r2,r3,z0,z1,z2,z3,rl⟩:=R.aI);(have ⟨v0,v1,v2,v3,y0,y1,y2,y3,vl⟩:=V.aI)) | (with_reducible refine G_ PI fun w5 hb5=>?_;replace ⟨R,B⟩:=Kt hb5 R B;(have ⟨r0,r1,r2,r3,z0,z1,z2,z3,rl⟩:=R.aI))
 exact KU results72 ⟨rfl,Lv B⟩
end
section
open Go Go.RowKit open M Rg
namespace Rg
variable {P:Program} {Q:Exit->Act->World->Prop}
def upd (l:Nat->Bool) (i:Nat):Nat->Bool:=fun j=>if j=i then true else l j
def dH (v:Nat->Value) (i:Nat) (u:Value):Nat->Value:=fun j=>if j=i then u else v j
def pc (md:Region.Mode) (ops:Array Oper) (l:Nat->Bool):Prop:=∀ i o,ops[i]?=some o->l i=true->∀ e ∈ o.after,Region.binds md e=true->l e.on=true
section
variable (P) (Q) (md:Region.Mode) (ops:Array Oper) (I:(Nat->Bool)->(Nat->Value)->World->Prop) (a0:Act)
def po (i:Nat) (o:Oper) (a:Act) (w:World) (l:Nat->Bool) (vals:Nat->Value):Prop:=
 if Region.wanted o (yielded ops a.tmps)=true then o.wp P a w (fun a' w'=>∃ v,a'=a.put o.dst v/\I (upd l i) (dH vals i v) w') Q else I (upd l i) (dH vals i undef) w
def JW (i:Nat) (o:Oper):Prop:=∀ (a:Act) (w:World) (l:Nat->Bool) (vals:Nat->Value),I l vals w->l i=false->pc md ops l->(∀ e ∈ o.after,Region.binds md e=true->l e.on=true)->(∀ t ∈ o.looksAt ops,a.tmps[t]?=rd md ops a0 vals o t)->po P Q ops I i o a w l vals
def jg:List Oper->Nat->Prop
 | [],_=>True
 | o :: os,k=>JW P Q md ops I a0 k o/\jg os (k+1)
theorem jg.at {os:List Oper} {k:Nat} (h:jg P Q md ops I a0 os k):∀ {i:Nat} {o:Oper},os[i]?=some o->JW P Q md ops I a0 (k+i) o:=by
 induction os generalizing k with
 | nil=>intro i o hi;simp at hi
 | cons x os ih=>
 intro i o hi
 cases i with
 | zero=>
  exact U5
 | succ i=>
 have:=ih h.2 (i:=i) (o:=o) (by simpa using hi);rw [show k+(i+1)=k+1+i from ω];exact this
def JR (L:Array Bool) (a:Act) (w:World):Prop:=
 L.size=ops.size/\pc md ops (fun j=>L.getD j false)/\
 ∃ vals:Nat->Value,I (fun j=>L.getD j false) vals w/\a=fill (fun j=>L.getD j false) vals ops.toList 0 a0
end
theorem Gy {md:Region.Mode} {ops:Array Oper} {I:(Nat->Bool)->(Nat->Value)->World->Prop} {a0:Act} (hok:eo md ops a0.tmps.size=true)
  (hR:jg P Q md ops I a0 ops.toList 0) (hF:∀ (l:Nat->Bool) (vals:Nat->Value) (w:World),(∀ i,i<ops.size->l i=true)->I l vals w->Q .normal (fill (fun _=>true) vals ops.toList 0 a0) w) :
  ∀ (fuel:Nat) (L:Array Bool) (a:Act) (w:World),left (fun j=>L.getD j false) ops.size<=fuel->JR md ops I a0 L a w->wpAny P md ops Q fuel L a w:=by
 rw [eo,Bool.and_eq_true,Bool.and_eq_true] at hok;obtain ⟨⟨hap,hrd⟩,hac⟩:=hok
 have Ly:∀ i o,ops[i]?=some o->(∀ e ∈ o.after,Region.binds md e=true->e.on<i)/\∀ d,o.dst=some d->d<a0.tmps.size:=fun i o hi=>by
  exact Rv
 have htl:∀ i,ops.toList[i]?=ops[i]?:=fun i=>Array.getElem?_toList
 have hall:∀ L:Array Bool,L.size=ops.size->Region.ready md ops L=[]->∀ i,i<ops.size->L.getD i false=true:=by
  exact Ue
 have hfin:∀ (L:Array Bool) (a:Act) (w:World),JR md ops I a0 L a w->Region.ready md ops L=[]->Q .normal a w:=by
  rintro L a w ⟨hL,-,vals,hS,rfl⟩ hr;have h:=hall L hL hr;rw [bc (l':=fun _=>true) (v':=vals) ops.toList 0 a0 (fun j _ hj=>h j (by simpa using hj)) (fun _ _ _=>rfl)];exact hF _ vals w h hS
 intro fuel
 induction fuel with
 | zero=>
  exact YQ
 | succ fuel ih=>
 intro L a w hl hI;refine ⟨hfin L a w hI,fun i hi=>?_⟩;obtain ⟨hL,hdc,vals,hS,rfl⟩:=hI;obtain ⟨hun,o,ho,O5⟩:=mem_ready.1 hi;have hilt:i<ops.size:=(Array.getElem?_eq_some_iff.1 ho).1
 have hun':L.getD i false=false:=by
  exact R_
 have hq:=jg.at P Q md ops I a0 hR (i:=i) (o:=o) (by rw [htl];exact ho);rw [Nat.zero_add] at hq
 have hst:=hq (fill (fun j=>L.getD j false) vals ops.toList 0 a0) w (fun j=>L.getD j false) vals hS hun' hdc
  (fun e he hb=>O5 e he hb)
  (fun t ht=>by
   unfold rd
   have hr1:jJ md ops i o t=true:=by
    have:=List.all_eq_true.1 hrd i (List.mem_range.2 hilt);rw [ho] at this;exact List.all_eq_true.1 this t ht
   cases hf:o.after.toList.find? (fun e=>Region.binds md e && ((ops[e.on]?).bind (·.dst)) == some t) with
   | some e=>
    have h1:=List.find?_some hf;have h2:=List.mem_of_find?_eq_some hf;rw [Bool.and_eq_true,beq_iff_eq] at h1;obtain ⟨x,hx,hxd⟩:=Option.bind_eq_some_iff.1 h1.2;have h3:=O5 e (Array.mem_toList_iff.1 h2) h1.1;have:=pI (l:=fun j=>L.getD j false) (v:=vals) ops.toList 0 e.on x a0 hap (by rw [htl];exact hx) (by simpa using h3) hxd ((Ly e.on x hx).2 t hxd);rw [Nat.zero_add] at this;exact this
   | none=>
   refine gh ops.toList 0 a0 fun j x hx hlj hxd=>?_
   rw [Nat.zero_add] at hlj;rw [htl] at hx;have hjlt:j<ops.size:=(Array.getElem?_eq_some_iff.1 hx).1;rw [jJ,Bool.or_eq_true] at hr1
   rcases hr1 with q | q
   ·obtain ⟨e,he,hp⟩:=List.any_eq_true.1 q
    have:=List.find?_eq_none.1 hf e he;exact this hp
   have:=List.all_eq_true.1 q j (List.mem_range.2 hjlt);rw [hx] at this;simp only [Bool.or_eq_true,bne_iff_ne,ne_eq,beq_iff_eq,List.any_eq_true,Bool.and_eq_true] at this
   rcases this with (q1 | q1) | ⟨e,he,hb,hon⟩
   ·exact q1 hxd
   ·subst q1
    rw [hun'] at hlj;cases hlj
   have:L.getD e.on false=true:=hdc j x hx hlj e (Array.mem_toList_iff.1 he) hb;rw [hon,hun'] at this
   cases this)
 have hnext:∀ (v:Value) (w':World),I (upd (fun j=>L.getD j false) i) (dH vals i v) w'->wpAny P md ops Q fuel (L.setIfInBounds i true) ((fill (fun j=>L.getD j false) vals ops.toList 0 a0).put o.dst v) w':=by
  intro v w' h2
  have e1:∀ j,(L.setIfInBounds i true).getD j false=if j=i then true else L.getD j false:=fun j=>by
   exact Rx
  have e2:(fun j=>(L.setIfInBounds i true).getD j false)=upd (fun j=>L.getD j false) i:=funext e1;refine ih _ _ _ ?_ ⟨by simpa using hL,?_,dH vals i v,by rw [e2];exact h2,?_⟩
  ·exact Uo
  ·intro j x hx hlj e he hb
   show (L.setIfInBounds i true).getD e.on false=true
   replace hlj:(L.setIfInBounds i true).getD j false=true:=hlj;exact Uv
  rw [mO ops.toList 0 i o a0 hap (by rw [htl];exact ho) (by simpa using hun')];rw [Nat.zero_add];exact bc _ _ _ (fun j _ _=>(e1 j).symm) (fun _ _ _=>rfl)
 unfold wpOp;rw [ho];unfold po at hst
 dsimp only
 split at hst
 ·rename_i hw
  rw [if_pos hw];refine Or.inl (Oper.wp_mono ?_ hst);rintro a' w' ⟨v,rfl,h2⟩;exact hnext v w' h2
 rename_i hw
 rw [if_neg hw];exact hnext undef w hst
theorem mf {id:Nat} {ops:Array Oper} {a0:Act} {w:World} (I:(Nat->Bool)->(Nat->Value)->World->Prop) (hm:P.follows .mixedOrders=true) (hok:eo .any ops a0.tmps.size=true)
  (hS:∀ vals,I (fun _=>false) vals { w with drawn:=w.drawn+1 }) (hR:jg P Q .any ops I a0 ops.toList 0)
  (hF:∀ (l:Nat->Bool) (vals:Nat->Value) (w:World),(∀ i,i<ops.size->l i=true)->I l vals w->Q .normal (fill (fun _=>true) vals ops.toList 0 a0) w):(Code.region id ops true).wp P Q a0 w:=by
 have rep:∀ j,(Array.replicate ops.size false).getD j false=false:=fun j=>by
  exact SC
 refine wp_region_any hm (Gy hok hR hF _ _ _ _ ?_ ⟨σ,?_,fun _=>undef,?_,?_⟩)
 ·exact Ut
 ·intro i o hi hl
  replace hl:(Array.replicate ops.size false).getD i false=true:=hl;rw [rep] at hl;cases hl
 ·rw [show (fun j=>(Array.replicate ops.size false).getD j false)=fun _=>false from funext rep]
  exact hS _
 have:∀ (v:Nat->Value) (os:List Oper) (k:Nat) (a:Act),fill (fun _=>false) v os k a=a:=fun v os=>by
  induction os with
  | nil=>intro k a;rfl
  | cons x os ih=>intro k a;unfold fill;simp [ih]
 exact (this _ ops.toList 0 a0).symm.trans (bc _ _ _ (fun j _ hj=>(rep j).symm) (fun _ _ _=>rfl))
end Rg
namespace Rg
variable {P:Program} {Q:Exit->Act->World->Prop}
def cnt (l:Nat->Bool):List Nat->Nat
 | []=>0
 | c :: cs=>if l c=true then cnt l cs+1 else 0
def iM (ops:Array Oper) (c d:Nat):Bool:=match ops[d]? with
 | some o=>o.after.toList.any (fun e=>Region.binds .any e && e.on == c)
 | none=>false
def fC (ops:Array Oper):List Nat->Bool
 | c :: d :: cs=>iM ops c d && decide (c<d) && fC ops (d :: cs)
 | _=>true
theorem dN {ops:Array Oper} {l:Nat->Bool} {c d:Nat} (hc:pc .any ops l) (he:iM ops c d=true) (hd:l d=true):l c=true:=by
 unfold iM at he
 split at he
 ·rename_i o ho
  obtain ⟨e,h1,h2⟩:=List.any_eq_true.1 he;rw [Bool.and_eq_true,beq_iff_eq] at h2;have:=hc d o ho hd e (Array.mem_toList_iff.1 h1) h2.1;rw [h2.2] at this;exact this
 cases he
theorem ge {ops:Array Oper} {l:Nat->Bool} {c d:Nat} {o:Oper} (ho:ops[d]?=some o) (Lf:∀ e ∈ o.after,Region.binds .any e=true->l e.on=true) (he:iM ops c d=true):l c=true:=by
 unfold iM at he;rw [ho] at he;obtain ⟨e,h1,h2⟩:=List.any_eq_true.1 he;rw [Bool.and_eq_true,beq_iff_eq] at h2;have:=Lf e (Array.mem_toList_iff.1 h1) h2.1;rw [h2.2] at this;exact this
theorem iq {l:Nat->Bool} {k:Nat}:∀ C:List Nat,k ∉ C->cnt (upd l k) C=cnt l C
 | [],_=>rfl
 | c :: cs,h=>by
  have h1:c≠k:=fun e=>h (by rw [e];exact List.mem_cons_self ..)
  have e:upd l k c=l c:=if_neg h1;unfold cnt;rw [e,iq cs (fun hk=>h (List.mem_cons_of_mem _ hk))]
theorem mI {ops:Array Oper} {l:Nat->Bool} {k:Nat} (hc:pc .any ops l) (hk:l k=false) (Lf:∀ c,iM ops c k=true->l c=true):∀ C:List Nat,fC ops C=true->k ∈ C->cnt l C=C.idxOf k/\cnt (upd l k) C=C.idxOf k+1
 | [],_,h=>by cases h
 | [c],_,h=>by
  rcases List.mem_cons.1 h with rfl | h
  ·have e:upd l k k=true:=if_pos rfl
   unfold cnt cnt;rw [hk,e];simp
  cases h
 | c :: d :: cs,ho,h=>by
  unfold fC at ho;rw [Bool.and_eq_true,Bool.and_eq_true,decide_eq_true_eq] at ho;obtain ⟨⟨he,hlt⟩,ho⟩:=ho
  by_cases hkc:k=c
  ·subst hkc
   have e:upd l k k=true:=if_pos rfl
   have hd:l d=false:=by
    cases hd:l d
    ·rfl
    rw [dN hc he hd] at hk;cases hk
   have e2:upd l k d=false:=(if_neg ω).trans hd
   have i0:(k :: d :: cs).idxOf k=0:=σ
   rw [i0];unfold cnt;rw [hk,e];unfold cnt;rw [e2];simp
  have hm:k ∈ d :: cs:=(List.mem_cons.1 h).resolve_left hkc;obtain ⟨h1,h2⟩:=mI hc hk Lf (d :: cs) ho hm
  have hlc:l c=true:=by
   by_cases hkd:k=d
   ·subst hkd;exact Lf c he
   have:l d=true:=by
    cases hd:l d
    ·exfalso
     have z:cnt l (d :: cs)=0:=by unfold cnt;rw [hd];rfl
     have:(d :: cs).idxOf k≠0:=by
      rw [List.idxOf_cons]
      have:(d == k)=false:=by rw [beq_eq_false_iff_ne];exact fun e=>hkd e.symm
      rw [this];simp
     omega
    rfl
   exact dN hc he this
  have e:upd l k c=l c:=if_neg (fun e=>hkc e.symm)
  have i0:(c :: d :: cs).idxOf k=(d :: cs).idxOf k+1:=by
   rw [List.idxOf_cons]
   have:(c == k)=false:=by rw [beq_eq_false_iff_ne];exact fun e=>hkc e.symm
   rw [this];rfl
  rw [i0];unfold cnt;rw [e,hlc,if_pos rfl,if_pos rfl,h1,h2];exact ⟨rfl,rfl⟩
end Rg
end
section
open Go Go.RowKit open Gr M Rg Rw Wh
theorem YP {p:Prop} (h:p:=by
 have:=hr t ht;unfold rd at this;unfold yO
 split
 ·rename_i e he
  rw [he] at this;have h2:=List.find?_some he;rw [Bool.and_eq_true] at h2
  split
  ·rename_i q
   replace this:a.tmps[t]?=some (vals e.on):=this;rw [q,Nw] at this;exact this
  split
  ·trivial
  rename_i n1 n2
  exact ⟨_,this,hv _ n1 n2 (Lf e (Array.mem_toList_iff.1 (List.mem_of_find?_eq_some he)) h2.1)⟩
 rename_i he
 rw [he] at this
 exact this):p:=h
theorem YR {p:Prop} (h:p:=by
 split
 ·trivial
 rename_i n1 n2
 exact ⟨_,this,hv _ n1 n2 (Lf e (Array.mem_toList_iff.1 (List.mem_of_find?_eq_some he)) h2.1)⟩):p:=h
theorem Up {p:Prop} (h:p:=by
 induction C with
 | nil=>intro _;rfl
 | cons c cs ih=>
 intro h;unfold cnt;rw [if_pos (h c (List.mem_cons_self ..)),ih (fun x hx=>h x (List.mem_cons_of_mem _ hx))];rfl):p:=h
theorem Pj {p:Prop} (h:p:=by rw [this];exact Val.fT (hp i n1 n2) (hv i n1 n2 hi)):p:=h
namespace Rg
variable {P:Program} {Q:Exit->Act->World->Prop}
theorem ig {g:Nat} {w1 w w':World} {Tb:TypeId} {x u v y:Value} (h:Below w1 (w1.setCell ⟨g,0,none⟩ x) w) (K1:aG w1 g Tb #[u]) (K:aG w g Tb #[v]) (hb:Below w (w.setCell ⟨g,0,none⟩ y) w'):Below w1 (w1.setCell ⟨g,0,none⟩ y) w':=by
 have hs:w1.heap.size<=w.heap.size:=by have:=h.size;rw [aO] at this;exact this
 refine ⟨hb.os.trans h.os,hb.tape.trans h.tape,hb.output.trans h.output,?_,fun k hk=>?_⟩
 ·rw [aO]
  have:=hb.size;rw [aO] at this;omega
 rw [hb.block k ω]
 by_cases hg:k=g
 ·subst hg
  exact (K.one y).trans (K1.one y).symm
 rw [Below.heap_setCell _ _ _ _ hg,h.block k hk,Below.heap_setCell _ _ _ _ hg,Below.heap_setCell _ _ _ _ hg]
theorem gU {g:Nat} {w w':World} {Tb:TypeId} {v:Value} (K:aG w g Tb #[v]) (hb:Below w w w'):Below w (w.setCell ⟨g,0,none⟩ v) w':=by
 refine ⟨hb.os,hb.tape,hb.output,by rw [aO];exact hb.size,fun k hk=>?_⟩;rw [hb.block k hk]
 by_cases hg:k=g
 ·subst hg;exact K.trans (K.one v).symm
 rw [Below.heap_setCell _ _ _ _ hg]
section
variable (P) (Q) (ops:Array Oper) (a0:Act) (T:List Val) (w1:World) (g:Nat) (Tb:TypeId) (F:Nat->Value) (C:List Nat) (ka ks:Nat) (Tn:TypeId) (xs ys:Array Value)
def Held (w:World):Prop:=w1.heap.size<=w.heap.size/\∀ (b:Nat) (U:TypeId) (zs:Array Value),b≠g->aG w1 b U zs->aG w b U zs
def yO (h:Nat) (o:Oper) (a:Act) (w:World) (t:Nat):Prop:=
 match o.after.toList.find? (fun e=>Region.binds .any e && ((ops[e.on]?).bind (·.dst)) == some t) with
 | some e=>if e.on=ka then a.tmps[t]?=some (.pointer (some ⟨h,0,none⟩)) else if e.on=ks then True else ∃ v,a.tmps[t]?=some v/\(LS T e.on).ok v w
 | none=>a.tmps[t]?=a0.tmps[t]?
def ph (o:Oper) (a:Act) (w:World) (t:Nat):Prop:=
 match o.after.toList.find? (fun e=>Region.binds .any e && ((ops[e.on]?).bind (·.dst)) == some t) with
 | some e=>if e.on=ka then True else if e.on=ks then True else ∃ v,a.tmps[t]?=some v/\(LS T e.on).ok v w
 | none=>a.tmps[t]?=a0.tmps[t]?
def bp (k:Nat) (o:Oper):Prop:=
 if k=ka then ∀ (a:Act) (w:World),Region.wanted o (yielded ops a.tmps)=true/\o.wp P a w (fun a' w'=>a'=a.put o.dst (.pointer (some ⟨w,0,none⟩))/\w'=w.alloc (.cells xs Tn)) Q
 else if k=ks then ∀ (a:Act) (w:World) (h:Nat),w1.heap.size<=h->aG w h Tn xs->(∀ t ∈ o.looksAt ops,yO ops a0 T ka ks h o a w t)->Region.wanted o (yielded ops a.tmps)=true/\o.wp P a w (fun a' w'=>(∃ v,a'=a.put o.dst v)/\aG w' h Tn ys/\Below w1 w w') Q
 else if k ∈ C then ∀ (a:Act) (w:World),aG w g Tb #[F (C.idxOf k)]->Held w1 g w->(∀ t ∈ o.looksAt ops,ph ops a0 T ka ks o a w t)->Region.wanted o (yielded ops a.tmps)=true/\o.wp P a w (fun a' w'=>∃ v,a'=a.put o.dst v/\(LS T k).ok v w'/\Below w (w.setCell ⟨g,0,none⟩ (F (C.idxOf k+1))) w') Q
 else ∀ (a:Act) (w:World),Held w1 g w->(∀ t ∈ o.looksAt ops,ph ops a0 T ka ks o a w t)->Does P ops Q (LS T k) o a w
def CE:List Oper->Nat->Prop
 | [],_=>True
 | o :: os,k=>bp P Q ops a0 T w1 g Tb F C ka ks Tn xs ys k o/\CE os (k+1)
def Hz (l:Nat->Bool) (vals:Nat->Value) (w:World):Prop:=
 Below w1 (w1.setCell ⟨g,0,none⟩ (F (cnt l C))) w/\(∀ i,i≠ka->i≠ks->l i=true->(LS T i).ok (vals i) w)/\(l ka=true->∃ h,w1.heap.size<=h/\vals ka=.pointer (some ⟨h,0,none⟩)/\aG w h Tn (if l ks=true then ys else xs))
end
theorem ES {ops:Array Oper} {a0:Act} {T:List Val} {w1:World} {g:Nat} {Tb:TypeId} {F:Nat->Value} {C:List Nat} {ka ks:Nat} {Tn:TypeId} {xs ys:Array Value}
  (K1:aG w1 g Tb #[F 0]) (hp:∀ j,j≠ka->j≠ks->(LS T j).pure=true) (hC:fC ops C=true) (hka:ka ∉ C) (hks:ks ∉ C) (hne:ka≠ks) (hE:iM ops ka ks=true) :
  ∀ (os:List Oper) (k:Nat),(∀ i,os[i]?=ops[k+i]?)->CE P Q ops a0 T w1 g Tb F C ka ks Tn xs ys os k->jg P Q .any ops (Hz T w1 g F C ka ks Tn xs ys) a0 os k
 | [],_,_,_=>trivial
 | o :: os,k,hos,h=>by
  refine ⟨fun a w l vals hI hl hc Lf hr=>?_,ES K1 hp hC hka hks hne hE os (k+1) (fun i=>by rw [show k+1+i=k+(i+1) by omega,←hos (i+1)];rfl) h.2⟩;obtain ⟨hB,hv,hn⟩:=hI;have ho:ops[k]?=some o:=(hos 0).symm;have hgl:g<w1.heap.size:=K1.lt
  have hsz:w1.heap.size<=w.heap.size:=by have:=hB.size;rw [aO] at this;exact this
  have K:aG w g Tb #[F (cnt l C)]:=(K1.one (F (cnt l C))).keep (bI hB)
  have hH:Held w1 g w:=⟨hsz,fun b U zs hb hz=>(hz.other hb _).keep (bI hB)⟩
  have hQ:∀ t ∈ o.looksAt ops,ph ops a0 T ka ks o a w t:=fun t ht=>by
   have:=hr t ht;unfold rd at this;unfold ph
   split
   ·rename_i e he
    rw [he] at this;have h2:=List.find?_some he;rw [Bool.and_eq_true] at h2
    split
    ·trivial
    exact YR
   rename_i he
   rw [he] at this;exact this
  have hko:∀ j,j≠k->upd l k j=l j:=fun j hj=>if_neg hj
  have hkk:upd l k k=true:=if_pos rfl;have h1:=h.1;unfold bp at h1;unfold po
  by_cases e1:k=ka
  ·rw [if_pos e1] at h1
   obtain ⟨hw,hwp⟩:=h1 a w;rw [if_pos hw];refine Oper.wp_mono ?_ hwp;rintro a' w' ⟨rfl,rfl⟩;subst e1
   have hls:l ks=false:=by
    cases q:l ks
    ·rfl
    rw [dN hc hE q] at hl;cases hl
   refine ⟨_,rfl,?_,?_,fun _=>⟨w,hsz,if_pos rfl,?_⟩⟩
   ·rw [iq C hka]
    exact hB.alloc hsz _
   ·intro i n1 n2 hi
    rw [hko i n1] at hi;have:dH vals k (.pointer (some ⟨w,0,none⟩)) i=vals i:=if_neg n1;exact Pj
   rw [hko ks (fun e=>hne e.symm),hls];exact aG.new w xs Tn
  rw [if_neg e1] at h1
  by_cases e2:k=ks
  ·rw [if_pos e2] at h1
   subst e2;obtain ⟨hh,Nv,Nw,hh3⟩:=hn (ge ho Lf hE);rw [hl] at hh3
   obtain ⟨hw,hwp⟩:=h1 a w hh Nv hh3 (fun t ht=>by
    exact YP)
   rw [if_pos hw];refine Oper.wp_mono ?_ hwp;rintro a' w' ⟨⟨v,e⟩,h2,h3⟩;refine ⟨v,e,?_,?_,fun _=>⟨hh,Nv,?_,?_⟩⟩
   ·rw [iq C hks]
    exact hB.trans h3
   ·intro i n1 n2 hi
    rw [hko i n2] at hi;have:dH vals k v i=vals i:=if_neg n2;exact Pj
   ·have:dH vals k v ka=vals ka:=if_neg hne
    rw [this];exact Nw
   rw [hkk];exact h2
  rw [if_neg e2] at h1
  have rest:∀ (v:Value) (w':World) (y:Value),y=F (cnt (upd l k) C)->(LS T k).ok v w'->Below w (w.setCell ⟨g,0,none⟩ y) w'->Hz T w1 g F C ka ks Tn xs ys (upd l k) (dH vals k v) w':=by
   intro v w' y hy h2 h3;subst hy;refine ⟨ig hB K1 K h3,?_,?_⟩
   ·intro i n1 n2 hi
    by_cases hik:i=k
    ·subst hik
     have:dH vals i v i=v:=if_pos rfl;rw [this];exact h2
    rw [hko i hik] at hi;have:dH vals k v i=vals i:=if_neg hik;exact Pj
   intro hi;rw [hko ka (fun e=>e1 e.symm)] at hi;obtain ⟨hh,Nv,Nw,hh3⟩:=hn hi;refine ⟨hh,Nv,?_,?_⟩
   ·have:dH vals k v ka=vals ka:=if_neg (fun e=>e1 e.symm)
    rw [this];exact Nw
   rw [hko ks (fun e=>e2 e.symm)];exact (hh3.other ω _).keep (bI h3)
  by_cases e3:k ∈ C
  ·rw [if_pos e3] at h1
   obtain ⟨q1,q2⟩:=mI hc hl (fun c hcd=>ge ho Lf hcd) C hC e3;rw [q1] at K;obtain ⟨hw,hwp⟩:=h1 a w K hH hQ;rw [if_pos hw];refine Oper.wp_mono ?_ hwp;rintro a' w' ⟨v,e,h2,h3⟩;exact ⟨v,e,rest v w' _ (by rw [q2]) h2 h3⟩
  rw [if_neg e3] at h1;have hd:=h1 a w hH hQ;unfold Does at hd
  split
  ·rename_i hw
   rw [if_pos hw] at hd;refine Oper.wp_mono ?_ hd;rintro a' w' ⟨v,e,h2,h3⟩;exact ⟨v,e,rest v w' _ (by rw [iq C e3]) h2 (gU K h3)⟩
  rename_i hw
  rw [if_neg hw] at hd;exact rest undef w _ (by rw [iq C e3]) hd (gU K (KS _ _))
theorem Ho {id:Nat} {ops:Array Oper} {a0:Act} {w:World} (g:Nat) (Tb:TypeId) (F:Nat->Value) (C:List Nat) (ka ks:Nat) (Tn:TypeId) (xs ys:Array Value) (T:List Val)
  (hm:P.follows .mixedOrders=true) (hok:eo .any ops a0.tmps.size=true) (hC:(fC ops C && iM ops ka ks && decide (ka<ops.size) && decide (ks<ops.size))=true)
  (hp:∀ j,j≠ka->j≠ks->(LS T j).pure=true) (hka:ka ∉ C) (hks:ks ∉ C) (hne:ka≠ks) (hcl:∀ c ∈ C,c<ops.size) (K1:aG w g Tb #[F 0])
  (hR:CE P Q ops a0 T w g Tb F C ka ks Tn xs ys ops.toList 0)
  (hF:∀ (vals:Nat->Value) (w':World) (h:Nat),w.heap.size<=h->aG w' h Tn ys->vals ka=.pointer (some ⟨h,0,none⟩)->Below w (w.setCell ⟨g,0,none⟩ (F C.length)) w'->(∀ i,i<ops.size->i≠ka->i≠ks->(LS T i).ok (vals i) w')->Q .normal (fill (fun _=>true) vals ops.toList 0 a0) w'):(Code.region id ops true).wp P Q a0 w:=by
 rw [Bool.and_eq_true,Bool.and_eq_true,Bool.and_eq_true,decide_eq_true_eq,decide_eq_true_eq] at hC;obtain ⟨⟨⟨hC,hE⟩,ha⟩,hs⟩:=hC
 have c0:∀ C:List Nat,cnt (fun _=>false) C=0:=fun C=>by cases C <;> rfl
 have cl:∀ (l:Nat->Bool) (C:List Nat),(∀ c ∈ C,l c=true)->cnt l C=C.length:=fun l C=>by
  exact Up
 refine mf (Hz T w g F C ka ks Tn xs ys) hm hok (fun vals=>⟨?_,(fun _ _ _ h=>absurd h σ),(fun h=>absurd h σ)⟩) (ES K1 hp hC hka hks hne hE ops.toList 0 (fun i=>by rw [Nat.zero_add];exact Array.getElem?_toList) hR) ?_
 ·rw [c0]
  exact gU K1 ((KS _ w).drew)
 intro l vals w' hl hI;obtain ⟨h1,h2,h3⟩:=hI;obtain ⟨h,q1,q2,q3⟩:=h3 (hl ka ha);rw [hl ks hs,if_pos rfl] at q3;rw [cl l C (fun c hc=>hl c (hcl c hc))] at h1;exact hF vals w' h q1 q3 q2 h1 (fun i hi n1 n2=>h2 i n1 n2 (hl i hi))
theorem Jb {ops:Array Oper} {o:Oper} {a:Act} {w:World} {V:Val} {f:FuncId} {args:Array Value} {g:Nat} {y:Value} (hw:Region.wanted o (yielded ops a.tmps)=true) (h:(execOp a.eval o).run P w=.ok (.enter f args) w)
  (hc:Calls P f args w fun e w'=>∃ v,e=.returned v/\V.ok v w'/\Below w (w.setCell ⟨g,0,none⟩ y) w'):Region.wanted o (yielded ops a.tmps)=true/\o.wp P a w (fun a' w'=>∃ v,a'=a.put o.dst v/\V.ok v w'/\Below w (w.setCell ⟨g,0,none⟩ y) w') Q:=by
 refine ⟨hw,?_⟩;exact was8
theorem io {ops:Array Oper} {o:Oper} {a:Act} {w:World} {v:Value} {f:FuncId} {args:Array Value} {g:Nat} {y:Value} (hw:Region.wanted o (yielded ops a.tmps)=true) (h:(execOp a.eval o).run P w=.ok (.enter f args) w)
  (hc:Calls P f args w fun e w'=>e=.returned v/\Below w (w.setCell ⟨g,0,none⟩ y) w'):Region.wanted o (yielded ops a.tmps)=true/\o.wp P a w (fun a' w'=>∃ u,a'=a.put o.dst u/\(Val.is v).ok u w'/\Below w (w.setCell ⟨g,0,none⟩ y) w') Q:=
 Jb hw h (hc.mono fun _ _ ⟨e,b⟩=>⟨v,e,rfl,b⟩)
theorem nJ {ops:Array Oper} {o:Oper} {a:Act} {w:World} {ob:Obj} (hw:Region.wanted o (yielded ops a.tmps)=true) (h:(execOp a.eval o).run P w=.ok (.value (.pointer (some ⟨w,0,none⟩))) (w.alloc ob)):Region.wanted o (yielded ops a.tmps)=true/\o.wp P a w (fun a' w'=>a'=a.put o.dst (.pointer (some ⟨w,0,none⟩))/\w'=w.alloc ob) Q:=by
 refine ⟨hw,?_⟩;unfold Oper.wp;rw [h];exact ⟨rfl,rfl⟩
end Rg
end
section
open Go.RowKit open Gr M Rg Rw Wh
theorem Qd {p:Prop} (h:p:=by
 unfold bp
 rw [if_neg δ,if_neg δ,if_neg δ];intro zZ w_ hH hr;have e10:zZ.tmps[10]?=some (.pointer (some ⟨w4.heap.size+1,0,none⟩)):=hr 10 δ;exact aS rfl γ):p:=h
theorem Uj {p:Prop} (h:p:=by
 unfold bp
 rw [if_neg δ,if_neg δ,if_neg δ];intro zZ w_ hH hr;have e3:zZ.tmps[3]?=some (.pointer (some ⟨w,0,none⟩)):=hr 3 δ;have k0:=(hH.2 _ _ _ nC C).box.c0;have k1:=(hH.2 _ _ _ nC C).box.c1;exact aS rfl γ):p:=h
theorem Ph {p:Prop} (h:p:=by rw [if_pos rfl];intro zZ w_;exact nJ rfl (by first | (go_simp;done) | (go_simp;rfl))):p:=h
theorem Ux {p:Prop} (h:p:=by
 have ⟨y0,y1,x0,x1,_⟩:=hn.box;refine ⟨rfl,?_⟩;unfold Oper.wp;go_simp
 exact ⟨aG.set2 hn _ _,KR (KR (KS _ _) hh _) hh _⟩):p:=h
namespace M
theorem xl (s1 s2 s3:Sp):dX (dX s1 s2) s3=gd (gd (gd (gd s1.isSome s2).isSome (dX s1 (gd s1.isSome s2))).isSome s3).isSome (dX (gd (gd s1.isSome s2).isSome (dX s1 (gd s1.isSome s2))) (gd (gd (gd s1.isSome s2).isSome (dX s1 (gd s1.isSome s2))).isSome s3)):=by
 cases s1 with
 | none=>rfl
 | some p=>cases s2 with
  | none=>rfl
  | some q=>
  show dX (dX (some p) (some q)) s3=gd (gd (gd true (dX (some p) (some q))).isSome s3).isSome (dX (gd true (dX (some p) (some q))) (gd (gd true (dX (some p) (some q))).isSome s3))
  rw [mQ]
  cases dX (some p) (some q) with
  | none=>rfl
  | some u=>cases s3 <;> rfl
end M
theorem BH (a b X1 Y1 E1 X2 Y2 E2:Int) (w:World) (hg:M.good a b=true) (hp:aV a b X1 Y1 E1=true) (hq:aV a b X2 Y2 E2=true) :
  cB 66 #[.agg #[a,b],.agg #[X1,Y1,E1],.agg #[X2,Y2,E2]] w (.tuple #[.agg #[M.Kd (ep a b X1 Y1 E1 X2 Y2 E2),M.Kj (ep a b X1 Y1 E1 X2 Y2 E2)],.bool (ep a b X1 Y1 E1 X2 Y2 E2).isSome]):=by
 have PA:=fun W=>iA a b X1 Y1 E1 X2 Y2 E2 W hg hp hq
 have hin:=ae hg;have hs:=nI hin hp hq;obtain ⟨p1,p2,p3,p4,-,-⟩:=df hin hp;obtain ⟨r1,r2,r3,r4,-,-⟩:=df hin hq;obtain ⟨s1,s2,s3,s4,-,-⟩:=df hin hs;have hv:=KO (show ep a b X1 Y1 E1 X2 Y2 E2=if dI a X1 Y1 E1 X2 Y2 E2=true then dX (dX (bU a b (eI a X1 Y1 E1 X2 Y2 E2) (eD a X1 Y1 E1 X2 Y2 E2)) (bU a b X1 E1)) (bU a b X2 E2) else none from rfl);rw [hv.out];clear hv hs hp hq;generalize dI a X1 Y1 E1 X2 Y2 E2=ok,eD a X1 Y1 E1 X2 Y2 E2=E3,ft a X1 Y1 E1 X2 Y2 E2=Y3,eI a X1 Y1 E1 X2 Y2 E2=X3 at *
 cases ok with
 | false=>
  replace PA:=KO PA;have hn:=KO (show (if (false=true) then dX (dX (bU a b X3 E3) (bU a b X1 E1)) (bU a b X2 E2) else none)=none from rfl);rw [hn.out];clear hn;obtain ⟨wc,hw3,C,Q,U,R,B⟩:=fP w #[a,b] 24 #[X1,Y1,E1] 47 #[X2,Y2,E2] 47 #[(0:Int),(0:Int)] 72;have f_:=C.box.c0;have j_:=C.box.c1;have ⟨q0,q1,q2⟩:=Q.aM;have ⟨u0,u1,u2⟩:=U.aM;go_enter func66,ntmps66
  go_wp2_with (with_reducible refine G_ PA fun w4 hb4=>?_;have MG:=Nat.lt_of_lt_of_le R.lt hb4.size;replace B:=((p_ B hb4).alloc (Nat.le_trans B.size hb4.size) (.cells #[X3,Y3,E3] 47)).alloc (by rw [KQ];exact Nat.le_succ_of_le (Nat.le_trans B.size hb4.size)) (.cells #[false] 83);replace C:=((C.keep hb4).alloc (.cells #[X3,Y3,E3] 47)).alloc (.cells #[false] 83);replace Q:=((Q.keep hb4).alloc (.cells #[X3,Y3,E3] 47)).alloc (.cells #[false] 83);replace U:=((U.keep hb4).alloc (.cells #[X3,Y3,E3] 47)).alloc (.cells #[false] 83);replace R:=((R.keep hb4).alloc (.cells #[X3,Y3,E3] 47)).alloc (.cells #[false] 83);have S:=(aG.new w4 #[X3,Y3,E3] 47).alloc (.cells #[false] 83);have K:=aG.new (w4.alloc (.cells #[X3,Y3,E3] 47)) #[false] 83;(rw [KQ] at K);(have ⟨r0,r1,Vo,Vp,rl⟩:=R.box))
  exact KU results66 ⟨rfl,Pf B⟩
 | true=>
 rw [if_pos rfl,xl];have o1:=fg (a:=a) (b:=b) hin s1 s2 s3 s4
 have PB1:=fun g_ W K=>pO g_ true a b X3 Y3 E3 W K hg s1 s2 s3 s4
 have VL:=fun g_ ok W K=>pO g_ ok a b X1 Y1 E1 W K hg p1 p2 p3 p4
 have VM:=fun g_ ok W K=>pO g_ ok a b X2 Y2 E2 W K hg r1 r2 r3 r4
 have o2:=fg (a:=a) (b:=b) hin p1 p2 p3 p4;have o3:=fg (a:=a) (b:=b) hin r1 r2 r3 r4;simp only [mQ] at PB1;generalize bU a b X3 E3=t1 at *
 replace VL:=fun g_=>VL g_ t1.isSome
 generalize bU a b X1 E1=t2 at *
 obtain ⟨t3,ht3⟩:∃ t,t=M.gd t1.isSome t2:=⟨_,rfl⟩
 have o4:M.LR t3:=by rw [ht3];exact kH o2
 have i3:t3.isSome=true->t1.isSome=true:=fun h=>by rw [ht3] at h;exact (ke h).1
 rw [←ht3] at VL ⊢
 have PM1:=fun g_ W K=>qa g_ t3.isSome t1 t3 W K o1 o4 i3 (fun h=>h)
 obtain ⟨t4,ht4⟩:∃ t,t=M.gd t3.isSome (dX t1 t3):=⟨_,rfl⟩
 have o5:M.LR t4:=by rw [ht4];exact kH pR
 rw [←ht4] at PM1 ⊢
 replace VM:=fun g_=>VM g_ t4.isSome
 generalize bU a b X2 E2=t5 at *
 obtain ⟨t6,ht6⟩:∃ t,t=M.gd t4.isSome t5:=⟨_,rfl⟩
 have o6:M.LR t6:=by rw [ht6];exact kH o3
 have i6:t6.isSome=true->t4.isSome=true:=fun h=>by rw [ht6] at h;exact (ke h).1
 rw [←ht6] at VM ⊢
 have PM2:=fun g_ W K=>qa g_ t6.isSome t4 t6 W K o5 o6 i6 (fun h=>h)
 generalize M.gd t6.isSome (dX t4 t6)=t7 at *;clear ht3 ht4 ht6 o1 o2 o3 o4 o5 o6 i3 i6 t5 t2 hg hin;generalize M.Kj t7=h7,M.Kd t7=l7,t7.isSome=f7,M.Kj t6=h6,M.Kd t6=l6,t6.isSome=f6,M.Kj t4=h4,M.Kd t4=l4,t4.isSome=f4,M.Kj t3=h3,M.Kd t3=l3,t3.isSome=f3,M.Kj t1=h1,M.Kd t1=l1,t1.isSome=f1 at *;replace PA:=KO PA;replace PB1:=KO PB1;replace VL:=KO VL;replace VM:=KO VM;replace PM1:=KO PM1;replace PM2:=KO PM2;obtain ⟨wc,hw3,C,Q,U,R,B⟩:=fP w #[a,b] 24 #[X1,Y1,E1] 47 #[X2,Y2,E2] 47 #[(0:Int),(0:Int)] 72;have f_:=C.box.c0;have j_:=C.box.c1;have ⟨q0,q1,q2⟩:=Q.aM;have ⟨u0,u1,u2⟩:=U.aM;go_enter func66,ntmps66
 go_upto_region 5 with (with_reducible refine G_ PA fun w4 hb4=>?_;have MG:=Nat.lt_of_lt_of_le R.lt hb4.size;replace B:=((p_ B hb4).alloc (Nat.le_trans B.size hb4.size) (.cells #[X3,Y3,E3] 47)).alloc (by rw [KQ];exact Nat.le_succ_of_le (Nat.le_trans B.size hb4.size)) (.cells #[true] 83);replace C:=((C.keep hb4).alloc (.cells #[X3,Y3,E3] 47)).alloc (.cells #[true] 83);replace Q:=((Q.keep hb4).alloc (.cells #[X3,Y3,E3] 47)).alloc (.cells #[true] 83);replace U:=((U.keep hb4).alloc (.cells #[X3,Y3,E3] 47)).alloc (.cells #[true] 83);replace R:=((R.keep hb4).alloc (.cells #[X3,Y3,E3] 47)).alloc (.cells #[true] 83);have S:=(aG.new w4 #[X3,Y3,E3] 47).alloc (.cells #[true] 83);have K:=aG.new (w4.alloc (.cells #[X3,Y3,E3] 47)) #[true] 83;(rw [KQ] at K);(have ⟨r0,r1,Vo,Vp,rl⟩:=R.box))
 generalize (w4.alloc (.cells #[X3,Y3,E3] 47)).alloc (.cells #[true] 83)=wd at *;have hsl:=S.lt;have rl2:=R.lt
 have hw4:w.heap.size+4<=w4.heap.size:=ω
 have nC:w.heap.size≠w4.heap.size+1:=ω
 have nQ:w.heap.size+1≠w4.heap.size+1:=ω
 have nU:w.heap.size+1+1≠w4.heap.size+1:=ω
 have nR:w.heap.size+1+1+1≠w4.heap.size+1:=ω
 have nS:w4.heap.size≠w4.heap.size+1:=ω
 have nB:w.heap.size<=w4.heap.size+1:=ω
 refine Ho (w4.heap.size+1) 83 (fun n=>match n with | 0=>.bool true | 1=>.bool f1 | 2=>.bool f3 | 3=>.bool f4 | 4=>.bool f6 | _=>.bool f7) [5,9,10,14,15] 16 17 72 #[(0:Int),(0:Int)] #[l7,h7] [.is (.pointer (some ⟨w4.heap.size+1,0,none⟩)),.is (.pointer (some ⟨w4.heap.size+1,0,none⟩)),.is (.pointer (some ⟨w4.heap.size+1,0,none⟩)),.is (.agg #[a,b]),.is (.agg #[X3,Y3,E3]),.is (.agg #[l1,h1]),.is (.pointer (some ⟨w4.heap.size+1,0,none⟩)),.is (.agg #[a,b]),.is (.agg #[X1,Y1,E1]),.is (.agg #[l3,h3]),.is (.agg #[l4,h4]),.is (.pointer (some ⟨w4.heap.size+1,0,none⟩)),.is (.agg #[a,b]),.is (.agg #[X2,Y2,E2]),.is (.agg #[l6,h6]),.is (.agg #[l7,h7]),.is (undef),.is (undef)] κ κ κ (fun j h1 h2=>match j,h1,h2 with | 0,h1,h2=>rfl | 1,h1,h2=>rfl | 2,h1,h2=>rfl | 3,h1,h2=>rfl | 4,h1,h2=>rfl | 5,h1,h2=>rfl | 6,h1,h2=>rfl | 7,h1,h2=>rfl | 8,h1,h2=>rfl | 9,h1,h2=>rfl | 10,h1,h2=>rfl | 11,h1,h2=>rfl | 12,h1,h2=>rfl | 13,h1,h2=>rfl | 14,h1,h2=>rfl | 15,h1,h2=>rfl | 16,h1,h2=>absurd rfl h1 | 17,h1,h2=>absurd rfl h2 | n+18,_,_=>rfl) δ δ δ δ K ⟨?_,?_,?_,?_,?_,?_,?_,?_,?_,?_,?_,?_,?_,?_,?_,?_,?_,?_,trivial⟩ ?_
 ·exact Qd
 ·exact Qd
 ·exact Qd
 ·exact Uj
 ·unfold bp
  rw [if_neg δ,if_neg δ,if_neg δ];intro zZ w_ hH hr;have e8:zZ.tmps[8]?=some (.pointer (some ⟨w4,0,none⟩)):=hr 8 δ;have k0:=(hH.2 _ _ _ nS S).aM.1;have k1:=(hH.2 _ _ _ nS S).aM.2.1;have k2:=(hH.2 _ _ _ nS S).aM.2.2;exact aS rfl γ
 ·unfold bp
  rw [if_neg δ,if_neg δ,if_pos δ];intro zZ w_ K_ hH hr;replace K_:aG w_ (w4.heap.size+1) 83 #[true]:=K_;have e27:=Rg.A_ (hr 27 δ);have e28:=Rg.A_ (hr 28 δ);have e29:=Rg.A_ (hr 29 δ);have ef:=Rg.ef zZ;exact io rfl γ (PB1.out _ _ K_)
 ·exact Qd
 ·exact Uj
 ·unfold bp
  rw [if_neg δ,if_neg δ,if_neg δ];intro zZ w_ hH hr;have e4:zZ.tmps[4]?=some (.pointer (some ⟨w.heap.size+1,0,none⟩)):=hr 4 δ;have k0:=(hH.2 _ _ _ nQ Q).aM.1;have k1:=(hH.2 _ _ _ nQ Q).aM.2.1;have k2:=(hH.2 _ _ _ nQ Q).aM.2.2;exact aS rfl γ
 ·unfold bp
  rw [if_neg δ,if_neg δ,if_pos δ];intro zZ w_ K_ hH hr;replace K_:aG w_ (w4.heap.size+1) 83 #[f1]:=K_;have e31:=Rg.A_ (hr 31 δ);have e32:=Rg.A_ (hr 32 δ);have e33:=Rg.A_ (hr 33 δ);have ef:=Rg.ef zZ;exact io rfl γ (VL.out _ _ K_)
 ·unfold bp
  rw [if_neg δ,if_neg δ,if_pos δ];intro zZ w_ K_ hH hr;replace K_:aG w_ (w4.heap.size+1) 83 #[f3]:=K_;have e26:=Rg.A_ (hr 26 δ);have e30:=Rg.A_ (hr 30 δ);have e34:=Rg.A_ (hr 34 δ);have ef:=Rg.ef zZ;exact io rfl γ (PM1.out _ _ K_)
 ·exact Qd
 ·exact Uj
 ·unfold bp
  rw [if_neg δ,if_neg δ,if_neg δ];intro zZ w_ hH hr;have e5:zZ.tmps[5]?=some (.pointer (some ⟨w.heap.size+1+1,0,none⟩)):=hr 5 δ;have k0:=(hH.2 _ _ _ nU U).aM.1;have k1:=(hH.2 _ _ _ nU U).aM.2.1;have k2:=(hH.2 _ _ _ nU U).aM.2.2;exact aS rfl γ
 ·unfold bp
  rw [if_neg δ,if_neg δ,if_pos δ];intro zZ w_ K_ hH hr;replace K_:aG w_ (w4.heap.size+1) 83 #[f4]:=K_;have e36:=Rg.A_ (hr 36 δ);have e37:=Rg.A_ (hr 37 δ);have e38:=Rg.A_ (hr 38 δ);have ef:=Rg.ef zZ;exact io rfl γ (VM.out _ _ K_)
 ·unfold bp
  rw [if_neg δ,if_neg δ,if_pos δ];intro zZ w_ K_ hH hr;replace K_:aG w_ (w4.heap.size+1) 83 #[f6]:=K_;have e25:=Rg.A_ (hr 25 δ);have e35:=Rg.A_ (hr 35 δ);have e39:=Rg.A_ (hr 39 δ);have ef:=Rg.ef zZ;exact io rfl γ (PM2.out _ _ K_)
 ·unfold bp
  exact Ph
 ·unfold bp
  rw [if_neg δ,if_pos rfl];intro zZ w_ h_ hh hn hr;have e11:zZ.tmps[11]?=some (.pointer (some ⟨h_,0,none⟩)):=hr 11 δ;have e40:=Rg.A_ (hr 40 δ);exact Ux
 intro vals wz h_ hh hn Nl hB hv;replace hB:Below wd (wd.setCell ⟨w4.heap.size+1,0,none⟩ (.bool f7)) wz:=hB;simp only [bD,Rg.fill,Act.put,Nat.reduceAdd];clear hv;simp only [Nl];clear Nl;have hB2:=bI hB;replace B:=(KR B nB (.bool f7)).trans (hB.mono B.size);replace R:=(R.other (i:=0) nR (.bool f7)).keep hB2;replace K:=(K.one (.bool f7)).keep hB2;have k0:=K.cell 0;have ⟨r0,r1,Vo,Vp,rl⟩:=R.box;have ⟨z0,z1,_,_,_⟩:=hn.box;clear hB hB2 f_ j_ q0 q1 q2 u0 u1 u2
 go_upto_region 6 with fail
 go_region
 all_goals
  go_wp2;exact KU results66 ⟨rfl,Below.drew (Pf B)⟩
theorem Yx {p:Prop} (h:p:=by exact KU (v:=.tuple #[.agg #[(0:Int),(0:Int),(0:Int),(0:Int)],false]) results118 ⟨by rw [hfin.out,e1.out.1,e1.out.2.1,e1.out.2.2.1,e1.out.2.2.2.1,e1.out.2.2.2.2],Lv B⟩):p:=h
def gy (w:World) (g:Nat) (l:List (Int × Int × Int)):Prop:=
 ∀ (k:Nat) (p:Int × Int × Int),l[k]?=some p->w.cell? ⟨g,k*3,none⟩=some (.int .i64 p.1)/\w.cell? ⟨g,k*3+1,none⟩=some (.int .i64 p.2.1)/\w.cell? ⟨g,k*3+2,none⟩=some (.int .i64 p.2.2)
theorem gy.below {w w':World} {g:Nat} {l:List (Int × Int × Int)} (h:gy w g l) (hb:Below w w w'):gy w' g l:=fun k p hp=>by
 obtain ⟨h1,h2,h3⟩:=h k p hp;exact ⟨aE hb h1,aE hb h2,aE hb h3⟩
namespace M
noncomputable def eM (a b:Int) (s:Sp) (l:List (Int × Int × Int)):Sp:=l.foldl (fun s p=>dX s (bU a b p.1 p.2.2)) s
theorem li (a b:Int):∀ l,eM a b none l=none
 | []=>rfl
 | _ :: l=>li a b l
theorem qd {a b:Int} {s:Sp} {l:List (Int × Int × Int)} {k:Nat} {p:Int × Int × Int} (h:l[k]?=some p):eM a b s (l.take (k+1))=dX (eM a b s (l.take k)) (bU a b p.1 p.2.2):=by
 unfold eM;rw [List.take_add_one,h,List.foldl_append];rfl
theorem qf {a b:Int} {s:Sp} {l:List (Int × Int × Int)} {k:Nat} (h:eM a b s (l.take k)=none):eM a b s l=none:=by
 have e:eM a b s l=eM a b (eM a b s (l.take k)) (l.drop k):=by
  unfold eM;rw [←List.foldl_append,List.take_append_drop]
 rw [e,h,li]
end M
theorem aG.kJ {W:World} {g k:Nat} {T:TypeId} {xs:Array Value} (h:aG W g T xs) (hk:g≠k) (x y z t:Value):aG ((((W.setCell ⟨k,0,none⟩ x).setCell ⟨k,1,none⟩ y).setCell ⟨k,2,none⟩ z).setCell ⟨k,3,none⟩ t) g T xs:=(((h.other hk x).other hk y).other hk z).other hk t
theorem DW (a b:Int) (s:Int × Int) (l:List (Int × Int × Int)) (g cap:Nat) (w:World) (hg:M.good a b=true) (hs:aJ s.1 s.2=true) (hl:gy w g l) (hn:l.length<=100) (hp:∀ p ∈ l,-10000<=p.1/\p.1<=10000/\0<=p.2.2/\p.2.2<=20) :
  cB 118 #[.agg #[a,b],.agg #[M.Kc (some s),M.Kf (some s),M.Kg (some s),M.Kh (some s)],.slice (some ⟨g,0,none⟩) l.length cap] w (.tuple #[.agg #[M.Kc (eM a b (some s) l),M.Kf (eM a b (some s) l),M.Kg (eM a b (some s) l),M.Kh (eM a b (some s) l)],.bool (eM a b (some s) l).isSome]):=by
 have hin:=ae hg;have hl:=KO hl;have hp:=KO hp;obtain ⟨wc,hw3,C,I,R,B⟩:=dF w #[a,b] 24 #[M.Kc (some s),M.Kf (some s),M.Kg (some s),M.Kh (some s)] 34 #[(0:Int),(0:Int),(0:Int),(0:Int)] 34
 obtain ⟨N,hN⟩:∃ N,Hid (l.length=N):=⟨_,KO rfl⟩
 rw [hN.out] at hn ⊢;go_enter func118,ntmps118
 go_wp2
 go_loopw [16] (fun vi wr=>∃ (k:Nat) (p:Int × Int),k<=N/\vi=.int .i64 k/\Hid (eM a b (some s) (l.take k)=some p)/\aG wr w 24 #[a,b]/\aG wr (w.heap.size+1) 34 #[M.Kc (some p),M.Kf (some p),M.Kg (some p),M.Kh (some p)]/\aG wr (w.heap.size+1+1) 34 #[(0:Int),(0:Int),(0:Int),(0:Int)]/\Below w w wr) (fun vi _=>N - (intOf vi).toNat)
 case atStart=>exact ⟨0,s,Nat.zero_le _,rfl,KO rfl,C,I,R,B⟩
 case round=>
 clear C I R B hw3;obtain ⟨k,p,hk,rfl,hcur,C,I,R,B⟩:=hrel
 have hpo:M.LR (some p):=by
  rw [←hcur.out]
  cases k with
  | zero=>intro q hq;injection hq with hq;subst hq;exact hs
  | succ k=>
  obtain ⟨z,hz⟩:∃ z,l[k]?=some z:=⟨_,List.getElem?_eq_getElem (by have:=hN.out;omega)⟩
  rw [qd hz];exact pR
 have hps:=hpo p rfl;have f_:=C.box.c0;have j_:=C.box.c1
 by_cases hlt:k<N
 ·obtain ⟨z,hz⟩:∃ z,l[k]?=some z:=⟨_,List.getElem?_eq_getElem (by have:=hN.out;omega)⟩
  obtain ⟨d0,d1,d2⟩:=(hl.out.below B) k z hz;obtain ⟨b1,b2,b3,b4⟩:=hp.out z (List.mem_of_getElem? hz);have hnx:=qd (a:=a) (b:=b) (s:=some s) hz;rw [hcur.out] at hnx;obtain ⟨X,Y,E⟩:=z;simp only [] at d0 d1 d2 b1 b2 b3 b4 hnx
  have PH:=fun W=>ju a b X Y E W hg b1 b2 b3 b4
  have hto:=fg (a:=a) (b:=b) hin b1 b2 b3 b4;generalize bU a b X E=t at *;clear b1 b2 b3 b4 hz hcur;replace B:=B.alloc B.size (.cells #[X,Y,E] 47);have Z:=aG.new wr #[X,Y,E] 47;replace C:=C.alloc (.cells #[X,Y,E] 47);replace I:=I.alloc (.cells #[X,Y,E] 47);replace R:=R.alloc (.cells #[X,Y,E] 47);have f_:=C.box.c0;have j_:=C.box.c1;have ⟨z0,z1,z2⟩:=Z.aM
  cases t with
  | none=>
   have hfin:eM a b (some s) l=none:=qf (k:=k+1) (by rw [hnx];rfl);have e1:=KO (show M.Kc none=0/\M.Kf none=0/\M.Kg none=0/\M.Kh none=0/\(none:M.Sp).isSome=false from ⟨rfl,rfl,rfl,rfl,rfl⟩);rw [e1.out.1,e1.out.2.1,e1.out.2.2.1,e1.out.2.2.2.1,e1.out.2.2.2.2] at PH;have hfin:=KO hfin;clear hnx hpo hps hto;replace PH:=KO PH;generalize M.Kh (some p)=i4_,M.Kg (some p)=i3_,M.Kf (some p)=i2_,M.Kc (some p)=i1_ at *
   go_wp2_with (with_reducible refine G_ PH fun w4 hb4=>?_;replace ⟨B,C,I,R⟩:=Kl hb4 B C I R;replace R:=R.alloc (.cells #[(0:Int),(0:Int),(0:Int),(0:Int)] 34);replace C:=C.alloc (.cells #[(0:Int),(0:Int),(0:Int),(0:Int)] 34);replace I:=I.alloc (.cells #[(0:Int),(0:Int),(0:Int),(0:Int)] 34);replace B:=B.alloc B.size (.cells #[(0:Int),(0:Int),(0:Int),(0:Int)] 34);have V:=aG.new w4 #[(0:Int),(0:Int),(0:Int),(0:Int)] 34;(have ⟨r0,r1,r2,r3,y0,y1,y2,y3,rl⟩:=R.aI);(have ⟨i0,i1,i2,i3,s0,s1,s2,s3,il⟩:=I.aI);(have ⟨v0,v1,v2,v3,_,_,_,_,vl⟩:=V.aI))
   exact Yx
  | some q=>
  have PI:=fun W=>vS p q W hps (hto q rfl)
  have e2:=KO (show (some q:M.Sp).isSome=true from rfl);rw [e2.out] at PH;clear e2;generalize dX (some p) (some q)=u at *;have hnx:=KO hnx;generalize M.Kh (some q)=k4,M.Kg (some q)=k3,M.Kf (some q)=k2,M.Kc (some q)=k1 at *;replace PH:=KO PH;clear hto hps hpo
  cases u with
  | none=>
   have hfin:=KO (show eM a b (some s) l=none from qf (k:=k+1) hnx.out);have e1:=KO (show M.Kc none=0/\M.Kf none=0/\M.Kg none=0/\M.Kh none=0/\(none:M.Sp).isSome=false from ⟨rfl,rfl,rfl,rfl,rfl⟩);rw [e1.out.1,e1.out.2.1,e1.out.2.2.1,e1.out.2.2.2.1,e1.out.2.2.2.2] at PI;replace PI:=KO PI;clear hnx;generalize M.Kh (some p)=i4_,M.Kg (some p)=i3_,M.Kf (some p)=i2_,M.Kc (some p)=i1_ at *
   go_wp2_with first | (with_reducible refine G_ PH fun w4 hb4=>?_;replace ⟨B,C,I,R⟩:=Kl hb4 B C I R;replace R:=R.alloc (.cells #[k1,k2,k3,k4] 34);replace C:=C.alloc (.cells #[k1,k2,k3,k4] 34);replace I:=I.alloc (.cells #[k1,k2,k3,k4] 34);replace B:=B.alloc B.size (.cells #[k1,k2,k3,k4] 34);have V:=aG.new w4 #[k1,k2,k3,k4] 34;(have ⟨r0,r1,r2,r3,y0,y1,y2,y3,rl⟩:=R.aI);(have ⟨i0,i1,i2,i3,s0,s1,s2,s3,il⟩:=I.aI);(have ⟨v0,v1,v2,v3,_,_,_,_,vl⟩:=V.aI)) | (with_reducible refine G_ PI fun w5 hb5=>?_;replace ⟨B,C,I,R⟩:=Kl hb5 B C I R;replace R:=R.alloc (.cells #[(0:Int),(0:Int),(0:Int),(0:Int)] 34);replace C:=C.alloc (.cells #[(0:Int),(0:Int),(0:Int),(0:Int)] 34);replace I:=I.alloc (.cells #[(0:Int),(0:Int),(0:Int),(0:Int)] 34);replace B:=B.alloc B.size (.cells #[(0:Int),(0:Int),(0:Int),(0:Int)] 34);have V:=aG.new w5 #[(0:Int),(0:Int),(0:Int),(0:Int)] 34;(have ⟨r0,r1,r2,r3,y0,y1,y2,y3,rl⟩:=R.aI);(have ⟨i0,i1,i2,i3,s0,s1,s2,s3,il⟩:=I.aI);(have ⟨v0,v1,v2,v3,_,_,_,_,vl⟩:=V.aI))
   exact Yx
  | some r=>
  have e2:=KO (show (some r:M.Sp).isSome=true from rfl);rw [e2.out] at PI;clear e2
  obtain ⟨m1,hm1⟩:∃ m,Hid (M.Kc (some r)=m):=⟨_,KO rfl⟩
  rw [hm1.out] at PI
  obtain ⟨m2,hm2⟩:∃ m,Hid (M.Kf (some r)=m):=⟨_,KO rfl⟩
  rw [hm2.out] at PI
  obtain ⟨m3,hm3⟩:∃ m,Hid (M.Kg (some r)=m):=⟨_,KO rfl⟩
  rw [hm3.out] at PI
  obtain ⟨m4,VZ⟩:∃ m,Hid (M.Kh (some r)=m):=⟨_,KO rfl⟩
  rw [VZ.out] at PI;replace PI:=KO PI;generalize M.Kh (some p)=i4_,M.Kg (some p)=i3_,M.Kf (some p)=i2_,M.Kc (some p)=i1_ at *
  go_wp2_with first | (with_reducible refine G_ PH fun w4 hb4=>?_;replace ⟨B,C,I,R⟩:=Kl hb4 B C I R;replace R:=R.alloc (.cells #[k1,k2,k3,k4] 34);replace C:=C.alloc (.cells #[k1,k2,k3,k4] 34);replace I:=I.alloc (.cells #[k1,k2,k3,k4] 34);replace B:=B.alloc B.size (.cells #[k1,k2,k3,k4] 34);have V:=aG.new w4 #[k1,k2,k3,k4] 34;(have ⟨r0,r1,r2,r3,y0,y1,y2,y3,rl⟩:=R.aI);(have ⟨i0,i1,i2,i3,s0,s1,s2,s3,il⟩:=I.aI);(have ⟨v0,v1,v2,v3,_,_,_,_,vl⟩:=V.aI)) | (with_reducible refine G_ PI fun w5 hb5=>?_;replace ⟨B,C,I,R⟩:=Kl hb5 B C I R;replace R:=R.alloc (.cells #[m1,m2,m3,m4] 34);replace C:=C.alloc (.cells #[m1,m2,m3,m4] 34);replace I:=I.alloc (.cells #[m1,m2,m3,m4] 34);replace B:=B.alloc B.size (.cells #[m1,m2,m3,m4] 34);have V:=aG.new w5 #[m1,m2,m3,m4] 34;(have ⟨r0,r1,r2,r3,y0,y1,y2,y3,rl⟩:=R.aI);(have ⟨i0,i1,i2,i3,s0,s1,s2,s3,il⟩:=I.aI);(have ⟨v0,v1,v2,v3,_,_,_,_,vl⟩:=V.aI))
  go_roundw
  case rel=>exact ⟨k+1,r,ω,σ,hnx,C.kJ ω _ _ _ _,by rw [hm1.out,hm2.out,hm3.out,VZ.out];exact I.oK _ _ _ _,R.kJ ω _ _ _ _,KR (KR (KR (KR B σ _) σ _) σ _) σ _⟩
  case measure=>simp [intOf] <;> omega
 obtain rfl:k=N:=ω
 have hfin:=hcur
 have e0:l.take k=l:=by rw [←hN.out];exact List.take_length
 rw [e0] at hfin;have ⟨i0,i1,i2,i3,s0,s1,s2,s3,il⟩:=I.aI;have ⟨r0,r1,r2,r3,y0,y1,y2,y3,rl⟩:=R.aI;go_wp2;exact KU (v:=.tuple #[.agg #[M.Kc (some p),M.Kf (some p),M.Kg (some p),M.Kh (some p)],true]) results118 ⟨by rw [hfin.out];rfl,Lv B⟩
theorem gy.two {W:World} {g:Nat} {T:TypeId} {X1 Y1 E1 X2 Y2 E2:Int} (h:aG W g T #[X1,Y1,E1,X2,Y2,E2]):gy W g [(X1,Y1,E1),(X2,Y2,E2)]:=by
 intro k p hp
 match k,hp with
 | 0,hp=>injection hp with hp;subst hp;exact ⟨h.cell 0,h.cell 1,h.cell 2⟩
 | 1,hp=>injection hp with hp;subst hp;exact ⟨h.cell 3,h.cell 4,h.cell 5⟩
 | k+2,hp=>cases hp
theorem vO (a b X1 Y1 E1 X2 Y2 E2:Int) (w:World) (hg:M.good a b=true) (hp:aV a b X1 Y1 E1=true) (hq:aV a b X2 Y2 E2=true) :
  cB 71 #[.agg #[a,b],.agg #[X1,Y1,E1],.agg #[X2,Y2,E2]] w (.tuple #[.agg #[M.Kc (ep a b X1 Y1 E1 X2 Y2 E2),M.Kf (ep a b X1 Y1 E1 X2 Y2 E2),M.Kg (ep a b X1 Y1 E1 X2 Y2 E2),M.Kh (ep a b X1 Y1 E1 X2 Y2 E2)],.bool (ep a b X1 Y1 E1 X2 Y2 E2).isSome]):=by
 have PA:=fun W=>uE a b X1 Y1 E1 X2 Y2 E2 W hg hp hq
 have hin:=ae hg;have hs:=nI hin hp hq;obtain ⟨p1,p2,p3,p4,-,-⟩:=df hin hp;obtain ⟨r1,r2,r3,r4,-,-⟩:=df hin hq;obtain ⟨s1,s2,s3,s4,-,-⟩:=df hin hs;have hv:=KO (show (ep a b X1 Y1 E1 X2 Y2 E2)=if dI a X1 Y1 E1 X2 Y2 E2=true then eM a b (bU a b (eI a X1 Y1 E1 X2 Y2 E2) (eD a X1 Y1 E1 X2 Y2 E2)) [(X1,Y1,E1),(X2,Y2,E2)] else none from rfl);rw [hv.out];clear hv hs hp hq;generalize dI a X1 Y1 E1 X2 Y2 E2=ok,eD a X1 Y1 E1 X2 Y2 E2=E3,ft a X1 Y1 E1 X2 Y2 E2=Y3,eI a X1 Y1 E1 X2 Y2 E2=X3 at *
 have PH:=fun W=>ju a b X3 Y3 E3 W hg s1 s2 s3 s4
 have hto:=fg (a:=a) (b:=b) hin s1 s2 s3 s4
 have PL:=fun s g W h1 h2=>DW a b s [(X1,Y1,E1),(X2,Y2,E2)] g 2 W hg h1 h2 σ (by
  intro p hp
  rcases List.mem_cons.1 hp with rfl | hp
  ·exact ⟨p1,p2,p3,p4⟩
  rcases List.mem_cons.1 hp with rfl | hp
  ·exact ⟨r1,r2,r3,r4⟩
  cases hp)
 generalize bU a b X3 E3=t at *;clear hg hin s1 s2 s3 s4 p1 p2 p3 p4 r1 r2 r3 r4
 cases ok with
 | false=>
  have e1:=KO (show M.Kc none=0/\M.Kf none=0/\M.Kg none=0/\M.Kh none=0/\(none:M.Sp).isSome=false from ⟨rfl,rfl,rfl,rfl,rfl⟩);have e2:=KO (show (if (false=true) then eM a b t [(X1,Y1,E1),(X2,Y2,E2)] else none)=none from rfl);rw [e2.out,e1.out.1,e1.out.2.1,e1.out.2.2.1,e1.out.2.2.2.1,e1.out.2.2.2.2];clear e1 e2 PH PL hto;replace PA:=KO PA;obtain ⟨wc,hw3,C,Q,U,R,B⟩:=fP w #[a,b] 24 #[X1,Y1,E1] 47 #[X2,Y2,E2] 47 #[(0:Int),(0:Int),(0:Int),(0:Int)] 34;have f_:=C.box.c0;have j_:=C.box.c1;have ⟨q0,q1,q2⟩:=Q.aM;have ⟨u0,u1,u2⟩:=U.aM;go_enter func71,ntmps71
  go_wp2_with (with_reducible refine G_ PA fun w4 hb4=>?_;replace ⟨B,C,Q,U,R⟩:=Lp hb4 B C Q U R;replace B:=B.alloc B.size (.cells #[X3,Y3,E3] 47);replace C:=C.alloc (.cells #[X3,Y3,E3] 47);replace Q:=Q.alloc (.cells #[X3,Y3,E3] 47);replace U:=U.alloc (.cells #[X3,Y3,E3] 47);replace R:=R.alloc (.cells #[X3,Y3,E3] 47);have S:=aG.new w4 #[X3,Y3,E3] 47;(have ⟨z0,z1,z2⟩:=S.aM);have f_:=C.box.c0;have j_:=C.box.c1;(have ⟨q0,q1,q2⟩:=Q.aM);(have ⟨u0,u1,u2⟩:=U.aM);(have ⟨r0,r1,r2,r3,y0,y1,y2,y3,rl⟩:=R.aI))
  exact KU results71 ⟨rfl,Lv B⟩
 | true=>
 rw [if_pos rfl];replace PA:=KO PA
 cases t with
 | none=>
  have e1:=KO (show M.Kc none=0/\M.Kf none=0/\M.Kg none=0/\M.Kh none=0/\(none:M.Sp).isSome=false from ⟨rfl,rfl,rfl,rfl,rfl⟩);rw [li,e1.out.1,e1.out.2.1,e1.out.2.2.1,e1.out.2.2.2.1,e1.out.2.2.2.2];rw [e1.out.1,e1.out.2.1,e1.out.2.2.1,e1.out.2.2.2.1,e1.out.2.2.2.2] at PH;clear e1 PL hto;replace PH:=KO PH;obtain ⟨wc,hw3,C,Q,U,R,B⟩:=fP w #[a,b] 24 #[X1,Y1,E1] 47 #[X2,Y2,E2] 47 #[(0:Int),(0:Int),(0:Int),(0:Int)] 34;have f_:=C.box.c0;have j_:=C.box.c1;have ⟨q0,q1,q2⟩:=Q.aM;have ⟨u0,u1,u2⟩:=U.aM;go_enter func71,ntmps71
  go_wp2_with first | (with_reducible refine G_ PA fun w4 hb4=>?_;replace ⟨B,C,Q,U,R⟩:=Lp hb4 B C Q U R;replace B:=B.alloc B.size (.cells #[X3,Y3,E3] 47);replace C:=C.alloc (.cells #[X3,Y3,E3] 47);replace Q:=Q.alloc (.cells #[X3,Y3,E3] 47);replace U:=U.alloc (.cells #[X3,Y3,E3] 47);replace R:=R.alloc (.cells #[X3,Y3,E3] 47);have S:=aG.new w4 #[X3,Y3,E3] 47;(have ⟨z0,z1,z2⟩:=S.aM);have f_:=C.box.c0;have j_:=C.box.c1;(have ⟨q0,q1,q2⟩:=Q.aM);(have ⟨u0,u1,u2⟩:=U.aM);(have ⟨r0,r1,r2,r3,y0,y1,y2,y3,rl⟩:=R.aI)) | (with_reducible refine G_ PH fun w5 hb5=>?_;replace ⟨B,C,Q,U,R⟩:=Lp hb5 B C Q U R;replace B:=B.alloc B.size (.cells #[(0:Int),(0:Int),(0:Int),(0:Int)] 34);replace C:=C.alloc (.cells #[(0:Int),(0:Int),(0:Int),(0:Int)] 34);replace Q:=Q.alloc (.cells #[(0:Int),(0:Int),(0:Int),(0:Int)] 34);replace U:=U.alloc (.cells #[(0:Int),(0:Int),(0:Int),(0:Int)] 34);replace R:=R.alloc (.cells #[(0:Int),(0:Int),(0:Int),(0:Int)] 34);have V:=aG.new w5 #[(0:Int),(0:Int),(0:Int),(0:Int)] 34;(have ⟨v0,v1,v2,v3,_,_,_,_,vl⟩:=V.aI);have f_:=C.box.c0;have j_:=C.box.c1;(have ⟨q0,q1,q2⟩:=Q.aM);(have ⟨u0,u1,u2⟩:=U.aM);(have ⟨r0,r1,r2,r3,y0,y1,y2,y3,rl⟩:=R.aI))
  exact KU results71 ⟨rfl,Lv B⟩
 | some s=>
 replace PL:=fun g W h2=>PL s g W (hto s rfl) h2
 have e1:=KO (show (some s:M.Sp).isSome=true from rfl);rw [e1.out] at PH;clear e1 hto;have e2:=KO (show [(X1,Y1,E1),(X2,Y2,E2)].length=2 from rfl);rw [e2.out] at PL;clear e2;generalize M.Kh (some s)=i4,M.Kg (some s)=i3,M.Kf (some s)=i2,M.Kc (some s)=i1,eM a b (some s) [(X1,Y1,E1),(X2,Y2,E2)]=r at *;generalize r.isSome=fr,M.Kh r=k4,M.Kg r=k3,M.Kf r=k2,M.Kc r=k1 at *;replace PH:=KO PH;replace PL:=KO PL;obtain ⟨wc,hw3,C,Q,U,R,B⟩:=fP w #[a,b] 24 #[X1,Y1,E1] 47 #[X2,Y2,E2] 47 #[(0:Int),(0:Int),(0:Int),(0:Int)] 34;have f_:=C.box.c0;have j_:=C.box.c1;have ⟨q0,q1,q2⟩:=Q.aM;have ⟨u0,u1,u2⟩:=U.aM;go_enter func71,ntmps71
 go_wp2_with first | (with_reducible refine G_ PA fun w4 hb4=>?_;replace ⟨B,C,Q,U,R⟩:=Lp hb4 B C Q U R;replace B:=B.alloc B.size (.cells #[X3,Y3,E3] 47);replace C:=C.alloc (.cells #[X3,Y3,E3] 47);replace Q:=Q.alloc (.cells #[X3,Y3,E3] 47);replace U:=U.alloc (.cells #[X3,Y3,E3] 47);replace R:=R.alloc (.cells #[X3,Y3,E3] 47);have S:=aG.new w4 #[X3,Y3,E3] 47;(have ⟨z0,z1,z2⟩:=S.aM);have f_:=C.box.c0;have j_:=C.box.c1;(have ⟨q0,q1,q2⟩:=Q.aM);(have ⟨u0,u1,u2⟩:=U.aM);(have ⟨r0,r1,r2,r3,y0,y1,y2,y3,rl⟩:=R.aI)) | (with_reducible refine G_ PH fun w5 hb5=>?_;replace ⟨B,C,Q,U,R⟩:=Lp hb5 B C Q U R;replace B:=B.alloc B.size (.cells #[i1,i2,i3,i4] 34);replace C:=C.alloc (.cells #[i1,i2,i3,i4] 34);replace Q:=Q.alloc (.cells #[i1,i2,i3,i4] 34);replace U:=U.alloc (.cells #[i1,i2,i3,i4] 34);replace R:=R.alloc (.cells #[i1,i2,i3,i4] 34);have V:=aG.new w5 #[i1,i2,i3,i4] 34;(have ⟨v0,v1,v2,v3,_,_,_,_,vl⟩:=V.aI);have f_:=C.box.c0;have j_:=C.box.c1;(have ⟨q0,q1,q2⟩:=Q.aM);(have ⟨u0,u1,u2⟩:=U.aM);(have ⟨r0,r1,r2,r3,y0,y1,y2,y3,rl⟩:=R.aI);replace R:=R.alloc (.cells #[X1,Y1,E1,X2,Y2,E2] 47);have L:=aG.new (w5.alloc (.cells #[i1,i2,i3,i4] 34)) #[X1,Y1,E1,X2,Y2,E2] 47;(rw [KQ] at L);replace L:=KO (gy.two L)) | (with_reducible refine Km (PL.out _ _ L.out) fun w6 hb6=>?_;replace B:=(B.alloc B.size (.cells #[X1,Y1,E1,X2,Y2,E2] 47)).trans (hb6.mono (B.alloc B.size (.cells #[X1,Y1,E1,X2,Y2,E2] 47)).size);replace R:=R.keep hb6;(have ⟨r0,r1,r2,r3,y0,y1,y2,y3,rl⟩:=R.aI))
 exact KU results71 ⟨rfl,Lv B⟩
theorem SE {p:Prop} (h:p:=by
 rcases hv.out with h | h
 ·rw [h] at hx;cases hx
 exact h):p:=h
theorem ZI {p:Prop} (h:p:=by
 go_wp2_with (go_at_fn g;refine (hcall.out).mono ?_;rintro e w2 ⟨rfl,hb2⟩)
 go_roundw
 case rel=>exact ⟨k+1,ω,ν,hnx,bX hbr hb2⟩
 case measure=>simp [intOf];omega):p:=h
abbrev Pt:=Int × Int × Int
def jT (W:World) (v:Value) (l:List Pt):Prop:=∃ (a:Option Addr) (cap:Nat),v=.slice a l.length cap/\(l=[]∨∃ g,a=some ⟨g,0,none⟩/\gy W g l)
theorem jT.below {w w':World} {v:Value} {l:List Pt} (h:jT w v l) (hb:Below w w w'):jT w' v l:=by
 obtain ⟨a,cap,e,h⟩:=h;refine ⟨a,cap,e,?_⟩
 rcases h with h | ⟨g,e,h⟩
 ·exact Or.inl h
 exact Or.inr ⟨g,e,h.below hb⟩
def nG (w:World) (g o:Nat) (l:List Pt):Prop:=
 ∀ (k:Nat) (p:Pt),l[k]?=some p->w.cell? ⟨g,o+k*3,none⟩=some (.int .i64 p.1)/\w.cell? ⟨g,o+k*3+1,none⟩=some (.int .i64 p.2.1)/\w.cell? ⟨g,o+k*3+2,none⟩=some (.int .i64 p.2.2)
theorem nG.below {w w':World} {g o:Nat} {l:List Pt} (h:nG w g o l) (hb:Below w w w'):nG w' g o l:=fun k p hp=>by
 obtain ⟨h1,h2,h3⟩:=h k p hp;exact ⟨aE hb h1,aE hb h2,aE hb h3⟩
theorem gy.o {w:World} {g:Nat} {l:List Pt} (h:gy w g l):nG w g 0 l:=fun k p hp=>by
 rw [Nat.zero_add];exact h k p hp
def dC (W:World) (v:Value) (l:List Pt):Prop:=∃ (a:Option Addr) (cap:Nat),v=.slice a l.length cap/\(l=[]∨∃ g o,a=some ⟨g,o,none⟩/\nG W g o l)
theorem dC.below {w w':World} {v:Value} {l:List Pt} (h:dC w v l) (hb:Below w w w'):dC w' v l:=by
 obtain ⟨a,cap,e,h⟩:=h;refine ⟨a,cap,e,?_⟩
 rcases h with h | ⟨g,o,e,h⟩
 ·exact Or.inl h
 exact Or.inr ⟨g,o,e,h.below hb⟩
theorem jT.v {w:World} {v:Value} {l:List Pt} (h:jT w v l):dC w v l:=by
 obtain ⟨a,cap,e,h⟩:=h;refine ⟨a,cap,e,?_⟩
 rcases h with h | ⟨g,e,h⟩
 ·exact Or.inl h
 exact Or.inr ⟨g,0,e,h.o⟩
def CK (g:Nat) (lb:Array Value) (p:Pt->Bool) (xs:List Pt) (w:World):Prop:=
 ∀ (x:Pt) (_:x ∈ xs) (W:World),Below w w W->Calls prog g (#[.agg #[x.1,x.2.1,x.2.2]] ++ lb) W fun e W'=>e=.returned (.bool (p x))/\Below W W W'
theorem CS {p:Pt->Bool} {xs:List Pt} {k:Nat} {x:Pt} (hx:xs[k]?=some x) (h:(xs.take k).any p=false) (h':p x=false):(xs.take (k+1)).any p=false:=by
 rw [List.take_add_one,hx,List.any_append,h]
 simpa using h'
theorem ID {p:Pt->Bool} {xs:List Pt} {k:Nat} {x:Pt} (hx:xs[k]?=some x) (h':p x=true):xs.any p=true:=
 List.any_eq_true.2 ⟨x,List.mem_of_getElem? hx,h'⟩
theorem xS (g:Nat) (lb:Array Value) (eg:∀ args w,(callFunc g args).run prog w=.ok (.enter g args) w) (p:Pt->Bool) (v:Value) (xs:List Pt) (w:World) (hx:dC w v xs) (hn:xs.length<=4) (hp:CK g lb p xs w) :
  Calls prog 113 #[v,.func (.func g) #[] lb] w fun e w'=>∃ r:Int,e=.returned (.int .i64 r)/\(decide (0<=r)=xs.any p/\-1<=r/\r<=4)/\Below w w w':=by
 obtain ⟨a,cap,rfl,hv⟩:=hx;have hv:=KO hv;have hp:=KO hp
 obtain ⟨N,hN⟩:∃ N,Hid (xs.length=N):=⟨_,KO rfl⟩
 rw [hN.out] at hn ⊢;go_enter func113,ntmps113
 go_wp2
 go_loopw [5,8] (fun _ vi wr=>∃ k:Nat,k<=N/\vi=.int .i64 k/\Hid ((xs.take k).any p=false)/\Below w w wr) (fun _ vi _=>N - (intOf vi).toNat)
 case atStart=>exact ⟨0,ω,rfl,KO rfl,KS _ _⟩
 case round=>
 obtain ⟨k,hk,rfl,hall,hbr⟩:=hrel
 by_cases hlt:k<N
 ·obtain ⟨x,hx⟩:∃ x,xs[k]?=some x:=⟨_,List.getElem?_eq_getElem (by have:=hN.out;omega)⟩
  obtain ⟨b,o_,rfl,hpt⟩:∃ b o_,a=some ⟨b,o_,none⟩/\nG w b o_ xs:=by
   exact SE
  obtain ⟨d0,d1,d2⟩:=(hpt.below hbr) k x hx;have hcall:=hp.out x (List.mem_of_getElem? hx) wr hbr
  cases hq:p x
  ·rw [hq] at hcall
   have hcall:=KO hcall;have hnx:=KO (CS hx hall.out hq);clear hx hq hpt;obtain ⟨x1,x2,x3⟩:=x;simp only [] at d0 d1 d2 hcall
   exact ZI
  rw [hq] at hcall;have hcall:=KO hcall;have hf:=KO (ID hx hq);clear hx hq hpt;obtain ⟨x1,x2,x3⟩:=x;simp only [] at d0 d1 d2 hcall
  go_wp2_with (go_at_fn g;refine (hcall.out).mono ?_;rintro e w2 ⟨rfl,hb2⟩)
  go_ret;exact ⟨_,rfl,⟨by rw [hf.out];exact decide_eq_true ω,ω,ω⟩,bX hbr hb2⟩
 obtain rfl:k=N:=ω
 have Ls:=hall;rw [←hN.out,List.take_length] at Ls;go_wp2;go_ret;exact ⟨_,rfl,⟨by rw [Ls.out];rfl,ω,ω⟩,hbr⟩
theorem rM (g:Nat) (lb:Array Value) (eg:∀ args w,(callFunc g args).run prog w=.ok (.enter g args) w) (p:Pt->Bool) (v:Value) (xs:List Pt) (w:World) (hx:dC w v xs) (hn:xs.length<=4) (hp:CK g lb p xs w) :
  cB 63 #[v,.func (.func g) #[] lb] w (xs.any p):=by
 have P:=KO (xS g lb eg p v xs w hx hn hp);generalize xs.any p=t at *;clear hx hp;go_enter func63,ntmps63
 go_wp2_with (go_at_call 113;refine P.out.mono ?_;rintro e w2 ⟨r,rfl,⟨h1,h2,h3⟩,hb2⟩)
 go_ret;exact ⟨by rw [←h1];simp,hb2⟩
theorem xE (a b X Y E:Int) (cb:Nat) (w:World) (C:aG w cb 24 #[a,b]) :
  cB 64 #[.agg #[X,Y,E],.pointer (some ⟨cb,0,none⟩)] w (!(M.good a b && aV a b X Y E)):=by
 have PP:=KO fun W=>kh a b X Y E W
 generalize (M.good a b && aV a b X Y E)=t at *;have B:=(KS w w).alloc (KT _) (.cells #[X,Y,E] 47);have C2:=C.alloc (.cells #[X,Y,E] 47);have Q:=aG.new w #[X,Y,E] 47;generalize hw3:w.alloc (.cells #[X,Y,E] 47)=wc at *;have f_:=C2.box.c0;have j_:=C2.box.c1;have ⟨q0,q1,q2⟩:=Q.aM;go_enter func64,ntmps64
 go_wp2_with (with_reducible refine G_ PP fun w4 hb4=>?_)
 go_ret;exact ⟨rfl,p_ B hb4⟩
theorem ZE {p:Prop} (h:p:=by
 go_wp2_with first | (with_reducible refine G_ PC fun w4 hb4=>?_;replace B:=p_ B hb4) | (with_reducible refine Kw (PI.out _) ?_)
 go_ret;exact ⟨by rw [hfin.out];rfl,B⟩):p:=h
namespace M
noncomputable def ai (a b:Int) (l:List Pt):Bool:=good a b && ins l.length 1 4 && l.all (fun p=>aV a b p.1 p.2.1 p.2.2)
theorem BK {a b:Int} {l:List Pt} (h:good a b=false):ai a b l=false:=by unfold ai;rw [h];rfl
theorem BJ {a b:Int} {l:List Pt} (hg:good a b=true):(!l.any (fun x=>!(good a b && aV a b x.1 x.2.1 x.2.2)))=l.all (fun p=>aV a b p.1 p.2.1 p.2.2):=by
 rw [hg,List.not_any_eq_all_not]
 congr 1
 funext x
 simp
end M
theorem er (a b:Int) (v:Value) (l:List Pt) (w:World) (hx:dC w v l) (hn:l.length<=4000000) :
  cB 28 #[.agg #[a,b],v] w (ai a b l):=by
 have PC:=KO fun W=>sH a b W
 obtain ⟨sa,cap,rfl,hv⟩:=hx;have hx:=KO (show dC w (.slice sa l.length cap) l from ⟨sa,cap,rfl,hv⟩);clear hv
 have PF:=KO fun W (h:dC W (.slice sa l.length cap) l) (hn:l.length<=4) (C:aG W w 24 #[a,b])=>rM 64 #[.pointer (some ⟨w,0,none⟩)] (fun _ _=>rfl) (fun x=>!(M.good a b && aV a b x.1 x.2.1 x.2.2)) (.slice sa l.length cap) l W h hn (fun x _ W' hb=>xE a b x.1 x.2.1 x.2.2 w W' (C.keep hb))
 have PI:=KO fun W=>dW l.length 1 4 W
 have hpl:=KO (show ai a b l=(M.good a b && M.ins l.length 1 4 && l.all (fun p=>aV a b p.1 p.2.1 p.2.2)) from rfl)
 have han:=KO fun h=>BJ (a:=a) (b:=b) (l:=l) h
 have hbd:M.ins l.length 1 4=true->l.length<=4:=fun h=>by
  unfold M.ins at h;simp only [Bool.and_eq_true,decide_eq_true_eq] at h;omega
 have hbd:=KO hbd;have B:=(KS w w).alloc (KT _) (.cells #[a,b] 24);have C:=aG.new w #[a,b] 24;replace hx:=KO (hx.out.below B);generalize hw3:w.alloc (.cells #[a,b] 24)=wc at *;have f_:=C.box.c0;have j_:=C.box.c1
 cases hg:M.good a b
 ·have hfin:=KO (BK (l:=l) hg)
  rw [hg] at PC;clear hpl han hg;generalize l.length=N,ai a b l=pl at *;go_enter func28,ntmps28
  go_wp2_with (with_reducible refine G_ PC fun w4 hb4=>?_;replace B:=p_ B hb4)
  go_ret;exact ⟨by rw [hfin.out];rfl,B⟩
 cases hi:M.ins l.length 1 4
 ·have hfin:=KO (show ai a b l=false by rw [hpl.out,hi,Bool.and_false];rfl)
  rw [hg] at PC;rw [hi] at PI;clear hpl han hg hi hbd PF hx;generalize l.length=N,ai a b l=pl at *;go_enter func28,ntmps28
  exact ZE
 have hfin:=KO (show ai a b l=!l.any (fun x=>!(M.good a b && aV a b x.1 x.2.1 x.2.2)) by rw [han.out hg,hpl.out,hi,hg];rfl);have W3:=KO (hbd.out hi);rw [hg] at PC;rw [hi] at PI
 replace PF:=KO fun W h=>PF.out W h W3.out
 clear hpl han hg hi hbd;generalize l.length=N,ai a b l=pl,l.any (fun x=>!(M.good a b && aV a b x.1 x.2.1 x.2.2))=t at *;go_enter func28,ntmps28
 go_wp2_with first | (with_reducible refine G_ PC fun w4 hb4=>?_;replace ⟨B,C⟩:=Kt hb4 B C;replace hx:=KO (hx.out.below hb4)) | (with_reducible refine Kw (PI.out _) ?_) | (go_at_call 63;(refine (PF.out _ hx.out C).mono ?_);rintro e w6 ⟨rfl,hb6⟩;replace B:=p_ B hb6)
 go_ret;exact ⟨by rw [hfin.out];rfl,B⟩
theorem gj (a b:Int) (v:Value) (l:List Pt) (w:World) (hx:dC w v l) (hn:l.length<=4000000) :
  cB 31 #[.agg #[a,b],v] w (ai a b l):=by
 have PC:=KO fun W=>jo a b W
 obtain ⟨sa,cap,rfl,hv⟩:=hx;have hv:=KO hv
 have PI:=KO fun W=>eW l.length 1 4 W
 have hpl:=KO (show ai a b l=(M.good a b && M.ins l.length 1 4 && l.all (fun p=>aV a b p.1 p.2.1 p.2.2)) from rfl);obtain ⟨wc,hw3,C,B⟩:=cJ w #[a,b] 24
 obtain ⟨N,hN⟩:∃ N,Hid (l.length=N):=⟨_,KO rfl⟩
 rw [hN.out] at hn PI hpl ⊢;go_enter func31,ntmps31
 go_wp2
 go_loopw [9] (fun vi wr=>∃ k:Nat,k<=N/\vi=.int .i64 k/\Hid ((l.take k).all (fun p=>M.good a b && aV a b p.1 p.2.1 p.2.2)=true)/\aG wr w 24 #[a,b]/\Below w w wr) (fun vi _=>N - (intOf vi).toNat)
 case atStart=>exact ⟨0,Nat.zero_le _,rfl,KO rfl,C,B⟩
 case round=>
 clear C B hw3;obtain ⟨k,hk,rfl,hall,C,B⟩:=hrel
 by_cases hlt:k<N
 ·obtain ⟨x,hx⟩:∃ x,l[k]?=some x:=⟨_,List.getElem?_eq_getElem (by have:=hN.out;omega)⟩
  obtain ⟨g,o_,rfl,hpt⟩:∃ g o_,sa=some ⟨g,o_,none⟩/\nG w g o_ l:=by
   exact SE
  obtain ⟨d0,d1,d2⟩:=(hpt.below B) k x hx
  have PP:=fun W=>jb a b x.1 x.2.1 x.2.2 W
  have hmem:=List.mem_of_getElem? hx
  have hnx:(M.good a b && aV a b x.1 x.2.1 x.2.2)=true->(l.take (k+1)).all (fun p=>M.good a b && aV a b p.1 p.2.1 p.2.2)=true:=fun h=>by
   rw [List.take_add_one,hx,List.all_append,hall.out]
   simpa using h
  have hbad:(M.good a b && aV a b x.1 x.2.1 x.2.2)=false->ai a b l=false:=fun h=>by
   cases hp:ai a b l
   ·rfl
   rw [hpl.out] at hp;simp only [Bool.and_eq_true,List.all_eq_true] at hp;have:=hp.2 x hmem;rw [hp.1.1,this] at h;cases h
  generalize (M.good a b && aV a b x.1 x.2.1 x.2.2)=t at *;obtain ⟨x1,x2,x3⟩:=x;simp only [] at d0 d1 d2 PP;clear hx hmem hpt;replace PP:=KO PP;replace hnx:=KO hnx;replace hbad:=KO hbad;replace B:=B.alloc B.size (.cells #[x1,x2,x3] 47);have Z:=aG.new wr #[x1,x2,x3] 47;replace C:=C.alloc (.cells #[x1,x2,x3] 47);have f_:=C.box.c0;have j_:=C.box.c1;have ⟨z0,z1,z2⟩:=Z.aM;cases t
  ·have hfin:=KO (hbad.out rfl)
   go_wp2_with (with_reducible refine G_ PP fun w4 hb4=>?_;replace B:=p_ B hb4)
   go_ret;exact ⟨by rw [hfin.out];rfl,B⟩
  have hny:=KO (hnx.out rfl);clear hnx
  go_wp2_with (with_reducible refine G_ PP fun w4 hb4=>?_;replace ⟨B,C⟩:=Kt hb4 B C)
  go_roundw
  case rel=>exact ⟨k+1,ω,σ,hny,C,B⟩
  case measure=>simp [intOf] <;> omega
 obtain rfl:k=N:=ω
 have e0:l.take k=l:=by rw [←hN.out];exact List.take_length
 rw [e0] at hall
 have hfin:ai a b l=(M.good a b && M.ins (k:Int) 1 4):=by
  rw [hpl.out]
  cases hg:M.good a b
  ·rfl
  have:=hall.out;rw [hg] at this;simp only [Bool.true_and] at this;rw [this,Bool.and_true]
 have hfin:=KO hfin;clear hpl hall;have f_:=C.box.c0;have j_:=C.box.c1;generalize M.good a b=gd at *;generalize M.ins (k:Int) 1 4=ii at *;cases gd
 all_goals
  exact ZE
theorem Uf {p:Prop} (h:p:=by
 intro i z q hz hq
 by_cases hlt:i<vs.length
 ·rw [List.getElem?_append_left hlt] at hz
  rw [List.getElem?_append_left ω] at hq;exact hal (h3 i z q hz hq)
 rw [List.getElem?_append_right ω] at hz;rw [List.getElem?_append_right ω,←h2] at hq
 have hi0:i - vs.length=0:=by
  rcases Nat.eq_zero_or_pos (i - vs.length) with e | e
  ·exact e
  rw [List.getElem?_eq_none (by simp;omega)] at hz;cases hz
 rw [hi0] at hz hq;simp only [List.getElem?_cons_zero,Option.some.injEq] at hz hq;subst hz hq;exact hal hu):p:=h
theorem YI {p:Prop} (h:p:=by
 obtain ⟨⟨h1,h2⟩,h3,h4,h5⟩:=h
 rcases h2 with ⟨rfl,hn⟩ | ⟨g,cap,cur,rfl,hg,hh,hc,hm,hs,ht⟩
 ·exact ⟨none,0,by rw [hn],ω,fun k hk=>ω⟩
 refine ⟨some ⟨g,0,none⟩,cap,rfl,by unfold maxLen at hm;omega,fun k hk=>⟨g,vs[k]' ω,rows[k],rfl,(Array.getElem?_eq_some_iff.1 hh).1,List.getElem?_eq_getElem hk,List.getElem?_eq_getElem ω,?_,h4 k _ _ (List.getElem?_eq_getElem ω) (List.getElem?_eq_getElem hk)⟩⟩;rw [cell_of_row w g k cur _ (0,0) hh];have e:vs[k]?=some (vs[k]' ω):=List.getElem?_eq_getElem ω;generalize vs[k]' ω=q at e ⊢;rw [←ht,List.getElem?_take] at e
 split at e
 ·simpa using e
 cases e):p:=h
theorem Uu {p:Prop} (h:p:=by rw [List.pairwise_append];refine ⟨h4,σ,fun z hz z' hz' g hg hg'=>?_⟩;simp only [List.mem_singleton] at hz';subst hz';exact hnew g hg' z hz hg):p:=h
theorem Yd {p:Prop} (h:p:=by
 obtain ⟨h1,h2,h3,h4⟩:=h;refine ⟨?_,h2,fun i u r hu hr=>(h3 i u r hu hr).down hb,h4⟩;obtain ⟨a1,a2⟩:=h1;refine ⟨a1,?_⟩
 rcases a2 with a2 | ⟨g,cap,cur,hv,hg,hh,r⟩
 ·exact Or.inl a2
 exact Or.inr ⟨g,cap,cur,hv,Nat.le_trans hb hg,hh,r⟩):p:=h
theorem Yu {p:Prop} (h:p:=by obtain ⟨h1,h2,h3,h4⟩:=h;intro z hz g hg;obtain ⟨i,hi⟩:=List.getElem?_of_mem hz;have hil:=(List.getElem?_eq_some_iff.1 hi).1;exact World.ownsRow.lt (h3 i z _ hi (List.getElem?_eq_getElem ω)) g hg):p:=h
theorem ZT {p:Prop} (h:p:=by obtain ⟨h1,h2,h3,h4⟩:=h;exact ⟨World.ownsRow.kept h1 (bT hb none) (by cases v.ownBlock <;> simp),h2,fun i u r hu hr=>(h3 i u r hu hr).below hb,h4⟩):p:=h
theorem Rw.uA {α:Type} {E:Rw.Enc α} {v:Value} {w:World} {base:Nat} {xs:List α} (h:Rw.Own E w base v xs):v.oneCell'=true:=by
 rcases h.2 with ⟨rfl,-⟩ | ⟨g,cap,cur,rfl,-⟩ <;> rfl
def EN:Rw.Enc (Int × Int × Int × Int) where
 t:=34
 k:=4
 cells:=fun q=>[.int .i64 q.1,.int .i64 q.2.1,.int .i64 q.2.2.1,.int .i64 q.2.2.2]
 len:=fun _=>rfl
 one:=fun x u hu=>by simp only [List.mem_cons,List.not_mem_nil,or_false] at hu;rcases hu with rfl | rfl | rfl | rfl <;> rfl
 pos:=δ
theorem Js:(prog.info? 34).map (fun i=>(i.zero,i.size,i.bytes))=some (some (.agg #[(0:Int),(0:Int),(0:Int),(0:Int)]),4,32):=κ
theorem ro:Rw.Fits prog EN 56:=⟨Tryz.underlying56,by
 obtain ⟨i0,hi,hz0,hz1,hz2⟩:=info_parts Js
 exact ⟨i0,_,hi,hz0,hz1,ω,rfl⟩⟩
theorem Db:(prog.info? 56).map (fun i=>(i.zero,i.size,i.bytes))=some (some (.slice none 0 0),1,24):=κ
theorem neN:(56:TypeId)≠34:=δ
def cH (w:World) (base:Nat) (v:Value) (vs:List Value) (rows:List (List (Int × Int × Int × Int))):Prop:=
 w.ownsRow base 56 1 v rows.length vs/\vs.length=rows.length/\(∀ (i:Nat) (u:Value) (r:List (Int × Int × Int × Int)),vs[i]?=some u->rows[i]?=some r->Rw.Own EN w base u r)/\
  vs.Pairwise (fun u u'=>∀ g,u.ownBlock=some g->u'.ownBlock≠some g)
theorem cH.nil (w:World) (base:Nat):cH w base (.slice none 0 0) [] []:=⟨World.ownsRow_nil w base _ 1,rfl,fun i u r h=>by simp at h,List.Pairwise.nil⟩
theorem cH.base {w:World} {base base':Nat} {v:Value} {vs:List Value} {rows:List (List (Int × Int × Int × Int))} (h:cH w base v vs rows) (hb:base'<=base):cH w base' v vs rows:=by
 exact Yd
theorem cH.below {w w':World} {base:Nat} {v:Value} {vs:List Value} {rows:List (List (Int × Int × Int × Int))} (h:cH w base v vs rows) (hb:Below w w w'):cH w' base v vs rows:=by
 exact ZT
theorem cH.alloc {w:World} {base:Nat} {v:Value} {vs:List Value} {rows:List (List (Int × Int × Int × Int))} (h:cH w base v vs rows) (o:Obj):cH (w.alloc o) base v vs rows:=
 h.below ((KS _ _).alloc (KT _) _)
theorem cH.lt {w:World} {base:Nat} {v:Value} {vs:List Value} {rows:List (List (Int × Int × Int × Int))} (h:cH w base v vs rows):∀ z ∈ vs,∀ g,z.ownBlock=some g->base<=g/\g<w.heap.size:=by
 exact Yu
theorem sc {ops:Array Oper} {rest:List Oper} {o:Oper} {a:Act} {Q:Exit->Act->World->Prop} {w W:World} (base:Nat) (u:Value) (r:List (Int × Int × Int × Int)) (vs:List Value) (rows:List (List (Int × Int × Int × Int))) (v:Value) (H:Nat) (hH:w.heap.size=H) (hgd:o.guard=none) (s x:Operand)
  (ho:o.op=.call { callee:=.builtin .append,args:=#[s,x],argTypes:=#[28,28] }) (hs:a.eval s=v) (hx:a.eval x=.slice (some ⟨H,0,none⟩) 1 1)
  (hown:cH w base v vs rows) (hu:Rw.Own EN w base u r) (hnew:∀ g,u.ownBlock=some g->∀ z ∈ vs,z.ownBlock≠some g)
  (hW:Below base W w) (hB:base<=w.heap.size) (hl:rows.length<=1000000000)
  (h:∀ v' w',cH w' base v' (vs ++ [u]) (rows ++ [r])->Below base W w'->wpList prog ops Q rest (a.put o.dst v') w') :
  wpList prog ops Q (o :: rest) a (w.alloc (.cells #[u] 56)):=by
 subst hH;obtain ⟨i0,hi,hz0,hz1,hz2⟩:=info_parts Db;obtain ⟨h1,h2,h3,h4⟩:=hown
 refine wpList_append_own _ hgd s x 28 ho base 56 i0 (.slice none 0 0) 1 24 Tryz.underlying28 hi hz0 hz1 hz2 rfl δ v rows.length vs hs (h1.alloc _) ⟨w,0,none⟩ 1 1 [u] hx rfl (fun j z hz=>by
  have hadd:(⟨w,0,none⟩:Addr).add j=⟨w,j,none⟩:=by unfold Addr.add;split <;> simp_all
  rw [hadd,World.cell?_alloc_at _ _ _ _ rfl]
  simpa using hz) (fun z hz=>by simp only [List.mem_singleton] at hz;subst hz;exact uA hu) ?_ ?_ ?_ ?_
 ·unfold maxLen;omega
 ·omega
 ·simp;omega
 intro v' w' k1 k2 _;refine h v' w' ⟨by rw [List.length_append];exact k1,by rw [List.length_append,List.length_append,h2];rfl,?_,?_⟩ ((hW.alloc hB _).grown k2 (by simp;omega) fun k hk=>(h1.lt k hk).1)
 ·have hal:∀ {z:Value} {q:List (Int × Int × Int × Int)},Rw.Own EN w base z q->Rw.Own EN w' base z q:=by
   intro z q hz;have hz':Rw.Own EN (w.alloc (.cells #[u] 56)) base z q:=World.ownsRow.alloc hz _
   refine hz'.kept k2 fun g hg=>?_
   exact gL (t1:=34) (t2:=56) hz' (World.ownsRow.alloc h1 _) (Ne.symm neN) g hg
  exact Uf
 exact Uu
theorem cH.view {w:World} {base:Nat} {v:Value} {vs:List Value} {rows:List (List (Int × Int × Int × Int))} (h:cH w base v vs rows):∃ (a:Option Addr) (cap:Nat),v=.slice a rows.length cap/\(rows.length:Int)<=9223372036854775807/\
  ∀ k,k<rows.length->∃ g u r,a=some ⟨g,0,none⟩/\g<w.heap.size/\Hid (rows[k]?=some r)/\Hid (vs[k]?=some u)/\w.cell? ⟨g,k,none⟩=some u/\Rw.Own EN w base u r:=by
 exact YI
def EP:Rw.Enc (Int × Int) where
 t:=72
 k:=2
 cells:=fun q=>[.int .i64 q.1,.int .i64 q.2]
 len:=fun _=>rfl
 one:=fun x u hu=>by simp only [List.mem_cons,List.not_mem_nil,or_false] at hu;rcases hu with rfl | rfl <;> rfl
 pos:=δ
theorem Dc:(prog.info? 72).map (fun i=>(i.zero,i.size,i.bytes))=some (some (.agg #[(0:Int),(0:Int)]),2,16):=κ
theorem HS:Rw.Fits prog EP 70:=⟨Tryz.underlying70,by
 obtain ⟨i0,hi,hz0,hz1,hz2⟩:=info_parts Dc
 exact ⟨i0,_,hi,hz0,hz1,ω,rfl⟩⟩
theorem Dd:(prog.info? 70).map (fun i=>(i.zero,i.size,i.bytes))=some (some (.slice none 0 0),1,24):=κ
theorem neP:(70:TypeId)≠72:=δ
def bj (w:World) (base:Nat) (v:Value) (vs:List Value) (rows:List (List (Int × Int))):Prop:=
 w.ownsRow base 70 1 v rows.length vs/\vs.length=rows.length/\(∀ (i:Nat) (u:Value) (r:List (Int × Int)),vs[i]?=some u->rows[i]?=some r->Rw.Own EP w base u r)/\
  vs.Pairwise (fun u u'=>∀ g,u.ownBlock=some g->u'.ownBlock≠some g)
theorem bj.nil (w:World) (base:Nat):bj w base (.slice none 0 0) [] []:=⟨World.ownsRow_nil w base _ 1,rfl,fun i u r h=>by simp at h,List.Pairwise.nil⟩
theorem bj.base {w:World} {base base':Nat} {v:Value} {vs:List Value} {rows:List (List (Int × Int))} (h:bj w base v vs rows) (hb:base'<=base):bj w base' v vs rows:=by
 exact Yd
theorem bj.below {w w':World} {base:Nat} {v:Value} {vs:List Value} {rows:List (List (Int × Int))} (h:bj w base v vs rows) (hb:Below w w w'):bj w' base v vs rows:=by
 exact ZT
theorem bj.alloc {w:World} {base:Nat} {v:Value} {vs:List Value} {rows:List (List (Int × Int))} (h:bj w base v vs rows) (o:Obj):bj (w.alloc o) base v vs rows:=
 h.below ((KS _ _).alloc (KT _) _)
theorem bj.lt {w:World} {base:Nat} {v:Value} {vs:List Value} {rows:List (List (Int × Int))} (h:bj w base v vs rows):∀ z ∈ vs,∀ g,z.ownBlock=some g->base<=g/\g<w.heap.size:=by
 exact Yu
theorem bj.view {w:World} {base:Nat} {v:Value} {vs:List Value} {rows:List (List (Int × Int))} (h:bj w base v vs rows):∃ (a:Option Addr) (cap:Nat),v=.slice a rows.length cap/\(rows.length:Int)<=9223372036854775807/\
  ∀ k,k<rows.length->∃ g u r,a=some ⟨g,0,none⟩/\g<w.heap.size/\Hid (rows[k]?=some r)/\Hid (vs[k]?=some u)/\w.cell? ⟨g,k,none⟩=some u/\Rw.Own EP w base u r:=by
 exact YI
namespace M
noncomputable def ent (a b:Int) (l:List Pt) (i j:Nat):Sp:=match l[i]?,l[j]? with
 | some p,some q=>if i=j then gB a b p.1 p.2.2 else if i<j then ep a b p.1 p.2.1 p.2.2 q.1 q.2.1 q.2.2 else ep a b q.1 q.2.1 q.2.2 p.1 p.2.1 p.2.2
 | _,_=>none
noncomputable def Mo (s:Sp):Int × Int × Int × Int:=(Kc s,Kf s,Kg s,Kh s)
noncomputable def Ld (a b:Int) (l:List Pt):Bool:=(List.range l.length).all fun i=>(List.range l.length).all fun j=>(ent a b l i j).isSome
noncomputable def mX (a b:Int) (l:List Pt) (i:Nat):List (Int × Int × Int × Int):=(List.range l.length).map fun j=>Mo (ent a b l i j)
noncomputable def mY (a b:Int) (l:List Pt):List (List (Int × Int × Int × Int)):=if Ld a b l=true then (List.range l.length).map (mX a b l) else []
theorem mM (a b:Int) (l:List Pt) (i j:Nat):ent a b l i j=ent a b l j i:=by
 by_cases h:i=j
 ·subst h;rfl
 unfold ent
 cases l[i]? with
 | none=>cases l[j]? <;> rfl
 | some p=>cases l[j]? with
  | none=>rfl
  | some q=>
  simp only []
  have h':¬ j=i:=fun e=>h e.symm
  simp only [h,h',if_false]
  rcases Nat.lt_or_ge i j with q1 | q1
  ·rw [if_pos q1,if_neg ω]
  rw [if_neg ω,if_pos ω]
theorem vE {a b:Int} {l:List Pt} {i:Nat} {p:Pt} (h:l[i]?=some p):ent a b l i i=gB a b p.1 p.2.2:=by
 unfold ent;rw [h];simp
theorem vD {a b:Int} {l:List Pt} {i j:Nat} {p q:Pt} (h1:l[i]?=some p) (h2:l[j]?=some q) (h:i<j):ent a b l i j=ep a b p.1 p.2.1 p.2.2 q.1 q.2.1 q.2.2:=by
 unfold ent;rw [h1,h2];simp only [];rw [if_neg ω,if_pos h]
theorem Dp {a b:Int} {l:List Pt} {i j:Nat} (hi:i<l.length) (hj:j<l.length) (h:ent a b l i j=none):Ld a b l=false:=by
 cases hm:Ld a b l
 ·rfl
 unfold Ld at hm;simp only [List.all_eq_true,List.mem_range] at hm;have:=hm i hi j hj;rw [h] at this;cases this
theorem zA {a b:Int} {l:List Pt} (h:∀ i,i<l.length->∀ j,j<l.length->(ent a b l i j).isSome=true):Ld a b l=true:=by
 unfold Ld;simp only [List.all_eq_true,List.mem_range];exact h
theorem vV {a b:Int} {l:List Pt} (h:Ld a b l=false):mY a b l=[]:=by
 unfold mY;rw [h];rfl
theorem sQ {a b:Int} {l:List Pt} (h:Ld a b l=true):mY a b l=(List.range l.length).map (mX a b l):=by
 unfold mY;rw [h];rfl
end M
def cZ (w:World) (base:Nat) (v:Value) (rows:List (List (Int × Int × Int × Int))):Prop:=∃ vs,cH w base v vs rows
theorem cZ.below {w w':World} {base:Nat} {v:Value} {rows:List (List (Int × Int × Int × Int))} (h:cZ w base v rows) (hb:Below w w w'):cZ w' base v rows:=h.elim fun vs k=>⟨vs,k.below hb⟩
theorem cZ.base {w:World} {base base':Nat} {v:Value} {rows:List (List (Int × Int × Int × Int))} (h:cZ w base v rows) (hb:base'<=base):cZ w base' v rows:=h.elim fun vs k=>⟨vs,k.base hb⟩
theorem cZ.nil (w:World) (base:Nat):cZ w base (.slice none 0 0) []:=⟨[],cH.nil w base⟩
theorem cZ.at {w:World} {base:Nat} {v:Value} {rows:List (List (Int × Int × Int × Int))} (h:cZ w base v rows) {i j:Nat} {r:List (Int × Int × Int × Int)} {q:Int × Int × Int × Int} (hr:rows[i]?=some r) (hq:r[j]?=some q) :
  ∃ (g cap g2 cap2:Nat),v=.slice (some ⟨g,0,none⟩) rows.length cap/\w.cell? ⟨g,i,none⟩=some (.slice (some ⟨g2,0,none⟩) r.length cap2)/\w.cell? ⟨g2,j*4,none⟩=some (.int .i64 q.1)/\w.cell? ⟨g2,j*4+1,none⟩=some (.int .i64 q.2.1)/\w.cell? ⟨g2,j*4+2,none⟩=some (.int .i64 q.2.2.1)/\w.cell? ⟨g2,j*4+3,none⟩=some (.int .i64 q.2.2.2):=by
 obtain ⟨vs,h⟩:=h;obtain ⟨a,cap,rfl,-,hv⟩:=h.view;obtain ⟨g,u,r',rfl,-,h1,-,h2,h3⟩:=hv i (List.getElem?_eq_some_iff.1 hr).1
 have e:r'=r:=by
  have:=h1.out;rw [hr] at this;exact (Option.some.inj this).symm
 subst e
 rcases h3.forms with ⟨-,h4⟩ | ⟨g2,cap2,rfl,-,-,-,-⟩
 ·rw [h4] at hq;cases hq
 have hc:=fun t (ht:t<4)=>(h3.cellAt rfl (j*4+t) _ ((Rw.flat_get EN r' j t q hq ht).trans (List.getElem?_eq_getElem (by rw [EN.len];exact ht)))).1
 exact ⟨g,cap,g2,cap2,rfl,h2,hc 0 δ,hc 1 δ,hc 2 δ,hc 3 δ⟩
theorem U9 {p:Prop} (h:p:=by have:=hle.out;simp only [List.length_cons,List.length_nil];omega):p:=h
theorem Zx {p:Prop} (h:p:=by
 go_roundw
 case rel=>exact ⟨k+1,ω,ν,hnx,by rw [jI,he.out,hq.out];exact KO hown6,hb6⟩
 case measure=>simp [intOf] <;> omega):p:=h
theorem VJ {p:Prop} (h:p:=by rw [List.getElem?_map,List.getElem?_range h];rfl):p:=h
theorem jI {α:Type} (f:Nat->α) (k:Nat):(List.range (k+1)).map f=(List.range k).map f ++ [f k]:=by
 rw [List.range_succ,List.map_append];rfl
theorem wE {α:Type} (f:Nat->α) {k n:Nat} (h:k<n):((List.range n).map f)[k]?=some (f k):=by
 exact VJ
theorem jC (a b:Int) (v:Value) (l:List Pt) (w:World) (hx:dC w v l) (hg:M.good a b=true) (hn:l.length<=4) (hp:∀ p ∈ l,aV a b p.1 p.2.1 p.2.2=true) :
  Calls prog 32 #[.agg #[a,b],v] w fun e w'=>∃ mv,e=.returned (.tuple #[mv,M.Ld a b l])/\cZ w' w mv (mY a b l)/\Below w w w':=by
 have hin:=ae hg;obtain ⟨sa,cap,rfl,hv⟩:=hx;have hv:=KO hv;have hp:=KO hp
 obtain ⟨N,hN⟩:∃ N,Hid (l.length=N):=⟨_,KO rfl⟩
 rw [hN.out] at hn ⊢
 have hno:=KO fun i j h1 h2 h=>Dp (a:=a) (b:=b) (l:=l) (i:=i) (j:=j) h1 h2 h
 have hrn:=KO fun h=>vV (a:=a) (b:=b) (l:=l) h
 obtain ⟨wc,hw3,C,B⟩:=cJ w #[a,b] 24;go_enter func32,ntmps32
 go_wp2
 go_loopw [6,16] (fun vo vi wr=>∃ i:Nat,i<=N/\vi=.int .i64 i/\Hid (∀ i',i'<i->∀ j,j<l.length->(M.ent a b l i' j).isSome=true)/\Hid (cZ wr wc vo ((List.range i).map (mX a b l)))/\Below wc wc wr) (fun _ vi _=>N - (intOf vi).toNat)
 case atStart=>exact ⟨0,Nat.zero_le _,rfl,KO (fun i' h=>absurd h ω),KO (cZ.nil _ _),KS _ _⟩
 case round=>
 obtain ⟨i,hi,rfl,hall,W2,Bc⟩:=hrel;have hB0:=B.size;replace ⟨B,C⟩:=Kt Bc B C
 by_cases hlt:i<N
 ·obtain ⟨x,hx⟩:∃ x,l[i]?=some x:=⟨_,List.getElem?_eq_getElem (by have:=hN.out;omega)⟩
  obtain ⟨g,o_,rfl,hpt⟩:∃ g o_,sa=some ⟨g,o_,none⟩/\nG w g o_ l:=by
   exact SE
  have hpt:=KO hpt;obtain ⟨d0,d1,d2⟩:=(hpt.out.below B) i x hx;have hpx:=hp.out x (List.mem_of_getElem? hx);have hx:=KO hx;obtain ⟨x1,x2,x3⟩:=x;simp only [] at d0 d1 d2 hpx;have hb1:=df hin hpx
  have PS:=KO fun W=>DX a b x1 x2 x3 W hg hb1.1 hb1.2.1 hb1.2.2.1 hb1.2.2.2.1
  clear hb1;have B1:=B.alloc B.size (.cells #[x1,x2,x3] 47);have B1c:=Bc.alloc Bc.size (.cells #[x1,x2,x3] 47);have Z:=aG.new wr #[x1,x2,x3] 47;have C1:=C.alloc (.cells #[x1,x2,x3] 47);have hwi:=KQ wr (.cells #[x1,x2,x3] 47);have hm1:=KO (W2.out.below ((KS _ wr).alloc (KT _) (.cells #[x1,x2,x3] 47)));generalize hw1:wr.alloc (.cells #[x1,x2,x3] 47)=wi at *;go_wp2
  go_loopw [9,23] (fun vr vk wq=>∃ k:Nat,k<=N/\vk=.int .i64 k/\Hid (∀ j,j<k->(M.ent a b l i j).isSome=true)/\Hid (Rw.Own EN wq wi vr ((List.range k).map fun j=>M.Mo (M.ent a b l i j)))/\Below wi wi wq) (fun _ vk _=>N - (intOf vk).toNat)
  case atStart=>exact ⟨0,Nat.zero_le _,rfl,KO (fun j h=>absurd h ω),KO (Rw.Own.nil EN _ _),KS _ _⟩
  case round=>
  clear d0 d1 d2;obtain ⟨k,hk,rfl,Ls,hrow,Bq⟩:=hrel;have hsz:=B.size;have K8:=Bq.size
  by_cases hlt2:k<N
  ·obtain ⟨y,hy⟩:∃ y,l[k]?=some y:=⟨_,List.getElem?_eq_getElem (by have:=hN.out;omega)⟩
   obtain ⟨d0,d1,d2⟩:=((hpt.out.below B1).below Bq) k y hy;have hpy:=hp.out y (List.mem_of_getElem? hy);obtain ⟨y1,y2,y3⟩:=y;simp only [] at d0 d1 d2 hpy;have hy:=KO hy;have Oq:=KO (hm1.out.below Bq);have B2:=Bq.alloc Bq.size (.cells #[y1,y2,y3] 47);have ZY:=aG.new wr #[y1,y2,y3] 47;have Z2:=(Z.keep Bq).alloc (.cells #[y1,y2,y3] 47);have C2:=(C1.keep Bq).alloc (.cells #[y1,y2,y3] 47);have hrow2:=KO (Rw.Own.alloc hrow.out (.cells #[y1,y2,y3] 47));have f_:=C2.box.c0;have j_:=C2.box.c1;have ⟨z0,z1,z2⟩:=Z2.aM;have ⟨t0,t1,t2⟩:=ZY.aM
   have hle:((List.range k).map fun j=>M.Mo (M.ent a b l i j)).length<=4:=by rw [List.length_map,List.length_range];omega
   have hle:=KO hle
   have Ln:(M.ent a b l i k).isSome=true->(∀ j,j<k+1->(M.ent a b l i j).isSome=true):=fun h j hj=>by
    rcases Nat.lt_or_ge j k with q | q
    ·exact Ls.out j q
    obtain rfl:j=k:=ω
    exact h
   have Ln:=KO Ln
   rcases Nat.lt_trichotomy k i with hc | hc | hc
   ·have hent:=hall.out k hc i (by have:=hN.out;omega)
    rw [mM] at hent;have hnx:=KO (Ln.out hent);obtain ⟨gm,cm,g2,c2,rfl,m0,m1,m2,m3,m4⟩:=(Oq.out.below ((KS _ wr).alloc (KT _) (.cells #[y1,y2,y3] 47))).at (wE (mX a b l) hc) (show (mX a b l k)[i]?=some _ from wE _ (by have:=hN.out;omega));rw [mM] at m1 m2 m3 m4
    have hrl:(mX a b l k).length=N:=by unfold mX;rw [List.length_map,List.length_range];exact hN.out
    rw [hrl] at m0
    have hrm:((List.range i).map (mX a b l)).length=i:=by rw [List.length_map,List.length_range]
    simp only [hrm]
    obtain ⟨q,hq⟩:∃ q,Hid (M.Mo (M.ent a b l i k)=q):=⟨_,KO rfl⟩
    rw [hq.out] at m1 m2 m3 m4;obtain ⟨q1,q2,q3,q4⟩:=q;simp only [] at m1 m2 m3 m4
    have hii:((i:Nat):Int)<=4:=ω
    go_wp2_with (at_builtin;refine Rw.push ro (W:=wi) wi.heap.size [(q1,q2,q3,q4)] _ _ (some ⟨wr.heap.size+1,0,none⟩) 1 1 rfl rfl (.tmp 31) (.tmp 39) rfl rfl rfl (Rw.From.lit EN _ (q1,q2,q3,q4) (wr.heap.size+1) (KQ _ _)) (Rw.Own.alloc hrow2.out _) (B2.alloc B2.size _) (by rw [KQ];have:=B2.size;omega) U9 ?_;intro v6 w6 hown6 hb6)
    go_roundw
    case rel=>exact ⟨k+1,ω,ν,hnx,by rw [jI,hq.out];exact KO hown6,hb6⟩
    case measure=>simp [intOf] <;> omega
   ·subst hc
    have hxy:=Option.some.inj (hx.out.symm.trans hy.out)
    injection hxy with e1 e2
    injection e2 with e2 e3
    subst e1 e2 e3;have he:=vE (a:=a) (b:=b) hx.out
    have PP:=fun W=>vO a b x1 x2 x3 x1 x2 x3 W hg hpx hpx
    generalize ep a b x1 x2 x3 x1 x2 x3=ps at *;generalize ps.isSome=fu,M.Kh ps=u4,M.Kg ps=u3,M.Kf ps=u2,M.Kc ps=u1 at *;simp only [] at he;replace PS:=PS.out;generalize gB a b x1 x3=ss at *;have hni:=hno.out k k (by have:=hN.out;omega) (by have:=hN.out;omega);rw [he] at hni Ln;have Bv:=(KS wr wr).alloc (KT _) (.cells #[x1,x2,x3] 47)
    cases ss with
    | none=>
     have hfin:=KO (hni rfl);have hfr:=KO (hrn.out hfin.out);have e9:=KO (show M.Kc none=0/\M.Kf none=0/\M.Kg none=0/\M.Kh none=0/\(none:M.Sp).isSome=false from ⟨rfl,rfl,rfl,rfl,rfl⟩);rw [e9.out.1,e9.out.2.1,e9.out.2.2.1,e9.out.2.2.2.1,e9.out.2.2.2.2] at PS;replace PP:=KO PP;replace PS:=KO PS
     go_wp2_with first | (with_reducible refine G_ PP fun w4 hb4=>?_;have Mh:=Nat.le_trans Bv.size hb4.size;replace Bv:=(p_ Bv hb4).alloc (Nat.le_trans Bv.size hb4.size) (.cells #[u1,u2,u3,u4] 34);replace C2:=(C2.keep hb4).alloc (.cells #[u1,u2,u3,u4] 34);replace Z2:=(Z2.keep hb4).alloc (.cells #[u1,u2,u3,u4] 34);have V:=aG.new w4 #[u1,u2,u3,u4] 34;have f_:=C2.box.c0;have j_:=C2.box.c1;(have ⟨z0,z1,z2⟩:=Z2.aM);(have ⟨v0,v1,v2,v3,f0,f1,f2,f3,vl⟩:=V.aI)) | (with_reducible refine G_ PS fun w5 hb5=>?_;replace ⟨Bv,V⟩:=Kt hb5 Bv V;(have ⟨v0,v1,v2,v3,f0,f1,f2,f3,vl⟩:=V.aI);have VK:=KR (KR (KR (KR (Bv) (p:=⟨w4,0,none⟩) Mh (.int .i64 0)) (p:=⟨w4,1,none⟩) Mh (.int .i64 0)) (p:=⟨w4,2,none⟩) Mh (.int .i64 0)) (p:=⟨w4,3,none⟩) Mh (.int .i64 0);have V9:=V.oK (.int .i64 0) (.int .i64 0) (.int .i64 0) (.int .i64 0);(have ⟨v0_,v1_,v2_,v3_,_,_,_,_,_⟩:=V9.aI))
     go_ret2;exact ⟨_,by rw [hfin.out];rfl,by rw [hfr.out];exact cZ.nil _ _,(p_ B1 Bq).trans (VK.mono (Nat.le_trans B1.size K8))⟩
    | some q_=>
    have hnx:=KO (Ln.out rfl)
    obtain ⟨q,hq⟩:∃ q,Hid (M.Mo (some q_)=q):=⟨_,KO rfl⟩
    obtain ⟨q1,q2,q3,q4⟩:=q;have e1:M.Kc (some q_)=q1:=congrArg (fun z=>z.1) hq.out;have e2:M.Kf (some q_)=q2:=congrArg (fun z=>z.2.1) hq.out;have e3:M.Kg (some q_)=q3:=congrArg (fun z=>z.2.2.1) hq.out;have e4:M.Kh (some q_)=q4:=congrArg (fun z=>z.2.2.2) hq.out;have e5:=KO (show (some q_:M.Sp).isSome=true from rfl);rw [e1,e2,e3,e4,e5.out] at PS;have he:=KO (he.trans rfl);replace PP:=KO PP;replace PS:=KO PS
    go_wp2_with first | (with_reducible refine G_ PP fun w4 hb4=>?_;have Mh:=Nat.le_trans Bv.size hb4.size;replace Bv:=(p_ Bv hb4).alloc (Nat.le_trans Bv.size hb4.size) (.cells #[u1,u2,u3,u4] 34);replace C2:=(C2.keep hb4).alloc (.cells #[u1,u2,u3,u4] 34);replace Z2:=(Z2.keep hb4).alloc (.cells #[u1,u2,u3,u4] 34);have V:=aG.new w4 #[u1,u2,u3,u4] 34;have f_:=C2.box.c0;have j_:=C2.box.c1;(have ⟨z0,z1,z2⟩:=Z2.aM);(have ⟨v0,v1,v2,v3,f0,f1,f2,f3,vl⟩:=V.aI)) | (with_reducible refine G_ PS fun w5 hb5=>?_;replace ⟨Bv,V⟩:=Kt hb5 Bv V;(have ⟨v0,v1,v2,v3,f0,f1,f2,f3,vl⟩:=V.aI);have VK:=KR (KR (KR (KR (Bv) (p:=⟨w4,0,none⟩) Mh (.int .i64 q1)) (p:=⟨w4,1,none⟩) Mh (.int .i64 q2)) (p:=⟨w4,2,none⟩) Mh (.int .i64 q3)) (p:=⟨w4,3,none⟩) Mh (.int .i64 q4);have V9:=V.oK (.int .i64 q1) (.int .i64 q2) (.int .i64 q3) (.int .i64 q4);(have ⟨v0_,v1_,v2_,v3_,_,_,_,_,_⟩:=V9.aI)) | (at_builtin;refine Rw.push ro (W:=wi) wi.heap.size [(q1,q2,q3,q4)] _ _ (some ⟨w5,0,none⟩) 1 1 rfl rfl (.tmp 59) (.tmp 61) rfl rfl rfl (Rw.From.lit EN _ (q1,q2,q3,q4) (w5.heap.size) (by simp [World.setCell])) (Rw.Own.alloc (hrow.out.below VK) _) ((p_ Bq VK).alloc (Nat.le_trans K8 VK.size) _) (by rw [KQ];exact Nat.le_succ_of_le (Nat.le_trans K8 VK.size)) U9 ?_;intro v6 w6 hown6 hb6)
    exact Zx
   have he:=vD (a:=a) (b:=b) hx.out hy.out hc
   have PP:=fun W=>vO a b x1 x2 x3 y1 y2 y3 W hg hpx hpy
   simp only [] at he;generalize ep a b x1 x2 x3 y1 y2 y3=ss at *
   have hne:((k:Int) == (i:Int))=false:=by rw [beq_eq_false_iff_ne];omega
   clear PS;have hni:=hno.out i k (by have:=hN.out;omega) (by have:=hN.out;omega);rw [he] at hni Ln;have Bv:=(KS wr wr).alloc (KT _) (.cells #[y1,y2,y3] 47)
   cases ss with
   | none=>
    have hfin:=KO (hni rfl);have hfr:=KO (hrn.out hfin.out);have e9:=KO (show M.Kc none=0/\M.Kf none=0/\M.Kg none=0/\M.Kh none=0/\(none:M.Sp).isSome=false from ⟨rfl,rfl,rfl,rfl,rfl⟩);rw [e9.out.1,e9.out.2.1,e9.out.2.2.1,e9.out.2.2.2.1,e9.out.2.2.2.2] at PP;replace PP:=KO PP
    go_wp2_with first | (with_reducible refine G_ PP fun w4 hb4=>?_;have Mh:=Nat.le_trans Bv.size hb4.size;replace Bv:=(p_ Bv hb4).alloc (Nat.le_trans Bv.size hb4.size) (.cells #[(0:Int),(0:Int),(0:Int),(0:Int)] 34);replace C2:=(C2.keep hb4).alloc (.cells #[(0:Int),(0:Int),(0:Int),(0:Int)] 34);replace Z2:=(Z2.keep hb4).alloc (.cells #[(0:Int),(0:Int),(0:Int),(0:Int)] 34);have V:=aG.new w4 #[(0:Int),(0:Int),(0:Int),(0:Int)] 34;have f_:=C2.box.c0;have j_:=C2.box.c1;(have ⟨z0,z1,z2⟩:=Z2.aM);(have ⟨v0,v1,v2,v3,f0,f1,f2,f3,vl⟩:=V.aI))
    go_ret2;exact ⟨_,by rw [hfin.out];rfl,by rw [hfr.out];exact cZ.nil _ _,(p_ B1 Bq).trans (Bv.mono (Nat.le_trans B1.size K8))⟩
   | some q_=>
   have hnx:=KO (Ln.out rfl)
   obtain ⟨q,hq⟩:∃ q,Hid (M.Mo (some q_)=q):=⟨_,KO rfl⟩
   obtain ⟨q1,q2,q3,q4⟩:=q;have e1:M.Kc (some q_)=q1:=congrArg (fun z=>z.1) hq.out;have e2:M.Kf (some q_)=q2:=congrArg (fun z=>z.2.1) hq.out;have e3:M.Kg (some q_)=q3:=congrArg (fun z=>z.2.2.1) hq.out;have e4:M.Kh (some q_)=q4:=congrArg (fun z=>z.2.2.2) hq.out;have e5:=KO (show (some q_:M.Sp).isSome=true from rfl);rw [e1,e2,e3,e4,e5.out] at PP;have he:=KO (he.trans rfl);replace PP:=KO PP
   go_wp2_with first | (with_reducible refine G_ PP fun w4 hb4=>?_;have Mh:=Nat.le_trans Bv.size hb4.size;replace Bv:=(p_ Bv hb4).alloc (Nat.le_trans Bv.size hb4.size) (.cells #[q1,q2,q3,q4] 34);replace C2:=(C2.keep hb4).alloc (.cells #[q1,q2,q3,q4] 34);replace Z2:=(Z2.keep hb4).alloc (.cells #[q1,q2,q3,q4] 34);have V:=aG.new w4 #[q1,q2,q3,q4] 34;have f_:=C2.box.c0;have j_:=C2.box.c1;(have ⟨z0,z1,z2⟩:=Z2.aM);(have ⟨v0,v1,v2,v3,f0,f1,f2,f3,vl⟩:=V.aI)) | (at_builtin;refine Rw.push ro (W:=wi) wi.heap.size [(q1,q2,q3,q4)] _ _ (some ⟨w4.heap.size+1,0,none⟩) 1 1 rfl rfl (.tmp 59) (.tmp 61) rfl rfl rfl (Rw.From.lit EN _ (q1,q2,q3,q4) (w4.heap.size+1) (by simp [World.setCell])) (Rw.Own.alloc (hrow.out.below Bv) _) ((p_ Bq Bv).alloc (Nat.le_trans K8 Bv.size) _) (by rw [KQ];exact Nat.le_succ_of_le (Nat.le_trans K8 Bv.size)) U9 ?_;intro v6 w6 hown6 hb6)
   exact Zx
  obtain rfl:k=N:=ω
  have hkl:((List.range k).map fun j=>M.Mo (M.ent a b l i j)).length=k:=by rw [List.length_map,List.length_range]
  obtain ⟨g4,c4,hvr⟩:∃ g4 c4,_=Value.slice (some ⟨g4,0,none⟩) k c4:=by
   rcases hrow.out.forms with ⟨-,h4⟩ | ⟨g4,c4,h4,-⟩
   ·rw [h4] at hkl;simp only [List.length_nil] at hkl;omega
   rw [hkl] at h4;exact ⟨g4,c4,h4⟩
  subst hvr;obtain ⟨vs,hvs⟩:=hm1.out;have XJ:=hvs.below Bq;have hrw:=hrow.out.down (show wc.heap.size<=wi.heap.size from B1c.size)
  have hlt3:=fun g h=>hrow.out.lt g h
  have hmr:(List.range k).map (fun j=>M.Mo (M.ent a b l i j))=mX a b l i:=by unfold mX;rw [hN.out]
  rw [hmr] at hrw
  have W4:=fun g hg z hz (e:Value.ownBlock z=some g)=>(absurd (hlt3 g hg).1 (Nat.not_le.2 (hvs.lt z hz g e).2):False)
  have hrm:((List.range i).map (mX a b l)).length=i:=by rw [List.length_map,List.length_range]
  have hal:∀ i',i'<i+1->∀ j,j<l.length->(M.ent a b l i' j).isSome=true:=fun i' h j hj=>by
   rcases Nat.lt_or_ge i' i with q | q
   ·exact hall.out i' q j hj
   obtain rfl:i'=i:=ω
   exact Ls.out j (by have:=hN.out;omega)
  have hal:=KO hal;have Bw:=p_ B1c Bq
  go_wp2_with (at_builtin;refine sc (W:=wc) wc _ _ vs _ _ wr rfl rfl (.tmp 64) (.tmp 66) rfl rfl rfl XJ hrw W4 Bw Bw.size (by rw [hrm];omega) ?_;intro v7 w7 W9 KY)
  go_roundw
  case rel=>exact ⟨i+1,ω,ν,hal,KO ⟨_,by rw [jI];exact W9⟩,KY⟩
  case measure=>simp [intOf] <;> omega
 obtain rfl:i=N:=ω
 have hyes:=KO (zA (a:=a) (b:=b) (l:=l) (fun i' h=>hall.out i' (by have:=hN.out;omega)));have hrows:=KO (sQ hyes.out);go_wp2;go_ret2;exact ⟨_,by rw [hyes.out];rfl,by rw [hrows.out,hN.out];exact W2.out.base hB0,B⟩
theorem ui (x:Int) (w:World) :
  cB 79 #[x] w (!(M.ins x (-12) 12)):=by
 have PP:=KO fun W=>dW x (-12) 12 W
 generalize M.ins x (-12) 12=t at *;go_enter func79,ntmps79
 go_wp2_with (with_reducible refine Kw (PP.out _) ?_)
 go_ret;exact ⟨rfl,KS _ _⟩
namespace M
def fits (n:List Int) (m:Nat):Bool:=((n.length:Int) == (m:Int)) && n.all (fun x=>ins x (-12) 12)
theorem DM {n:List Int}:(!n.any (fun x=>!(ins x (-12) 12)))=n.all (fun x=>ins x (-12) 12):=by
 rw [List.not_any_eq_all_not]
 congr 1
 funext x
 simp
end M
end
section
open Gr M Rg Rw Wh
theorem VH {p:Prop} (h:p:=by
 have:(0,0)=p:=Option.some.inj hp;subst this
 decide):p:=h
namespace M
abbrev LD:=List (List (Int × Int))
def br (m:LD) (c:Nat):LD:=m.tail.map fun r=>r.take c ++ r.drop (c+1)
def fo (s part:Sp) (c:Nat):Sp:=if c % 2=0 then fQ s part else dX s part
def dZ:Nat->LD->Sp
 | 0,_=>none
 | 1,m=>(m.headD []).head?
 | n+2,m=>(List.range (m.headD []).length).foldl (fun s c=>fo s (cn ((m.headD [])[c]?) (dZ (n+1) (br m c))) c) (some (0,0))
def fA (n:Nat) (m:LD) (k:Nat):Sp:=(List.range k).foldl (fun s c=>fo s (cn ((m.headD [])[c]?) (dZ (n+1) (br m c))) c) (some (0,0))
theorem iv (n:Nat) (m:LD):dZ (n+2) m=fA n m (m.headD []).length:=rfl
theorem iX (n:Nat) (m:LD) (k:Nat):fA n m (k+1)=fo (fA n m k) (cn ((m.headD [])[k]?) (dZ (n+1) (br m k))) k:=by
 unfold fA;rw [List.range_succ,List.foldl_append];rfl
theorem lr (p:Sp) (c:Nat):fo none p c=none:=by
 unfold fo
 split <;> rfl
theorem ez (s:Sp) (c:Nat):fo s none c=none:=by
 unfold fo
 cases s <;> split <;> rfl
theorem se {n:Nat} {m:LD} {k:Nat} (h:fA n m k=none):∀ j,k<=j->fA n m j=none
 | 0,hj=>by
  obtain rfl:k=0:=ω
  exact h
 | j+1,hj=>by
  rcases Nat.lt_or_ge j k with q | q
  ·obtain rfl:k=j+1:=ω
   exact h
  rw [iX,se h j q,lr]
def UJ (m:LD):Prop:=∀ r ∈ m,∀ q ∈ r,aJ q.1 q.2=true
theorem sS {m:LD} {c:Nat} (h:UJ m):UJ (br m c):=by
 intro r hr q hq;obtain ⟨s,hs,rfl⟩:=List.mem_map.1 hr
 rcases List.mem_append.1 hq with h1 | h1
 ·exact h s (List.mem_of_mem_tail hs) q (List.mem_of_mem_take h1)
 exact h s (List.mem_of_mem_tail hs) q (List.mem_of_mem_drop h1)
theorem D3 {s p:Sp} {c:Nat}:LR (fo s p c):=by
 unfold fo
 split
 ·exact tv
 exact pR
theorem tw {n:Nat} {m:LD}:∀ k,LR (fA n m k)
 | 0=>fun p hp=>by
  exact VH
 | k+1=>by
  rw [iX];exact D3
theorem pQ {m:LD} (h:UJ m):∀ n,LR (dZ n m)
 | 0=>eN
 | 1=>fun p hp=>by
  cases m with
  | nil=>cases hp
  | cons r m=>
  cases r with
  | nil=>cases hp
  | cons q r=>
  have:q=p:=Option.some.inj hp;subst this;exact h _ (List.mem_cons_self ..) _ (List.mem_cons_self ..)
 | n+2=>by
  rw [iv];exact tw _
def square (n:Nat) (m:LD):Prop:=m.length=n/\∀ r ∈ m,r.length=n
theorem mr {n:Nat} {m:LD} {c:Nat} (h:square (n+1) m) (hc:c<n+1):square n (br m c):=by
 refine ⟨by unfold br;rw [List.length_map,List.length_tail,h.1];rfl,fun r hr=>?_⟩;obtain ⟨s,hs,rfl⟩:=List.mem_map.1 hr;rw [List.length_append,List.length_take,List.length_drop,h.2 s (List.mem_of_mem_tail hs)];omega
end M
namespace M
open Dt
def HM (m:LD) (T:Nat->Nat->Nat->Int):Prop:=∀ (i j:Nat) (r:List (Int × Int)) (p:Int × Int),m[i]?=some r->r[j]?=some p->LO (fun n=>T n i j) p.1 p.2
theorem HM.minor {m:LD} {T:Nat->Nat->Nat->Int} (h:HM m T) (c:Nat) (hw:∀ r ∈ m,c<r.length):HM (br m c) (fun n=>mn (T n) c):=by
 intro i j r p hr hp;unfold br at hr;rw [List.getElem?_map] at hr;obtain ⟨s,hs,rfl⟩:=Option.map_eq_some_iff.1 hr;rw [List.getElem?_tail] at hs;have hc:=hw s (List.mem_of_getElem? hs);refine h (i+1) (skip c j) s p hs ?_;unfold skip;rw [List.getElem?_append,List.length_take,Nat.min_eq_left ω,List.getElem?_take,List.getElem?_drop] at hp
 split
 ·rename_i hj
  rw [if_pos hj,if_pos hj] at hp;exact hp
 rename_i hj
 rw [if_neg hj] at hp;rw [show j+1=c+1+(j - c) by omega];exact hp
theorem xe {l h:Int} {p:Int × Int} (e:mkS l h=some p):p=(l,h):=by
 unfold mkS at e
 split at e
 ·exact (Option.some.inj e).symm
 cases e
theorem Cx:∀ (k:Nat) (m:LD) (T:Nat->Nat->Nat->Int) (p:Int × Int),m.length=k+1->(∀ r ∈ m,r.length=k+1)->HM m T->dZ (k+1) m=some p->HK k (fun n=>LP (k+1) (T n)) p.1 p.2
 | 0,m,T,p,hl,hw,h,e=>by
  obtain ⟨r,rfl⟩:∃ r,m=[r]:=List.length_eq_one_iff.1 hl;have e:r.head?=some p:=e
  have hp:r[0]?=some p:=by rw [←List.head?_eq_getElem?];exact e
  have:=HK.of (h 0 0 r p rfl hp)
  have e2:(fun n=>T n 0 0)=(fun n=>LP 1 (T n)):=funext fun n=>by
   show T n 0 0=0+sg 0*(T n 0 0*1)
   rw [show sg 0=1 from rfl];omega
  rw [e2] at this;exact this
 | k+1,m,T,p,hl,hw,h,e=>by
  obtain ⟨r0,ms,rfl⟩:∃ r ms,m=r :: ms:=by
   cases m with
   | nil=>cases hl
   | cons r ms=>exact ⟨r,ms,rfl⟩
  have hr0:r0.length=k+2:=hw r0 (List.mem_cons_self)
  have part:∀ j,j<=k+2->∀ q,fA k (r0 :: ms) j=some q->HK (k+1) (fun n=>Dt.sm j fun c=>sg c*(T n 0 c*LP (k+1) (mn (T n) c))) q.1 q.2:=by
   intro j
   induction j with
   | zero=>
    intro _ q hq;have:(0,0)=q:=Option.some.inj hq;subst this;exact HK.zero (k+1)
   | succ j ih=>
   intro hj q hq;rw [iX] at hq
   cases hs:fA k (r0 :: ms) j with
   | none=>rw [hs,lr] at hq;cases hq
   | some s=>
   have I:=ih ω s hs;rw [hs] at hq
   have hx:∃ x,r0[j]?=some x:=⟨_,List.getElem?_eq_getElem ω⟩
   obtain ⟨x,hx⟩:=hx;have hh:((r0 :: ms).headD [])[j]?=some x:=hx;rw [hh] at hq
   cases hd:dZ (k+1) (br (r0 :: ms) j) with
   | none=>
    rw [hd] at hq;rw [show cn (some x) none=none from rfl,ez] at hq;cases hq
   | some d=>
   rw [hd] at hq
   have hwm:∀ r ∈ (r0 :: ms),j<r.length:=fun r hr=>by rw [hw r hr];omega
   have D:=Cx k (br (r0 :: ms) j) (fun n=>mn (T n) j) d (by
    unfold br;rw [List.length_map,List.length_tail,hl]
    rfl) (fun r hr=>by
    obtain ⟨s,hs,rfl⟩:=List.mem_map.1 hr;have:=hw s (List.mem_of_mem_tail hs);rw [List.length_append,List.length_take,List.length_drop]
    omega) (h.minor j hwm) hd
   have X:=HK.mul (h 0 j r0 x rfl hx) D
   cases hmu:cn (some x) (some d) with
   | none=>rw [hmu,ez] at hq;cases hq
   | some y=>
   rw [hmu] at hq;have hy:=xe hmu;unfold fo at hq
   split at hq
   ·rename_i hc
    have hq':=xe hq;subst hq' hy
    have e2:(fun n=>(Dt.sm j fun c=>sg c*(T n 0 c*LP (k+1) (mn (T n) c)))+T n 0 j*LP (k+1) (mn (T n) j))=fun n=>Dt.sm (j+1) fun c=>sg c*(T n 0 c*LP (k+1) (mn (T n) c)):=funext fun n=>by
     show _=(Dt.sm j fun c=>sg c*(T n 0 c*LP (k+1) (mn (T n) c)))+sg j*(T n 0 j*LP (k+1) (mn (T n) j))
     rw [show sg j=1 from if_pos hc,Int.one_mul]
    have Y:HK (k+1) (fun n=>(Dt.sm j fun c=>sg c*(T n 0 c*LP (k+1) (mn (T n) c)))+T n 0 j*LP (k+1) (mn (T n) j)) _ _:=I.add X;rw [e2] at Y;exact Y
   rename_i hc
   have hq':=xe hq;subst hq' hy
   have e2:(fun n=>(Dt.sm j fun c=>sg c*(T n 0 c*LP (k+1) (mn (T n) c))) - T n 0 j*LP (k+1) (mn (T n) j))=fun n=>Dt.sm (j+1) fun c=>sg c*(T n 0 c*LP (k+1) (mn (T n) c)):=funext fun n=>by
    show _=(Dt.sm j fun c=>sg c*(T n 0 c*LP (k+1) (mn (T n) c)))+sg j*(T n 0 j*LP (k+1) (mn (T n) j))
    rw [show sg j=-1 from if_neg hc];omega
   have Y:HK (k+1) (fun n=>(Dt.sm j fun c=>sg c*(T n 0 c*LP (k+1) (mn (T n) c))) - T n 0 j*LP (k+1) (mn (T n) j)) _ _:=I.sub X;rw [e2] at Y;exact Y
  have e:fA k (r0 :: ms) r0.length=some p:=e;rw [hr0] at e;exact part (k+2) (KT _) p e
end M
namespace M
open Dt
def Bd (k:Nat) (s:Nat->Int):Prop:=∃ C:Int,0<=C/\∀ n:Nat,-(C*(4 ^ n) ^ k)<=s n/\s n<=C*(4 ^ n) ^ k
theorem Bd.zero (k:Nat):Bd k (fun _=>0):=⟨0,Int.le_refl _,fun n=>σ⟩
theorem Bd.add {k:Nat} {s t:Nat->Int} (h:Bd k s) (h':Bd k t):Bd k (fun n=>s n+t n):=by
 obtain ⟨c,c0,h⟩:=h;obtain ⟨d,d0,h'⟩:=h';refine ⟨c+d,ω,fun n=>?_⟩;have:=h n;have:=h' n;rw [Int.add_mul]
 show _<=s n+t n/\s n+t n<=_
 omega
theorem Bd.mul {k l:Nat} {s t:Nat->Int} (h:Bd k s) (h':Bd l t):Bd (k+l) (fun n=>s n*t n):=by
 obtain ⟨c,c0,h⟩:=h;obtain ⟨d,d0,h'⟩:=h';refine ⟨c*d,Int.mul_nonneg c0 d0,fun n=>?_⟩;have h1:=h n;have h2:=h' n;have e:=aH h1.1 h1.2 h2.1 h2.2
 have q:c*(4 ^ n) ^ k*(d*(4 ^ n) ^ l)=c*d*(4 ^ n) ^ (k+l):=by
  rw [Int.pow_add]
  grind
 rw [q] at e;exact e
theorem Bd.sg {k:Nat} {s:Nat->Int} (c:Nat) (h:Bd k s):Bd k (fun n=>sg c*s n):=by
 obtain ⟨d,d0,h⟩:=h;refine ⟨d,d0,fun n=>?_⟩;have:=h n
 show -(d*(4 ^ n) ^ k)<=Dt.sg c*s n/\Dt.sg c*s n<=d*(4 ^ n) ^ k
 unfold Dt.sg
 split <;> omega
theorem Bd.sm {k:Nat} {f:Nat->Nat->Int}:∀ N,(∀ c,c<N->Bd k (fun n=>f n c))->Bd k (fun n=>Dt.sm N (f n))
 | 0,_=>Bd.zero k
 | N+1,h=>(Bd.sm N fun c hc=>h c ω).add (h N ω)
theorem Cv:∀ (k:Nat) (T:Nat->Nat->Nat->Int),(∀ i j,Bd 1 (fun n=>T n i j))->Bd k (fun n=>LP k (T n))
 | 0,_,_=>⟨1,δ,fun n=>by simp [LP]⟩
 | k
   + 1,T,h=>Bd.sm (k+1) fun c _=>Bd.sg c (by
   have:=(h 0 c).mul (Cv k (fun n=>mn (T n) c) fun i j=>h (i+1) (skip c j))
   rwa [Nat.add_comm] at this)
theorem Gj (c q:Nat):skip c q≠c:=by
 unfold skip
 split <;> omega
theorem zv {c j q:Nat} (h:c≠j):skip c q=j ↔ q=un c j:=by
 unfold skip un
 split <;> split <;> omega
theorem Cw:∀ (k:Nat) (T:Nat->Nat->Nat->Int) (j:Nat),j<k+1->(∀ i q,q≠j->Bd 1 (fun n=>T n i q))->(∀ i,Bd 0 (fun n=>T n i j))->Bd k (fun n=>LP (k+1) (T n))
 | 0,T,j,hj,_,h0=>by
  obtain rfl:j=0:=ω
  refine (show (fun n=>T n 0 0)=(fun n=>LP 1 (T n)) from funext fun n=>?_) ▸ h0 0;simp [LP,Dt.sm,Dt.sg]
 | k
   + 1,T,j,hj,h1,h0=>Bd.sm (k+2) fun c hc=>Bd.sg c (by
   by_cases e:c=j
   ·have:=(h0 0).mul (Cv (k+1) (fun n=>mn (T n) j) fun i q=>h1 (i+1) (skip j q) (Gj j q))
    rw [Nat.zero_add] at this;rw [e];exact this
   have:=(h1 0 c e).mul (Cw k (fun n=>mn (T n) c) (un c j) (Hm hc hj e) (fun i q hq=>h1 (i+1) (skip c q) fun x=>hq ((zv e).1 x)) fun i=>by
    have:=h0 (i+1);rw [←(zv e).2 rfl] at this
    exact this)
   rwa [Nat.add_comm] at this)
theorem HK.kernel {k:Nat} {T:Nat->Nat->Nat->Int} {l h:Int} {v:Nat->Int} {j:Nat} (p:HK k (fun n=>LP (k+1) (T n)) l h) (hj:j<k+1) (hv:v j≠0) (h1:∀ i q,Bd 1 (fun n=>T n i q)) (h0:∀ i,Bd 0 (fun n=>Dt.sm (k+1) fun q=>v q*T n i q)):l<=0:=by
 obtain ⟨C,C0,b⟩:=Cw k (fun n=>col (T n) j fun i=>Dt.sm (k+1) fun q=>v q*T n i q) j hj (fun i q hq=>by
  simp only [col,if_neg hq]
  exact h1 i q) (fun i=>by
  simp only [col,if_pos]
  exact h0 i)
 refine p.small (c:=C) hv fun n=>?_
 show -(C*(4 ^ n) ^ k)<=v j*LP (k+1) (T n)/\v j*LP (k+1) (T n)<=C*(4 ^ n) ^ k
 rw [IP (k+1) (T n) j hj v];exact b n
end M
end
end Go.Proofs.YtlnjcilaflfnlaaGreatDoor
