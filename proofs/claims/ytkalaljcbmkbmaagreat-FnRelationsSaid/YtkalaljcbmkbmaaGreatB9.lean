/-
  Joined texts: contracts and plain lemmas.
-/
import Derived.Test.YtkalaljcbmkbmaaGreatB1
import Derived.Test.YtkalaljcbmkbmaaGreatB8
import Derived.Test.YtkalaljcbmkbmaaGreatB7
set_option linter.unusedSimpArgs false
set_option linter.unusedVariables false
set_option maxRecDepth 100000
set_option maxHeartbeats 8000000
namespace Go.Proofs.YtkalaljcbmkbmaaGreat
open Tryz
section
open Go.RowKit open Gr M Rg Rw Wh
theorem AB (a b X Y E:Int) (w:World) (hg:M.good a b=true) (hX1:-10000<=X) (hX2:X<=10000) (hE1:0<=E) (hE2:E<=20) :
  cB 150 #[.agg #[a,b],.agg #[X,Y,E]] w (.tuple #[.agg #[M.pick (M.Jm a b X E) (M.pn (M.bL a b X E (M.bN a b X E))),M.pick (M.Jm a b X E) (M.pd (M.bL a b X E (M.bN a b X E))),M.pick (M.Jm a b X E) (M.pn (M.bH a b X E (M.bN a b X E))),M.pick (M.Jm a b X E) (M.pd (M.bH a b X E (M.bN a b X E)))],M.pick (M.Jm a b X E) ((M.bN a b X E:Nat):Int),M.Jm a b X E]):=by
 have P0:=fun W=>nP a b X Y E 0 W hg hX1 hX2 hE1 hE2 ω
 rw [FD,show ((0:Nat):Int)=0 from rfl] at P0;simp only [jE] at P0
 have PK:=IU fun (k:Nat) W (hk:k<=5)=>nP a b X Y E k W hg hX1 hX2 hE1 hE2 hk
 have hL0:=IU (show M.hL (M.hC a b) 0 (aX a b X E 0)=M.bL a b X E 0 from rfl);have hH0:=IU (show M.hH (M.hC a b) 0 (aX a b X E 0)=M.bH a b X E 0 from rfl);have hin:=aY hg
 have hno:=IU fun k hk hs=>HQ (a:=a) (b:=b) (X:=X) (E:=E) (k:=k) hin hX1 hX2 hE1 hE2 hk hs
 have hss:=IU fun n hn=>Hj (a:=a) (b:=b) (X:=X) (E:=E) (C:=M.hC a b) (n:=n) (pg hin) hn hX1 hX2 hE1 hE2
 have hs0:=IU (show aJ (M.bL a b X E 0) (M.bH a b X E 0)=true from hss.out 0 ω);clear hg hin;rw [hL0.out,hH0.out] at P0;clear hL0 hH0;have P0:=IU P0;obtain ⟨wc,hw3,C,Q,R,B⟩:=dB w #[a,b] 25 #[X,Y,E] 40 #[(0:Int),(0:Int),(0:Int),(0:Int)] 78;have ⟨q0,q1,q2⟩:=Q.aM;have f_:=C.box.c0;have i_:=C.box.c1;have B_:=R.aK.c0;have y_:=R.aK.f0;have C_:=R.aK.c1;have A_:=R.aK.f1;have F_:=R.aK.c2;have IZ:=R.aK.f2;have G_:=R.aK.c3;have Ia:=R.aK.f3;generalize hu1:M.pn (M.bL a b X E 0)=u1 at *;generalize hu2:M.pd (M.bL a b X E 0)=u2 at *;generalize hu3:M.pn (M.bH a b X E 0)=u3 at *;generalize To:M.pd (M.bH a b X E 0)=u4 at *;replace hu1:=IU hu1;replace hu2:=IU hu2;replace hu3:=IU hu3;replace To:=IU To;go_enter func150,ntmps150
 go_wp2_with (go_at_call 157;with_reducible refine p_ (P0.out _) fun w4 hb4=>?_;replace ⟨C,R,B,Q⟩:=Ip hb4 C R B Q;have RB:=IU R.lt;replace Q:=Q.alloc (.cells #[u1,u2,u3,u4] 78);have T:=aG.new w4 #[u1,u2,u3,u4] 78;have b_:=bA w4 (.cells #[u1,u2,u3,u4] 78);replace ⟨C,R,B⟩:=I7 b_ C R B;clear b_;(replace ⟨f_,i_⟩:=C.b2);(replace ⟨B_,C_,F_,G_,y_,A_,IZ,Ia⟩:=R.I0);(replace ⟨JF,JG,LB,LC⟩:=T.b4))
 go_loopw [9] (fun vi wr=>∃ k:Nat,k<=5/\vi=.int .i64 k/\Hid (M.MM a b X E (5 - k) k=M.bN a b X E)/\Hid (aJ (M.bL a b X E k) (M.bH a b X E k)=true)/\aG wr w4 78 #[M.pn (M.bL a b X E k),M.pd (M.bL a b X E k),M.pn (M.bH a b X E k),M.pd (M.bH a b X E k)]/\aG wr w 25 #[a,b]/\aG wr (w.heap.size+1) 40 #[X,Y,E]/\aG wr (w.heap.size+1+1) 78 #[(0:Int),(0:Int),(0:Int),(0:Int)]/\Below w w wr) (fun vi _=>5 - (intOf vi).toNat)
 case atStart=>exact ⟨0,ω,rfl,IU rfl,hs0,by rw [hu1.out,hu2.out,hu3.out,To.out];exact T,C,Q,R,B⟩
 case round=>
 clear C Q R B T P0 f_ i_ B_ C_ F_ G_ y_ A_ IZ Ia JF JG LB LC q0 q1 q2 hu1 hu2 hu3 To hs0;have hR9:=RB.out;obtain ⟨k,hk,rfl,hN,hsk,T,C,Q,R,B⟩:=hrel;have eL:M.bL a b X E (k+1)=max (M.bL a b X E k) (M.hL (M.hC a b) (k+1) (aX a b X E (k+1))):=rfl;have eH:M.bH a b X E (k+1)=min (M.bH a b X E k) (M.hH (M.hC a b) (k+1) (aX a b X E (k+1))):=rfl;have eL:=IU eL;have eH:=IU eH;generalize hbk:M.bL a b X E k=bl at *;generalize Lb:M.bH a b X E k=bh at *;replace hbk:=IU hbk;replace Lb:=IU Lb;have f_:=C.box.c0;have i_:=C.box.c1;have ⟨q0,q1,q2⟩:=Q.aM;have JF:=T.aK.c0;have JG:=T.aK.c1;have LB:=T.aK.c2;have LC:=T.aK.c3;have Ls:=T.aK.f0;have Lt:=T.aK.f1;have Nl:=T.aK.f2;have Nm:=T.aK.f3;have B_:=R.aK.c0;have C_:=R.aK.c1;have F_:=R.aK.c2;have G_:=R.aK.c3;have y_:=R.aK.f0;have A_:=R.aK.f1;have IZ:=R.aK.f2;have Ia:=R.aK.f3
 by_cases hlt:k<5
 ·have P1:=fun W=>PK.out (k+1) W ω
  have hNs:M.MM a b X E (5 - k) k=if M.isOk (aX a b X E (k+1))=true then M.MM a b X E (5 - (k+1)) (k+1) else k:=by
   rw [show 5 - k=(5 - (k+1))+1 by omega];rfl
  have hsn:=hss.out (k+1) ω;generalize M.hH (M.hC a b) (k+1) (aX a b X E (k+1))=hh,M.hL (M.hC a b) (k+1) (aX a b X E (k+1))=hl at *;have hk1:=IU (show ((k+1:Nat):Int)=(k:Int)+1 by omega);rw [hk1.out] at P1
  cases hok:M.isOk (aX a b X E (k+1)) with
  | false=>
   rw [hok,if_neg δ] at hNs;have MZ:=IU (show M.bN a b X E=k by rw [←hN.out,hNs]);rw [hok] at P1;simp only [lQ] at P1;have NY:=IU (show M.Jm a b X E=true by unfold M.Jm;rw [MZ.out,hbk.out,Lb.out];exact hsk.out);clear hNs hok hN eL eH hsn;have P1:=IU P1;generalize Mh:M.pn (bl)=t1 at *;replace Mh:=IU Mh;generalize Mi:M.pd (bl)=t2 at *;replace Mi:=IU Mi;generalize Mj:M.pn (bh)=t3 at *;replace Mj:=IU Mj;generalize Mk:M.pd (bh)=t4 at *;replace Mk:=IU Mk
   go_wp2_with (go_at_call 157;with_reducible refine p_ (P1.out _) fun w5 hb5=>?_;replace ⟨C,R,T,B,Q⟩:=KU hb5 C R T B Q;replace Q:=Q.alloc (.cells #[(0:Int),(0:Int),(0:Int),(0:Int)] 78);have S:=aG.new w5 #[(0:Int),(0:Int),(0:Int),(0:Int)] 78;have b_:=bA w5 (.cells #[(0:Int),(0:Int),(0:Int),(0:Int)] 78);replace ⟨C,R,T,B⟩:=Ip b_ C R T B;clear b_;(replace ⟨f_,i_⟩:=C.b2);(replace ⟨B_,C_,F_,G_,y_,A_,IZ,Ia⟩:=R.I0);(replace ⟨JF,JG,LB,LC⟩:=T.b4);(replace ⟨Lq,Lr,Nj,Nk⟩:=S.b4))
   exact D_ (v:=.tuple #[.agg #[t1,t2,t3,t4],.int .i64 (k:Int),true]) results150 ⟨by rw [MZ.out,NY.out,hbk.out,Lb.out,Mh.out,Mi.out,Mj.out,Mk.out];simp only [jE],Jk B⟩
  | true=>
  rw [hok,if_pos rfl] at hNs;have SE:=IU (hNs.symm.trans hN.out);rw [hok] at P1;simp only [jE] at P1
  have PC:=fun W=>qL bl bh hl hh W hsk.out hsn
  clear hNs hok hN;have P1:=IU P1;have hse:=IU (show aJ (M.bL a b X E (k+1)) (M.bH a b X E (k+1))=aJ (max bl hl) (min bh hh) by rw [eL.out,eH.out])
  cases hs:aJ (max bl hl) (min bh hh) with
  | false=>
   have NY:=IU (show M.Jm a b X E=false from hno.out (k+1) (by have:=zl (a:=a) (b:=b) (X:=X) (E:=E) (5 - (k+1)) (k+1);rw [SE.out] at this;exact this) (by rw [hse.out];exact hs));rw [hs] at PC;simp only [lQ] at PC;clear hs hse;have PC:=IU PC;generalize Mh:M.pn (bl)=t1 at *;replace Mh:=IU Mh;generalize Mi:M.pd (bl)=t2 at *;replace Mi:=IU Mi;generalize Mj:M.pn (bh)=t3 at *;replace Mj:=IU Mj;generalize Mk:M.pd (bh)=t4 at *;replace Mk:=IU Mk;generalize TE:M.pn (hl)=y1 at *;replace TE:=IU TE;generalize TF:M.pd (hl)=y2 at *;replace TF:=IU TF;generalize TG:M.pn (hh)=y3 at *;replace TG:=IU TG;generalize TH:M.pd (hh)=y4 at *;replace TH:=IU TH
   go_wp2_with (first
    | (go_at_call 157;with_reducible refine p_ (P1.out _) fun w5 hb5=>?_;replace ⟨C,R,T,B,Q⟩:=KU hb5 C R T B Q;replace Q:=Q.alloc (.cells #[y1,y2,y3,y4] 78);have S:=aG.new w5 #[y1,y2,y3,y4] 78;have b_:=bA w5 (.cells #[y1,y2,y3,y4] 78);replace ⟨C,R,T,B⟩:=Ip b_ C R T B;clear b_;(replace ⟨f_,i_⟩:=C.b2);(replace ⟨B_,C_,F_,G_,y_,A_,IZ,Ia⟩:=R.I0);(replace ⟨JF,JG,LB,LC,Ls,Lt,Nl,Nm⟩:=T.I0);(replace ⟨Lq,Lr,Nj,Nk⟩:=S.b4))
    | (go_at_call 158;with_reducible refine p_ (PC.out _) fun w6 hb6=>?_;replace ⟨C,R,T,S,B,Q⟩:=RH hb6 C R T S B Q;replace Q:=Q.alloc (.cells #[(0:Int),(0:Int),(0:Int),(0:Int)] 78);have O:=aG.new w6 #[(0:Int),(0:Int),(0:Int),(0:Int)] 78;have b_:=bA w6 (.cells #[(0:Int),(0:Int),(0:Int),(0:Int)] 78);replace ⟨C,R,T,S,B⟩:=KU b_ C R T S B;clear b_;(replace ⟨f_,i_⟩:=C.b2);(replace ⟨B_,C_,F_,G_,y_,A_,IZ,Ia⟩:=R.I0);(replace ⟨JF,JG,LB,LC,Ls,Lt,Nl,Nm⟩:=T.I0);(replace ⟨Lq,Lr,Nj,Nk⟩:=S.b4);(replace ⟨KJ,KL,KM,KN⟩:=O.b4)))
   exact D_ (v:=.tuple #[.agg #[(0:Int),(0:Int),(0:Int),(0:Int)],(0:Int),false]) results150 ⟨by rw [NY.out];simp only [lQ],Jk B⟩
  | true=>
  have hs2:=IU (hse.out.trans hs);rw [hs] at PC;simp only [jE] at PC;clear hs hse;have PC:=IU PC;generalize Mh:M.pn (bl)=t1 at *;replace Mh:=IU Mh;generalize Mi:M.pd (bl)=t2 at *;replace Mi:=IU Mi;generalize Mj:M.pn (bh)=t3 at *;replace Mj:=IU Mj;generalize Mk:M.pd (bh)=t4 at *;replace Mk:=IU Mk;generalize TE:M.pn (hl)=y1 at *;replace TE:=IU TE;generalize TF:M.pd (hl)=y2 at *;replace TF:=IU TF;generalize TG:M.pn (hh)=y3 at *;replace TG:=IU TG;generalize TH:M.pd (hh)=y4 at *;replace TH:=IU TH;generalize Yz:M.pn (max bl hl)=z1 at *;replace Yz:=IU Yz;generalize Y4:M.pd (max bl hl)=z2 at *;replace Y4:=IU Y4;generalize Y5:M.pn (min bh hh)=z3 at *;replace Y5:=IU Y5;generalize Y6:M.pd (min bh hh)=z4 at *;replace Y6:=IU Y6
  go_wp2_with (first
   | (go_at_call 157;with_reducible refine p_ (P1.out _) fun w5 hb5=>?_;replace ⟨C,R,T,B,Q⟩:=KU hb5 C R T B Q;replace Q:=Q.alloc (.cells #[y1,y2,y3,y4] 78);have S:=aG.new w5 #[y1,y2,y3,y4] 78;have b_:=bA w5 (.cells #[y1,y2,y3,y4] 78);replace ⟨C,R,T,B⟩:=Ip b_ C R T B;clear b_;(replace ⟨f_,i_⟩:=C.b2);(replace ⟨B_,C_,F_,G_,y_,A_,IZ,Ia⟩:=R.I0);(replace ⟨JF,JG,LB,LC,Ls,Lt,Nl,Nm⟩:=T.I0);(replace ⟨Lq,Lr,Nj,Nk⟩:=S.b4))
   | (go_at_call 158;with_reducible refine p_ (PC.out _) fun w6 hb6=>?_;replace ⟨C,R,T,S,B,Q⟩:=RH hb6 C R T S B Q;replace Q:=Q.alloc (.cells #[z1,z2,z3,z4] 78);have O:=aG.new w6 #[z1,z2,z3,z4] 78;have b_:=bA w6 (.cells #[z1,z2,z3,z4] 78);replace ⟨C,R,T,S,B⟩:=KU b_ C R T S B;clear b_;(replace ⟨f_,i_⟩:=C.b2);(replace ⟨B_,C_,F_,G_,y_,A_,IZ,Ia⟩:=R.I0);(replace ⟨JF,JG,LB,LC,Ls,Lt,Nl,Nm⟩:=T.I0);(replace ⟨Lq,Lr,Nj,Nk⟩:=S.b4);(replace ⟨KJ,KL,KM,KN⟩:=O.b4)))
  go_roundw
  case rel=>exact ⟨k+1,ω,ν,SE,hs2,by rw [eL.out,eH.out,Yz.out,Y4.out,Y5.out,Y6.out];exact aG.pR T _ _ _ _,(((C.other (show w.heap.size≠w4.heap.size by omega) _).other (show w.heap.size≠w4.heap.size by omega) _).other (show w.heap.size≠w4.heap.size by omega) _).other (show w.heap.size≠w4.heap.size by omega) _,(((Q.other (show w.heap.size+1≠w4.heap.size by omega) _).other (show w.heap.size+1≠w4.heap.size by omega) _).other (show w.heap.size+1≠w4.heap.size by omega) _).other (show w.heap.size+1≠w4.heap.size by omega) _,(((R.other (show w.heap.size+1+1≠w4.heap.size by omega) _).other (show w.heap.size+1+1≠w4.heap.size by omega) _).other (show w.heap.size+1+1≠w4.heap.size by omega) _).other (show w.heap.size+1+1≠w4.heap.size by omega) _,Jk B⟩
  case measure=>simp [intOf] <;> omega
 obtain rfl:k=5:=ω
 have MZ:=IU (show M.bN a b X E=5 by rw [←hN.out];rfl);have NY:=IU (show M.Jm a b X E=true by unfold M.Jm;rw [MZ.out,hbk.out,Lb.out];exact hsk.out);clear hN PK eL eH
 obtain ⟨k,hk5⟩:∃ k:Nat,k=5:=⟨5,rfl⟩
 rw [←hk5] at MZ hbk Lb;have RC:=IU (show (k:Int)=5 by omega);clear hk5;generalize Mh:M.pn (bl)=t1 at *;replace Mh:=IU Mh;generalize Mi:M.pd (bl)=t2 at *;replace Mi:=IU Mi;generalize Mj:M.pn (bh)=t3 at *;replace Mj:=IU Mj;generalize Mk:M.pd (bh)=t4 at *;replace Mk:=IU Mk;go_wp2;exact D_ (v:=.tuple #[.agg #[t1,t2,t3,t4],(5:Int),true]) results150 ⟨by rw [MZ.out,NY.out,RC.out,hbk.out,Lb.out,Mh.out,Mi.out,Mj.out,Mk.out];simp only [jE],Jk B⟩
theorem uj (a b X Y E:Int) (w:World) (hg:M.good a b=true) (hX1:-10000<=X) (hX2:X<=10000) (hE1:0<=E) (hE2:E<=20) :
  cB 138 #[.agg #[a,b],.agg #[X,Y,E]] w (.tuple #[.agg #[M.pick (M.Jm a b X E) (M.pn (M.bL a b X E (M.bN a b X E))),M.pick (M.Jm a b X E) (M.pd (M.bL a b X E (M.bN a b X E))),M.pick (M.Jm a b X E) (M.pn (M.bH a b X E (M.bN a b X E))),M.pick (M.Jm a b X E) (M.pd (M.bH a b X E (M.bN a b X E)))],M.Jm a b X E]):=by
 have P1:=fun W=>AB a b X Y E W hg hX1 hX2 hE1 hE2
 generalize M.pick (M.Jm a b X E) (M.pd (M.bH a b X E (M.bN a b X E)))=p4,M.pick (M.Jm a b X E) (M.pn (M.bH a b X E (M.bN a b X E)))=p3,M.pick (M.Jm a b X E) (M.pd (M.bL a b X E (M.bN a b X E)))=p2,M.pick (M.Jm a b X E) (M.pn (M.bL a b X E (M.bN a b X E)))=p1 at *;generalize M.pick (M.Jm a b X E) ((M.bN a b X E:Nat):Int)=nn at *;generalize M.Jm a b X E=s at *;have P1:=IU P1;obtain ⟨wc,hw3,C,Q,R,B⟩:=dB w #[a,b] 25 #[X,Y,E] 40 #[(0:Int),(0:Int),(0:Int),(0:Int)] 78;have ⟨q0,q1,q2⟩:=Q.aM;have f_:=C.box.c0;have i_:=C.box.c1;go_enter func138,ntmps138
 go_wp2_with (go_at_call 150;with_reducible refine p_ (P1.out _) fun w4 hb4=>?_;replace ⟨C,R,B⟩:=I7 hb4 C R B;have T:=aG.new w4 #[p1,p2,p3,p4] 78;have b_:=bA w4 (.cells #[p1,p2,p3,p4] 78);replace ⟨C,R,B⟩:=I7 b_ C R B;clear b_;(replace ⟨f_,i_⟩:=C.b2);(replace ⟨B_,C_,F_,G_,y_,A_,IZ,Ia⟩:=R.I0);(replace ⟨JF,JG,LB,LC⟩:=T.b4))
 exact D_ results138 ⟨rfl,Jk B⟩
namespace M
def cv (a b x e:Int):Int:=x*x*x+a*x*e*e*e*e+b*e*e*e*e*e*e
def aP (a b X Y E:Int):Bool:=if E=0 then decide (X=0) && decide (Y=0) else M.ins X (-10000) 10000 && M.ins E 1 20 && (M.gcd X E == 1) && decide (Y*Y=cv a b X E)
theorem AN (a b x e:Int):x*x*x+a*x*(e*e)*(e*e)+b*(e*e)*(e*e)*(e*e)=cv a b x e:=by unfold cv;grind
end M
theorem fS (a b x e:Int) (w:World) (ha1:-1000<=a) (ha2:a<=1000) (hb1:-10000<=b) (hb2:b<=10000) (hx1:-10000<=x) (hx2:x<=10000) (he1:-20<=e) (he2:e<=20) :
  Calls prog 84 #[.agg #[a,b],x,e] w fun e' w'=>e'=.returned (.int .i64 (M.cv a b x e))/\Below w w w':=by
 have sb1:=aH (x:=x) (y:=x) (m:=10000) (n:=10000);have Tz:=aH (x:=x*x) (y:=x) (m:=100000000) (n:=10000);have T0:=aH (x:=a) (y:=x) (m:=1000) (n:=10000);have T5:=aH (x:=a*x) (y:=e) (m:=10000000) (n:=20);have T6:=aH (x:=a*x*e) (y:=e) (m:=200000000) (n:=20);have T7:=aH (x:=a*x*e*e) (y:=e) (m:=4000000000) (n:=20);have T8:=aH (x:=a*x*e*e*e) (y:=e) (m:=80000000000) (n:=20);have T9:=aH (x:=b) (y:=e) (m:=10000) (n:=20);have T_:=aH (x:=b*e) (y:=e) (m:=200000) (n:=20);have OP:=aH (x:=b*e*e) (y:=e) (m:=4000000) (n:=20);have OQ:=aH (x:=b*e*e*e) (y:=e) (m:=80000000) (n:=20);have OR:=aH (x:=b*e*e*e*e) (y:=e) (m:=1600000000) (n:=20);have OS:=aH (x:=b*e*e*e*e*e) (y:=e) (m:=32000000000) (n:=20);have hcv:=IU (AN a b x e);go_enter func84,ntmps84
 go_wp2;go_ret;exact ⟨by rfl,Jz⟩
theorem qD (a b x e:Int) (w:World) (ha1:-1000<=a) (ha2:a<=1000) (hb1:-10000<=b) (hb2:b<=10000) (hx1:-10000<=x) (hx2:x<=10000) (he1:-20<=e) (he2:e<=20) :
  Calls prog 95 #[.agg #[a,b],x,e] w fun e' w'=>e'=.returned (.int .i64 (M.cv a b x e))/\Below w w w':=by
 have OT:=aH (x:=x) (y:=x) (m:=10000) (n:=10000);have OU:=aH (x:=x*x) (y:=x) (m:=100000000) (n:=10000);have OV:=aH (x:=a) (y:=x) (m:=1000) (n:=10000);have Qp:=aH (x:=e) (y:=e) (m:=20) (n:=20);have Qq:=aH (x:=a*x) (y:=e*e) (m:=10000000) (n:=400);have Qr:=aH (x:=a*x*(e*e)) (y:=e*e) (m:=4000000000) (n:=400);have Qs:=aH (x:=b) (y:=e*e) (m:=10000) (n:=400);have Qt:=aH (x:=b*(e*e)) (y:=e*e) (m:=4000000) (n:=400);have Qu:=aH (x:=b*(e*e)*(e*e)) (y:=e*e) (m:=1600000000) (n:=400);have hcv:=IU (AN a b x e);go_enter func95,ntmps95
 go_wp2;go_ret;exact ⟨by rw [←hcv.out];rfl,Jz⟩
theorem M.nX {a b x e:Int} (ha1:-1000<=a) (ha2:a<=1000) (hb1:-10000<=b) (hb2:b<=10000) (hx1:-10000<=x) (hx2:x<=10000) (he1:-20<=e) (he2:e<=20):-4000000000000<=M.cv a b x e/\M.cv a b x e<=4000000000000:=by
 have Qv:=aH (x:=x) (y:=x) (m:=10000) (n:=10000);have Qw:=aH (x:=x*x) (y:=x) (m:=100000000) (n:=10000);have Qx:=aH (x:=a) (y:=x) (m:=1000) (n:=10000);have Qy:=aH (x:=a*x) (y:=e) (m:=10000000) (n:=20);have Qz:=aH (x:=a*x*e) (y:=e) (m:=200000000) (n:=20);have S3:=aH (x:=a*x*e*e) (y:=e) (m:=4000000000) (n:=20);have Yi:=aH (x:=a*x*e*e*e) (y:=e) (m:=80000000000) (n:=20);have Yj:=aH (x:=b) (y:=e) (m:=10000) (n:=20);have Yl:=aH (x:=b*e) (y:=e) (m:=200000) (n:=20);have Ym:=aH (x:=b*e*e) (y:=e) (m:=4000000) (n:=20);have Yn:=aH (x:=b*e*e*e) (y:=e) (m:=80000000) (n:=20);have Yo:=aH (x:=b*e*e*e*e) (y:=e) (m:=1600000000) (n:=20);have Yp:=aH (x:=b*e*e*e*e*e) (y:=e) (m:=32000000000) (n:=20);unfold M.cv;omega
theorem M.El {Y v:Int} (h:Y*Y=v) (hv:v<=4000000000000):-3000000<=Y/\Y<=3000000:=by
 constructor
 ·rcases Int.lt_or_le Y (-3000000) with q | q
  ·have:=Int.mul_le_mul (a:=3000000) (b:=3000000) (c:=-Y) (d:=-Y) ω ω ω ω
   rw [Int.neg_mul_neg] at this;omega
  exact q
 rcases Int.lt_or_le 3000000 Y with q | q
 ·have:=Int.mul_le_mul (a:=3000000) (b:=3000000) (c:=Y) (d:=Y) ω ω ω ω
  omega
 exact q
theorem jP (a b X Y E:Int) (w:World) :
  cB 47 #[.agg #[a,b],.agg #[X,Y,E]] w (M.good a b && aP a b X Y E):=by
 have PC:=fun W=>pi a b W
 have PI:=IU fun n lo hi W=>dV n lo hi W
 obtain ⟨wc,hw3,C,Q,B⟩:=eC w #[a,b] 25 #[X,Y,E] 40;have ⟨q0,q1,q2⟩:=Q.aM;have f_:=C.box.c0;have i_:=C.box.c1
 cases hgd:M.good a b with
 | false=>
  rw [hgd] at PC;have PC:=IU PC;go_enter func47,ntmps47
  go_wp2_with (go_at_call 62;with_reducible refine p_ (PC.out _) fun w4 hb4=>?_;replace ⟨C,B,Q⟩:=I7 hb4 C B Q;(have ⟨z0,z1,z2⟩:=Q.aM);(replace ⟨f_,i_⟩:=C.b2))
  go_ret;exact ⟨rfl,B⟩
 | true=>
 obtain ⟨ha1,ha2,hb1,hb2⟩:=aW (aY hgd);rw [hgd] at PC;have PC:=IU PC;clear hgd;rw [Bool.true_and]
 by_cases hE:E=0
 ·by_cases hX:X=0
  ·by_cases hY:Y=0
   ·subst hE hX hY
    go_enter func47,ntmps47
    go_wp2_with (go_at_call 62;with_reducible refine p_ (PC.out _) fun w4 hb4=>?_;replace ⟨C,B,Q⟩:=I7 hb4 C B Q;(have ⟨z0,z1,z2⟩:=Q.aM);(replace ⟨f_,i_⟩:=C.b2))
    go_ret;exact ⟨rfl,B⟩
   have hres:=IU (show aP a b X Y E=false by unfold aP;rw [if_pos hE];simp [hY]);have hi:=IU (show M.ins E 1 20=false by unfold M.ins;simp;omega);subst hE hX;rw [hres.out]
   have PE:=fun W=>PI.out 0 1 20 W
   rw [hi.out] at PE;have PE:=IU PE;have hi2:=IU (show M.ins 0 (-10000) 10000=true by decide)
   have PX:=fun W=>PI.out 0 (-10000) 10000 W
   rw [hi2.out] at PX;have PX:=IU PX;clear PI;go_enter func47,ntmps47
   go_wp2_with (first
    | (go_at_call 62;with_reducible refine p_ (PC.out _) fun w4 hb4=>?_;replace ⟨C,B,Q⟩:=I7 hb4 C B Q;(have ⟨z0,z1,z2⟩:=Q.aM);(replace ⟨f_,i_⟩:=C.b2))
    | (go_at_call 28;first | (with_reducible refine Id (PX.out _) ?_) | (with_reducible refine Id (PE.out _) ?_)))
   go_ret;exact ⟨rfl,B⟩
  have hX0:(X == 0)=false:=by rw [beq_eq_false_iff_ne];exact hX
  subst hE
  have Js:(M.ins X (-10000) 10000=false∨M.ins 0 1 20=false)->aP a b X Y 0=false:=fun _=>by unfold aP;rw [if_pos rfl];simp [hX]
  have hE0:M.ins 0 1 20=false:=δ
  have P1:=fun W=>PI.out X (-10000) 10000 W
  have P2:=fun W=>PI.out 0 1 20 W
  have P4:=fun W=>PI.out Y (-3000000) 3000000 W
  have hgb:=fun h=>jj (n:=X) (lo:=-10000) (hi:=10000) h
  have hge:=fun h=>jj (n:=0) (lo:=1) (hi:=20) h
  have hyb:=fun h=>El (Y:=Y) (v:=M.cv a b X 0) h
  have L7:M.ins Y (-3000000) 3000000=true ↔ (-3000000<=Y/\Y<=3000000):=by unfold M.ins;simp
  generalize M.ins Y (-3000000) 3000000=i4,M.ins 0 1 20=i2,M.ins X (-10000) 10000=i1 at *;clear PI
  cases i1 with
  | false=>
   have hr2:=IU (show aP a b X Y 0=false from Js (Or.inl rfl));rw [hr2.out];have P1:=IU P1;have P2:=IU P2;have P4:=IU P4;clear hgb hge hyb L7 Js;go_enter func47,ntmps47
   go_wp2_with (first
    | (go_at_call 62;with_reducible refine p_ (PC.out _) fun w4 hb4=>?_;replace ⟨C,B,Q⟩:=I7 hb4 C B Q;(have ⟨z0,z1,z2⟩:=Q.aM);(replace ⟨f_,i_⟩:=C.b2))
    | (go_at_call 28;first | (with_reducible refine Id (P1.out _) ?_) | (with_reducible refine Id (P2.out _) ?_) | (with_reducible refine Id (P4.out _) ?_)))
   go_ret;exact ⟨rfl,B⟩
  | true=>
  cases i2 with
  | false=>
   have hr2:=IU (show aP a b X Y 0=false from Js (Or.inr rfl));rw [hr2.out];have P1:=IU P1;have P2:=IU P2;have P4:=IU P4;clear hgb hge hyb L7 Js;go_enter func47,ntmps47
   go_wp2_with (first
    | (go_at_call 62;with_reducible refine p_ (PC.out _) fun w4 hb4=>?_;replace ⟨C,B,Q⟩:=I7 hb4 C B Q;(have ⟨z0,z1,z2⟩:=Q.aM);(replace ⟨f_,i_⟩:=C.b2))
    | (go_at_call 28;first | (with_reducible refine Id (P1.out _) ?_) | (with_reducible refine Id (P2.out _) ?_) | (with_reducible refine Id (P4.out _) ?_)))
   go_ret;exact ⟨rfl,B⟩
  | true=>exact absurd hE0 δ
 have hE0:(E == 0)=false:=by rw [beq_eq_false_iff_ne];exact hE
 have hpt:aP a b X Y E=(M.ins X (-10000) 10000 && M.ins E 1 20 && (M.gcd X E == 1) && decide (Y*Y=M.cv a b X E)):=by unfold aP;rw [if_neg hE]
 have Js:(M.ins X (-10000) 10000=false∨M.ins E 1 20=false)->aP a b X Y E=false:=fun h=>by rw [hpt];rcases h with h | h <;> rw [h] <;> simp
 have P1:=fun W=>PI.out X (-10000) 10000 W
 have P2:=fun W=>PI.out E 1 20 W
 have P4:=fun W=>PI.out Y (-3000000) 3000000 W
 have hgb:=fun h=>jj (n:=X) (lo:=-10000) (hi:=10000) h
 have hge:=fun h=>jj (n:=E) (lo:=1) (hi:=20) h
 have hyb:=fun h=>El (Y:=Y) (v:=M.cv a b X E) h
 have L7:M.ins Y (-3000000) 3000000=true ↔ (-3000000<=Y/\Y<=3000000):=by unfold M.ins;simp
 generalize M.ins Y (-3000000) 3000000=i4,M.ins E 1 20=i2,M.ins X (-10000) 10000=i1 at *;clear PI
 cases i1 with
 | false=>
  have hr2:=IU (show aP a b X Y E=false from Js (Or.inl rfl));rw [hr2.out];have P1:=IU P1;have P2:=IU P2;have P4:=IU P4;clear hgb hge hyb L7 Js;go_enter func47,ntmps47
  go_wp2_with (first
   | (go_at_call 62;with_reducible refine p_ (PC.out _) fun w4 hb4=>?_;replace ⟨C,B,Q⟩:=I7 hb4 C B Q;(have ⟨z0,z1,z2⟩:=Q.aM);(replace ⟨f_,i_⟩:=C.b2))
   | (go_at_call 28;first | (with_reducible refine Id (P1.out _) ?_) | (with_reducible refine Id (P2.out _) ?_) | (with_reducible refine Id (P4.out _) ?_)))
  go_ret;exact ⟨rfl,B⟩
 | true=>
 cases i2 with
 | false=>
  have hr2:=IU (show aP a b X Y E=false from Js (Or.inr rfl));rw [hr2.out];have P1:=IU P1;have P2:=IU P2;have P4:=IU P4;clear hgb hge hyb L7 Js;go_enter func47,ntmps47
  go_wp2_with (first
   | (go_at_call 62;with_reducible refine p_ (PC.out _) fun w4 hb4=>?_;replace ⟨C,B,Q⟩:=I7 hb4 C B Q;(have ⟨z0,z1,z2⟩:=Q.aM);(replace ⟨f_,i_⟩:=C.b2))
   | (go_at_call 28;first | (with_reducible refine Id (P1.out _) ?_) | (with_reducible refine Id (P2.out _) ?_) | (with_reducible refine Id (P4.out _) ?_)))
  go_ret;exact ⟨rfl,B⟩
 | true=>
 rw [Bool.true_and,Bool.true_and] at hpt;have hb1:=hgb rfl;have hb2:=hge rfl;obtain ⟨x1,x2⟩:=hb1;obtain ⟨e1,e2⟩:=hb2
 have PG:=IU fun W=>s9 X E W ω ω ω ω
 have hcb:=nX (a:=a) (b:=b) (x:=X) (e:=E) ha1 ha2 ω ω x1 x2 ω ω
 have PV:=fun W=>fS a b X E W ha1 ha2 ω ω x1 x2 ω ω
 clear hgb hge Js;generalize M.gcd X E=gg at *
 by_cases hg1:gg=1
 ·have hg2:(gg == 1)=true:=by rw [beq_iff_eq];exact hg1
  rw [hg2,Bool.true_and] at hpt
  cases i4 with
  | false=>
   have hr2:=IU (show aP a b X Y E=false by rw [hpt];simp only [decide_eq_false_iff_not];intro LQ;have:=L7.2 (hyb LQ ω);cases this);rw [hr2.out];clear hpt L7 hyb hcb PV;have P1:=IU P1;have P2:=IU P2;have P4:=IU P4;go_enter func47,ntmps47
   go_wp2_with (first
    | (go_at_call 62;with_reducible refine p_ (PC.out _) fun w4 hb4=>?_;replace ⟨C,B,Q⟩:=I7 hb4 C B Q;(have ⟨z0,z1,z2⟩:=Q.aM);(replace ⟨f_,i_⟩:=C.b2))
    | (go_at_call 28;first | (with_reducible refine Id (P1.out _) ?_) | (with_reducible refine Id (P2.out _) ?_) | (with_reducible refine Id (P4.out _) ?_))
    | (go_at_call 83;(refine (PG.out _).mono ?_);rintro e w7 ⟨rfl,m_,rfl⟩))
   go_ret;exact ⟨rfl,aN B _⟩
  | true=>
  obtain ⟨y1,y2⟩:=L7.1 rfl;have LQ:=aH (x:=Y) (y:=Y) (m:=3000000) (n:=3000000);generalize M.cv a b X E=v at *;have hpt:=IU hpt;rw [hpt.out];clear L7 hyb hcb;have PV:=IU PV;have P1:=IU P1;have P2:=IU P2;have P4:=IU P4;go_enter func47,ntmps47
  go_upto_region 7 with (first
   | (go_at_call 62;with_reducible refine p_ (PC.out _) fun w4 hb4=>?_;replace ⟨C,B,Q⟩:=I7 hb4 C B Q;(have ⟨z0,z1,z2⟩:=Q.aM);(replace ⟨f_,i_⟩:=C.b2))
   | (go_at_call 28;first | (with_reducible refine Id (P1.out _) ?_) | (with_reducible refine Id (P2.out _) ?_) | (with_reducible refine Id (P4.out _) ?_))
   | (go_at_call 83;(refine (PG.out _).mono ?_);rintro e w7 ⟨rfl,m_,rfl⟩))
  have C2:aG (w4.drewN m_) w 25 #[a,b]:=by unfold aG at *;rw [World.heap_drewN];exact C
  have Q2:aG (w4.drewN m_) (w.heap.size+1) 40 #[X,Y,E]:=by unfold aG at *;rw [World.heap_drewN];exact Q
  have B2:=aN B m_;generalize w4.drewN m_=wd at *;clear C Q B;refine b8 13 [.is (.pointer (some ⟨w.heap.size+1,1,none⟩)),.is Y,.is (.pointer (some ⟨w.heap.size+1,1,none⟩)),.is Y,.is (Y*Y:Int),.is (.agg #[a,b]),.is (.pointer (some ⟨w.heap.size+1,0,none⟩)),.is X,.is (.pointer (some ⟨w.heap.size+1,2,none⟩)),.is E,.is v,.is (decide (Y*Y=v)),.is (decide (Y*Y=v))] κ κ κ ⟨?_,?_,?_,?_,?_,?_,?_,?_,?_,?_,?_,?_,?_,trivial⟩ ?_
  all_goals try ((first | (refine Rg.b1 ?_;intro zZ w_ hB e) | (refine Rg.b2 ?_;intro zZ w_ hB e f));have kz:=aE hB Q2.aM.2.1;have kz:=aE hB C2.box.c0;have kz:=aE hB C2.box.c1;have kz:=aE hB Q2.aM.1;have kz:=aE hB Q2.aM.2.2;(first | (go_simp;done) | (go_simp;exact Rg.wo ω) | (go_simp;first | done | rfl | (by_cases Ii:Y*Y=v <;> simp [Ii];done);done)))
  ·intro _ zZ w_ hB hr
   have e40:=Rg.t_ (hr 40 δ);have e42:=Rg.t_ (hr 42 δ);have e44:=Rg.t_ (hr 44 δ);have ef:=Rg.ef zZ;exact bp rfl γ (PV.out _)
  intro vals wz hB hv hne;have KG:vals 12=.bool (decide (Y*Y=v)):=hv 12 δ;simp only [bD,Rg.fill,Act.put,Nat.reduceAdd];clear hv;simp only [KG];clear KG;unfold aV;go_wp2;go_ret;exact ⟨rfl,j_ B2 hB⟩
 have hg2:(gg == 1)=false:=by rw [beq_eq_false_iff_ne];exact hg1
 have hr2:=IU (show aP a b X Y E=false by rw [hpt,hg2];rfl);rw [hr2.out];clear hpt L7 hyb hcb PV;have P1:=IU P1;have P2:=IU P2;have P4:=IU P4;go_enter func47,ntmps47
 go_wp2_with (first
  | (go_at_call 62;with_reducible refine p_ (PC.out _) fun w4 hb4=>?_;replace ⟨C,B,Q⟩:=I7 hb4 C B Q;(have ⟨z0,z1,z2⟩:=Q.aM);(replace ⟨f_,i_⟩:=C.b2))
  | (go_at_call 28;first | (with_reducible refine Id (P1.out _) ?_) | (with_reducible refine Id (P2.out _) ?_) | (with_reducible refine Id (P4.out _) ?_))
  | (go_at_call 83;(refine (PG.out _).mono ?_);rintro e w7 ⟨rfl,m_,rfl⟩))
 go_ret;exact ⟨rfl,aN B _⟩
end
section
open Gr M Rg Rw Wh
namespace M
def cg (X Y E:Int):r_:=if E=0 then .O else .fin ((X:Rat) / ((E*E:Int):Rat)) ((Y:Rat) / ((E*E*E:Int):Rat))
theorem dn {a b X Y E:Int} (h:aP a b X Y E=true) (hE:E≠0):(-10000<=X/\X<=10000)/\(1<=E/\E<=20)/\Int.gcd X E=1/\Y*Y=cv a b X E:=by
 unfold aP at h;rw [if_neg hE] at h;simp only [Bool.and_eq_true,ins,decide_eq_true_eq,beq_iff_eq,gcd] at h;obtain ⟨⟨⟨h1,h2⟩,h3⟩,h4⟩:=h;exact ⟨h1,h2,ω,h4⟩
theorem rQ {a b X Y E:Int} (h:aP a b X Y E=true) (hE:E=0):X=0/\Y=0:=by
 unfold aP at h;rw [if_pos hE] at h;simp only [Bool.and_eq_true,decide_eq_true_eq] at h;exact h
theorem eS {E:Int} (h:E≠0):(E:Rat)≠0:=by exact_mod_cast h
theorem dt {a b X Y E:Int} (h:aP a b X Y E=true):r_.On a b (cg X Y E):=by
 unfold cg
 split
 ·trivial
 rename_i hE
 obtain ⟨-,-,-,h4⟩:=dn h hE;unfold r_.On
 have h5:(Y:Rat)*Y=X*X*X+a*X*E*E*E*E+b*E*E*E*E*E*E:=by
  unfold cv at h4
  exact_mod_cast h4
 have hz:=eS hE
 push_cast
 generalize (E:Rat)=e at *;have k1:=Rat.div_mul_cancel (a:=(X:Rat)) (b:=e*e) φ;have k2:=Rat.div_mul_cancel (a:=(Y:Rat)) (b:=e*e*e) φ;generalize (X:Rat) / (e*e)=x at *;generalize (Y:Rat) / (e*e*e)=y at *;rw [←k1,←k2] at h5;clear k1 k2
 have:(e*e*e*e*e*e)*(y*y)=(e*e*e*e*e*e)*(x*x*x+a*x+b):=φ
 have MS:e*e*e*e*e*e≠0:=φ
 grind
theorem rP {a b X Y E:Int} (h:aP a b X Y E=true) (hE:E≠0):r_.px (cg X Y E)=X/\r_.pz (cg X Y E)=E*E:=by
 obtain ⟨-,h2,h3,-⟩:=dn h hE;unfold cg;rw [if_neg hE]
 have hg:Int.gcd X (E*E)=1:=by
  unfold Int.gcd at *;rw [Int.natAbs_mul];exact Nat.Coprime.mul_right h3 h3
 have hp:0<E*E:=Int.mul_pos ω ω;exact EG hp hg (Rat.div_mul_cancel (eS ω))
theorem rO (X Y:Int):cg X Y 0=.O:=rfl
theorem Fz {a b:Int} {d x z:Int} (h0:d ∣ 4*aO a b) (hc:Int.gcd x z=1):Wh.KX (aO a b) (d*x) (d*z)=d.natAbs:=by
 unfold Wh.KX;rw [Nat.gcd_assoc]
 have e:Nat.gcd (d*x).natAbs (d*z).natAbs=d.natAbs:=by
  have:=Int.gcd_mul_left d x z;rw [hc,Nat.mul_one] at this;exact this
 rw [e];have:=Int.natAbs_dvd_natAbs.2 h0;rw [Int.natAbs_mul] at this;exact Nat.gcd_eq_right this
theorem Wp {a b:Int} {d x z:Int} (h0:d≠0) (h1:d ∣ 4*aO a b) (hc:Int.gcd x z=1) (hz:0<z) :
  Wh.MO (aO a b) (d*x) (d*z)=x/\Wh.MN (aO a b) (d*x) (d*z)=z:=by
 unfold Wh.MO Wh.MN;rw [Fz h1 hc]
 rcases Int.lt_or_le d 0 with hs | hs
 ·have hneg:d*z<0:=by
   have:=Int.mul_pos (a:=-d) (b:=z) ω hz;rw [Int.neg_mul] at this;omega
  rw [if_pos hneg,if_pos hneg]
  have e:(d.natAbs:Int)=-d:=ω
  rw [e]
  have:∀ t:Int,-(d*t / -d)=t:=fun t=>by
   rw [show d*t=-d*-t by grind,Int.mul_ediv_cancel_left _ ω];omega
  exact ⟨this x,this z⟩
 have hpos:¬ d*z<0:=by
  have:=Int.mul_pos (a:=d) (b:=z) ω hz;omega
 rw [if_neg hpos,if_neg hpos]
 have e:(d.natAbs:Int)=d:=ω
 rw [e];exact ⟨Int.mul_ediv_cancel_left _ h0,Int.mul_ediv_cancel_left _ h0⟩
def sI (P:r_):Out->Prop
 | .val u v=>r_.px P=u/\r_.pz P=v
 | .inf=>P=.O
 | .bad=>True
theorem xK {P:r_} (h:r_.pz P=0):P=.O:=by
 cases P with
 | O=>rfl
 | fin x y=>
 have:=x.den_nz;have h:(x.den:Int)=0:=h;omega
theorem CO {a b:Int} (hd:aO a b≠0) {P:r_} (hP:r_.On a b P) {o:Out} (ho:sI P o):∀ n,sI (r_.Iz a n P) (run a b n o)
 | 0=>ho
 | n+1=>by
  have ih:=CO hd hP ho n;have hon:=r_.el (r_.dA hd) hP n
  show sI (r_.add a (r_.Iz a n P) (r_.Iz a n P)) (nx a b (run a b n o))
  generalize run a b n o=q at *;generalize r_.Iz (a:Rat) n P=Q at *
  cases q with
  | bad=>trivial
  | inf=>
   have ih:Q=.O:=ih;rw [ih];rfl
  | val u v=>
  obtain ⟨rfl,rfl⟩:=(ih:r_.px Q=u/\r_.pz Q=v)
  obtain ⟨d,h1,h2,h3,h4⟩:=r_.sd hd hon;have hc:=r_.cop (r_.add (a:Rat) Q Q);have hn:=r_.CG (r_.add (a:Rat) Q Q);unfold nx
  dsimp only
  rw [h3,h4]
  split
  ·rename_i hz
   rcases Int.mul_eq_zero.1 hz with h | h
   ·exact absurd h h1
   exact xK h
  rename_i hz
  split
  ·have hp:0<r_.pz (r_.add (a:Rat) Q Q):=by
    rcases Int.lt_or_le 0 (r_.pz (r_.add (a:Rat) Q Q)) with h | h
    ·exact h
    exact absurd (show d*r_.pz (r_.add (a:Rat) Q Q)=0 by rw [show r_.pz (r_.add (a:Rat) Q Q)=0 by omega,Int.mul_zero]) hz
   obtain ⟨e1,e2⟩:=Wp h1 h2 hc hp;rw [e1,e2];exact ⟨rfl,rfl⟩
  trivial
theorem GU {a b X Y E:Int} (hd:aO a b≠0) (h:aP a b X Y E=true) (n:Nat):sI (r_.Iz a n (cg X Y E)) (aX a b X E n):=by
 unfold aX
 split
 ·rename_i hE
  subst hE;rw [rO,r_.Ag];rfl
 rename_i hE
 exact CO hd (dt h) (o:=.val X (E*E)) (rP h hE) n
def Jl (s:Nat->Int) (lo hi:Int):Prop:=∃ c:Int,∀ n,lo*4 ^ n - c<=4096*s n/\4096*s n<=hi*4 ^ n+c
theorem gQ (n:Nat):(1:Int)<=4 ^ n:=by
 induction n with
 | zero=>decide
 | succ n ih=>rw [Int.pow_succ];omega
theorem Hy (n:Nat):(n:Int)<=4 ^ n:=by
 induction n with
 | zero=>decide
 | succ n ih=>rw [Int.pow_succ];have:=gQ n;omega
theorem GA {x c:Int} (h:∀ n:Nat,x*4 ^ n<=c):x<=0:=by
 rcases Int.lt_or_le 0 x with hx | hx
 ·exfalso
  have h1:=h (c.toNat+1);have h2:=Hy (c.toNat+1);have h3:1*(4:Int) ^ (c.toNat+1)<=x*4 ^ (c.toNat+1):=Int.mul_le_mul_of_nonneg_right ω (by have:=gQ (c.toNat+1);omega);omega
 exact hx
theorem Jl.meet {s t:Nat->Int} {l h l' h':Int} (k:Jl s l h) (k':Jl t l' h') (e:r_.Cl s t):l<=h':=by
 obtain ⟨c,k⟩:=k;obtain ⟨d,k'⟩:=k';obtain ⟨f,e⟩:=e
 have:=GA (x:=l - h') (c:=c+d+4096*f) fun n=>by
  have:=k n;have:=k' n;have:=e n;rw [Int.sub_mul];omega
 omega
theorem Jl.valid {s:Nat->Int} {l h:Int} (k:Jl s l h):l<=h:=k.meet k (r_.Cl.refl s)
theorem Jl.common {s:Nat->Int} {l h l' h':Int} (k:Jl s l h) (k':Jl s l' h'):Jl s (max l l') (min h h'):=by
 obtain ⟨c,k⟩:=k;obtain ⟨d,k'⟩:=k';refine ⟨max c d,fun n=>?_⟩;have:=k n;have:=k' n
 rcases Int.le_total l l' with h1 | h1 <;> rcases Int.le_total h h' with h2 | h2
 ·rw [Int.max_eq_right h1,Int.min_eq_left h2];omega
 ·rw [Int.max_eq_right h1,Int.min_eq_right h2];omega
 ·rw [Int.max_eq_left h1,Int.min_eq_left h2];omega
 rw [Int.max_eq_left h1,Int.min_eq_right h2];omega
theorem Jl.cl {s t:Nat->Int} {l h:Int} (k:Jl s l h) (e:r_.Cl s t):Jl t l h:=by
 obtain ⟨c,k⟩:=k;obtain ⟨f,e⟩:=e;exact ⟨c+4096*f,fun n=>by have:=k n;have:=e n;omega⟩
theorem Jl.add {s t:Nat->Int} {l h l' h':Int} (k:Jl s l h) (k':Jl t l' h'):Jl (fun n=>s n+t n) (l+l') (h+h'):=by
 obtain ⟨c,k⟩:=k;obtain ⟨d,k'⟩:=k';exact ⟨c+d,fun n=>by have:=k n;have:=k' n;rw [Int.add_mul,Int.add_mul];show _<=4096*(s n+t n)/\4096*(s n+t n)<=_;omega⟩
theorem Jl.sub {s t:Nat->Int} {l h l' h':Int} (k:Jl s l h) (k':Jl t l' h'):Jl (fun n=>s n - t n) (l - h') (h - l'):=by
 obtain ⟨c,k⟩:=k;obtain ⟨d,k'⟩:=k';exact ⟨c+d,fun n=>by have:=k n;have:=k' n;rw [Int.sub_mul,Int.sub_mul];show _<=4096*(s n - t n)/\4096*(s n - t n)<=_;omega⟩
theorem Jl.scale {s:Nat->Int} {l h:Int} (m:Nat) (k:Jl s l h):Jl (fun n=>(m:Int)*s n) (l*m) (h*m):=by
 obtain ⟨c,k⟩:=k;refine ⟨m*c,fun n=>?_⟩;have k:=k n
 have hm:(0:Int)<=m:=ω
 have k1:=Int.mul_le_mul_of_nonneg_left k.1 hm;have k2:=Int.mul_le_mul_of_nonneg_left k.2 hm
 constructor
 ·calc l*m*4 ^ n - m*c=(m:Int)*(l*4 ^ n - c):=φ
   _<=(m:Int)*(4096*s n):=k1
   _=4096*((m:Int)*s n):=φ
 calc 4096*((m:Int)*s n)=(m:Int)*(4096*s n):=φ
  _<=(m:Int)*(h*4 ^ n+c):=k2
  _=h*m*4 ^ n+m*c:=φ
end M
namespace M
def HK (k:Nat) (s:Nat->Int) (lo hi:Int):Prop:=∃ c:Int,0<=c/\∀ n:Nat,lo*((4 ^ n) ^ k*4 ^ n) - c*(4 ^ n) ^ k<=4096*s n/\4096*s n<=hi*((4 ^ n) ^ k*4 ^ n)+c*(4 ^ n) ^ k
theorem vG (n k:Nat):(1:Int)<=(4 ^ n) ^ k:=by
 induction k with
 | zero=>exact Int.le_refl _
 | succ k ih=>
 rw [Int.pow_succ];have h:=gQ n;exact Int.le_trans δ (Int.mul_le_mul ih h δ ω)
theorem HK.of {s:Nat->Int} {lo hi:Int} (h:Jl s lo hi):HK 0 s lo hi:=by
 obtain ⟨c,h⟩:=h;refine ⟨max c 0,ω,fun n=>?_⟩;have:=h n;rw [Int.pow_zero,Int.one_mul,Int.mul_one];omega
theorem HK.zero (k:Nat):HK k (fun _=>0) 0 0:=⟨0,Int.le_refl _,fun n=>σ⟩
theorem HK.add {k:Nat} {s t:Nat->Int} {l h l' h':Int} (p:HK k s l h) (q:HK k t l' h'):HK k (fun n=>s n+t n) (l+l') (h+h'):=by
 obtain ⟨c,c0,p⟩:=p;obtain ⟨d,d0,q⟩:=q;refine ⟨c+d,ω,fun n=>?_⟩;have:=p n;have:=q n;rw [Int.add_mul,Int.add_mul,Int.add_mul]
 show _<=4096*(s n+t n)/\4096*(s n+t n)<=_
 omega
theorem HK.sub {k:Nat} {s t:Nat->Int} {l h l' h':Int} (p:HK k s l h) (q:HK k t l' h'):HK k (fun n=>s n - t n) (l - h') (h - l'):=by
 obtain ⟨c,c0,p⟩:=p;obtain ⟨d,d0,q⟩:=q;refine ⟨c+d,ω,fun n=>?_⟩;have:=p n;have:=q n;rw [Int.sub_mul,Int.sub_mul,Int.add_mul]
 show _<=4096*(s n - t n)/\4096*(s n - t n)<=_
 omega
theorem Bf {X lo hi e:Int} (h:lo<=hi) (he:0<=e) (h1:lo - e<=X) (h2:X<=hi+e):∃ x,lo<=x/\x<=hi/\-e<=X - x/\X - x<=e:=by
 by_cases c1:X<lo
 ·exact ⟨lo,ω,h,ω,ω⟩
 by_cases c2:hi<X
 ·exact ⟨hi,h,ω,ω,ω⟩
 exact ⟨X,ω,ω,ω,ω⟩
theorem uu {x l h:Int} (y:Int) (h1:l<=x) (h2:x<=h):min (l*y) (h*y)<=x*y/\x*y<=max (l*y) (h*y):=by
 rcases Int.le_total 0 y with q | q
 ·have:=Int.mul_le_mul_of_nonneg_right h1 q
  have:=Int.mul_le_mul_of_nonneg_right h2 q;omega
 have:=Int.mul_le_mul_of_nonpos_right h1 q;have:=Int.mul_le_mul_of_nonpos_right h2 q;omega
theorem DQ {x y a b c d:Int} (h1:a<=x) (h2:x<=b) (h3:c<=y) (h4:y<=d):co a b c d<=x*y/\x*y<=cj a b c d:=by
 have q:=uu y h1 h2;have p1:=uu a h3 h4;have p2:=uu b h3 h4;rw [Int.mul_comm c,Int.mul_comm d,Int.mul_comm y] at p1 p2;unfold co cj;omega
theorem Cm {a b c d A B:Int} (hA:0<=A) (hB:0<=B):co a b c d*(A*B)<=co (a*A) (b*A) (c*B) (d*B)/\cj (a*A) (b*A) (c*B) (d*B)<=cj a b c d*(A*B):=by
 have hAB:0<=A*B:=Int.mul_nonneg hA hB
 have e:∀ x y:Int,x*A*(y*B)=x*y*(A*B):=fun x y=>φ
 unfold co cj;rw [e,e,e,e]
 have m1:=fun z (h:min (a*c) (min (a*d) (min (b*c) (b*d)))<=z)=>Int.mul_le_mul_of_nonneg_right h hAB
 have m2:=fun z (h:z<=max (a*c) (max (a*d) (max (b*c) (b*d))))=>Int.mul_le_mul_of_nonneg_right h hAB
 have:=m1 (a*c) ω;have:=m1 (a*d) ω;have:=m1 (b*c) ω;have:=m1 (b*d) ω;have:=m2 (a*c) ω;have:=m2 (a*d) ω;have:=m2 (b*c) ω;have:=m2 (b*d) ω;omega
theorem zT {x l h:Int} (h1:l<=x) (h2:x<=h) {A:Int} (hA:0<=A) {a b:Int} (e1:l=a*A) (e2:h=b*A):-(((a.natAbs+b.natAbs:Nat):Int)*A)<=x/\x<=((a.natAbs+b.natAbs:Nat):Int)*A:=by
 have q1:-((a.natAbs+b.natAbs:Nat):Int)*A<=a*A:=Int.mul_le_mul_of_nonneg_right ω hA;have q2:b*A<=((a.natAbs+b.natAbs:Nat):Int)*A:=Int.mul_le_mul_of_nonneg_right ω hA;rw [Int.neg_mul] at q1;omega
theorem Be {s t a b c d e f Q P:Int} (hQ:1<=Q) (hP:1<=P) (hab:a<=b) (hcd:c<=d) (he:0<=e) (hf:0<=f) (h1:a*Q - e<=4096*s) (h2:4096*s<=b*Q+e) (h3:c*(P*Q) - f*P<=4096*t) (h4:4096*t<=d*(P*Q)+f*P) :
  ∃ C:Int,C=e*(((c.natAbs+d.natAbs:Nat):Int)+f)+((a.natAbs+b.natAbs:Nat):Int)*f/\co a b c d / 4096*(P*Q*Q) - C*(P*Q)<=4096*(s*t)/\4096*(s*t)<=-(-cj a b c d / 4096)*(P*Q*Q)+C*(P*Q):=by
 refine ⟨_,rfl,?_⟩;have hPQ:1<=P*Q:=Int.le_trans δ (Int.mul_le_mul hP hQ δ ω)
 have N4:0<=P*Q:=ω
 have hfP:0<=f*P:=Int.mul_nonneg hf ω;obtain ⟨x,x1,x2,x3,x4⟩:=Bf (Int.mul_le_mul_of_nonneg_right hab (show 0<=Q by omega)) he h1 h2;obtain ⟨y,y1,y2,y3,y4⟩:=Bf (Int.mul_le_mul_of_nonneg_right hcd N4) hfP h3 h4;obtain ⟨g1,g2⟩:=DQ x1 x2 y1 y2;obtain ⟨k1,k2⟩:=Cm (a:=a) (b:=b) (c:=c) (d:=d) (show 0<=Q by omega) N4;obtain ⟨b1,b2⟩:=zT x1 x2 (show 0<=Q by omega) rfl rfl;obtain ⟨b3,b4⟩:=zT y1 y2 N4 rfl rfl
 have SJ:f*P<=f*(P*Q):=by
  refine Int.mul_le_mul_of_nonneg_left ?_ hf;have:=Int.mul_le_mul_of_nonneg_left hQ (show 0<=P by omega)
  rwa [Int.mul_one] at this
 generalize hu:((a.natAbs+b.natAbs:Nat):Int)=u at *;generalize hv:((c.natAbs+d.natAbs:Nat):Int)=v at *;have e1:=aH (x:=4096*s - x) (y:=4096*t) (m:=e) (n:=(v+f)*(P*Q)) x3 x4 (by rw [Int.add_mul];omega) (by rw [Int.add_mul];omega);have e2:=aH (x:=x) (y:=4096*t - y) (m:=u*Q) (n:=f*P) b1 b2 y3 y4
 have e3:4096*(4096*(s*t))=(4096*s - x)*(4096*t)+x*(4096*t - y)+x*y:=φ
 have e4:(e*(v+f)+u*f)*(P*Q)=e*((v+f)*(P*Q))+u*Q*(f*P):=φ
 have e5:Q*(P*Q)=P*Q*Q:=φ
 rw [e5] at k1 k2;rw [e4];generalize x*(4096*t - y)=z2,(4096*s - x)*(4096*t)=z1,u*Q*(f*P)=E2,e*((v+f)*(P*Q))=E1 at *;have SF:0<=P*Q*Q:=Int.mul_nonneg N4 ω;generalize cj a b c d=T2,co a b c d=T1 at *;have t1:4096*(T1 / 4096)*(P*Q*Q)<=T1*(P*Q*Q):=Int.mul_le_mul_of_nonneg_right ω SF;have t2:T2*(P*Q*Q)<=4096*(-(-T2 / 4096))*(P*Q*Q):=Int.mul_le_mul_of_nonneg_right ω SF;rw [Int.mul_assoc 4096 (T1 / 4096)] at t1;rw [Int.mul_assoc 4096 (-(-T2 / 4096))] at t2;generalize x*y=xy,s*t=st,T2*(P*Q*Q)=w4,T1*(P*Q*Q)=w3,-(-T2 / 4096)*(P*Q*Q)=w2,T1 / 4096*(P*Q*Q)=w1 at *;omega
theorem HK.valid {k:Nat} {s:Nat->Int} {l h:Int} (p:HK k s l h):l<=h:=by
 obtain ⟨c,c0,p⟩:=p
 have:=GA (x:=l - h) (c:=2*c) fun n=>by
  have q:=p n;have hp:=vG n k;generalize ((4:Int) ^ n) ^ k=P at *
  have e:(l - h)*4 ^ n*P<=2*c*P:=by
   have:(l - h)*4 ^ n*P=l*(P*4 ^ n) - h*(P*4 ^ n):=φ
   rw [this,Int.mul_assoc];omega
  exact Int.le_of_mul_le_mul_right e ω
 omega
theorem HK.mul {k:Nat} {s t:Nat->Int} {a b c d:Int} (p:Jl s a b) (q:HK k t c d):HK (k+1) (fun n=>s n*t n) (co a b c d / 4096) (-(-cj a b c d / 4096)):=by
 have hab:=p.valid;have hcd:=q.valid;obtain ⟨e,e0,p⟩:=HK.of p;obtain ⟨f,f0,q⟩:=q;refine ⟨e*(((c.natAbs+d.natAbs:Nat):Int)+f)+((a.natAbs+b.natAbs:Nat):Int)*f,?_,fun n=>?_⟩
 ·have:=Int.mul_nonneg e0 (show 0<=((c.natAbs+d.natAbs:Nat):Int)+f by omega)
  have:=Int.mul_nonneg (show 0<=((a.natAbs+b.natAbs:Nat):Int) by omega) f0;omega
 have p1:=p n;rw [Int.pow_zero,Int.one_mul,Int.mul_one] at p1;obtain ⟨C,hC,r⟩:=Be (gQ n) (vG n k) hab hcd e0 f0 p1.1 p1.2 (q n).1 (q n).2;rw [hC] at r;rw [Int.pow_succ];exact r
theorem HK.small {k:Nat} {s:Nat->Int} {l h c:Int} {x:Int} (hx:x≠0) (p:HK k s l h) (q:∀ n:Nat,-(c*(4 ^ n) ^ k)<=x*s n/\x*s n<=c*(4 ^ n) ^ k):l<=0:=by
 obtain ⟨d,d0,p⟩:=p
 refine GA (c:=4096*(c.natAbs:Int)+d) fun n=>?_
 have p1:=(p n).1;have q1:=q n;have hp:=vG n k;generalize ((4:Int) ^ n) ^ k=P at *;have hc:c*P<=(c.natAbs:Int)*P:=Int.mul_le_mul_of_nonneg_right ω ω
 have hs:s n<=(c.natAbs:Int)*P:=by
  rcases Int.lt_or_le 0 (s n) with h1 | h1
  ·rcases Int.lt_or_le 0 x with h2 | h2
   ·have:=Int.mul_le_mul_of_nonneg_right (show 1<=x by omega) (show 0<=s n by omega)
    omega
   have:=Int.mul_le_mul_of_nonneg_right (show x<=-1 by omega) (show 0<=s n by omega);omega
  have:=Int.mul_nonneg (show 0<=(c.natAbs:Int) by omega) (show 0<=P by omega);omega
 have e:l*4 ^ n*P<=(4096*(c.natAbs:Int)+d)*P:=by
  have e1:l*4 ^ n*P=l*(P*4 ^ n):=φ
  rw [e1,Int.add_mul,Int.mul_assoc];omega
 exact Int.le_of_mul_le_mul_right e ω
end M
end
section
open Go.RowKit open Gr M Rg Rw Wh
theorem M.DV (x y:Int):M.gcd (x.natAbs:Int) y=M.gcd x y:=by unfold M.gcd Int.gcd;rw [Int.natAbs_natCast]
theorem Gc (a b X Y E:Int) (w:World) (hgd:M.good a b=true) :
  cB 93 #[.agg #[a,b],.agg #[X,Y,E]] w (aP a b X Y E):=by
 obtain ⟨wc,hw3,C,Q,B⟩:=eC w #[a,b] 25 #[X,Y,E] 40;have ⟨q0,q1,q2⟩:=Q.aM;have f_:=C.box.c0;have i_:=C.box.c1;obtain ⟨ha1,ha2,hb1,hb2⟩:=aW (aY hgd)
 by_cases hE:E=0
 ·subst hE
  have hr:=IU (show aP a b X Y 0=(decide (X=0) && decide (Y=0)) by unfold aP;rw [if_pos rfl]);rw [hr.out]
  by_cases hX:X=0
  ·by_cases hY:Y=0
   ·subst hX hY
    go_enter func93,ntmps93
    go_wp2;go_ret;exact ⟨rfl,B⟩
   have hY0:(Y == 0)=false:=by rw [beq_eq_false_iff_ne];exact hY
   subst hX;go_enter func93,ntmps93
   go_wp2;go_ret;exact ⟨by simp [hY],B⟩
  have hX0:(X == 0)=false:=by rw [beq_eq_false_iff_ne];exact hX
  go_enter func93,ntmps93
  go_wp2;go_ret;exact ⟨by simp [hX],B⟩
 have hE0:(E == 0)=false:=by rw [beq_eq_false_iff_ne];exact hE
 have hpt:aP a b X Y E=(M.ins X (-10000) 10000 && M.ins E 1 20 && (M.gcd X E == 1) && decide (Y*Y=M.cv a b X E)):=by unfold aP;rw [if_neg hE]
 have P1:=fun W=>dW X (-10000) 10000 W
 have P2:=fun W=>dW E 1 20 W
 have P4:=fun W=>dW Y (-10000000) 10000000 W
 have hgb:=fun h=>jj (n:=X) (lo:=-10000) (hi:=10000) h
 have hge:=fun h=>jj (n:=E) (lo:=1) (hi:=20) h
 have hyb:=fun h=>El (Y:=Y) (v:=M.cv a b X E) h
 have L7:M.ins Y (-10000000) 10000000=true ↔ (-10000000<=Y/\Y<=10000000):=by unfold M.ins;simp
 have hcb:=fun h1 h2=>nX (a:=a) (b:=b) (x:=X) (e:=E) ha1 ha2 ω ω (hgb h1).1 (hgb h1).2 (by have:=(hge h2).1;omega) (hge h2).2
 have PV:=fun h1 h2 W=>qD a b X E W ha1 ha2 ω ω (hgb h1).1 (hgb h1).2 (by have:=(hge h2).1;omega) (hge h2).2
 have PA:=fun h1 W=>df X W (by have:=hgb h1;omega) (by have:=hgb h1;omega)
 have PG:=fun (h1:M.ins X (-10000) 10000=true) (h2:M.ins E 1 20=true) W=>dR (X.natAbs:Int) E W ω (by have:=hgb h1;omega) (by have:=hge h2;omega) (by have:=hge h2;omega)
 simp only [DV] at PG;generalize M.cv a b X E=v,M.ins Y (-10000000) 10000000=i4,M.ins E 1 20=i2,M.ins X (-10000) 10000=i1,M.gcd X E=gg at *
 have hno:((((!i1) || (!i2)) || (!i4)) || (!(gg == 1)))=true->aP a b X Y E=false:=by
  intro h;rw [hpt];cases i1
  ·rfl
  cases i2
  ·rfl
  have hcb:=hcb rfl rfl;cases i4
  ·simp only [Bool.and_eq_false_iff,decide_eq_false_iff_not]
   right
   intro LQ;have q:=hyb LQ ω;have:=L7.2 ω;cases this
  cases hg:(gg == 1)
  ·rfl
  rw [hg] at h;cases h
 have hyes:((((!i1) || (!i2)) || (!i4)) || (!(gg == 1)))=false->(i1=true/\i2=true/\i4=true)/\aP a b X Y E=decide (Y*Y=v):=by
  intro h;rw [hpt]
  revert h
  cases i1 <;> cases i2 <;> cases i4 <;> cases (gg == 1) <;> simp
 clear hgb hge hyb hpt hcb;replace P1:=IU P1;replace P2:=IU P2;replace P4:=IU P4;replace PA:=IU PA;replace PG:=IU PG;replace PV:=IU PV;replace hno:=IU hno;replace hyes:=IU hyes;replace L7:=IU L7;go_enter func93,ntmps93
 go_wp2
 go_upto_region 3 with fail
 refine b8 25 [.is (.pointer (some ⟨w.heap.size+1,0,none⟩)),.is X,.is i1,.is (.bool (!i1)),.is (.bool (!i1)),.is (bif (!i1) then undef else .pointer (some ⟨w.heap.size+1,2,none⟩)),.is (bif (!i1) then undef else .int .i64 E),.is (bif (!i1) then undef else .bool i2),.is (bif (!i1) then undef else .bool (!i2)),.is (.bool ((!i1) || (!i2))),.is (.bool ((!i1) || (!i2))),.is (bif ((!i1) || (!i2)) then undef else .pointer (some ⟨w.heap.size+1,1,none⟩)),.is (bif ((!i1) || (!i2)) then undef else .int .i64 Y),.is (bif ((!i1) || (!i2)) then undef else .bool i4),.is (bif ((!i1) || (!i2)) then undef else .bool (!i4)),.is (.bool (((!i1) || (!i2)) || (!i4))),.is (.bool (((!i1) || (!i2)) || (!i4))),.is (bif (((!i1) || (!i2)) || (!i4)) then undef else .pointer (some ⟨w.heap.size+1,0,none⟩)),.is (bif (((!i1) || (!i2)) || (!i4)) then undef else .int .i64 X),.is (bif (((!i1) || (!i2)) || (!i4)) then undef else .int .i64 (X.natAbs:Int)),.is (bif (((!i1) || (!i2)) || (!i4)) then undef else .pointer (some ⟨w.heap.size+1,2,none⟩)),.is (bif (((!i1) || (!i2)) || (!i4)) then undef else .int .i64 E),.is (bif (((!i1) || (!i2)) || (!i4)) then undef else .int .i64 gg),.is (bif (((!i1) || (!i2)) || (!i4)) then undef else .bool (!(gg == 1))),.is (.bool ((((!i1) || (!i2)) || (!i4)) || (!(gg == 1))))] κ κ κ ⟨?_,?_,?_,?_,?_,?_,?_,?_,?_,?_,?_,?_,?_,?_,?_,?_,?_,?_,?_,?_,?_,?_,?_,?_,?_,trivial⟩ ?_
 ·refine Rg.b1 ?_;intro zZ w_ hB e
  go_simp
 ·refine Rg.b1 ?_;intro zZ w_ hB e
  have k0:=aE hB Q.aM.1;go_simp
 ·refine Rg.o1 ?_;intro zZ w_ hB e
  have ec:=Rg.ec zZ;have ef:=Rg.ef zZ;refine af rfl τ ?_;refine (P1.out _).mono ?_;rintro e w5 ⟨rfl,rfl⟩;exact ⟨_,rfl,rfl,IX _ _⟩
 ·refine Rg.b1 ?_;intro zZ w_ hB e
  go_simp
 ·refine Rg.b1 ?_;intro zZ w_ hB e
  go_simp
 ·intro _ zZ w_ hB hr
  have e20:zZ.tmps[20]?=some (.bool (!i1)):=Rg.t_ (hr 20 δ)
  refine Rg.Ly rfl (Rg.Jd rfl e20) fun Ie=>?_
  rw [Ie] at e20;have e3:zZ.tmps[3]?=some (.pointer (some ⟨w.heap.size+1,0,none⟩)):=hr 3 δ;exact aU (bf rfl (Rg.Jd rfl e20)) γ
 ·intro _ zZ w_ hB hr
  have e20:zZ.tmps[20]?=some (.bool (!i1)):=Rg.t_ (hr 20 δ)
  refine Rg.Ly rfl (Rg.Jd rfl e20) fun Ie=>?_
  rw [Ie] at e20
  have e21:zZ.tmps[21]?=some (.pointer (some ⟨w.heap.size+1,2,none⟩)):=by have h_:=Rg.t_ (hr 21 δ);rw [Ie] at h_;exact h_
  have k2:=aE hB Q.aM.2.2;exact aU (bf rfl (Rg.Jd rfl e20)) γ
 ·intro _ zZ w_ hB hr
  have e20:zZ.tmps[20]?=some (.bool (!i1)):=Rg.t_ (hr 20 δ)
  refine Rg.Ly rfl (Rg.Jd rfl e20) fun Ie=>?_
  rw [Ie] at e20
  have e22:zZ.tmps[22]?=some (.int .i64 E):=by have h_:=Rg.t_ (hr 22 δ);rw [Ie] at h_;exact h_
  have ec:=Rg.ec zZ;have ef:=Rg.ef zZ;refine af (bf rfl (Rg.Jd rfl e20)) τ ?_;refine (P2.out _).mono ?_;rintro e w5 ⟨rfl,rfl⟩;exact ⟨_,rfl,rfl,IX _ _⟩
 ·intro _ zZ w_ hB hr
  have e20:zZ.tmps[20]?=some (.bool (!i1)):=Rg.t_ (hr 20 δ)
  refine Rg.Ly rfl (Rg.Jd rfl e20) fun Ie=>?_
  rw [Ie] at e20
  have e23:zZ.tmps[23]?=some (.bool i2):=by have h_:=Rg.t_ (hr 23 δ);rw [Ie] at h_;exact h_
  exact aU (bf rfl (Rg.Jd rfl e20)) γ
 ·intro _ zZ w_ hB hr
  have e20:zZ.tmps[20]?=some (.bool (!i1)):=Rg.t_ (hr 20 δ);have e24:zZ.tmps[24]?=some (bif (!i1) then undef else .bool (!i2)):=Rg.t_ (hr 24 δ);have ec:=Rg.ec zZ;generalize (!i1)=c_ at e20 e24 ⊢
  cases c_ <;> exact aU rfl γ
 ·refine Rg.b1 ?_;intro zZ w_ hB e
  go_simp
 ·intro _ zZ w_ hB hr
  have e26:zZ.tmps[26]?=some (.bool ((!i1) || (!i2))):=Rg.t_ (hr 26 δ)
  refine Rg.Ly rfl (Rg.Jd rfl e26) fun Ie=>?_
  rw [Ie] at e26;have e3:zZ.tmps[3]?=some (.pointer (some ⟨w.heap.size+1,0,none⟩)):=hr 3 δ;exact aU (bf rfl (Rg.Jd rfl e26)) γ
 ·intro _ zZ w_ hB hr
  have e26:zZ.tmps[26]?=some (.bool ((!i1) || (!i2))):=Rg.t_ (hr 26 δ)
  refine Rg.Ly rfl (Rg.Jd rfl e26) fun Ie=>?_
  rw [Ie] at e26
  have e27:zZ.tmps[27]?=some (.pointer (some ⟨w.heap.size+1,1,none⟩)):=by have h_:=Rg.t_ (hr 27 δ);rw [Ie] at h_;exact h_
  have k1:=aE hB Q.aM.2.1;exact aU (bf rfl (Rg.Jd rfl e26)) γ
 ·intro _ zZ w_ hB hr
  have e26:zZ.tmps[26]?=some (.bool ((!i1) || (!i2))):=Rg.t_ (hr 26 δ)
  refine Rg.Ly rfl (Rg.Jd rfl e26) fun Ie=>?_
  rw [Ie] at e26
  have e28:zZ.tmps[28]?=some (.int .i64 Y):=by have h_:=Rg.t_ (hr 28 δ);rw [Ie] at h_;exact h_
  have ec:=Rg.ec zZ;have ef:=Rg.ef zZ;refine af (bf rfl (Rg.Jd rfl e26)) τ ?_;refine (P4.out _).mono ?_;rintro e w5 ⟨rfl,rfl⟩;exact ⟨_,rfl,rfl,IX _ _⟩
 ·intro _ zZ w_ hB hr
  have e26:zZ.tmps[26]?=some (.bool ((!i1) || (!i2))):=Rg.t_ (hr 26 δ)
  refine Rg.Ly rfl (Rg.Jd rfl e26) fun Ie=>?_
  rw [Ie] at e26
  have e29:zZ.tmps[29]?=some (.bool i4):=by have h_:=Rg.t_ (hr 29 δ);rw [Ie] at h_;exact h_
  exact aU (bf rfl (Rg.Jd rfl e26)) γ
 ·intro _ zZ w_ hB hr
  have e26:zZ.tmps[26]?=some (.bool ((!i1) || (!i2))):=Rg.t_ (hr 26 δ);have e30:zZ.tmps[30]?=some (bif ((!i1) || (!i2)) then undef else .bool (!i4)):=Rg.t_ (hr 30 δ);have ec:=Rg.ec zZ;generalize ((!i1) || (!i2))=c_ at e26 e30 ⊢
  cases c_ <;> exact aU rfl γ
 ·refine Rg.b1 ?_;intro zZ w_ hB e
  go_simp
 ·intro _ zZ w_ hB hr
  have e32:zZ.tmps[32]?=some (.bool (((!i1) || (!i2)) || (!i4))):=Rg.t_ (hr 32 δ)
  refine Rg.Ly rfl (Rg.Jd rfl e32) fun Ie=>?_
  rw [Ie] at e32;have e3:zZ.tmps[3]?=some (.pointer (some ⟨w.heap.size+1,0,none⟩)):=hr 3 δ;exact aU (bf rfl (Rg.Jd rfl e32)) γ
 ·intro _ zZ w_ hB hr
  have e32:zZ.tmps[32]?=some (.bool (((!i1) || (!i2)) || (!i4))):=Rg.t_ (hr 32 δ)
  refine Rg.Ly rfl (Rg.Jd rfl e32) fun Ie=>?_
  rw [Ie] at e32
  have e33:zZ.tmps[33]?=some (.pointer (some ⟨w.heap.size+1,0,none⟩)):=by have h_:=Rg.t_ (hr 33 δ);rw [Ie] at h_;exact h_
  have k0:=aE hB Q.aM.1;exact aU (bf rfl (Rg.Jd rfl e32)) γ
 ·intro _ zZ w_ hB hr
  have e32:zZ.tmps[32]?=some (.bool (((!i1) || (!i2)) || (!i4))):=Rg.t_ (hr 32 δ)
  refine Rg.Ly rfl (Rg.Jd rfl e32) fun Ie=>?_
  rw [Ie] at e32
  have e34:zZ.tmps[34]?=some (.int .i64 X):=by have h_:=Rg.t_ (hr 34 δ);rw [Ie] at h_;exact h_
  have Kw:(i1=true/\i2=true)/\i4=true:=by revert Ie;cases i1 <;> cases i2 <;> cases i4 <;> simp
  have ef:=Rg.ef zZ;refine af (bf rfl (Rg.Jd rfl e32)) τ ?_;refine (PA.out Kw.1.1 _).mono ?_;rintro e w5 ⟨rfl,rfl⟩;exact ⟨_,rfl,rfl,IX _ _⟩
 ·intro _ zZ w_ hB hr
  have e32:zZ.tmps[32]?=some (.bool (((!i1) || (!i2)) || (!i4))):=Rg.t_ (hr 32 δ)
  refine Rg.Ly rfl (Rg.Jd rfl e32) fun Ie=>?_
  rw [Ie] at e32;have e3:zZ.tmps[3]?=some (.pointer (some ⟨w.heap.size+1,0,none⟩)):=hr 3 δ;exact aU (bf rfl (Rg.Jd rfl e32)) γ
 ·intro _ zZ w_ hB hr
  have e32:zZ.tmps[32]?=some (.bool (((!i1) || (!i2)) || (!i4))):=Rg.t_ (hr 32 δ)
  refine Rg.Ly rfl (Rg.Jd rfl e32) fun Ie=>?_
  rw [Ie] at e32
  have e36:zZ.tmps[36]?=some (.pointer (some ⟨w.heap.size+1,2,none⟩)):=by have h_:=Rg.t_ (hr 36 δ);rw [Ie] at h_;exact h_
  have k2:=aE hB Q.aM.2.2;exact aU (bf rfl (Rg.Jd rfl e32)) γ
 ·intro _ zZ w_ hB hr
  have e32:zZ.tmps[32]?=some (.bool (((!i1) || (!i2)) || (!i4))):=Rg.t_ (hr 32 δ)
  refine Rg.Ly rfl (Rg.Jd rfl e32) fun Ie=>?_
  rw [Ie] at e32
  have e35:zZ.tmps[35]?=some (.int .i64 (X.natAbs:Int)):=by have h_:=Rg.t_ (hr 35 δ);rw [Ie] at h_;exact h_
  have e37:zZ.tmps[37]?=some (.int .i64 E):=by have h_:=Rg.t_ (hr 37 δ);rw [Ie] at h_;exact h_
  have Kw:(i1=true/\i2=true)/\i4=true:=by revert Ie;cases i1 <;> cases i2 <;> cases i4 <;> simp
  have ef:=Rg.ef zZ;refine af (bf rfl (Rg.Jd rfl e32)) τ ?_;refine (PG.out Kw.1.1 Kw.1.2 _).mono ?_;rintro e w5 ⟨rfl,rfl⟩;exact ⟨_,rfl,rfl,IX _ _⟩
 ·intro _ zZ w_ hB hr
  have e32:zZ.tmps[32]?=some (.bool (((!i1) || (!i2)) || (!i4))):=Rg.t_ (hr 32 δ)
  refine Rg.Ly rfl (Rg.Jd rfl e32) fun Ie=>?_
  rw [Ie] at e32
  have e38:zZ.tmps[38]?=some (.int .i64 gg):=by have h_:=Rg.t_ (hr 38 δ);rw [Ie] at h_;exact h_
  have ec:=Rg.ec zZ;exact aU (bf rfl (Rg.Jd rfl e32)) (by go_simp;first | done | rfl | (simp [bne];done))
 ·intro _ zZ w_ hB hr
  have e32:zZ.tmps[32]?=some (.bool (((!i1) || (!i2)) || (!i4))):=Rg.t_ (hr 32 δ);have e39:zZ.tmps[39]?=some (bif (((!i1) || (!i2)) || (!i4)) then undef else .bool (!(gg == 1))):=Rg.t_ (hr 39 δ);have ec:=Rg.ec zZ;generalize (((!i1) || (!i2)) || (!i4))=c_ at e32 e39 ⊢
  cases c_ <;> exact aU rfl γ
 intro vals wz hB hv hne;have Yu:vals 24=.bool ((((!i1) || (!i2)) || (!i4)) || (!(gg == 1))):=hv 24 δ;simp only [bD,Rg.fill,Act.put,Nat.reduceAdd];simp only [Yu];unfold aV;replace ⟨C,Q,B⟩:=I7 hB C Q B
 cases hq:((((!i1) || (!i2)) || (!i4)) || (!(gg == 1))) with
 | true=>
  have hr:=IU (hno.out hq);go_wp2;go_ret;exact ⟨by rw [hr.out];rfl,B⟩
 | false=>
 obtain ⟨⟨j1,j2,j4⟩,hr⟩:=hyes.out hq;have PV:=IU (PV.out j1 j2);obtain ⟨y1,y2⟩:=L7.out.1 j4;have LQ:=aH (x:=Y) (y:=Y) (m:=10000000) (n:=10000000);replace hr:=IU hr
 go_upto_region 5 with fail
 refine b8 13 [.is (.pointer (some ⟨w.heap.size+1,1,none⟩)),.is Y,.is (.pointer (some ⟨w.heap.size+1,1,none⟩)),.is Y,.is (Y*Y:Int),.is (.agg #[a,b]),.is (.pointer (some ⟨w.heap.size+1,0,none⟩)),.is X,.is (.pointer (some ⟨w.heap.size+1,2,none⟩)),.is E,.is v,.is (decide (Y*Y=v)),.is (decide (Y*Y=v))] κ κ κ ⟨?_,?_,?_,?_,?_,?_,?_,?_,?_,?_,?_,?_,?_,trivial⟩ ?_
 all_goals try ((first | (refine Rg.b1 ?_;intro zZ w_ hB e) | (refine Rg.b2 ?_;intro zZ w_ hB e f));have kz:=aE hB Q.aM.2.1;have kz:=aE hB C.box.c0;have kz:=aE hB C.box.c1;have kz:=aE hB Q.aM.1;have kz:=aE hB Q.aM.2.2;(first | (go_simp;done) | (go_simp;exact Rg.wo ω) | (go_simp;first | done | rfl | (by_cases Ii:Y*Y=v <;> simp [Ii];done);done)))
 ·intro _ zZ w_ hB hr
  have e46:=Rg.t_ (hr 46 δ);have e48:=Rg.t_ (hr 48 δ);have e50:=Rg.t_ (hr 50 δ);have ef:=Rg.ef zZ;exact bp rfl γ (PV.out _)
 intro vals wy NX hv hne;have KG:vals 12=.bool (decide (Y*Y=v)):=hv 12 δ;simp only [bD,Rg.fill,Act.put,Nat.reduceAdd];simp only [KG];unfold aV;go_wp2;go_ret;exact ⟨by rw [hr.out];rfl,j_ B NX⟩
theorem gI (a b X Y E:Int) (w:World) :
  cB 51 #[.agg #[a,b],.agg #[X,Y,E]] w (M.good a b && aP a b X Y E):=by
 have PC:=fun W=>io a b W
 have PO:=fun W=>Gc a b X Y E W
 obtain ⟨wc,hw3,C,Q,B⟩:=eC w #[a,b] 25 #[X,Y,E] 40;have ⟨q0,q1,q2⟩:=Q.aM;have f_:=C.box.c0;have i_:=C.box.c1
 cases hgd:M.good a b with
 | false=>
  rw [hgd] at PC;have PC:=IU PC;go_enter func51,ntmps51
  go_wp2_with (go_at_call 74;with_reducible refine p_ (PC.out _) fun w4 hb4=>?_;replace ⟨C,B,Q⟩:=I7 hb4 C B Q;(have ⟨z0,z1,z2⟩:=Q.aM);(replace ⟨f_,i_⟩:=C.b2))
  go_ret;exact ⟨rfl,B⟩
 | true=>
 rw [hgd] at PC;have PC:=IU PC
 have PO:=fun W=>PO W hgd
 generalize aP a b X Y E=pp at *;have PO:=IU PO;go_enter func51,ntmps51
 go_wp2_with (first
  | (go_at_call 74;with_reducible refine p_ (PC.out _) fun w4 hb4=>?_;replace ⟨C,B,Q⟩:=I7 hb4 C B Q;(have ⟨z0,z1,z2⟩:=Q.aM);(replace ⟨f_,i_⟩:=C.b2))
  | (go_at_call 93;with_reducible refine p_ (PO.out _) fun w5 hb5=>?_;replace B:=j_ B hb5))
 go_ret;exact ⟨rfl,B⟩
theorem j7 (X Y E:Int) (w:World) (h1:-4000000000000000000<=Y) (h2:Y<=4000000000000000000) :
  cB 49 #[.agg #[X,Y,E]] w (.agg #[X,(-Y:Int),E]):=by
 go_enter func49,ntmps49
 go_wp2;exact D_ results49 ⟨rfl,Jz⟩
namespace M
def sN (a X1 Y1 E1 X2 Y2 E2:Int):Int:=if X1=X2/\Y1=Y2/\E1=E2 then 3*X1*X1+a*E1*E1*E1*E1 else Y2*E1*E1*E1 - Y1*E2*E2*E2
def sD (X1 Y1 E1 X2 Y2 E2:Int):Int:=if X1=X2/\Y1=Y2/\E1=E2 then 2*Y1*E1 else E1*E2*(X2*E1*E1 - X1*E2*E2)
end M
theorem M.Gl {a X1 Y1 E1 X2 Y2 E2:Int} (ha1:-1000<=a) (ha2:a<=1000) (hx1:-10000<=X1) (hx2:X1<=10000) (hy1:-3000000<=Y1) (hy2:Y1<=3000000) (he1:1<=E1) (he2:E1<=20) (hx3:-10000<=X2) (hx4:X2<=10000) (hy3:-3000000<=Y2) (hy4:Y2<=3000000) (Kt:1<=E2) (Lc:E2<=20):-200000000000<=M.sN a X1 Y1 E1 X2 Y2 E2/\M.sN a X1 Y1 E1 X2 Y2 E2<=200000000000/\-200000000000<=M.sD X1 Y1 E1 X2 Y2 E2/\M.sD X1 Y1 E1 X2 Y2 E2<=200000000000:=by
 have sb1:=aH (x:=Y2) (y:=E1) (m:=3000000) (n:=20);have Tz:=aH (x:=Y2*E1) (y:=E1) (m:=60000000) (n:=20);have T0:=aH (x:=Y2*E1*E1) (y:=E1) (m:=1200000000) (n:=20);have T5:=aH (x:=Y1) (y:=E2) (m:=3000000) (n:=20);have T6:=aH (x:=Y1*E2) (y:=E2) (m:=60000000) (n:=20);have T7:=aH (x:=Y1*E2*E2) (y:=E2) (m:=1200000000) (n:=20);have T8:=aH (x:=E1) (y:=E2) (m:=20) (n:=20);have T9:=aH (x:=X2) (y:=E1) (m:=10000) (n:=20);have T_:=aH (x:=X2*E1) (y:=E1) (m:=200000) (n:=20);have OP:=aH (x:=X1) (y:=E2) (m:=10000) (n:=20);have OQ:=aH (x:=X1*E2) (y:=E2) (m:=200000) (n:=20);have OR:=aH (x:=E1*E2) (y:=X2*E1*E1 - X1*E2*E2) (m:=400) (n:=8000000);have OS:=aH (x:=3) (y:=X1) (m:=3) (n:=10000);have OT:=aH (x:=3*X1) (y:=X1) (m:=30000) (n:=10000);have OU:=aH (x:=a) (y:=E1) (m:=1000) (n:=20);have OV:=aH (x:=a*E1) (y:=E1) (m:=20000) (n:=20);have Qp:=aH (x:=a*E1*E1) (y:=E1) (m:=400000) (n:=20);have Qq:=aH (x:=a*E1*E1*E1) (y:=E1) (m:=8000000) (n:=20);have Qr:=aH (x:=2) (y:=Y1) (m:=2) (n:=3000000);have Qs:=aH (x:=2*Y1) (y:=E1) (m:=6000000) (n:=20);unfold M.sN M.sD
 split <;> omega
theorem EY (a b X1 Y1 E1 X2 Y2 E2:Int) (w:World) (ha1:-1000<=a) (ha2:a<=1000) (hx1:-10000<=X1) (hx2:X1<=10000) (hy1:-3000000<=Y1) (hy2:Y1<=3000000) (he1:1<=E1) (he2:E1<=20) (hx3:-10000<=X2) (hx4:X2<=10000) (hy3:-3000000<=Y2) (hy4:Y2<=3000000) (Kt:1<=E2) (Lc:E2<=20) :
  cB 86 #[.agg #[a,b],.agg #[X1,Y1,E1],.agg #[X2,Y2,E2]] w (.tuple #[M.sN a X1 Y1 E1 X2 Y2 E2,M.sD X1 Y1 E1 X2 Y2 E2]):=by
 have hcase:(X1=X2/\Y1=Y2/\E1=E2)∨¬ (X1=X2/\Y1=Y2/\E1=E2):=Classical.em _
 rcases hcase with hsame | Km
 ·have e1:=IU (show M.sN a X1 Y1 E1 X2 Y2 E2=3*X1*X1+a*E1*E1*E1*E1 from if_pos hsame)
  have e2:=IU (show M.sD X1 Y1 E1 X2 Y2 E2=2*Y1*E1 from if_pos hsame);rw [e1.out,e2.out];obtain ⟨rfl,rfl,rfl⟩:=hsame;clear e1 e2 hx3 hx4 hy3 hy4 Kt Lc;have Qt:=aH (x:=3) (y:=X1) (m:=3) (n:=10000);have Qu:=aH (x:=3*X1) (y:=X1) (m:=30000) (n:=10000);have Qv:=aH (x:=a) (y:=E1) (m:=1000) (n:=20);have Qw:=aH (x:=a*E1) (y:=E1) (m:=20000) (n:=20);have Qx:=aH (x:=a*E1*E1) (y:=E1) (m:=400000) (n:=20);have Qy:=aH (x:=a*E1*E1*E1) (y:=E1) (m:=8000000) (n:=20);have Qz:=aH (x:=2) (y:=Y1) (m:=2) (n:=3000000);have S3:=aH (x:=2*Y1) (y:=E1) (m:=6000000) (n:=20);obtain ⟨wc,hw3,C,Q,U,B⟩:=dB w #[a,b] 25 #[X1,Y1,E1] 40 #[X1,Y1,E1] 40;have ⟨q0,q1,q2⟩:=Q.aM;have ⟨u0,u1,u2⟩:=U.aM;have f_:=C.box.c0;have i_:=C.box.c1;go_enter func86,ntmps86
  go_wp2
  go_upto_region 2 with fail
  refine b8 29 [.is (.pointer (some ⟨w.heap.size+1,0,none⟩)),.is X1,.is (3*X1:Int),.is (.pointer (some ⟨w.heap.size+1,0,none⟩)),.is X1,.is ((3*X1)*X1:Int),.is (.pointer (some ⟨w,0,none⟩)),.is a,.is (.pointer (some ⟨w.heap.size+1,2,none⟩)),.is E1,.is (a*E1:Int),.is (.pointer (some ⟨w.heap.size+1,2,none⟩)),.is E1,.is ((a*E1)*E1:Int),.is (.pointer (some ⟨w.heap.size+1,2,none⟩)),.is E1,.is (((a*E1)*E1)*E1:Int),.is (.pointer (some ⟨w.heap.size+1,2,none⟩)),.is E1,.is ((((a*E1)*E1)*E1)*E1:Int),.is (((3*X1)*X1)+((((a*E1)*E1)*E1)*E1):Int),.is (.pointer (some ⟨w.heap.size+1,1,none⟩)),.is Y1,.is (2*Y1:Int),.is (.pointer (some ⟨w.heap.size+1,2,none⟩)),.is E1,.is ((2*Y1)*E1:Int),.is (((3*X1)*X1)+((((a*E1)*E1)*E1)*E1):Int),.is ((2*Y1)*E1:Int)] κ κ κ ⟨?_,?_,?_,?_,?_,?_,?_,?_,?_,?_,?_,?_,?_,?_,?_,?_,?_,?_,?_,?_,?_,?_,?_,?_,?_,?_,?_,?_,?_,trivial⟩ ?_
  all_goals try ((first | (refine Rg.b1 ?_;intro zZ w_ hB e) | (refine Rg.b2 ?_;intro zZ w_ hB e f));have kz:=aE hB Q.aM.1;have ec:=Rg.ec zZ;have kz:=aE hB C.box.c0;have kz:=aE hB Q.aM.2.2;have kz:=aE hB Q.aM.2.1;(first | (go_simp;done) | (go_simp;exact Rg.wo ω)))
  intro vals wz hB hv hne;have S_:vals 27=.int .i64 (((3*X1)*X1)+((((a*E1)*E1)*E1)*E1)):=hv 27 δ;have TA:vals 28=.int .i64 ((2*Y1)*E1):=hv 28 δ;simp only [bD,Rg.fill,Act.put,Nat.reduceAdd];clear hv;simp only [S_,TA];clear S_ TA;unfold aV;go_wp2;go_ret2;exact ⟨rfl,j_ B hB⟩
 have e1:=IU (show M.sN a X1 Y1 E1 X2 Y2 E2=Y2*E1*E1*E1 - Y1*E2*E2*E2 from if_neg Km);have e2:=IU (show M.sD X1 Y1 E1 X2 Y2 E2=E1*E2*(X2*E1*E1 - X1*E2*E2) from if_neg Km);rw [e1.out,e2.out];clear e1 e2;have Yi:=aH (x:=Y2) (y:=E1) (m:=3000000) (n:=20);have Yj:=aH (x:=Y2*E1) (y:=E1) (m:=60000000) (n:=20);have Yl:=aH (x:=Y2*E1*E1) (y:=E1) (m:=1200000000) (n:=20);have Ym:=aH (x:=Y1) (y:=E2) (m:=3000000) (n:=20);have Yn:=aH (x:=Y1*E2) (y:=E2) (m:=60000000) (n:=20);have Yo:=aH (x:=Y1*E2*E2) (y:=E2) (m:=1200000000) (n:=20);have Yp:=aH (x:=E1) (y:=E2) (m:=20) (n:=20);have sb36:=aH (x:=X2) (y:=E1) (m:=10000) (n:=20);have sb37:=aH (x:=X2*E1) (y:=E1) (m:=200000) (n:=20);have sb38:=aH (x:=X1) (y:=E2) (m:=10000) (n:=20);have sb39:=aH (x:=X1*E2) (y:=E2) (m:=200000) (n:=20);have sb40:=aH (x:=E1*E2) (y:=X2*E1*E1 - X1*E2*E2) (m:=400) (n:=8000000)
 have hne:X1≠X2∨Y1≠Y2∨E1≠E2:=by
  rcases Classical.em (X1=X2) with h1 | h1
  ·rcases Classical.em (Y1=Y2) with h2 | h2
   ·exact Or.inr (Or.inr fun h3=>Km ⟨h1,h2,h3⟩)
   exact Or.inr (Or.inl h2)
  exact Or.inl h1
 clear Km
 have hdec:(decide (X1=X2) && (decide (Y1=Y2) && decide (E1=E2)))=false:=by
  rcases hne with h | h | h <;> simp [h]
 obtain ⟨wc,hw3,C,Q,U,B⟩:=dB w #[a,b] 25 #[X1,Y1,E1] 40 #[X2,Y2,E2] 40;have ⟨q0,q1,q2⟩:=Q.aM;have ⟨u0,u1,u2⟩:=U.aM;have f_:=C.box.c0;have i_:=C.box.c1
 rcases hne with h | h | h
 all_goals
  have hb:=beq_eq_false_iff_ne.2 h;go_enter func86,ntmps86
  go_wp2
  all_goals
   go_ret2;exact ⟨rfl,B⟩
namespace M
def Jj (a X1 Y1 E1 X2 Y2 E2:Int):Int:=if sD X1 Y1 E1 X2 Y2 E2=0 then 1 else cY (sN a X1 Y1 E1 X2 Y2 E2) (sD X1 Y1 E1 X2 Y2 E2)
def JY (a X1 Y1 E1 X2 Y2 E2:Int):Int:=if sD X1 Y1 E1 X2 Y2 E2=0 then 0 else bU (sN a X1 Y1 E1 X2 Y2 E2) (sD X1 Y1 E1 X2 Y2 E2)
end M
theorem yi (a b X1 Y1 E1 X2 Y2 E2:Int) (w:World) (ha1:-1000<=a) (ha2:a<=1000) (hx1:-10000<=X1) (hx2:X1<=10000) (hy1:-3000000<=Y1) (hy2:Y1<=3000000) (he1:1<=E1) (he2:E1<=20) (hx3:-10000<=X2) (hx4:X2<=10000) (hy3:-3000000<=Y2) (hy4:Y2<=3000000) (Kt:1<=E2) (Lc:E2<=20) :
  cB 98 #[.agg #[a,b],.agg #[X1,Y1,E1],.agg #[X2,Y2,E2]] w (.tuple #[M.Jj a X1 Y1 E1 X2 Y2 E2,M.JY a X1 Y1 E1 X2 Y2 E2]):=by
 have hbd:=Gl (a:=a) ha1 ha2 hx1 hx2 hy1 hy2 he1 he2 hx3 hx4 hy3 hy4 Kt Lc
 have PE:=fun (h:M.sD X1 Y1 E1 X2 Y2 E2≠0) W=>kH (M.sN a X1 Y1 E1 X2 Y2 E2) (M.sD X1 Y1 E1 X2 Y2 E2) W ω ω ω ω h
 unfold M.Jj M.JY;have hcase:(X1=X2/\Y1=Y2/\E1=E2)∨¬ (X1=X2/\Y1=Y2/\E1=E2):=Classical.em _
 rcases hcase with hsame | Km
 ·have e1:=show M.sN a X1 Y1 E1 X2 Y2 E2=3*X1*X1+a*E1*E1*E1*E1 from if_pos hsame
  have e2:=show M.sD X1 Y1 E1 X2 Y2 E2=2*Y1*E1 from if_pos hsame
  rw [e1,e2] at PE hbd;rw [e1,e2];obtain ⟨rfl,rfl,rfl⟩:=hsame;clear e1 e2 hx3 hx4 hy3 hy4 Kt Lc;have sb1:=aH (x:=Y1) (y:=E1) (m:=3000000) (n:=20);have Tz:=aH (x:=Y1*E1) (y:=E1) (m:=60000000) (n:=20);have T0:=aH (x:=Y1*E1*E1) (y:=E1) (m:=1200000000) (n:=20);have T5:=aH (x:=E1) (y:=E1) (m:=20) (n:=20);have T6:=aH (x:=X1) (y:=E1) (m:=10000) (n:=20);have T7:=aH (x:=X1*E1) (y:=E1) (m:=200000) (n:=20);have T8:=aH (x:=E1*E1) (y:=X1*E1*E1 - X1*E1*E1) (m:=400) (n:=8000000);have T9:=aH (x:=3) (y:=X1) (m:=3) (n:=10000);have T_:=aH (x:=3*X1) (y:=X1) (m:=30000) (n:=10000);have OP:=aH (x:=a) (y:=E1) (m:=1000) (n:=20);have OQ:=aH (x:=a*E1) (y:=E1) (m:=20000) (n:=20);have OR:=aH (x:=a*E1*E1) (y:=E1) (m:=400000) (n:=20);have OS:=aH (x:=a*E1*E1*E1) (y:=E1) (m:=8000000) (n:=20);have OT:=aH (x:=2) (y:=Y1) (m:=2) (n:=3000000);have OU:=aH (x:=2*Y1) (y:=E1) (m:=6000000) (n:=20);obtain ⟨wc,hw3,C,Q,U,B⟩:=dB w #[a,b] 25 #[X1,Y1,E1] 40 #[X1,Y1,E1] 40;have ⟨q0,q1,q2⟩:=Q.aM;have ⟨u0,u1,u2⟩:=U.aM;have f_:=C.box.c0;have i_:=C.box.c1
  by_cases h0:2*Y1*E1=0
  ·have h1:(2*Y1*E1 == 0)=true:=by rw [beq_iff_eq];exact h0
   rw [if_pos h0,if_pos h0];clear PE;go_enter func98,ntmps98
   go_wp2
   all_goals
    go_ret2;exact ⟨rfl,B⟩
  have h1:(2*Y1*E1 == 0)=false:=by rw [beq_eq_false_iff_ne];exact h0
  rw [if_neg h0,if_neg h0];have PE:=PE h0;generalize bU (3*X1*X1+a*E1*E1*E1*E1) (2*Y1*E1)=pd,cY (3*X1*X1+a*E1*E1*E1*E1) (2*Y1*E1)=pn at *;have PE:=IU PE;go_enter func98,ntmps98
  go_wp2_with (go_at_call 99;with_reducible refine p_ (PE.out _) fun w4 hb4=>?_;have B4:=j_ B hb4)
  all_goals
   go_ret2;exact ⟨rfl,B4⟩
 have e1:=show M.sN a X1 Y1 E1 X2 Y2 E2=Y2*E1*E1*E1 - Y1*E2*E2*E2 from if_neg Km
 have e2:=show M.sD X1 Y1 E1 X2 Y2 E2=E1*E2*(X2*E1*E1 - X1*E2*E2) from if_neg Km
 rw [e1,e2] at PE hbd;rw [e1,e2];clear e1 e2;have OV:=aH (x:=Y2) (y:=E1) (m:=3000000) (n:=20);have Qp:=aH (x:=Y2*E1) (y:=E1) (m:=60000000) (n:=20);have Qq:=aH (x:=Y2*E1*E1) (y:=E1) (m:=1200000000) (n:=20);have Qr:=aH (x:=Y1) (y:=E2) (m:=3000000) (n:=20);have Qs:=aH (x:=Y1*E2) (y:=E2) (m:=60000000) (n:=20);have Qt:=aH (x:=Y1*E2*E2) (y:=E2) (m:=1200000000) (n:=20);have Qu:=aH (x:=E1) (y:=E2) (m:=20) (n:=20);have Qv:=aH (x:=X2) (y:=E1) (m:=10000) (n:=20);have Qw:=aH (x:=X2*E1) (y:=E1) (m:=200000) (n:=20);have Qx:=aH (x:=X1) (y:=E2) (m:=10000) (n:=20);have Qy:=aH (x:=X1*E2) (y:=E2) (m:=200000) (n:=20);have Qz:=aH (x:=E1*E2) (y:=X2*E1*E1 - X1*E2*E2) (m:=400) (n:=8000000)
 have hne:X1≠X2∨Y1≠Y2∨E1≠E2:=by
  rcases Classical.em (X1=X2) with h1 | h1
  ·rcases Classical.em (Y1=Y2) with h2 | h2
   ·exact Or.inr (Or.inr fun h3=>Km ⟨h1,h2,h3⟩)
   exact Or.inr (Or.inl h2)
  exact Or.inl h1
 clear Km
 have hdec:(decide (X1=X2) && (decide (Y1=Y2) && decide (E1=E2)))=false:=by
  rcases hne with h | h | h <;> simp [h]
 obtain ⟨wc,hw3,C,Q,U,B⟩:=dB w #[a,b] 25 #[X1,Y1,E1] 40 #[X2,Y2,E2] 40;have ⟨q0,q1,q2⟩:=Q.aM;have ⟨u0,u1,u2⟩:=U.aM;have f_:=C.box.c0;have i_:=C.box.c1
 rcases hne with h | h | h
 all_goals
  have hb:=beq_eq_false_iff_ne.2 h
  by_cases h0:E1*E2*(X2*E1*E1 - X1*E2*E2)=0
  ·have h1:(E1*E2*(X2*E1*E1 - X1*E2*E2) == 0)=true:=by rw [beq_iff_eq];exact h0
   rw [if_pos h0,if_pos h0];clear PE;go_enter func98,ntmps98
   go_wp2
   all_goals
    go_ret2;exact ⟨rfl,B⟩
  have h1:(E1*E2*(X2*E1*E1 - X1*E2*E2) == 0)=false:=by rw [beq_eq_false_iff_ne];exact h0
  rw [if_neg h0,if_neg h0];have PE:=PE h0;generalize bU (Y2*E1*E1*E1 - Y1*E2*E2*E2) (E1*E2*(X2*E1*E1 - X1*E2*E2))=pd,cY (Y2*E1*E1*E1 - Y1*E2*E2*E2) (E1*E2*(X2*E1*E1 - X1*E2*E2))=pn at *;have PE:=IU PE;go_enter func98,ntmps98
  go_wp2_with (go_at_call 99;with_reducible refine p_ (PE.out _) fun w4 hb4=>?_;have B4:=j_ B hb4)
  all_goals
   go_ret2;exact ⟨rfl,B4⟩
theorem mI (a b:Int) (va vb:Value) (w:World) (ba bb:Nat) (hoa:aF w ba va (Wh.a_ a.natAbs)) (JK:aF w bb vb (Wh.a_ b.natAbs)) (hl1:(Wh.a_ a.natAbs).length<=100000) (hl2:(Wh.a_ b.natAbs).length<=100000) :
  cB 131 #[.agg #[decide (a<0),va],.agg #[decide (b<0),vb]] w (.int .i64 (Wh.JR a b)):=by
 obtain ⟨aa,ca,rfl,-,-⟩:=aF.view hoa;obtain ⟨ab,cb,rfl,-,-⟩:=aF.view JK
 have P1:=fun s r W (h1:aF W ba (.slice aa (Wh.a_ a.natAbs).length ca) (Wh.a_ a.natAbs)) (h2:aF W bb (.slice ab (Wh.a_ b.natAbs).length cb) (Wh.a_ b.natAbs))=>fx a.natAbs b.natAbs s r _ _ W ba bb h1 h2 hl1 hl2
 have P2:=fun s r W (h1:aF W ba (.slice aa (Wh.a_ a.natAbs).length ca) (Wh.a_ a.natAbs)) (h2:aF W bb (.slice ab (Wh.a_ b.natAbs).length cb) (Wh.a_ b.natAbs))=>fx b.natAbs a.natAbs s r _ _ W bb ba h2 h1 hl2 hl1
 replace hoa:=IU hoa;replace JK:=IU JK;generalize (Wh.a_ b.natAbs).length=lb,(Wh.a_ a.natAbs).length=la at *
 by_cases h1:a<0
 ·by_cases h2:b<0
  ·have hs:=IU (show Wh.JR (b.natAbs:Int) (a.natAbs:Int)=Wh.JR a b by unfold Wh.JR;(repeat' split) <;> omega)
   rw [decide_eq_true h1,decide_eq_true h2];rw [←hs.out];clear h1 h2 P1;replace P2:=IU P2;have hBb:=((IX w w).alloc (IY _) (.cells #[true,.slice aa la ca] 116)).alloc (by rw [IV];omega) (.cells #[true,.slice ab lb cb] 116);go_enter func131,ntmps131
   go_wp2_with (go_at_call 129;with_reducible refine p_ (P2.out _ _ _ (aF.below hoa.out hBb) (aF.below JK.out hBb)) fun w4 hb4=>?_)
   go_ret;exact ⟨rfl,j_ hBb hb4⟩
  have hs:=IU (show Wh.JR a b=-1 by unfold Wh.JR;(repeat' split) <;> omega);rw [decide_eq_true h1,decide_eq_false h2];rw [hs.out];clear h1 h2 P1 P2;go_enter func131,ntmps131
  go_wp2;go_ret;exact ⟨rfl,Jz⟩
 by_cases h2:b<0
 ·have hs:=IU (show Wh.JR a b=1 by unfold Wh.JR;(repeat' split) <;> omega)
  rw [decide_eq_false h1,decide_eq_true h2];rw [hs.out];clear h1 h2 P1 P2;go_enter func131,ntmps131
  go_wp2;go_ret;exact ⟨rfl,Jz⟩
 have hs:=IU (show Wh.JR (a.natAbs:Int) (b.natAbs:Int)=Wh.JR a b by unfold Wh.JR;(repeat' split) <;> omega);rw [decide_eq_false h1,decide_eq_false h2];rw [←hs.out];clear h1 h2 P2;replace P1:=IU P1;have hBb:=((IX w w).alloc (IY _) (.cells #[false,.slice aa la ca] 116)).alloc (by rw [IV];omega) (.cells #[false,.slice ab lb cb] 116);go_enter func131,ntmps131
 go_wp2_with (go_at_call 129;with_reducible refine p_ (P1.out _ _ _ (aF.below hoa.out hBb) (aF.below JK.out hBb)) fun w4 hb4=>?_)
 go_ret;exact ⟨rfl,j_ hBb hb4⟩
namespace M
def sq (A D:Int):Int:=max (-10000) (min 10000 (-(-A / D)))
theorem qW {A D m:Int} (hD:0<D):-(-A / D)<=m ↔ A<=D*m:=by
 have e1:=Int.mul_ediv_add_emod (-A) D;have e2:=Int.emod_nonneg (-A) (by omega:D≠0);have e3:=Int.emod_lt_of_pos (-A) hD;generalize -A / D=q at *
 constructor
 ·intro h
  have:D*(-q)<=D*m:=Int.mul_le_mul_of_nonneg_left h ω;rw [Int.mul_neg] at this;omega
 intro h
 rcases Int.lt_or_le m (-q) with h1 | h1
 ·have:D*(m+1)<=D*(-q):=Int.mul_le_mul_of_nonneg_left ω ω
  rw [Int.mul_neg,Int.mul_add] at this;omega
 exact h1
theorem IL {A D x:Int} (hD:0<D) (h1:-10000<=x) (h2:x<=10000) (h:D*x=A):sq A D=x:=by
 have q1:=(qW (A:=A) (m:=x) hD).2 ω
 have q2:¬ -(-A / D)<=x - 1:=fun h3=>by
  have:=(qW hD).1 h3;rw [Int.mul_sub] at this;omega
 unfold sq;omega
end M
theorem mM (A D:Int) (va vd:Value) (w:World) (ba bd:Nat) (hoa:aF w ba va (Wh.a_ A.natAbs)) (hod:aF w bd vd (Wh.a_ D.natAbs)) (hA:Wh.sz A 1000) (hD:Wh.sz D 1000) (hD0:0<D) :
  cB 91 #[.agg #[decide (A<0),va],.agg #[decide (D<0),vd],(10000:Int)] w (.tuple #[M.sq A D,decide (D*M.sq A D=A)]):=by
 obtain ⟨aa,ca,rfl,-,-⟩:=aF.view hoa;obtain ⟨ad,cd,rfl,-,-⟩:=aF.view hod
 have PT:=fun n (h1:-10000<=n) (h2:n<=10000) v W k (h:aF W k v (Wh.a_ D.natAbs))=>pC D n v W k h (aR.2 (aL hD ω)) ω ω
 have PC:=fun n (h1:-10000<=n) (h2:n<=10000) v v' W k k' (h:aF W k v (Wh.a_ (D*n).natAbs)) (h':aF W k' v' (Wh.a_ A.natAbs))=>mI (D*n) A v v' W k k' h h' (aR.2 (aL (ah hD (be (n:=n) ω ω)) ω)) (aR.2 (aL hA ω))
 generalize decide (D<0)=s2,decide (A<0)=s1 at *;replace hoa:=IU hoa;replace hod:=IU hod;generalize (Wh.a_ D.natAbs).length=ld,(Wh.a_ A.natAbs).length=la at *;have PT:=IU PT;have PC:=IU PC
 have Je:-10000<=M.sq A D/\M.sq A D<=10000:=by unfold M.sq;omega
 have hcl:=IU fun m=>qW (A:=A) (D:=D) (m:=m) hD0
 have hsd:Hid (M.sq A D=max (-10000) (min 10000 (-(-A / D)))):=IU rfl;generalize M.sq A D=L at *;obtain ⟨wc,hw3,V,U,B⟩:=eC w #[s1,.slice aa la ca] 116 #[s2,.slice ad ld cd] 116;obtain ⟨l1,l2⟩:=Je;go_enter func91,ntmps91
 go_wp2
 go_loopw [8,9] (fun vl vh wr=>∃ lo hi:Int,vl=.int .i64 lo/\vh=.int .i64 hi/\-10000<=lo/\lo<=L/\L<=hi/\hi<=10000/\aG wr w 116 #[s1,.slice aa la ca]/\aG wr (w.heap.size+1) 116 #[s2,.slice ad ld cd]/\Below w w wr) (fun vl vh _=>(intOf vh - intOf vl).toNat)
 case atStart=>exact ⟨-10000,10000,rfl,rfl,ω,l1,l2,ω,V,U,B⟩
 case round=>
 clear V U B hw3;obtain ⟨lo,hi,rfl,rfl,h1,h2,h3,h4,V,U,B⟩:=hrel;have oa:=IU (aF.below hoa.out B);have od:=IU (aF.below hod.out B)
 by_cases hlt:lo<hi
 ·have hm1:lo<=(lo+hi) / 2:=ω
  have hm2:(lo+hi) / 2<hi:=ω
  have PF:=fun W=>gZ (lo+hi) 2 W ω ω ω ω
  have hge:=(hcl.out ((lo+hi) / 2))
  generalize (lo+hi) / 2=m at *;have PF:=IU PF
  have TO:=IU fun v W k h=>PT.out m ω ω v W k h
  have OZ:=fun v v' W k k' h h'=>PC.out m ω ω v v' W k k' h h'
  have hsg:0<=Wh.JR (D*m) A ↔ A<=D*m:=by unfold Wh.JR;(repeat' split) <;> omega
  have hsn:L<=m ↔ A<=D*m:=by rw [←hge,hsd.out];omega
  generalize Wh.JR (D*m) A=sg at *;have OZ:=IU OZ
  by_cases hL:L<=m
  ·have hs0:0<=sg:=hsg.2 (hsn.1 hL)
   clear hsg hsn hge PC PT
   go_upto_region 4 with (go_at_call 130;with_reducible refine Id (PF.out _) ?_)
   refine b8 6 [.is (.agg #[s2,.slice ad ld cd]),.is m,.at (aI (wr.heap.size) (D*m)),.is (.agg #[s1,.slice aa la ca]),.is sg,.is true] κ κ κ ⟨?_,?_,?_,?_,?_,?_,trivial⟩ ?_
   all_goals try ((refine Rg.b1 ?_;intro zZ w_ hB e);have kz:=aE hB U.box.c0;have kz:=aE hB U.box.c1;have kz:=aE hB V.box.c0;have kz:=aE hB V.box.c1;have ec:=Rg.ec zZ;(first | (go_simp;done) | (go_simp;first | done | omega | (simp;omega);done)))
   ·intro _ zZ w_ hB hr
    have e21:=Rg.t_ (hr 21 δ);have e22:=Rg.t_ (hr 22 δ);have ef:=Rg.ef zZ;refine af rfl τ ?_;exact aI.ret hB (TO.out _ _ _ (aF.below od.out hB))
   ·intro _ zZ w_ hB hr
    obtain ⟨s23,a23,l23,c23,NG,e23,Qf⟩:=aI.get (hr 23 δ);have e24:=Rg.t_ (hr 24 δ);have ef:=Rg.ef zZ;obtain rfl:=NG.out;exact bp rfl γ (OZ.out _ _ _ _ _ Qf (aF.below oa.out hB))
   intro vals wz hB hv hne;have MV:vals 5=.bool true:=hv 5 δ;simp only [bD,Rg.fill,Act.put,Nat.reduceAdd];clear hv;simp only [MV];clear MV;replace ⟨V,U,B⟩:=I7 hB V U B;clear hB;unfold aV;go_wp2
   go_roundw
   case rel=>exact ⟨lo,m,rfl,rfl,h1,h2,hL,ω,V,U,B⟩
   case measure=>simp [intOf] <;> omega
  have hs0:¬ 0<=sg:=fun h=>hL (hsn.2 (hsg.1 h))
  clear hsg hsn hge PC PT
  go_upto_region 4 with (go_at_call 130;with_reducible refine Id (PF.out _) ?_)
  refine b8 6 [.is (.agg #[s2,.slice ad ld cd]),.is m,.at (aI (wr.heap.size) (D*m)),.is (.agg #[s1,.slice aa la ca]),.is sg,.is false] κ κ κ ⟨?_,?_,?_,?_,?_,?_,trivial⟩ ?_
  all_goals try ((refine Rg.b1 ?_;intro zZ w_ hB e);have kz:=aE hB U.box.c0;have kz:=aE hB U.box.c1;have kz:=aE hB V.box.c0;have kz:=aE hB V.box.c1;have ec:=Rg.ec zZ;(first | (go_simp;done) | (go_simp;first | done | omega | (simp;omega);done)))
  ·intro _ zZ w_ hB hr
   have e21:=Rg.t_ (hr 21 δ);have e22:=Rg.t_ (hr 22 δ);have ef:=Rg.ef zZ;refine af rfl τ ?_;exact aI.ret hB (TO.out _ _ _ (aF.below od.out hB))
  ·intro _ zZ w_ hB hr
   obtain ⟨s23,a23,l23,c23,NG,e23,Qf⟩:=aI.get (hr 23 δ);have e24:=Rg.t_ (hr 24 δ);have ef:=Rg.ef zZ;obtain rfl:=NG.out;exact bp rfl γ (OZ.out _ _ _ _ _ Qf (aF.below oa.out hB))
  intro vals wz hB hv hne;have MV:vals 5=.bool false:=hv 5 δ;simp only [bD,Rg.fill,Act.put,Nat.reduceAdd];clear hv;simp only [MV];clear MV;replace ⟨V,U,B⟩:=I7 hB V U B;clear hB;unfold aV;go_wp2
  go_roundw
  case rel=>exact ⟨m+1,hi,rfl,rfl,ω,ω,h3,h4,V,U,B⟩
  case measure=>simp [intOf] <;> omega
 obtain rfl:lo=L:=ω
 obtain rfl:hi=lo:=ω
 have TO:=IU fun v W k h=>PT.out hi ω ω v W k h
 have OZ:=fun v v' W k k' h h'=>PC.out hi ω ω v v' W k k' h h'
 have hsg:Wh.JR (D*hi) A=0 ↔ D*hi=A:=by unfold Wh.JR;(repeat' split) <;> omega
 generalize Wh.JR (D*hi) A=sg at *;have OZ:=IU OZ;have hdd:=IU (show decide (D*hi=A)=decide (sg=0) by rw [decide_eq_decide];exact hsg.symm);clear hsg PC PT
 go_upto_region 7 with fail
 refine b8 9 [.is hi,.is (.agg #[s2,.slice ad ld cd]),.is hi,.at (aI (wr.heap.size) (D*hi)),.is (.agg #[s1,.slice aa la ca]),.is sg,.is (decide (sg=0)),.is hi,.is (decide (sg=0))] κ κ κ ⟨?_,?_,?_,?_,?_,?_,?_,?_,?_,trivial⟩ ?_
 all_goals try ((refine Rg.b1 ?_;intro zZ w_ hB e);have kz:=aE hB U.box.c0;have kz:=aE hB U.box.c1;have kz:=aE hB V.box.c0;have kz:=aE hB V.box.c1;have ec:=Rg.ec zZ;(first | (go_simp;done) | (go_simp;first | done | rfl | (by_cases Ii:sg=0 <;> simp [Ii];done);done)))
 ·intro _ zZ w_ hB hr
  have e31:=Rg.t_ (hr 31 δ);have e32:=Rg.t_ (hr 32 δ);have ef:=Rg.ef zZ;refine af rfl τ ?_;exact aI.ret hB (TO.out _ _ _ (aF.below od.out hB))
 ·intro _ zZ w_ hB hr
  obtain ⟨ON,a33,OH,Ns,NH,e33,Qg⟩:=aI.get (hr 33 δ);have e34:=Rg.t_ (hr 34 δ);have ef:=Rg.ef zZ;obtain rfl:=NH.out;exact bp rfl γ (OZ.out _ _ _ _ _ Qg (aF.below oa.out hB))
 intro vals wz hB hv hne;have Kj:vals 7=.int .i64 hi:=hv 7 δ;have NR:vals 8=.bool (decide (sg=0)):=hv 8 δ;simp only [bD,Rg.fill,Act.put,Nat.reduceAdd];clear hv;simp only [Kj,NR];clear Kj NR;unfold aV;go_wp2;go_ret2;exact ⟨by rw [hdd.out];rfl,j_ B hB⟩
end
end Go.Proofs.YtkalaljcbmkbmaaGreat
