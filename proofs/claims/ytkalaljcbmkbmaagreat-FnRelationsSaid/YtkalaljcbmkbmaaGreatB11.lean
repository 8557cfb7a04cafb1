/-
  Joined texts: contracts and plain lemmas.
-/
import Derived.Test.YtkalaljcbmkbmaaGreatB1
import Derived.Test.YtkalaljcbmkbmaaGreatB10
import Derived.Test.YtkalaljcbmkbmaaGreatB9
import Derived.Test.YtkalaljcbmkbmaaGreatB8
set_option linter.unusedSimpArgs false
set_option linter.unusedVariables false
set_option maxRecDepth 100000
set_option maxHeartbeats 8000000
namespace Go.Proofs.YtkalaljcbmkbmaaGreat
open Tryz
section
open Go.RowKit open Gr M Rg Rw Wh
def J_ (W:World) (g:Nat) (z:Int):Prop:=∃ (s:Bool) (a:Option Addr) (l c:Nat),Hid (s=decide (z<0))/\aG W g 116 #[s,.slice a l c]/\aF W 0 (.slice a l c) (Wh.a_ z.natAbs)
theorem J_.keep {W W':World} {g:Nat} {z:Int} (h:J_ W g z) (hb:Below W W W'):J_ W' g z:=by
 obtain ⟨s,a,l,c,hs,hv,ho⟩:=h;exact ⟨s,a,l,c,hs,hv.keep hb,aF.below ho hb⟩
theorem J_.lt {W:World} {g:Nat} {z:Int} (h:J_ W g z):g<W.heap.size:=by
 obtain ⟨s,a,l,c,hs,hv,ho⟩:=h;exact hv.lt
theorem J_.cw {W:World} {g k:Nat} {z:Int} {u v:Value} (h:J_ W g z) (hk:g≠k) (hv:aG W k 116 #[u,v]) (x y:Value):J_ ((W.setCell ⟨k,0,none⟩ x).setCell ⟨k,1,none⟩ y) g z:=by
 obtain ⟨s,a,l,c,hs,hw,ho⟩:=h;exact ⟨s,a,l,c,hs,hw.cw hk x y,aF.bQ ho hv δ x y⟩
theorem J_.put {W:World} {g b:Nat} {z:Int} {u v:Value} {s:Bool} {a:Option Addr} {l c:Nat} (hv:aG W g 116 #[u,v]) (hs:Hid (s=decide (z<0))) (ho:aF W b (.slice a l c) (Wh.a_ z.natAbs)):J_ ((W.setCell ⟨g,0,none⟩ (.bool s)).setCell ⟨g,1,none⟩ (.slice a l c)) g z:=
 ⟨s,a,l,c,hs,hv.set2 _ _,aF.base (aF.bQ ho hv δ _ _) (Nat.zero_le _)⟩
theorem j0 (W:World) (x y:Value):Below W W (W.alloc (.cells #[x,y] 116)):=(IX W W).alloc (IY _) _
theorem J_.made {W:World} {b:Nat} {z:Int} {a:Option Addr} {l c:Nat} (ho:aF W b (.slice a l c) (Wh.a_ z.natAbs)):J_ (W.alloc (.cells #[decide (z<0),.slice a l c] 116)) W z:=
 ⟨_,a,l,c,IU rfl,aG.new W _ _,aF.base (aF.alloc ho _) (Nat.zero_le _)⟩
namespace M
theorem CA (n m X1 E1 X2 E2:Int):n*n*(E1*E1*E2*E2)+-(m*m*(X1*E2*E2+X2*E1*E1))=top n m X1 E1 X2 E2:=by unfold top;grind
theorem Bx (m E1 E2:Int):m*m*(E1*E1*E2*E2)=bot m E1 E2:=by unfold bot;grind
end M
theorem zV (a b X1 Y1 E1 X2 Y2 E2:Int) (w:World) (ha1:-1000<=a) (ha2:a<=1000) (hx1:-10000<=X1) (hx2:X1<=10000) (hy1:-3000000<=Y1) (hy2:Y1<=3000000) (he1:1<=E1) (he2:E1<=20) (hx3:-10000<=X2) (hx4:X2<=10000) (hy3:-3000000<=Y2) (hy4:Y2<=3000000) (Kt:1<=E2) (Lc:E2<=20) (hb1:-10000<=b) (hb2:b<=10000) (hc1:Y1*Y1=M.cv a b X1 E1) (hc2:Y2*Y2=M.cv a b X2 E2) (g1:Int.gcd X1 E1=1) (g2:Int.gcd X2 E2=1) :
  cB 50 #[.agg #[a,b],.agg #[X1,Y1,E1],.agg #[X2,Y2,E2]] w (.tuple #[.agg #[M.LF a X1 Y1 E1 X2 Y2 E2,M.LZ a X1 Y1 E1 X2 Y2 E2,M.KY a X1 Y1 E1 X2 Y2 E2],jY a X1 Y1 E1 X2 Y2 E2]):=by
 have hE1:(E1 == 0)=false:=by rw [beq_eq_false_iff_ne];omega
 have hE2:(E2 == 0)=false:=by rw [beq_eq_false_iff_ne];omega
 have PO:=IU fun W=>j7 X2 Y2 E2 W ω ω
 have hop:=xA hc1 hc2 he1 Kt g1 g2
 by_cases h0:M.sD X1 Y1 E1 X2 Y2 E2=0
 ·obtain ⟨k1,k2,k3⟩:=hop.1 h0
  have hf:=IU (show M.LF a X1 Y1 E1 X2 Y2 E2=0/\M.LZ a X1 Y1 E1 X2 Y2 E2=0/\M.KY a X1 Y1 E1 X2 Y2 E2=0/\jY a X1 Y1 E1 X2 Y2 E2=true from ⟨if_pos h0,if_pos h0,if_pos h0,if_pos h0⟩);rw [hf.out.1,hf.out.2.1,hf.out.2.2.1,hf.out.2.2.2];have heq:=IU (show X1=X2/\Y1=-Y2/\E1=E2 from ⟨k1,k2,k3⟩);clear hf h0 hc1 hc2 hop k1 k2 k3 g1 g2;obtain ⟨wc,hw3,C,Q,U,R,B⟩:=ej w #[a,b] 25 #[X1,Y1,E1] 40 #[X2,Y2,E2] 40 #[(0:Int),(0:Int),(0:Int)] 40;have f_:=C.box.c0;have i_:=C.box.c1;have ⟨q0,q1,q2⟩:=Q.aM;have ⟨u0,u1,u2⟩:=U.aM;have ⟨r0,r1,r2⟩:=R.aM;go_enter func50,ntmps50
  go_wp2
  go_upto_region 5 with fail
  refine b8 5 [.is (.agg #[X1,Y1,E1]),.is (.agg #[X2,Y2,E2]),.is (.agg #[X2,(-Y2:Int),E2]),.is true,.is true] κ κ κ ⟨?_,?_,?_,?_,?_,trivial⟩ ?_
  all_goals try ((first | (refine Rg.b1 ?_;intro zZ w_ hB e) | (refine Rg.b2 ?_;intro zZ w_ hB e f));have kz:=aE hB q0;have kz:=aE hB q1;have kz:=aE hB q2;have kz:=aE hB u0;have kz:=aE hB u1;have kz:=aE hB u2;(first | (go_simp;done) | (go_simp;first | done | (simp [heq.out];done) | (exact fun x y z=>heq.out ⟨x,y,z⟩);done)))
  ·refine Rg.o1 ?_;intro zZ w_ hB e
   have ef:=Rg.ef zZ;exact bp rfl γ (PO.out _)
  intro vals wz Ny hv hne;have Mm:vals 4=.bool true:=hv 4 δ;simp only [bD,Rg.fill,Act.put,Nat.reduceAdd];clear hv;simp only [Mm];clear Mm;unfold aV
  (replace B:=j_ B Ny);replace R:=R.keep Ny;(obtain ⟨r0,r1,r2⟩:=R.aM);have f0:=R.Ih 0;have f1:=R.Ih 1;have f2:=R.Ih 2;(have rl:=R.lt)
  go_wp2;exact D_ results50 ⟨rfl,JW B⟩
 have hni:¬ (X1=X2/\Y1=-Y2/\E1=E2):=fun k=>h0 (hop.2 k)
 have heq:=IU hni;have hsb:=Gl (a:=a) ha1 ha2 hx1 hx2 hy1 hy2 he1 he2 hx3 hx4 hy3 hy4 Kt Lc;obtain ⟨-,hd0,-,hsn,hsd⟩:=xU (a:=a) h0;have hpn:=Hz (a:=a) h0
 have hcore:=fun n m=>mT (n:=n) (m:=m) hc1 hc2 hx2 hx4 he1 he2 Kt Lc h0
 have hno:=wQ (a:=a) h0
 have PS:=fun W=>EY a b X1 Y1 E1 X2 Y2 E2 W ha1 ha2 hx1 hx2 hy1 hy2 he1 he2 hx3 hx4 hy3 hy4 Kt Lc
 have hg0:M.gcd (M.sN a X1 Y1 E1 X2 Y2 E2) (M.sD X1 Y1 E1 X2 Y2 E2)≠0:=by
  unfold M.gcd;intro h;have:=Int.gcd_eq_zero_iff.1 (Int.ofNat_eq_zero.1 h);exact h0 this.2
 have PG:=fun W=>s9 (M.sN a X1 Y1 E1 X2 Y2 E2) (M.sD X1 Y1 E1 X2 Y2 E2) W ω ω ω ω
 obtain ⟨n,hn⟩:∃ n,Hid ((M.sN a X1 Y1 E1 X2 Y2 E2).tdiv (M.gcd (M.sN a X1 Y1 E1 X2 Y2 E2) (M.sD X1 Y1 E1 X2 Y2 E2))=n):=⟨_,IU rfl⟩
 obtain ⟨m,hm⟩:∃ m,Hid ((M.sD X1 Y1 E1 X2 Y2 E2).tdiv (M.gcd (M.sN a X1 Y1 E1 X2 Y2 E2) (M.sD X1 Y1 E1 X2 Y2 E2))=m):=⟨_,IU rfl⟩
 rw [hn.out,hm.out] at hpn;obtain ⟨hm0,H1,H2⟩:=hcore n m hpn
 have hnb:(-200000000000<=n/\n<=200000000000)/\-200000000000<=m/\m<=200000000000:=by
  clear hcore H1 H2 hno hop;omega
 clear hcore hpn hsn hsd hd0 hop hni;generalize M.sD X1 Y1 E1 X2 Y2 E2=D0,M.sN a X1 Y1 E1 X2 Y2 E2=N0,M.gcd (M.sN a X1 Y1 E1 X2 Y2 E2) (M.sD X1 Y1 E1 X2 Y2 E2)=g at *;generalize hX:M.LF a X1 Y1 E1 X2 Y2 E2=X at *;generalize hY:M.LZ a X1 Y1 E1 X2 Y2 E2=Y at *;generalize hE:M.KY a X1 Y1 E1 X2 Y2 E2=E at *;generalize jY a X1 Y1 E1 X2 Y2 E2=K at *
 have hgb:(g == 0)=false:=by rw [beq_eq_false_iff_ne];exact hg0
 obtain ⟨⟨n1,n2⟩,m1,m2⟩:=hnb;replace H1:=IU H1;replace H2:=IU (fun k=>H2 k X Y E rfl rfl rfl);replace hno:=IU hno;replace PS:=IU PS;replace PG:=IU PG;have hm0:=IU hm0;clear hc1 hc2 g1 g2 hX hY hE;have zn:=be (n:=n) ω ω;have zm:=be (n:=m) ω ω;have sb1:=aH (x:=E1) (y:=E1) (m:=20) (n:=20);have Tz:=aH (x:=E1*E1) (y:=E2) (m:=400) (n:=20);have T0:=aH (x:=E1*E1*E2) (y:=E2) (m:=8000) (n:=20);have T5:=aH (x:=X1) (y:=E2) (m:=10000) (n:=20);have T6:=aH (x:=X1*E2) (y:=E2) (m:=200000) (n:=20);have T7:=aH (x:=X2) (y:=E1) (m:=10000) (n:=20);have T8:=aH (x:=X2*E1) (y:=E1) (m:=200000) (n:=20);have ze:=be (n:=E1*E1*E2*E2) ω ω;have zq:=be (n:=X1*E2*E2+X2*E1*E1) ω ω;have TI:=ah zm zm;have Y9:=ah zn zn;have Y8:=ah Y9 ze;have Y7:=ah TI zq;have ZA:=lX Y7;have zt:=jI Y8 (aL ZA (show 5+5+5<=5+5+5 by omega));have zb:=ah TI ze;have tT:=CA n m X1 E1 X2 E2;have tB:=Bx m E1 E2
 have P1:=fun W=>br (m) W ω ω
 have P2:=fun W=>br (n) W ω ω
 have P3:=fun W=>br (E1*E1*E2*E2) W ω ω
 have P4:=fun W=>br (X1*E2*E2+X2*E1*E1) W ω ω
 have P5:=fun v v' W k k' (h:aF W k v (Wh.a_ (m).natAbs)) (h':aF W k' v' (Wh.a_ (m).natAbs))=>dX (m) (m) v v' W k k' h h' (aR.2 (aL zm ω)) (aR.2 (aL zm ω))
 have P6:=fun v v' W k k' (h:aF W k v (Wh.a_ (n).natAbs)) (h':aF W k' v' (Wh.a_ (n).natAbs))=>dX (n) (n) v v' W k k' h h' (aR.2 (aL zn ω)) (aR.2 (aL zn ω))
 have P7:=fun v v' W k k' (h:aF W k v (Wh.a_ (n*n).natAbs)) (h':aF W k' v' (Wh.a_ (E1*E1*E2*E2).natAbs))=>dX (n*n) (E1*E1*E2*E2) v v' W k k' h h' (aR.2 (aL Y9 ω)) (aR.2 (aL ze ω))
 have P8:=fun v v' W k k' (h:aF W k v (Wh.a_ (m*m).natAbs)) (h':aF W k' v' (Wh.a_ (X1*E2*E2+X2*E1*E1).natAbs))=>dX (m*m) (X1*E2*E2+X2*E1*E1) v v' W k k' h h' (aR.2 (aL TI ω)) (aR.2 (aL zq ω))
 have P9:=fun v W k (h:aF W k v (Wh.a_ (m*m*(X1*E2*E2+X2*E1*E1)).natAbs))=>lN (m*m*(X1*E2*E2+X2*E1*E1)) v W k h (aR.2 (aL Y7 ω))
 have PA:=fun v v' W k k' (h:aF W k v (Wh.a_ (n*n*(E1*E1*E2*E2)).natAbs)) (h':aF W k' v' (Wh.a_ (-(m*m*(X1*E2*E2+X2*E1*E1))).natAbs))=>ig (n*n*(E1*E1*E2*E2)) (-(m*m*(X1*E2*E2+X2*E1*E1))) v v' W k k' h h' (aR.2 (aL Y8 ω)) (aR.2 (aL ZA ω))
 have PB:=fun v v' W k k' (h:aF W k v (Wh.a_ (m*m).natAbs)) (h':aF W k' v' (Wh.a_ (E1*E1*E2*E2).natAbs))=>dX (m*m) (E1*E1*E2*E2) v v' W k k' h h' (aR.2 (aL TI ω)) (aR.2 (aL ze ω))
 rw [tT] at PA zt;rw [tB] at PB zb;have hbp:0<M.bot m E1 E2:=mO hm0.out ω ω;have hTe:=IU (rfl:M.top n m X1 E1 X2 E2=M.top n m X1 E1 X2 E2);generalize M.bot m E1 E2=Bt,M.top n m X1 E1 X2 E2=T at *;clear tT tB hTe zn zm ze zq Y9 Y8 Y7 ZA TI;generalize n*n=nn,m*m=mm,n*n*(E1*E1*E2*E2)=ne,m*m*(X1*E2*E2+X2*E1*E1)=mq,-(m*m*(X1*E2*E2+X2*E1*E1))=nq at *;replace P1:=IU P1;replace P2:=IU P2;replace P3:=IU P3;replace P4:=IU P4;replace P5:=IU P5;replace P6:=IU P6;replace P7:=IU P7;replace P8:=IU P8;replace P9:=IU P9;replace PA:=IU PA;replace PB:=IU PB;obtain ⟨wc,hw3,C,Q,U,R,B⟩:=ej w #[a,b] 25 #[X1,Y1,E1] 40 #[X2,Y2,E2] 40 #[(0:Int),(0:Int),(0:Int)] 40;have f_:=C.box.c0;have i_:=C.box.c1;have ⟨q0,q1,q2⟩:=Q.aM;have ⟨u0,u1,u2⟩:=U.aM;have ⟨r0,r1,r2⟩:=R.aM;go_enter func50,ntmps50
 go_wp2
 go_upto_region 5 with fail
 refine b8 5 [.is (.agg #[X1,Y1,E1]),.is (.agg #[X2,Y2,E2]),.is (.agg #[X2,(-Y2:Int),E2]),.is false,.is false] κ κ κ ⟨?_,?_,?_,?_,?_,trivial⟩ ?_
 all_goals try ((first | (refine Rg.b1 ?_;intro zZ w_ hB e) | (refine Rg.b2 ?_;intro zZ w_ hB e f));have kz:=aE hB q0;have kz:=aE hB q1;have kz:=aE hB q2;have kz:=aE hB u0;have kz:=aE hB u1;have kz:=aE hB u2;(first | (go_simp;done) | (go_simp;first | done | (simp [heq.out];done) | (exact fun x y z=>heq.out ⟨x,y,z⟩);done)))
 ·refine Rg.o1 ?_;intro zZ w_ hB e
  have ef:=Rg.ef zZ;exact bp rfl γ (PO.out _)
 intro vals wz Ny hv hne;have Mm:vals 4=.bool false:=hv 4 δ;simp only [bD,Rg.fill,Act.put,Nat.reduceAdd];clear hv;simp only [Mm];clear Mm;unfold aV
 (replace B:=j_ B Ny);replace C:=C.keep Ny;replace Q:=Q.keep Ny;replace U:=U.keep Ny;replace R:=R.keep Ny;have f_:=C.box.c0;have i_:=C.box.c1;(obtain ⟨q0,q1,q2⟩:=Q.aM);(obtain ⟨u0,u1,u2⟩:=U.aM);(obtain ⟨r0,r1,r2⟩:=R.aM)
 clear Ny
 go_upto_region 9 with first | (go_at_call 86;with_reducible refine p_ (PS.out _) fun w4 hb4=>?_;replace B:=j_ B hb4;replace C:=C.keep hb4;replace Q:=Q.keep hb4;replace U:=U.keep hb4;replace R:=R.keep hb4;have f_:=C.box.c0;have i_:=C.box.c1;(obtain ⟨q0,q1,q2⟩:=Q.aM);(obtain ⟨u0,u1,u2⟩:=U.aM);(obtain ⟨r0,r1,r2⟩:=R.aM)) | (go_at_call 83;(with_reducible refine (PG.out _).mono ?_);rintro e w5 ⟨rfl,j5,rfl⟩;have hb5:=aN (IX w4 w4) j5;replace B:=j_ B hb5;replace C:=C.keep hb5;replace Q:=Q.keep hb5;replace U:=U.keep hb5;replace R:=R.keep hb5;have f_:=C.box.c0;have i_:=C.box.c1;(obtain ⟨q0,q1,q2⟩:=Q.aM);(obtain ⟨u0,u1,u2⟩:=U.aM);(obtain ⟨r0,r1,r2⟩:=R.aM))
 have hN1:=hsb;have hnn:=hn.out;have hmm:=hm.out
 go_cut [8,9] (fun p q wx=>p=.int .i64 n/\q=.int .i64 m/\aG wx w 25 #[a,b]/\aG wx (w.heap.size+1) 40 #[X1,Y1,E1]/\aG wx (w.heap.size+1+1) 40 #[X2,Y2,E2]/\aG wx (w.heap.size+1+1+1) 40 #[(0:Int),(0:Int),(0:Int)]/\Below w w wx)
 case first=>
  go_region
  all_goals
   go_wp2_with fail
   go_meet
   exact ⟨rfl,rfl,C.drew,Q.drew,U.drew,R.drew,B.trans ((aN (IX _ _) 1).mono B.size)⟩
 case rest=>
 obtain ⟨rfl,rfl,C,Q,U,R,B⟩:=hcut;clear hN1 hnn hmm hn hm n1 n2 hsb hg0 hgb PS PG PO heq hw3
 have Ji:w.heap.size+4<=wc.heap.size:=by have:=R.lt;omega
 go_upto_region 10 with fail
 go_cut [11] (fun p wx=>∃ ga:Nat,p=.pointer (some ⟨ga,0,none⟩)/\w.heap.size+4<=ga/\aG wx w 25 #[a,b]/\aG wx (w.heap.size+1) 40 #[X1,Y1,E1]/\aG wx (w.heap.size+1+1) 40 #[X2,Y2,E2]/\aG wx (w.heap.size+1+1+1) 40 #[(0:Int),(0:Int),(0:Int)]/\Below w w wx/\J_ wx ga (mm))
 case first=>
  go_wp2_with first | (go_at_call 87;(with_reducible refine (P5.out _ _ _ _ _ o4 o5).mono ?_);rintro e w6 ⟨v6,rfl,o6,hb6⟩;(replace o6:aF _ _ _ _:=o6);replace B:=j_ B hb6;replace C:=C.keep hb6;replace Q:=Q.keep hb6;replace U:=U.keep hb6;replace R:=R.keep hb6;have f_:=C.box.c0;have i_:=C.box.c1;(obtain ⟨q0,q1,q2⟩:=Q.aM);(obtain ⟨u0,u1,u2⟩:=U.aM);(obtain ⟨r0,r1,r2⟩:=R.aM);obtain ⟨av,cv,rfl,I1,Ii⟩:=aF.view o6;clear I1 Ii;have V:=aG.new w6 #[false,.slice none 0 0] 116;have V0:=V.box.c0;have V1:=V.box.c1;have V2:=V.box.f0;have V3:=V.box.f1;have M0:=j0 w6 (.bool (decide (mm<0))) (.slice av (Wh.a_ (mm).natAbs).length cv);have M1:=J_.made o6) | ((have _t:=o4);clear _t;go_at_call 88;(with_reducible refine (P1.out _).mono ?_);rintro e w5 ⟨v5,rfl,o5,hb5⟩;(replace o5:aF _ _ _ _:=o5);replace B:=j_ B hb5;replace C:=C.keep hb5;replace Q:=Q.keep hb5;replace U:=U.keep hb5;replace R:=R.keep hb5;replace o4:=aF.below o4 hb5;have f_:=C.box.c0;have i_:=C.box.c1;(obtain ⟨q0,q1,q2⟩:=Q.aM);(obtain ⟨u0,u1,u2⟩:=U.aM);(obtain ⟨r0,r1,r2⟩:=R.aM)) | (go_at_call 88;(with_reducible refine (P1.out _).mono ?_);rintro e w4 ⟨v4,rfl,o4,hb4⟩;(replace o4:aF _ _ _ _:=o4);replace B:=j_ B hb4;replace C:=C.keep hb4;replace Q:=Q.keep hb4;replace U:=U.keep hb4;replace R:=R.keep hb4;have f_:=C.box.c0;have i_:=C.box.c1;(obtain ⟨q0,q1,q2⟩:=Q.aM);(obtain ⟨u0,u1,u2⟩:=U.aM);(obtain ⟨r0,r1,r2⟩:=R.aM))
  go_meet
  exact ⟨w6,rfl,by have:=R.lt;omega,C.keep M0,Q.keep M0,U.keep M0,R.keep M0,j_ B M0,M1⟩
 case rest=>
 obtain ⟨ga,rfl,ha0,C,Q,U,R,B,MA⟩:=hcut;clear P1 P5 Ji
 go_upto_region 11 with fail
 go_cut [12] (fun p wx=>∃ gb:Nat,p=.pointer (some ⟨gb,0,none⟩)/\ga<gb/\aG wx w 25 #[a,b]/\aG wx (w.heap.size+1) 40 #[X1,Y1,E1]/\aG wx (w.heap.size+1+1) 40 #[X2,Y2,E2]/\aG wx (w.heap.size+1+1+1) 40 #[(0:Int),(0:Int),(0:Int)]/\Below w w wx/\J_ wx ga (mm)/\J_ wx gb (E1*E1*E2*E2))
 case first=>
  have f_:=C.box.c0;have i_:=C.box.c1;have ⟨q0,q1,q2⟩:=Q.aM;have ⟨u0,u1,u2⟩:=U.aM;have ⟨r0,r1,r2⟩:=R.aM
  go_wp2_with (go_at_call 88;(with_reducible refine (P3.out _).mono ?_);rintro e w4 ⟨v4,rfl,o4,hb4⟩;(replace o4:aF _ _ _ _:=o4);replace B:=j_ B hb4;replace C:=C.keep hb4;replace Q:=Q.keep hb4;replace U:=U.keep hb4;replace R:=R.keep hb4;replace MA:=MA.keep hb4;have f_:=C.box.c0;have i_:=C.box.c1;(obtain ⟨q0,q1,q2⟩:=Q.aM);(obtain ⟨u0,u1,u2⟩:=U.aM);(obtain ⟨r0,r1,r2⟩:=R.aM);obtain ⟨av,cv,rfl,I1,Ii⟩:=aF.view o4;clear I1 Ii;have V:=aG.new w4 #[false,.slice none 0 0] 116;have V0:=V.box.c0;have V1:=V.box.c1;have V2:=V.box.f0;have V3:=V.box.f1;have M0:=j0 w4 (.bool (decide (E1*E1*E2*E2<0))) (.slice av (Wh.a_ (E1*E1*E2*E2).natAbs).length cv);have M1:=J_.made o4)
  go_meet
  exact ⟨w4,rfl,MA.lt,C.keep M0,Q.keep M0,U.keep M0,R.keep M0,j_ B M0,MA.keep M0,M1⟩
 case rest=>
 obtain ⟨gb,rfl,hab,C,Q,U,R,B,MA,MB⟩:=hcut;clear P3
 go_upto_region 12 with fail
 have ⟨sB,aB,lB,cB,hsB,VB,oB⟩:=MB;refine b8 8 [.is n,.at (aI (wc.heap.size) (n)),.is n,.at (aI (wc.heap.size) (n)),.at (aI (wc.heap.size) (nn)),.is (.agg #[sB,.slice aB lB cB]),.at (aI (wc.heap.size) (ne)),.new (wc.heap.size) 116 #[false,.slice none 0 0]] κ κ κ ⟨?_,?_,?_,?_,?_,?_,?_,?_,fun h_=>absurd h_ δ,trivial⟩ ?_
 all_goals try ((refine Rg.b1 ?_;intro zZ w_ hB e);have kz:=aE hB VB.box.c0;have kz:=aE hB VB.box.c1;(go_simp;done))
 ·refine Rg.o1 ?_;intro zZ w_ hB e
  have ef:=Rg.ef zZ;refine af rfl τ ?_;exact aI.ret hB (P2.out _)
 ·refine Rg.o1 ?_;intro zZ w_ hB e
  have ef:=Rg.ef zZ;refine af rfl τ ?_;exact aI.ret hB (P2.out _)
 ·intro _ zZ w_ hB hr
  obtain ⟨s71,a71,l71,c71,Xy,e71,o71⟩:=aI.get (hr 71 δ);obtain ⟨s73,a73,l73,c73,Xz,e73,o73⟩:=aI.get (hr 73 δ);have ef:=Rg.ef zZ;refine af rfl τ ?_;obtain rfl:=Xy.out;obtain rfl:=Xz.out;exact aI.ret hB (P6.out _ _ _ _ _ o71 o73)
 ·intro _ zZ w_ hB hr
  obtain ⟨s74,a74,l74,c74,X4,e74,o74⟩:=aI.get (hr 74 δ);have e75:=Rg.t_ (hr 75 δ);have ef:=Rg.ef zZ;refine af rfl τ ?_;obtain rfl:=X4.out;rw [hsB.out];exact aI.ret hB (P7.out _ _ _ _ _ o74 (aF.below oB hB))
 ·intro _ zZ w_ hB hr
  exact ⟨by have:=hB.size;omega,rfl,by first | (go_simp;done) | (go_simp;rfl)⟩
 intro vals wz R9 hv hne;have n13:(Rg.Val.new (wc.heap.size) 116 #[false,.slice none 0 0]).ok (vals 7) wz:=hv 7 δ;have n76:(Rg.Val.at (aI (wc.heap.size) (ne))).ok (vals 6) wz:=hv 6 δ;simp only [bD,Rg.fill,Act.put,Nat.reduceAdd];clear hv;obtain ⟨g13,QD,Kj,Sx⟩:=n13;replace Sx:aG wz g13 116 #[false,.slice none 0 0]:=Sx;obtain ⟨s76,a76,l76,c76,X5,Mt,o76⟩:=(cE n76).view;simp only [Kj,Mt];clear Kj Mt;have hB2:Below wc wc ((wz.setCell ⟨g13,0,none⟩ (.bool s76)).setCell ⟨g13,1,none⟩ (.slice a76 l76 c76)):=IW (IW R9 QD _) QD _;have ⟨c0,c1,f0,f1,_⟩:=Sx.box;have MC:=J_.put Sx X5 o76;have hlt:=MB.lt;unfold aV aV Oper.wp;go_simp
 clear c0 c1 f0 f1 Sx VB oB;replace MA:=MA.keep hB2;replace MB:=MB.keep hB2;replace C:=C.keep hB2;replace Q:=Q.keep hB2;replace U:=U.keep hB2;replace R:=R.keep hB2;replace B:=j_ B hB2
 have hbc:gb<g13:=ω
 clear hB2 R9 hlt QD P2 P6 P7;generalize ((wz.setCell ⟨g13,0,none⟩ (.bool s76)).setCell ⟨g13,1,none⟩ (.slice a76 l76 c76))=wd at *
 skip
 have f_:=C.box.c0;have i_:=C.box.c1;have ⟨q0,q1,q2⟩:=Q.aM;have ⟨u0,u1,u2⟩:=U.aM;have ⟨r0,r1,r2⟩:=R.aM
 go_upto_region 13 with fail
 obtain ⟨e1,e2,e3,e4,e5,e6⟩:w.heap.size<=g13/\ga≠g13/\gb≠g13/\w.heap.size≠g13/\w.heap.size+1≠g13/\w.heap.size+1+1+1≠g13:=⟨ω,ω,ω,ω,ω,ω⟩
 have ⟨sA,aA,lA,cA,hsA,VA,oA⟩:=MA;have ⟨sC,aC,lC,cC,hsC,VC,oC⟩:=MC;refine b8 23 [.is (.agg #[sC,.slice aC lC cC]),.is (.agg #[sA,.slice aA lA cA]),.is (.pointer (some ⟨w.heap.size+1,0,none⟩)),.is X1,.is (.pointer (some ⟨w.heap.size+1+1,2,none⟩)),.is E2,.is (X1*E2:Int),.is (.pointer (some ⟨w.heap.size+1+1,2,none⟩)),.is E2,.is ((X1*E2)*E2:Int),.is (.pointer (some ⟨w.heap.size+1+1,0,none⟩)),.is X2,.is (.pointer (some ⟨w.heap.size+1,2,none⟩)),.is E1,.is (X2*E1:Int),.is (.pointer (some ⟨w.heap.size+1,2,none⟩)),.is E1,.is ((X2*E1)*E1:Int),.is (((X1*E2)*E2)+((X2*E1)*E1):Int),.at (aI (wd.heap.size) (X1*E2*E2+X2*E1*E1)),.at (aI (wd.heap.size) (mq)),.at (aI (wd.heap.size) (nq)),.at (aI (wd.heap.size) (T))] κ κ κ ⟨?_,?_,?_,?_,?_,?_,?_,?_,?_,?_,?_,?_,?_,?_,?_,?_,?_,?_,?_,?_,?_,?_,?_,fun h_=>absurd h_ δ,trivial⟩ ?_
 all_goals try ((first | (refine Rg.b1 ?_;intro zZ w_ hB e) | (refine Rg.b2 ?_;intro zZ w_ hB e f));have kz:=aE hB VC.box.c0;have kz:=aE hB VC.box.c1;have kz:=aE hB VA.box.c0;have kz:=aE hB VA.box.c1;have kz:=aE hB q0;have kz:=aE hB u2;have kz:=aE hB u0;have kz:=aE hB q2;(first | (go_simp;done) | (go_simp;exact Rg.wo ω)))
 ·refine Rg.o1 ?_;intro zZ w_ hB e
  have ef:=Rg.ef zZ;refine af rfl τ ?_;exact aI.ret hB (P4.out _)
 ·intro _ zZ w_ hB hr
  have e78:=Rg.t_ (hr 78 δ);obtain ⟨s96,a96,l96,c96,X7,e96,o96⟩:=aI.get (hr 96 δ);have ef:=Rg.ef zZ;refine af rfl τ ?_;obtain rfl:=X7.out;rw [hsA.out];exact aI.ret hB (P8.out _ _ _ _ _ (aF.below oA hB) o96)
 ·intro _ zZ w_ hB hr
  obtain ⟨s97,a97,l97,c97,X8,e97,o97⟩:=aI.get (hr 97 δ);have ef:=Rg.ef zZ;refine af rfl τ ?_;obtain rfl:=X8.out;exact aI.ret hB (P9.out _ _ _ o97)
 ·intro _ zZ w_ hB hr
  have e77:=Rg.t_ (hr 77 δ);obtain ⟨s98,a98,l98,c98,X9,e98,o98⟩:=aI.get (hr 98 δ);have ef:=Rg.ef zZ;refine af rfl τ ?_;obtain rfl:=X9.out;rw [hsC.out];exact aI.ret hB (PA.out _ _ _ _ _ (aF.below oC hB) o98)
 intro vals wy NX hv hne;have n99:(Rg.Val.at (aI (wd.heap.size) (T))).ok (vals 22) wy:=hv 22 δ;simp only [bD,Rg.fill,Act.put,Nat.reduceAdd];clear hv;obtain ⟨Qo,O4,Qe,Pi,YA,MI,o99⟩:=(cE n99).view;simp only [MI];clear MI;have RV:=VC.keep NX;have hB2:Below w w ((wy.setCell ⟨g13,0,none⟩ (.bool Qo)).setCell ⟨g13,1,none⟩ (.slice O4 Qe Pi)):=IW (IW (j_ B NX) e1 _) e1 _;replace MA:=(MA.keep NX).cw e2 RV (.bool Qo) (.slice O4 Qe Pi);replace MB:=(MB.keep NX).cw e3 RV (.bool Qo) (.slice O4 Qe Pi);have MT:=J_.put RV YA o99;have ⟨c0,c1,f0,f1,_⟩:=RV.box;replace C:=(C.keep NX).cw e4 (.bool Qo) (.slice O4 Qe Pi);replace Q:=(Q.keep NX).cw e5 (.bool Qo) (.slice O4 Qe Pi);replace R:=(R.keep NX).cw e6 (.bool Qo) (.slice O4 Qe Pi);unfold aV aV Oper.wp;go_simp
 clear c0 c1 f0 f1 RV VC oC VA oA MC U NX B
 skip
 have B:=hB2;clear hB2;generalize ((wy.setCell ⟨g13,0,none⟩ (.bool Qo)).setCell ⟨g13,1,none⟩ (.slice O4 Qe Pi))=wf at *;clear q0 q1 q2 u0 u1 u2 r0 r1 r2 f_ i_;clear P4 P8 P9 PA
 go_upto_region 14 with fail
 go_cut [14] (fun p wx=>∃ gd:Nat,p=.pointer (some ⟨gd,0,none⟩)/\aG wx w 25 #[a,b]/\aG wx (w.heap.size+1) 40 #[X1,Y1,E1]/\aG wx (w.heap.size+1+1+1) 40 #[(0:Int),(0:Int),(0:Int)]/\Below w w wx/\J_ wx g13 (T)/\J_ wx gd (Bt))
 case first=>
  have ⟨sA,aA,lA,cA,hsA,VA,oA⟩:=MA;have ⟨sB,aB,lB,cB,hsB,VB,oB⟩:=MB;obtain rfl:=hsA.out;obtain rfl:=hsB.out;have a0:=VA.box.c0;have a1:=VA.box.c1;have b0:=VB.box.c0;have b1:=VB.box.c1
  go_wp2_with (go_at_call 87;(with_reducible refine (PB.out _ _ _ _ _ oA oB).mono ?_);rintro e w4 ⟨v4,rfl,o4,hb4⟩;(replace o4:aF _ _ _ _:=o4);replace B:=j_ B hb4;replace C:=C.keep hb4;replace Q:=Q.keep hb4;replace R:=R.keep hb4;replace MT:=MT.keep hb4;have f_:=C.box.c0;have i_:=C.box.c1;(obtain ⟨q0,q1,q2⟩:=Q.aM);(obtain ⟨r0,r1,r2⟩:=R.aM);obtain ⟨av,cv,rfl,I1,Ii⟩:=aF.view o4;clear I1 Ii;have V:=aG.new w4 #[false,.slice none 0 0] 116;have V0:=V.box.c0;have V1:=V.box.c1;have V2:=V.box.f0;have V3:=V.box.f1;have M0:=j0 w4 (.bool (decide (Bt<0))) (.slice av (Wh.a_ (Bt).natAbs).length cv);have M1:=J_.made o4)
  go_meet
  exact ⟨w4,rfl,C.keep M0,Q.keep M0,R.keep M0,j_ B M0,MT.keep M0,M1⟩
 case rest=>
 obtain ⟨gd,rfl,C,Q,R,B,MT,MD⟩:=hcut;clear MA MB PB e1 e2 e3 e4 e5 e6 hab ha0;go_wp2
 go_loopw [15] (fun vk wr=>∃ k:Int,vk=.int .i64 k/\1<=k/\k<=21/\Hid (K=true->k<=E)/\aG wr w 25 #[a,b]/\aG wr (w.heap.size+1) 40 #[X1,Y1,E1]/\aG wr (w.heap.size+1+1+1) 40 #[(0:Int),(0:Int),(0:Int)]/\Below w w wr/\J_ wr g13 (T)/\J_ wr gd (Bt)) (fun vk _=>(21 - intOf vk).toNat)
 case atStart=>exact ⟨1,rfl,ω,ω,IU (fun h=>(H2.out h).1),C,Q,R,B,MT,MD⟩
 case round=>
 clear C Q R B MT MD;obtain ⟨k,rfl,k1,k2,hk,C,Q,R,B,MT,MD⟩:=hrel;have f_:=C.box.c0;have i_:=C.box.c1;obtain ⟨q0,q1,q2⟩:=Q.aM;obtain ⟨r0,r1,r2⟩:=R.aM;have f0:=R.Ih 0;have f1:=R.Ih 1;have f2:=R.Ih 2;have rl:=R.lt
 by_cases h20:k<=20
 ·have hkk:=aH (x:=k) (y:=k) (m:=20) (n:=20)
  have PT:=fun v W j (h:aF W j v (Wh.a_ T.natAbs))=>pC T (k*k) v W j h (aR.2 (aL zt ω)) ω ω
  have zs:=ah zt (be (n:=k*k) ω ω)
  have PQ:=fun v v' W j j' (h:aF W j v (Wh.a_ (T*(k*k)).natAbs)) (h':aF W j' v' (Wh.a_ Bt.natAbs))=>mM (T*(k*k)) Bt v v' W j j' h h' (aL zs ω) (aL zb ω) hbp
  have hxb:-10000<=M.sq (T*(k*k)) Bt/\M.sq (T*(k*k)) Bt<=10000:=by unfold M.sq;omega
  have hxe:=fun x' (h1:-10000<=x') (h2:x'<=10000) (h:Bt*x'=T*(k*k))=>IL hbp h1 h2 h
  have hat:K=true->E=k->M.sq (T*(k*k)) Bt=X/\Bt*X=T*(k*k)/\Int.gcd X k=1:=by
   intro hK hE;obtain ⟨c1,c2,c3,c4,c5,c6,-⟩:=H2.out hK;rw [hE] at c5 c6;exact ⟨hxe X c3 c4 c6,c6,c5⟩
  clear hxe zs
  have h1k:=fun x' (q3:-10000<=x') (q4:x'<=10000) q5 q6=>H1.out x' k k1 h20 q3 q4 q5 q6
  generalize T*(k*k)=S,M.sq (T*(k*k)) Bt=x at *
  have PG:=fun W=>s9 x k W ω ω ω ω
  obtain ⟨x1,x2⟩:=hxb
  obtain ⟨ok,hok⟩:∃ ok,Hid (decide (Bt*x=S)=ok):=⟨_,IU rfl⟩
  rw [hok.out] at PQ;have PT:=IU PT;have PQ:=IU PQ
  have Tf:M.gcd x k=1 ↔ Int.gcd x k=1:=by unfold M.gcd;omega
  generalize M.gcd x k=gk at *;have PG:=IU PG;have ⟨sT,aT,lT,cT,QU,VT,oT⟩:=MT;have ⟨sD,aD,lD,cD,hsD,VD,oD⟩:=MD
  go_upto_region 18 with fail
  refine b8 12 [.is (.agg #[sT,.slice aT lT cT]),.is k,.is k,.is (k*k:Int),.at (aI (wr.heap.size) (S)),.is (.agg #[sD,.slice aD lD cD]),.is (.tuple #[x,ok]),.is (.tuple #[x,ok]),.is x,.is ok,.is x,.is ok] κ κ κ ⟨?_,?_,?_,?_,?_,?_,?_,?_,?_,?_,?_,?_,trivial⟩ ?_
  all_goals try ((first | (refine Rg.b1 ?_;intro zZ w_ hB e) | (refine Rg.b2 ?_;intro zZ w_ hB e f));have kz:=aE hB VT.box.c0;have kz:=aE hB VT.box.c1;have kz:=aE hB VD.box.c0;have kz:=aE hB VD.box.c1;(first | (go_simp;done) | (go_simp;exact Rg.wo ω)))
  ·intro _ zZ w_ hB hr
   have e108:=Rg.t_ (hr 108 δ);have e111:=Rg.t_ (hr 111 δ);have ef:=Rg.ef zZ;refine af rfl τ ?_;rw [QU.out];exact aI.ret hB (PT.out _ _ _ (aF.below oT hB))
  ·intro _ zZ w_ hB hr
   obtain ⟨s112,a112,l112,c112,SX,e112,YU⟩:=aI.get (hr 112 δ);have e113:=Rg.t_ (hr 113 δ);have ec:=Rg.ec zZ;have ef:=Rg.ef zZ;refine af rfl τ ?_;obtain rfl:=SX.out;rw [hsD.out];refine (PQ.out _ _ _ _ _ YU (aF.below oD hB)).mono ?_;rintro e w5 ⟨rfl,hb5⟩;exact ⟨_,rfl,rfl,hb5⟩
  intro vals wz Ps hv hne;have JJ:vals 10=.int .i64 x:=hv 10 δ;have KF:vals 11=.bool ok:=hv 11 δ;simp only [bD,Rg.fill,Act.put,Nat.reduceAdd];clear hv;simp only [JJ,KF];clear JJ KF;replace C:=C.keep Ps;replace Q:=Q.keep Ps;replace R:=R.keep Ps;replace MT:=MT.keep Ps;replace MD:=MD.keep Ps;replace B:=j_ B Ps;clear Ps VT oT VD oD;unfold aV;have f_:=C.box.c0;have i_:=C.box.c1;obtain ⟨q0,q1,q2⟩:=Q.aM;obtain ⟨r0,r1,r2⟩:=R.aM;have f0:=R.Ih 0;have f1:=R.Ih 1;have f2:=R.Ih 2;have rl:=R.lt
  by_cases hgood:ok=true/\gk=1
  ·obtain ⟨rfl,rfl⟩:=hgood
   obtain ⟨hK,hX,hE⟩:=h1k x x1 x2 (Tf.1 rfl) (of_decide_eq_true hok.out);obtain ⟨c1,c2,c3,c4,c5,c6,c7,c8,c9,ca⟩:=H2.out hK;rw [hX,hE] at c7 c8;have hfin:=IU (show K=true/\X=x/\E=k from ⟨hK,hX,hE⟩);clear hat h1k Tf hok c1 c2 c3 c4 c5 c6 hK hX hE hk H1 H2 hno zt zb hbp
   have m3:-8000<=m/\m<=8000:=ω
   have n3:-1600000<=n/\n<=1600000:=ω
   clear c9 ca;have T9:=aH (x:=X1) (y:=k) (m:=10000) (n:=20);have T_:=aH (x:=X1*k) (y:=k) (m:=200000) (n:=20);have OP:=aH (x:=x) (y:=E1) (m:=10000) (n:=20);have OQ:=aH (x:=x*E1) (y:=E1) (m:=200000) (n:=20);have OR:=aH (x:=n) (y:=X1*k*k - x*E1*E1) (m:=1600000) (n:=8000000);have OS:=aH (x:=n*(X1*k*k - x*E1*E1)) (y:=E1) (m:=12800000000000) (n:=20);have OT:=aH (x:=Y1) (y:=m) (m:=3000000) (n:=8000);have OU:=aH (x:=Y1*m) (y:=k) (m:=24000000000) (n:=20);have OV:=aH (x:=Y1*m*k) (y:=k) (m:=480000000000) (n:=20)
   have PV:=fun W=>fS a b x k W ha1 ha2 hb1 hb2 x1 x2 ω ω
   have hcv:=nX (a:=a) (b:=b) (x:=x) (e:=k) ha1 ha2 hb1 hb2 x1 x2 ω ω;rw [←c8] at PV hcv;have hyb:=xX (Y:=Y) ω;have hr2:(Y.natAbs:Int)*(Y.natAbs:Int)=Y*Y:=Int.natAbs_mul_self
   have hr0:(0:Int)<=(Y.natAbs:Int):=ω
   have hrb:(Y.natAbs:Int)<=2000000:=ω
   have PR:=fun W=>iJ (Y*Y) W ω
   rw [rW hr0 hr2,kP hr2] at PR
   have hy:=fun h=>Ga (r:=(Y.natAbs:Int)) hm0.out ω ω (show k*(n*(X1*k*k - x*E1*E1)*E1 - Y1*m*k*k)=m*E1*E1*E1*Y from h) hr0 hr2
   replace hy:=hy c7;clear c7 c8 hcv;generalize (Y.natAbs:Int)=r at *;generalize Y*Y=yy at *;clear hr2;have PV:=IU PV;have PR:=IU PR
   obtain ⟨q1,d1⟩:∃ q,decide (n*(X1*k*k - x*E1*E1)*E1 - Y1*m*k*k<0)=q:=⟨_,rfl⟩
   obtain ⟨q2,d2⟩:∃ q,decide (m<0)=q:=⟨_,rfl⟩
   have hyv:(if (q1 != q2)=true then -r else r)=Y:=by
    rw [←hy,←d1,←d2]
   clear hy
   cases q1 <;> cases q2
   all_goals
    first | (replace hyv:r=Y:=hyv) | (replace hyv:-r=Y:=hyv)
    replace hyv:=IU hyv
    go_wp2_with first | (go_at_call 83;(with_reducible refine (PG.out _).mono ?_);rintro e w5 ⟨rfl,j5,rfl⟩;have hb5:=aN (IX wz wz) j5;replace B:=j_ B hb5;replace C:=C.keep hb5;replace Q:=Q.keep hb5;replace R:=R.keep hb5;replace MT:=MT.keep hb5;replace MD:=MD.keep hb5;have f_:=C.box.c0;have i_:=C.box.c1;(obtain ⟨q0,q1,q2⟩:=Q.aM);(obtain ⟨r0,r1,r2⟩:=R.aM);have f0:=R.Ih 0;have f1:=R.Ih 1;have f2:=R.Ih 2;have rl:=R.lt) | (go_at_call 84;with_reducible refine p_ (PV.out _) fun w6 hb6=>?_;replace B:=j_ B hb6;replace C:=C.keep hb6;replace Q:=Q.keep hb6;replace R:=R.keep hb6;replace MT:=MT.keep hb6;replace MD:=MD.keep hb6;have f_:=C.box.c0;have i_:=C.box.c1;(obtain ⟨q0,q1,q2⟩:=Q.aM);(obtain ⟨r0,r1,r2⟩:=R.aM);have f0:=R.Ih 0;have f1:=R.Ih 1;have f2:=R.Ih 2;have rl:=R.lt) | (go_at_call 85;with_reducible refine Id (PR.out _) ?_)
    first | (exact D_ (v:=.tuple #[.agg #[x,r,k],true]) results50 ⟨by rw [hfin.out.1,hfin.out.2.1,hfin.out.2.2,hyv.out],JW B⟩) | (exact D_ (v:=.tuple #[.agg #[x,(-r:Int),k],true]) results50 ⟨by rw [hfin.out.1,hfin.out.2.1,hfin.out.2.2,hyv.out],JW B⟩)
  have XS:K=true->k+1<=E:=by
   intro hK;have q1:=hk.out hK
   rcases Int.lt_or_le k E with q | q
   ·omega
   exfalso
   obtain ⟨z1,z2,z3⟩:=hat hK ω
   apply hgood
   rw [←z1] at z2 z3;exact ⟨by rw [←hok.out];exact decide_eq_true z2,Tf.2 z3⟩
  clear hat h1k Tf hok hk hbp;have XS:=IU XS;cases ok
  all_goals
   first | (have hg1:gk≠1:=fun h=>hgood ⟨rfl,h⟩) | skip
   clear hgood
   go_wp2_with (go_at_call 83;(with_reducible refine (PG.out _).mono ?_);rintro e w5 ⟨rfl,j5,rfl⟩;have hb5:=aN (IX wz wz) j5;replace B:=j_ B hb5;replace C:=C.keep hb5;replace Q:=Q.keep hb5;replace R:=R.keep hb5;replace MT:=MT.keep hb5;replace MD:=MD.keep hb5;have f_:=C.box.c0;have i_:=C.box.c1;(obtain ⟨q0,q1,q2⟩:=Q.aM);(obtain ⟨r0,r1,r2⟩:=R.aM);have f0:=R.Ih 0;have f1:=R.Ih 1;have f2:=R.Ih 2;have rl:=R.lt)
   go_roundw
   case rel=>exact ⟨k+1,rfl,ω,ω,XS,C,Q,R,B,MT,MD⟩
   case measure=>simp [intOf] <;> omega
 have hK:K=false:=by
  cases hK:K
  ·rfl
  have q1:=hk.out hK;have q2:=(H2.out hK).2.1;omega
 obtain ⟨z1,z2,z3⟩:=hno.out hK;have hfin:=IU (show K=false/\X=0/\Y=0/\E=0 from ⟨hK,z1,z2,z3⟩);clear hk H1 H2 hno z1 z2 z3 hK;go_wp2;exact D_ (v:=.tuple #[.agg #[(0:Int),(0:Int),(0:Int)],false]) results50 ⟨by rw [hfin.out.1,hfin.out.2.1,hfin.out.2.2.1,hfin.out.2.2.2],JW B⟩
instance {W W':World} {g:Nat} {z:Int}:HAdd (PLift (J_ W g z)) (PLift (Below W W W')) (PLift (J_ W' g z)):=⟨fun x h=>⟨x.down.keep h.down⟩⟩
namespace M
noncomputable def bB (a X1 Y1 E1 X2 Y2 E2:Int):Bool:=if E1=0 then true else if E2=0 then true else jY a X1 Y1 E1 X2 Y2 E2
noncomputable def cK (a X1 Y1 E1 X2 Y2 E2:Int):Int:=if E1=0 then X2 else if E2=0 then X1 else LF a X1 Y1 E1 X2 Y2 E2
noncomputable def dC (a X1 Y1 E1 X2 Y2 E2:Int):Int:=if E1=0 then Y2 else if E2=0 then Y1 else LZ a X1 Y1 E1 X2 Y2 E2
noncomputable def cJ (a X1 Y1 E1 X2 Y2 E2:Int):Int:=if E1=0 then E2 else if E2=0 then E1 else KY a X1 Y1 E1 X2 Y2 E2
theorem gL {a b X Y E:Int} (hin:ay a b=true) (h:aP a b X Y E=true):(E=0/\X=0/\Y=0)∨(1<=E/\E<=20/\-10000<=X/\X<=10000/\Int.gcd X E=1/\Y*Y=cv a b X E/\-3000000<=Y/\Y<=3000000):=by
 obtain ⟨ha1,ha2,hb1,hb2⟩:=aW hin;unfold aP at h
 split at h
 ·simp only [Bool.and_eq_true,decide_eq_true_eq] at h
  left;exact ⟨ψ,h.1,h.2⟩
 right
 simp only [Bool.and_eq_true,decide_eq_true_eq,M.ins,beq_iff_eq] at h;obtain ⟨⟨⟨⟨h1,h2⟩,h3,h4⟩,h5⟩,h6⟩:=h;have hv:=nX (a:=a) (b:=b) ha1 ha2 hb1 hb2 h1 h2 ω h4;have hy:=El h6 hv.2;exact ⟨h3,h4,h1,h2,by unfold M.gcd at h5;omega,h6,hy.1,hy.2⟩
theorem D9 {a b X Y E:Int} (h1:1<=E) (h2:E<=20) (h3:-10000<=X) (h4:X<=10000) (h5:Int.gcd X E=1) (h6:Y*Y=cv a b X E):aP a b X Y E=true:=by
 unfold aP;rw [if_neg ω];simp only [Bool.and_eq_true,decide_eq_true_eq,M.ins,beq_iff_eq];exact ⟨⟨⟨⟨h3,h4⟩,h1,h2⟩,by unfold M.gcd;omega⟩,h6⟩
theorem ie {a b X1 Y1 E1 X2 Y2 E2:Int} (hin:ay a b=true) (hp:aP a b X1 Y1 E1=true) (hq:aP a b X2 Y2 E2=true):aP a b (cK a X1 Y1 E1 X2 Y2 E2) (dC a X1 Y1 E1 X2 Y2 E2) (cJ a X1 Y1 E1 X2 Y2 E2)=true:=by
 unfold cK dC cJ
 by_cases h1:E1=0
 ·rw [if_pos h1,if_pos h1,if_pos h1];exact hq
 rw [if_neg h1,if_neg h1,if_neg h1]
 by_cases h2:E2=0
 ·rw [if_pos h2,if_pos h2,if_pos h2];exact hp
 rw [if_neg h2,if_neg h2,if_neg h2];have z0:aP a b 0 0 0=true:=rfl
 by_cases h0:sD X1 Y1 E1 X2 Y2 E2=0
 ·unfold LF LZ KY
  rw [if_pos h0,if_pos h0,if_pos h0];exact z0
 cases hk:jY a X1 Y1 E1 X2 Y2 E2
 ·obtain ⟨q1,q2,q3⟩:=wQ h0 hk
  rw [q1,q2,q3];exact z0
 obtain ⟨p1,p2,p3,p4,p5,p6,-⟩:=(gL hin hp).resolve_left (fun h=>h1 h.1);obtain ⟨r1,r2,r3,r4,r5,r6,-⟩:=(gL hin hq).resolve_left (fun h=>h2 h.1);obtain ⟨-,-,H⟩:=mT (n:=Jj a X1 Y1 E1 X2 Y2 E2) (m:=JY a X1 Y1 E1 X2 Y2 E2) p6 r6 p4 r4 p1 p2 r1 r2 h0 (Or.inl ⟨rfl,rfl⟩);obtain ⟨c1,c2,c3,c4,c5,-,-,c8,-⟩:=H hk _ _ _ rfl rfl rfl;exact D9 c1 c2 c3 c4 c5 c8
theorem eP {a b X Y E:Int} (hin:ay a b=true) (h:aP a b X Y E=true):-10000<=X/\X<=10000/\0<=E/\E<=20/\-3000000<=Y/\Y<=3000000:=by
 rcases gL hin h with ⟨rfl,rfl,rfl⟩ | ⟨h1,h2,h3,h4,-,-,h7,h8⟩ <;> omega
end M
theorem dz (a b X1 Y1 E1 X2 Y2 E2:Int) (w:World) (hg:M.good a b=true) (hp:aP a b X1 Y1 E1=true) (hq:aP a b X2 Y2 E2=true) :
  cB 50 #[.agg #[a,b],.agg #[X1,Y1,E1],.agg #[X2,Y2,E2]] w (.tuple #[.agg #[cK a X1 Y1 E1 X2 Y2 E2,dC a X1 Y1 E1 X2 Y2 E2,cJ a X1 Y1 E1 X2 Y2 E2],bB a X1 Y1 E1 X2 Y2 E2]):=by
 have hin:=aY hg;obtain ⟨ha1,ha2,hb1,hb2⟩:=aW hin
 by_cases hE1:E1=0
 ·have hf:=IU (show cK a X1 Y1 E1 X2 Y2 E2=X2/\dC a X1 Y1 E1 X2 Y2 E2=Y2/\cJ a X1 Y1 E1 X2 Y2 E2=E2/\bB a X1 Y1 E1 X2 Y2 E2=true from ⟨if_pos hE1,if_pos hE1,if_pos hE1,if_pos hE1⟩)
  rw [hf.out.1,hf.out.2.1,hf.out.2.2.1,hf.out.2.2.2];clear hf hg hp hq hin;subst hE1;obtain ⟨wc,hw3,C,Q,U,R,B⟩:=ej w #[a,b] 25 #[X1,Y1,(0:Int)] 40 #[X2,Y2,E2] 40 #[(0:Int),(0:Int),(0:Int)] 40;have f_:=C.box.c0;have i_:=C.box.c1;have ⟨q0,q1,q2⟩:=Q.aM;have ⟨u0,u1,u2⟩:=U.aM;have ⟨r0,r1,r2⟩:=R.aM;have f0:=R.Ih 0;have f1:=R.Ih 1;have f2:=R.Ih 2;have rl:=R.lt;go_enter func50,ntmps50
  go_wp2;exact D_ results50 ⟨rfl,JW B⟩
 obtain ⟨p1,p2,p3,p4,p5,p6,p7,p8⟩:=(gL hin hp).resolve_left (fun h=>hE1 h.1)
 by_cases hE2:E2=0
 ·have hf:=IU (show cK a X1 Y1 E1 X2 Y2 E2=X1/\dC a X1 Y1 E1 X2 Y2 E2=Y1/\cJ a X1 Y1 E1 X2 Y2 E2=E1/\bB a X1 Y1 E1 X2 Y2 E2=true from ⟨(if_neg hE1).trans (if_pos hE2),(if_neg hE1).trans (if_pos hE2),(if_neg hE1).trans (if_pos hE2),(if_neg hE1).trans (if_pos hE2)⟩)
  rw [hf.out.1,hf.out.2.1,hf.out.2.2.1,hf.out.2.2.2];clear hf hg hp hq hin p5 p6
  have hE3:(E1 == 0)=false:=by rw [beq_eq_false_iff_ne];exact hE1
  subst hE2;obtain ⟨wc,hw3,C,Q,U,R,B⟩:=ej w #[a,b] 25 #[X1,Y1,E1] 40 #[X2,Y2,(0:Int)] 40 #[(0:Int),(0:Int),(0:Int)] 40;have f_:=C.box.c0;have i_:=C.box.c1;have ⟨q0,q1,q2⟩:=Q.aM;have ⟨u0,u1,u2⟩:=U.aM;have ⟨r0,r1,r2⟩:=R.aM;have f0:=R.Ih 0;have f1:=R.Ih 1;have f2:=R.Ih 2;have rl:=R.lt;go_enter func50,ntmps50
  go_wp2;exact D_ results50 ⟨rfl,JW B⟩
 obtain ⟨r1,r2,r3,r4,r5,r6,r7,r8⟩:=(gL hin hq).resolve_left (fun h=>hE2 h.1);have hf:=IU (show cK a X1 Y1 E1 X2 Y2 E2=M.LF a X1 Y1 E1 X2 Y2 E2/\dC a X1 Y1 E1 X2 Y2 E2=M.LZ a X1 Y1 E1 X2 Y2 E2/\cJ a X1 Y1 E1 X2 Y2 E2=M.KY a X1 Y1 E1 X2 Y2 E2/\bB a X1 Y1 E1 X2 Y2 E2=jY a X1 Y1 E1 X2 Y2 E2 from ⟨(if_neg hE1).trans (if_neg hE2),(if_neg hE1).trans (if_neg hE2),(if_neg hE1).trans (if_neg hE2),(if_neg hE1).trans (if_neg hE2)⟩);rw [hf.out.1,hf.out.2.1,hf.out.2.2.1,hf.out.2.2.2];exact zV a b X1 Y1 E1 X2 Y2 E2 w ha1 ha2 p3 p4 p7 p8 p1 p2 r3 r4 r7 r8 r1 r2 hb1 hb2 p6 r6 p5 r5
theorem kV (a b X1 Y1 E1 X2 Y2 E2:Int) (w:World) (hg:M.good a b=true) (hp:aP a b X1 Y1 E1=true) (hq:aP a b X2 Y2 E2=true) :
  cB 55 #[.agg #[a,b],.agg #[X1,Y1,E1],.agg #[X2,Y2,E2]] w (.tuple #[.agg #[cK a X1 Y1 E1 X2 Y2 E2,dC a X1 Y1 E1 X2 Y2 E2,cJ a X1 Y1 E1 X2 Y2 E2],bB a X1 Y1 E1 X2 Y2 E2]):=by
 have hin:=aY hg;obtain ⟨ha1,ha2,hb1,hb2⟩:=aW hin
 by_cases hE1:E1=0
 ·have hf:=IU (show cK a X1 Y1 E1 X2 Y2 E2=X2/\dC a X1 Y1 E1 X2 Y2 E2=Y2/\cJ a X1 Y1 E1 X2 Y2 E2=E2/\bB a X1 Y1 E1 X2 Y2 E2=true from ⟨if_pos hE1,if_pos hE1,if_pos hE1,if_pos hE1⟩)
  rw [hf.out.1,hf.out.2.1,hf.out.2.2.1,hf.out.2.2.2];clear hf hg hp hq hin;subst hE1;obtain ⟨wc,hw3,C,Q,U,R,B⟩:=ej w #[a,b] 25 #[X1,Y1,(0:Int)] 40 #[X2,Y2,E2] 40 #[(0:Int),(0:Int),(0:Int)] 40;have f_:=C.box.c0;have i_:=C.box.c1;have ⟨q0,q1,q2⟩:=Q.aM;have ⟨u0,u1,u2⟩:=U.aM;have ⟨r0,r1,r2⟩:=R.aM;have f0:=R.Ih 0;have f1:=R.Ih 1;have f2:=R.Ih 2;have rl:=R.lt;go_enter func55,ntmps55
  go_wp2;exact D_ results55 ⟨rfl,JW B⟩
 obtain ⟨p1,p2,p3,p4,p5,p6,p7,p8⟩:=(gL hin hp).resolve_left (fun h=>hE1 h.1)
 by_cases hE2:E2=0
 ·have hf:=IU (show cK a X1 Y1 E1 X2 Y2 E2=X1/\dC a X1 Y1 E1 X2 Y2 E2=Y1/\cJ a X1 Y1 E1 X2 Y2 E2=E1/\bB a X1 Y1 E1 X2 Y2 E2=true from ⟨(if_neg hE1).trans (if_pos hE2),(if_neg hE1).trans (if_pos hE2),(if_neg hE1).trans (if_pos hE2),(if_neg hE1).trans (if_pos hE2)⟩)
  rw [hf.out.1,hf.out.2.1,hf.out.2.2.1,hf.out.2.2.2];clear hf hg hp hq hin p5 p6
  have hE3:(E1 == 0)=false:=by rw [beq_eq_false_iff_ne];exact hE1
  subst hE2;obtain ⟨wc,hw3,C,Q,U,R,B⟩:=ej w #[a,b] 25 #[X1,Y1,E1] 40 #[X2,Y2,(0:Int)] 40 #[(0:Int),(0:Int),(0:Int)] 40;have f_:=C.box.c0;have i_:=C.box.c1;have ⟨q0,q1,q2⟩:=Q.aM;have ⟨u0,u1,u2⟩:=U.aM;have ⟨r0,r1,r2⟩:=R.aM;have f0:=R.Ih 0;have f1:=R.Ih 1;have f2:=R.Ih 2;have rl:=R.lt;go_enter func55,ntmps55
  go_wp2;exact D_ results55 ⟨rfl,JW B⟩
 obtain ⟨r1,r2,r3,r4,r5,r6,r7,r8⟩:=(gL hin hq).resolve_left (fun h=>hE2 h.1);have hf:=IU (show cK a X1 Y1 E1 X2 Y2 E2=M.LF a X1 Y1 E1 X2 Y2 E2/\dC a X1 Y1 E1 X2 Y2 E2=M.LZ a X1 Y1 E1 X2 Y2 E2/\cJ a X1 Y1 E1 X2 Y2 E2=M.KY a X1 Y1 E1 X2 Y2 E2/\bB a X1 Y1 E1 X2 Y2 E2=jY a X1 Y1 E1 X2 Y2 E2 from ⟨(if_neg hE1).trans (if_neg hE2),(if_neg hE1).trans (if_neg hE2),(if_neg hE1).trans (if_neg hE2),(if_neg hE1).trans (if_neg hE2)⟩);rw [hf.out.1,hf.out.2.1,hf.out.2.2.1,hf.out.2.2.2];exact vJ a b X1 Y1 E1 X2 Y2 E2 w ha1 ha2 p3 p4 p7 p8 p1 p2 r3 r4 r7 r8 r1 r2 hb1 hb2 p6 r6
theorem ek {B:Nat} {w w':World} (h:Below B w w') (p:Addr) (x:Value):Below B (w.setCell p x) (w'.setCell p x):=
 ⟨h.os,h.tape,h.output,by simp [World.setCell];exact h.size,fun k hk=>by
  show (w'.heap.modify p.block _)[k]?=(w.heap.modify p.block _)[k]?
  rw [Array.getElem?_modify,Array.getElem?_modify,h.block k hk]⟩
theorem aS (w:World) (p:Addr) (x:Value):(w.setCell p x).heap.size=w.heap.size:=by simp [World.setCell]
theorem bC {w w':World} {p:Addr} {x:Value} (h:Below w (w.setCell p x) w'):Below (w.setCell p x).heap.size (w.setCell p x) w':=h.mono (Nat.le_of_eq (aS w p x))
theorem q8 (g:Nat) (ok:Bool) (lo hi:Int) (w:World) (K:aG w g 103 #[ok]) :
  Calls prog 134 #[.pointer (some ⟨g,0,none⟩),.agg #[lo,hi]] w fun e w'=>e=.returned (.agg #[M.pick (ok && aJ lo hi) lo,M.pick (ok && aJ lo hi) hi])/\Below w (w.setCell ⟨g,0,none⟩ (.bool (ok && aJ lo hi))) w':=by
 have PV:=IU fun W=>ru lo hi W
 have hgl:=K.lt;have B:=((IX w w).alloc (IY _) (.cells #[lo,hi] 74)).alloc (by rw [IV];omega) (.cells #[(0:Int),(0:Int)] 74);have S:=(aG.new w #[lo,hi] 74).alloc (.cells #[(0:Int),(0:Int)] 74);have R:=aG.new (w.alloc (.cells #[lo,hi] 74)) #[(0:Int),(0:Int)] 74;rw [IV] at R;have K2:=(K.alloc (.cells #[lo,hi] 74)).alloc (.cells #[(0:Int),(0:Int)] 74);generalize hw3:(w.alloc (.cells #[lo,hi] 74)).alloc (.cells #[(0:Int),(0:Int)] 74)=wc at *;have k0:=K2.cell 0;have kf:=K2.Ih 0;have kl:=K2.lt
 have n1:g≠w.heap.size:=ω
 have n2:g≠w.heap.size+1:=ω
 have ⟨s0,s1,s2,s3,s4⟩:=S.box;have ⟨r0,r1,r2,r3,r4⟩:=R.box;cases ok
 ·go_enter func134,ntmps134
  go_wp2;exact D_ results134 ⟨rfl,IW (IW (ek B ⟨g,0,none⟩ (.bool false)) σ _) σ _⟩
 cases hv:aJ lo hi
 ·rw [hv] at PV
  go_enter func134,ntmps134
  go_wp2_with (go_at_call 149;with_reducible refine p_ (PV.out _) fun w4 hb4=>?_;replace ⟨B,S,R,K2⟩:=Ip hb4 B S R K2;have k0:=K2.cell 0;have kf:=K2.Ih 0;have kl:=K2.lt;(obtain ⟨s0,s1,s2,s3,s4⟩:=S.box);(obtain ⟨r0,r1,r2,r3,r4⟩:=R.box))
  exact D_ results134 ⟨rfl,IW (IW (ek B ⟨g,0,none⟩ (.bool false)) σ _) σ _⟩
 rw [hv] at PV;go_enter func134,ntmps134
 go_wp2_with (go_at_call 149;with_reducible refine p_ (PV.out _) fun w4 hb4=>?_;replace ⟨B,S,R,K2⟩:=Ip hb4 B S R K2;have k0:=K2.cell 0;have kf:=K2.Ih 0;have kl:=K2.lt;(obtain ⟨s0,s1,s2,s3,s4⟩:=S.box);(obtain ⟨r0,r1,r2,r3,r4⟩:=R.box))
 exact D_ results134 ⟨rfl,IW (IW (ek B ⟨g,0,none⟩ (.bool true)) σ _) σ _⟩
namespace M
abbrev Sp:=Option (Int × Int)
def Iy (s:Sp):Int:=(s.getD (0,0)).1
def I3 (s:Sp):Int:=(s.getD (0,0)).2
def mkS (l h:Int):Sp:=if aJ l h=true then some (l,h) else none
def gV (s t:Sp):Sp:=s.bind fun p=>t.bind fun q=>mkS (p.1+q.1) (p.2+q.2)
def dK (s t:Sp):Sp:=s.bind fun p=>t.bind fun q=>mkS (p.1 - q.2) (p.2 - q.1)
def gF (s t:Sp):Sp:=s.bind fun p=>t.bind fun q=>mkS (co p.1 p.2 q.1 q.2 / 4096) (-(-cj p.1 p.2 q.1 q.2 / 4096))
noncomputable def bW (a b X E:Int):Sp:=if Jm a b X E=true then some (bL a b X E (bN a b X E),bH a b X E (bN a b X E)) else none
def gd (f:Bool) (s:Sp):Sp:=if f=true then s else none
def Jo (s:Sp):Prop:=∀ p,s=some p->aJ p.1 p.2=true
theorem fF:Jo none:=fun _ h=>by cases h
theorem GS (l h:Int):Jo (mkS l h):=by
 intro p hp;unfold mkS at hp
 split at hp
 ·injection hp with hp;subst hp;assumption
 cases hp
theorem lP {f:Bool} {s:Sp} (h:Jo s):Jo (gd f s):=by
 unfold gd;split
 ·exact h
 exact fF
theorem lO {s t:Sp} {F G:Int × Int->Int × Int->Int}:Jo (s.bind fun p=>t.bind fun q=>mkS (F p q) (G p q)):=by
 cases s
 ·exact fF
 cases t
 ·exact fF
 exact GS _ _
theorem wt {s t:Sp}:Jo (gV s t):=lO
theorem mZ {s t:Sp}:Jo (dK s t):=lO
theorem wu {s t:Sp}:Jo (gF s t):=lO
theorem jA {s:Sp} (h:Jo s):Iy s<=I3 s/\-409600000<=Iy s/\I3 s<=409600000:=by
 cases s with
 | none=>exact ⟨Int.le_refl _,δ,δ⟩
 | some p=>exact cG (h p rfl)
theorem wA {a b X E:Int} (hin:ay a b=true) (hX1:-10000<=X) (hX2:X<=10000) (hE1:0<=E) (hE2:E<=20) (h:Jm a b X E=true):aJ (bL a b X E (bN a b X E)) (bH a b X E (bN a b X E))=true:=by
 cases hs:aJ (bL a b X E (bN a b X E)) (bH a b X E (bN a b X E))
 ·rw [HQ hin hX1 hX2 hE1 hE2 (IY _) hs] at h;cases h
 rfl
theorem gA {a b X E:Int} (hin:ay a b=true) (hX1:-10000<=X) (hX2:X<=10000) (hE1:0<=E) (hE2:E<=20):Jo (bW a b X E):=by
 intro p hp;unfold bW at hp
 split at hp
 ·rename_i h
  injection hp with hp;subst hp;exact wA hin hX1 hX2 hE1 hE2 h
 cases hp
theorem step2 {ok:Bool} {s t:Sp} {F G:Int->Int->Int->Int->Int} (h1:ok=true->s.isSome=true) (h2:ok=true->t.isSome=true):(ok && aJ (F (Iy s) (I3 s) (Iy t) (I3 t)) (G (Iy s) (I3 s) (Iy t) (I3 t)))=(gd ok (s.bind fun p=>t.bind fun q=>mkS (F p.1 p.2 q.1 q.2) (G p.1 p.2 q.1 q.2))).isSome/\pick (ok && aJ (F (Iy s) (I3 s) (Iy t) (I3 t)) (G (Iy s) (I3 s) (Iy t) (I3 t))) (F (Iy s) (I3 s) (Iy t) (I3 t))=Iy (gd ok (s.bind fun p=>t.bind fun q=>mkS (F p.1 p.2 q.1 q.2) (G p.1 p.2 q.1 q.2)))/\pick (ok && aJ (F (Iy s) (I3 s) (Iy t) (I3 t)) (G (Iy s) (I3 s) (Iy t) (I3 t))) (G (Iy s) (I3 s) (Iy t) (I3 t))=I3 (gd ok (s.bind fun p=>t.bind fun q=>mkS (F p.1 p.2 q.1 q.2) (G p.1 p.2 q.1 q.2))):=by
 cases ok with
 | false=>exact ⟨rfl,rfl,rfl⟩
 | true=>
 obtain ⟨p,rfl⟩:=Option.isSome_iff_exists.1 (h1 rfl);obtain ⟨q,rfl⟩:=Option.isSome_iff_exists.1 (h2 rfl)
 show (true && aJ (F p.1 p.2 q.1 q.2) (G p.1 p.2 q.1 q.2))=(mkS (F p.1 p.2 q.1 q.2) (G p.1 p.2 q.1 q.2)).isSome/\pick (true && aJ (F p.1 p.2 q.1 q.2) (G p.1 p.2 q.1 q.2)) (F p.1 p.2 q.1 q.2)=Iy (mkS (F p.1 p.2 q.1 q.2) (G p.1 p.2 q.1 q.2))/\pick (true && aJ (F p.1 p.2 q.1 q.2) (G p.1 p.2 q.1 q.2)) (G p.1 p.2 q.1 q.2)=I3 (mkS (F p.1 p.2 q.1 q.2) (G p.1 p.2 q.1 q.2))
 unfold mkS
 cases aJ (F p.1 p.2 q.1 q.2) (G p.1 p.2 q.1 q.2) <;> exact ⟨rfl,rfl,rfl⟩
end M
theorem BQ (g:Nat) (ok:Bool) (a b c d:Int) (w:World) (K:aG w g 103 #[ok]) (h1:-4000000000000000000<=a) (h2:a<=4000000000000000000) (h3:-4000000000000000000<=b) (h4:b<=4000000000000000000) (h5:-4000000000000000000<=c) (h6:c<=4000000000000000000) (h7:-4000000000000000000<=d) (h8:d<=4000000000000000000) :
  Calls prog 114 #[.pointer (some ⟨g,0,none⟩),.agg #[a,b],.agg #[c,d]] w fun e w'=>e=.returned (.agg #[M.pick (ok && aJ (a+c) (b+d)) (a+c),M.pick (ok && aJ (a+c) (b+d)) (b+d)])/\Below w (w.setCell ⟨g,0,none⟩ (.bool (ok && aJ (a+c) (b+d)))) w':=by
 have PP:=fun W=>GW a b c d W h1 h2 h3 h4 h5 h6 h7 h8
 have PK:=fun W (k:aG W g 103 #[ok])=>q8 g ok (a+c) (b+d) W k
 generalize (b+d)=hi,(a+c)=lo at *;generalize (ok && aJ lo hi)=f at *;replace PP:=IU PP;replace PK:=IU PK;have hgl:=K.lt;have B:=(((IX w w).alloc (IY _) (.cells #[a,b] 74)).alloc (by rw [IV];omega) (.cells #[c,d] 74)).alloc (by rw [IV,IV];omega) (.cells #[(0:Int),(0:Int)] 74);have S:=((aG.new w #[a,b] 74).alloc (.cells #[c,d] 74)).alloc (.cells #[(0:Int),(0:Int)] 74);have T:=(aG.new (w.alloc (.cells #[a,b] 74)) #[c,d] 74).alloc (.cells #[(0:Int),(0:Int)] 74);rw [IV] at T;have R:=aG.new ((w.alloc (.cells #[a,b] 74)).alloc (.cells #[c,d] 74)) #[(0:Int),(0:Int)] 74;rw [IV,IV] at R;have K2:=((K.alloc (.cells #[a,b] 74)).alloc (.cells #[c,d] 74)).alloc (.cells #[(0:Int),(0:Int)] 74);generalize hw3:((w.alloc (.cells #[a,b] 74)).alloc (.cells #[c,d] 74)).alloc (.cells #[(0:Int),(0:Int)] 74)=wc at *
 have n1:w.heap.size+1+1≠g:=ω
 have ⟨s0,s1,_,_,_⟩:=S.box;have ⟨t0,t1,_,_,_⟩:=T.box;go_enter func114,ntmps114
 go_wp2_with first | (go_at_call 136;(with_reducible refine (PP.out _).mono ?_);rintro e w4 ⟨rfl,hb4⟩;replace ⟨B,R,K2⟩:=I7 hb4 B R K2) | (go_at_call 134;(with_reducible refine (PK.out _ K2).mono ?_);rintro e w5 ⟨rfl,hb5⟩;have hz:=B.size;replace B:=(ek B ⟨g,0,none⟩ (.bool f)).trans (hb5.mono hz);replace R:=(R.other n1 (.bool f)).keep (bC hb5);(obtain ⟨r0,r1,r2,r3,r4⟩:=R.box))
 exact D_ results114 ⟨rfl,Ml B⟩
theorem wY (g:Nat) (ok:Bool) (s t:M.Sp) (w:World) (K:aG w g 103 #[ok]) (hs:M.Jo s) (ht:M.Jo t) (h1:ok=true->s.isSome=true) (h2:ok=true->t.isSome=true) :
  Calls prog 114 #[.pointer (some ⟨g,0,none⟩),.agg #[M.Iy s,M.I3 s],.agg #[M.Iy t,M.I3 t]] w fun e w'=>e=.returned (.agg #[M.Iy (M.gd ok (gV s t)),M.I3 (M.gd ok (gV s t))])/\Below w (w.setCell ⟨g,0,none⟩ (.bool (M.gd ok (gV s t)).isSome)) w':=by
 obtain ⟨e1,e2,e3⟩:=M.step2 (F:=fun a _ c _=>a+c) (G:=fun _ b _ d=>b+d) h1 h2;have b1:=jA hs;have b2:=jA ht;have h:=BQ g ok (M.Iy s) (M.I3 s) (M.Iy t) (M.I3 t) w K ω ω ω ω ω ω ω ω;rw [e2,e3,e1] at h;exact h
theorem yM (g:Nat) (ok:Bool) (a b c d:Int) (w:World) (K:aG w g 103 #[ok]) (h1:-4000000000000000000<=a) (h2:a<=4000000000000000000) (h3:-4000000000000000000<=b) (h4:b<=4000000000000000000) (h5:-4000000000000000000<=c) (h6:c<=4000000000000000000) (h7:-4000000000000000000<=d) (h8:d<=4000000000000000000) :
  Calls prog 115 #[.pointer (some ⟨g,0,none⟩),.agg #[a,b],.agg #[c,d]] w fun e w'=>e=.returned (.agg #[M.pick (ok && aJ (a - d) (b - c)) (a - d),M.pick (ok && aJ (a - d) (b - c)) (b - c)])/\Below w (w.setCell ⟨g,0,none⟩ (.bool (ok && aJ (a - d) (b - c)))) w':=by
 have PP:=fun W=>Dp a b c d W h1 h2 h3 h4 h5 h6 h7 h8
 have PK:=fun W (k:aG W g 103 #[ok])=>q8 g ok (a - d) (b - c) W k
 generalize (b - c)=hi,(a - d)=lo at *;generalize (ok && aJ lo hi)=f at *;replace PP:=IU PP;replace PK:=IU PK;have hgl:=K.lt;have B:=(((IX w w).alloc (IY _) (.cells #[a,b] 74)).alloc (by rw [IV];omega) (.cells #[c,d] 74)).alloc (by rw [IV,IV];omega) (.cells #[(0:Int),(0:Int)] 74);have S:=((aG.new w #[a,b] 74).alloc (.cells #[c,d] 74)).alloc (.cells #[(0:Int),(0:Int)] 74);have T:=(aG.new (w.alloc (.cells #[a,b] 74)) #[c,d] 74).alloc (.cells #[(0:Int),(0:Int)] 74);rw [IV] at T;have R:=aG.new ((w.alloc (.cells #[a,b] 74)).alloc (.cells #[c,d] 74)) #[(0:Int),(0:Int)] 74;rw [IV,IV] at R;have K2:=((K.alloc (.cells #[a,b] 74)).alloc (.cells #[c,d] 74)).alloc (.cells #[(0:Int),(0:Int)] 74);generalize hw3:((w.alloc (.cells #[a,b] 74)).alloc (.cells #[c,d] 74)).alloc (.cells #[(0:Int),(0:Int)] 74)=wc at *
 have n1:w.heap.size+1+1≠g:=ω
 have ⟨s0,s1,_,_,_⟩:=S.box;have ⟨t0,t1,_,_,_⟩:=T.box;go_enter func115,ntmps115
 go_wp2_with first | (go_at_call 137;(with_reducible refine (PP.out _).mono ?_);rintro e w4 ⟨rfl,hb4⟩;replace ⟨B,R,K2⟩:=I7 hb4 B R K2) | (go_at_call 134;(with_reducible refine (PK.out _ K2).mono ?_);rintro e w5 ⟨rfl,hb5⟩;have hz:=B.size;replace B:=(ek B ⟨g,0,none⟩ (.bool f)).trans (hb5.mono hz);replace R:=(R.other n1 (.bool f)).keep (bC hb5);(obtain ⟨r0,r1,r2,r3,r4⟩:=R.box))
 exact D_ results115 ⟨rfl,Ml B⟩
theorem oM (g:Nat) (ok:Bool) (s t:M.Sp) (w:World) (K:aG w g 103 #[ok]) (hs:M.Jo s) (ht:M.Jo t) (h1:ok=true->s.isSome=true) (h2:ok=true->t.isSome=true) :
  Calls prog 115 #[.pointer (some ⟨g,0,none⟩),.agg #[M.Iy s,M.I3 s],.agg #[M.Iy t,M.I3 t]] w fun e w'=>e=.returned (.agg #[M.Iy (M.gd ok (dK s t)),M.I3 (M.gd ok (dK s t))])/\Below w (w.setCell ⟨g,0,none⟩ (.bool (M.gd ok (dK s t)).isSome)) w':=by
 obtain ⟨e1,e2,e3⟩:=M.step2 (F:=fun a _ _ d=>a - d) (G:=fun _ b c _=>b - c) h1 h2;have b1:=jA hs;have b2:=jA ht;have h:=yM g ok (M.Iy s) (M.I3 s) (M.Iy t) (M.I3 t) w K ω ω ω ω ω ω ω ω;rw [e2,e3,e1] at h;exact h
theorem yN (g:Nat) (ok:Bool) (a b c d:Int) (w:World) (K:aG w g 103 #[ok]) (h1:-1000000000<=a) (h2:a<=1000000000) (h3:-1000000000<=b) (h4:b<=1000000000) (h5:-1000000000<=c) (h6:c<=1000000000) (h7:-1000000000<=d) (h8:d<=1000000000) :
  Calls prog 113 #[.pointer (some ⟨g,0,none⟩),.agg #[a,b],.agg #[c,d]] w fun e w'=>e=.returned (.agg #[M.pick (ok && aJ (co a b c d / 4096) (-(-cj a b c d / 4096))) (co a b c d / 4096),M.pick (ok && aJ (co a b c d / 4096) (-(-cj a b c d / 4096))) (-(-cj a b c d / 4096))])/\Below w (w.setCell ⟨g,0,none⟩ (.bool (ok && aJ (co a b c d / 4096) (-(-cj a b c d / 4096))))) w':=by
 have PP:=fun W=>Ef a b c d W h1 h2 h3 h4 h5 h6 h7 h8
 have PK:=fun W (k:aG W g 103 #[ok])=>q8 g ok (co a b c d / 4096) (-(-cj a b c d / 4096)) W k
 generalize (-(-cj a b c d / 4096))=hi,(co a b c d / 4096)=lo at *;generalize (ok && aJ lo hi)=f at *;replace PP:=IU PP;replace PK:=IU PK;have hgl:=K.lt;have B:=(((IX w w).alloc (IY _) (.cells #[a,b] 74)).alloc (by rw [IV];omega) (.cells #[c,d] 74)).alloc (by rw [IV,IV];omega) (.cells #[(0:Int),(0:Int)] 74);have S:=((aG.new w #[a,b] 74).alloc (.cells #[c,d] 74)).alloc (.cells #[(0:Int),(0:Int)] 74);have T:=(aG.new (w.alloc (.cells #[a,b] 74)) #[c,d] 74).alloc (.cells #[(0:Int),(0:Int)] 74);rw [IV] at T;have R:=aG.new ((w.alloc (.cells #[a,b] 74)).alloc (.cells #[c,d] 74)) #[(0:Int),(0:Int)] 74;rw [IV,IV] at R;have K2:=((K.alloc (.cells #[a,b] 74)).alloc (.cells #[c,d] 74)).alloc (.cells #[(0:Int),(0:Int)] 74);generalize hw3:((w.alloc (.cells #[a,b] 74)).alloc (.cells #[c,d] 74)).alloc (.cells #[(0:Int),(0:Int)] 74)=wc at *
 have n1:w.heap.size+1+1≠g:=ω
 have ⟨s0,s1,_,_,_⟩:=S.box;have ⟨t0,t1,_,_,_⟩:=T.box;go_enter func113,ntmps113
 go_wp2_with first | (go_at_call 135;(with_reducible refine (PP.out _).mono ?_);rintro e w4 ⟨rfl,hb4⟩;replace ⟨B,R,K2⟩:=I7 hb4 B R K2) | (go_at_call 134;(with_reducible refine (PK.out _ K2).mono ?_);rintro e w5 ⟨rfl,hb5⟩;have hz:=B.size;replace B:=(ek B ⟨g,0,none⟩ (.bool f)).trans (hb5.mono hz);replace R:=(R.other n1 (.bool f)).keep (bC hb5);(obtain ⟨r0,r1,r2,r3,r4⟩:=R.box))
 exact D_ results113 ⟨rfl,Ml B⟩
theorem BR (g:Nat) (ok:Bool) (s t:M.Sp) (w:World) (K:aG w g 103 #[ok]) (hs:M.Jo s) (ht:M.Jo t) (h1:ok=true->s.isSome=true) (h2:ok=true->t.isSome=true) :
  Calls prog 113 #[.pointer (some ⟨g,0,none⟩),.agg #[M.Iy s,M.I3 s],.agg #[M.Iy t,M.I3 t]] w fun e w'=>e=.returned (.agg #[M.Iy (M.gd ok (gF s t)),M.I3 (M.gd ok (gF s t))])/\Below w (w.setCell ⟨g,0,none⟩ (.bool (M.gd ok (gF s t)).isSome)) w':=by
 obtain ⟨e1,e2,e3⟩:=M.step2 (F:=fun a b c d=>co a b c d / 4096) (G:=fun a b c d=>-(-cj a b c d / 4096)) h1 h2;have b1:=jA hs;have b2:=jA ht;have h:=yN g ok (M.Iy s) (M.I3 s) (M.Iy t) (M.I3 t) w K ω ω ω ω ω ω ω ω;rw [e2,e3,e1] at h;exact h
theorem nJ {B g:Nat} {w W:World} {T:TypeId} {u v x y:Value} (h:Below B w W) (K:aG w g T #[u]) (K2:aG W g T #[v]):Below B (w.setCell ⟨g,0,none⟩ y) ((W.setCell ⟨g,0,none⟩ x).setCell ⟨g,0,none⟩ y):=
 ⟨h.os,h.tape,h.output,by rw [aS,aS,aS];exact h.size,fun k hk=>by
  by_cases hg:k=g
  ·subst hg
   exact ((K2.one x).one y).trans (K.one y).symm
  rw [Below.heap_setCell _ _ _ _ hg,Below.heap_setCell _ _ _ _ hg,Below.heap_setCell _ _ _ _ hg]
  exact h.block k hk⟩
theorem mV (g:Nat) (ok:Bool) (a b X Y E:Int) (w:World) (K:aG w g 103 #[ok]) (hg:M.good a b=true) (hX1:-10000<=X) (hX2:X<=10000) (hE1:0<=E) (hE2:E<=20) :
  Calls prog 132 #[.pointer (some ⟨g,0,none⟩),.agg #[a,b],.agg #[X,Y,E]] w fun e w'=>e=.returned (.agg #[M.Iy (M.gd ok (bW a b X E)),M.I3 (M.gd ok (bW a b X E))])/\Below w (w.setCell ⟨g,0,none⟩ (.bool (M.gd ok (bW a b X E)).isSome)) w':=by
 have PB:=fun W=>qP a b X Y E W hg hX1 hX2 hE1 hE2
 have XB:=fun h=>wA (a:=a) (b:=b) (X:=X) (E:=E) (aY hg) hX1 hX2 hE1 hE2 h
 have hv:Hid (bW a b X E=if M.Jm a b X E=true then some (M.bL a b X E (M.bN a b X E),M.bH a b X E (M.bN a b X E)) else none):=IU rfl;rw [hv.out];generalize M.Jm a b X E=bo,M.bH a b X E (M.bN a b X E)=hi,M.bL a b X E (M.bN a b X E)=lo at *;generalize ((M.bN a b X E:Nat):Int)=bn at *
 have PK:=fun W (k:aG W g 103 #[.bool (ok && bo)])=>q8 g (ok && bo) lo hi W k
 have e1:(ok && bo && aJ lo hi)=(M.gd ok (if bo=true then some (lo,hi) else none)).isSome:=by
  cases ok <;> cases bo <;> first | rfl | (rw [XB rfl];rfl)
 have e2:M.pick (ok && bo && aJ lo hi) lo=M.Iy (M.gd ok (if bo=true then some (lo,hi) else none)):=by
  cases ok <;> cases bo <;> first | rfl | (rw [XB rfl];rfl)
 have e3:M.pick (ok && bo && aJ lo hi) hi=M.I3 (M.gd ok (if bo=true then some (lo,hi) else none)):=by
  cases ok <;> cases bo <;> first | rfl | (rw [XB rfl];rfl)
 rw [e2,e3,e1] at PK;generalize M.gd ok (if bo=true then some (lo,hi) else none)=r at *;replace PB:=IU PB;have hgl:=K.lt;have B:=(((IX w w).alloc (IY _) (.cells #[a,b] 25)).alloc (by rw [IV];omega) (.cells #[X,Y,E] 40)).alloc (by rw [IV,IV];omega) (.cells #[(0:Int),(0:Int)] 74);have C:=((aG.new w #[a,b] 25).alloc (.cells #[X,Y,E] 40)).alloc (.cells #[(0:Int),(0:Int)] 74);have Q:=(aG.new (w.alloc (.cells #[a,b] 25)) #[X,Y,E] 40).alloc (.cells #[(0:Int),(0:Int)] 74);rw [IV] at Q;have R:=aG.new ((w.alloc (.cells #[a,b] 25)).alloc (.cells #[X,Y,E] 40)) #[(0:Int),(0:Int)] 74;rw [IV,IV] at R;have K2:=((K.alloc (.cells #[a,b] 25)).alloc (.cells #[X,Y,E] 40)).alloc (.cells #[(0:Int),(0:Int)] 74);generalize hw3:((w.alloc (.cells #[a,b] 25)).alloc (.cells #[X,Y,E] 40)).alloc (.cells #[(0:Int),(0:Int)] 74)=wc at *
 have n1:w.heap.size+1+1≠g:=ω
 have f_:=C.box.c0;have i_:=C.box.c1;have ⟨q0,q1,q2⟩:=Q.aM
 have hgm:g≠w.heap.size+1+1:=fun e=>n1 e.symm
 cases ok
 ·replace PK:=IU (show ∀ W,aG W g 103 #[(.bool false)]->_ from PK)
  go_enter func132,ntmps132
  go_wp2_with first | (go_at_call 148;(with_reducible refine (PB.out _).mono ?_);rintro e w4 ⟨rfl,hb4⟩;replace B:=(j_ B hb4).alloc (Nat.le_trans B.size hb4.size) (.cells #[lo,hi] 74);replace R:=(R.keep hb4).alloc (.cells #[lo,hi] 74);replace K2:=K2.keep hb4;(have n3:w4.heap.size≠g:=by have:=K2.lt;omega);(have n4:g≠w4.heap.size:=fun e=>n3 e.symm);replace K2:=K2.alloc (.cells #[lo,hi] 74);have k0:=K2.cell 0;have kf:=K2.Ih 0;have kl:=K2.lt;have V:=aG.new w4 #[lo,hi] 74;have v0:=V.cell 0;have v1:=V.cell 1;have V2:=V.other (i:=0) n3 (.bool false);have v2:=V2.cell 0;have v3:=V2.cell 1) | (go_at_call 134;(with_reducible refine (PK.out _ (K2.one (.bool false))).mono ?_);rintro e w5 ⟨rfl,hb5⟩;have hz:=B.size;replace R:=((R.other n1 (.bool false)).other n1 (.bool r.isSome)).keep (bC hb5);replace B:=(nJ (x:=(.bool false)) (y:=.bool r.isSome) B K K2).trans (hb5.mono (by rw [aS];exact hz));(obtain ⟨r0,r1,r2,r3,r4⟩:=R.box))
  exact D_ results132 ⟨rfl,Ml B⟩
 replace PK:=IU (show ∀ W,aG W g 103 #[(.bool bo)]->_ from PK);go_enter func132,ntmps132
 go_wp2_with first | (go_at_call 148;(with_reducible refine (PB.out _).mono ?_);rintro e w4 ⟨rfl,hb4⟩;replace B:=(j_ B hb4).alloc (Nat.le_trans B.size hb4.size) (.cells #[lo,hi] 74);replace R:=(R.keep hb4).alloc (.cells #[lo,hi] 74);replace K2:=K2.keep hb4;(have n3:w4.heap.size≠g:=by have:=K2.lt;omega);(have n4:g≠w4.heap.size:=fun e=>n3 e.symm);replace K2:=K2.alloc (.cells #[lo,hi] 74);have k0:=K2.cell 0;have kf:=K2.Ih 0;have kl:=K2.lt;have V:=aG.new w4 #[lo,hi] 74;have v0:=V.cell 0;have v1:=V.cell 1;have V2:=V.other (i:=0) n3 (.bool bo);have v2:=V2.cell 0;have v3:=V2.cell 1) | (go_at_call 134;(with_reducible refine (PK.out _ (K2.one (.bool bo))).mono ?_);rintro e w5 ⟨rfl,hb5⟩;have hz:=B.size;replace R:=((R.other n1 (.bool bo)).other n1 (.bool r.isSome)).keep (bC hb5);replace B:=(nJ (x:=(.bool bo)) (y:=.bool r.isSome) B K K2).trans (hb5.mono (by rw [aS];exact hz));(obtain ⟨r0,r1,r2,r3,r4⟩:=R.box))
 exact D_ results132 ⟨rfl,Ml B⟩
namespace M
noncomputable def fP (a b X E:Int):Sp:=gV (bW a b X E) (bW a b X E)
noncomputable def d7 (a b X1 Y1 E1 X2 Y2 E2:Int):Sp:=if bB a X1 Y1 E1 X2 Y2 E2=true then dK (dK (bW a b (cK a X1 Y1 E1 X2 Y2 E2) (cJ a X1 Y1 E1 X2 Y2 E2)) (bW a b X1 E1)) (bW a b X2 E2) else none
theorem lH {f:Bool} {s:Sp} (h:(gd f s).isSome=true):f=true/\s.isSome=true/\gd f s=s:=by
 cases f
 ·cases h
 exact ⟨rfl,h,rfl⟩
theorem qv (s:Sp):gd true s=s:=rfl
theorem DW (s t:Sp):gd s.isSome (gV s t)=gV s t:=by cases s <;> rfl
end M
theorem pQ (a b X Y E:Int) (w:World) (hg:M.good a b=true) (hX1:-10000<=X) (hX2:X<=10000) (hE1:0<=E) (hE2:E<=20) :
  cB 110 #[.agg #[a,b],.agg #[X,Y,E]] w (.tuple #[.agg #[M.Iy (fP a b X E),M.I3 (fP a b X E)],.bool (fP a b X E).isSome]):=by
 have PB:=fun W K=>mV (w.heap.size+1+1+1) true a b X Y E W K hg hX1 hX2 hE1 hE2
 have hr:=gA (a:=a) (b:=b) (aY hg) hX1 hX2 hE1 hE2;have hv:fP a b X E=M.gd (bW a b X E).isSome (gV (bW a b X E) (bW a b X E)):=(DW _ _).symm;rw [hv];clear hv;rw [qv] at PB;generalize bW a b X E=r at *
 have PP:=fun W K=>wY (w.heap.size+1+1+1) r.isSome r r W K hr hr (fun h=>h) (fun h=>h)
 generalize r.isSome=f,M.gd r.isSome (gV r r)=q at *;generalize M.I3 q=qh,M.Iy q=ql,q.isSome=fq at *;have PB:=IU PB;have PP:=IU PP;obtain ⟨wc,hw3,C,Q,R,K,B⟩:=ej w #[a,b] 25 #[X,Y,E] 40 #[(0:Int),(0:Int)] 74 #[true] 103;have f_:=C.box.c0;have i_:=C.box.c1;have ⟨q0,q1,q2⟩:=Q.aM;go_enter func110,ntmps110
 go_wp2_with first | (go_at_call 132;(with_reducible refine (PB.out _ K).mono ?_);rintro e w4 ⟨rfl,hb4⟩;have hb:=bC hb4;replace R:=(R.other (i:=0) ω (.bool f)).keep hb;replace K:=(K.one (.bool f)).keep hb;replace B:=(IW B (by simp;omega) _).trans (hb4.mono B.size);clear hb hb4 f_ i_ q0 q1 q2 C Q;have V:=aG.new w4 #[M.Iy r,M.I3 r] 74;have rl:=R.lt;have kl:=K.lt;(have n1:w.heap.size+1+1≠w4.heap.size:=by omega);(have n2:w.heap.size+1+1+1≠w4.heap.size:=by omega);have n3:=n1.symm;have n4:=n2.symm;replace B:=B.alloc B.size (.cells #[M.Iy r,M.I3 r] 74);replace R:=R.alloc (.cells #[M.Iy r,M.I3 r] 74);replace K:=K.alloc (.cells #[M.Iy r,M.I3 r] 74);have v0:=V.cell 0;have v1:=V.cell 1) | (go_at_call 114;(with_reducible refine (PP.out _ K).mono ?_);rintro e w5 ⟨rfl,hb5⟩;have hb:=bC hb5;replace R:=(R.other (i:=0) ω (.bool fq)).keep hb;replace V:=(V.other (i:=0) n4 (.bool fq)).keep hb;replace K:=(K.one (.bool fq)).keep hb;replace B:=(IW B (by simp;omega) _).trans (hb5.mono B.size);clear hb hb5 v0 v1;(have ⟨v0,v1,v2,v3,v4⟩:=V.box);have V5:=V.set2 (.int .i64 ql) (.int .i64 qh);have R5:=R.cw n1 (.int .i64 ql) (.int .i64 qh);have K5:=K.cw n2 (.int .i64 ql) (.int .i64 qh);have B5:=fi B (k:=w4.heap.size) ω (.int .i64 ql) (.int .i64 qh);(have ⟨z0,z1,_,_,_⟩:=V5.box);(have ⟨r0,r1,r2,r3,r4⟩:=R5.box);have k0:=K5.cell 0)
 go_region
 all_goals
  go_wp2;exact D_ results110 ⟨rfl,Below.drew (Ml B5)⟩
namespace M
noncomputable def I9 (s:Sp):Int:=match s with | some p=>pn p.1 | none=>0
noncomputable def I_ (s:Sp):Int:=match s with | some p=>pd p.1 | none=>0
noncomputable def JA (s:Sp):Int:=match s with | some p=>pn p.2 | none=>0
noncomputable def JB (s:Sp):Int:=match s with | some p=>pd p.2 | none=>0
theorem lL (l h:Int):(mkS l h).isSome=aJ l h:=by
 unfold mkS
 cases aJ l h <;> rfl
theorem uz (l h:Int):pick (aJ l h) (pn l)=I9 (mkS l h):=by
 unfold mkS
 cases aJ l h <;> rfl
theorem u7 (l h:Int):pick (aJ l h) (pd l)=I_ (mkS l h):=by
 unfold mkS
 cases aJ l h <;> rfl
theorem u9 (l h:Int):pick (aJ l h) (pn h)=JA (mkS l h):=by
 unfold mkS
 cases aJ l h <;> rfl
theorem vA (l h:Int):pick (aJ l h) (pd h)=JB (mkS l h):=by
 unfold mkS
 cases aJ l h <;> rfl
end M
theorem ir (a b X Y E:Int) (w:World) (hg:M.good a b=true) (hX1:-10000<=X) (hX2:X<=10000) (hE1:0<=E) (hE2:E<=20) :
  cB 138 #[.agg #[a,b],.agg #[X,Y,E]] w (.tuple #[.agg #[M.I9 (bW a b X E),M.I_ (bW a b X E),M.JA (bW a b X E),M.JB (bW a b X E)],.bool (bW a b X E).isSome]):=by
 have h:=uj a b X Y E w hg hX1 hX2 hE1 hE2;unfold bW
 cases hb:M.Jm a b X E
 ·rw [hb] at h;exact h
 rw [hb] at h;exact h
theorem tM (p q:Int × Int) (w:World) (hp:aJ p.1 p.2=true) (hq:aJ q.1 q.2=true) :
  cB 122 #[.agg #[M.I9 (some p),M.I_ (some p),M.JA (some p),M.JB (some p)],.agg #[M.I9 (some q),M.I_ (some q),M.JA (some q),M.JB (some q)]] w (.tuple #[.agg #[M.I9 (gV (some p) (some q)),M.I_ (gV (some p) (some q)),M.JA (gV (some p) (some q)),M.JB (gV (some p) (some q))],.bool (gV (some p) (some q)).isSome]):=by
 have h:=De p.1 p.2 q.1 q.2 w hp hq;rw [uz,u7,u9,vA,←lL] at h;exact h
theorem tN (p q:Int × Int) (w:World) (hp:aJ p.1 p.2=true) (hq:aJ q.1 q.2=true) :
  cB 123 #[.agg #[M.I9 (some p),M.I_ (some p),M.JA (some p),M.JB (some p)],.agg #[M.I9 (some q),M.I_ (some q),M.JA (some q),M.JB (some q)]] w (.tuple #[.agg #[M.I9 (dK (some p) (some q)),M.I_ (dK (some p) (some q)),M.JA (dK (some p) (some q)),M.JB (dK (some p) (some q))],.bool (dK (some p) (some q)).isSome]):=by
 have h:=Di p.1 p.2 q.1 q.2 w hp hq;rw [uz,u7,u9,vA,←lL] at h;exact h
theorem BN (p q:Int × Int) (w:World) (hp:aJ p.1 p.2=true) (hq:aJ q.1 q.2=true) :
  cB 121 #[.agg #[M.I9 (some p),M.I_ (some p),M.JA (some p),M.JB (some p)],.agg #[M.I9 (some q),M.I_ (some q),M.JA (some q),M.JB (some q)]] w (.tuple #[.agg #[M.I9 (gF (some p) (some q)),M.I_ (gF (some p) (some q)),M.JA (gF (some p) (some q)),M.JB (gF (some p) (some q))],.bool (gF (some p) (some q)).isSome]):=by
 have h:=Dh p.1 p.2 q.1 q.2 w hp hq;rw [uz,u7,u9,vA,←lL] at h;exact h
theorem BC (a b X Y E:Int) (w:World) (hg:M.good a b=true) (hX1:-10000<=X) (hX2:X<=10000) (hE1:0<=E) (hE2:E<=20) :
  cB 118 #[.agg #[a,b],.agg #[X,Y,E]] w (.tuple #[.agg #[M.I9 (fP a b X E),M.I_ (fP a b X E),M.JA (fP a b X E),M.JB (fP a b X E)],.bool (fP a b X E).isSome]):=by
 have PH:=fun W=>ir a b X Y E W hg hX1 hX2 hE1 hE2
 have hr:=gA (a:=a) (b:=b) (aY hg) hX1 hX2 hE1 hE2;unfold fP;generalize bW a b X E=r at *;clear hg hX1 hX2 hE1 hE2
 cases r with
 | none=>
  have e1:=IU (show M.I9 none=0/\M.I_ none=0/\M.JA none=0/\M.JB none=0/\(none:M.Sp).isSome=false from ⟨rfl,rfl,rfl,rfl,rfl⟩);have e2:=IU (show gV none none=none from rfl);rw [e2.out,e1.out.1,e1.out.2.1,e1.out.2.2.1,e1.out.2.2.2.1,e1.out.2.2.2.2];rw [e1.out.1,e1.out.2.1,e1.out.2.2.1,e1.out.2.2.2.1,e1.out.2.2.2.2] at PH;clear e1 e2;replace PH:=IU PH;obtain ⟨wc,hw3,C,Q,R,B⟩:=dB w #[a,b] 25 #[X,Y,E] 40 #[(0:Int),(0:Int),(0:Int),(0:Int)] 78;have f_:=C.box.c0;have i_:=C.box.c1;have ⟨q0,q1,q2⟩:=Q.aM;go_enter func118,ntmps118
  go_wp2_with (go_at_call 138;with_reducible refine p_ (PH.out _) fun w4 hb4=>?_;replace R:=(R.keep hb4).alloc (.cells #[(0:Int),(0:Int),(0:Int),(0:Int)] 78);replace B:=(j_ B hb4).alloc (Nat.le_trans B.size hb4.size) (.cells #[(0:Int),(0:Int),(0:Int),(0:Int)] 78);have V:=aG.new w4 #[(0:Int),(0:Int),(0:Int),(0:Int)] 78;have n1:=R.lt;(have ⟨r0,r1,r2,r3,z0,z1,z2,z3,rl⟩:=R.aK);(have ⟨v0,v1,v2,v3,y0,y1,y2,y3,vl⟩:=V.aK))
  exact D_ results118 ⟨rfl,Jk B⟩
 | some p=>
 have hp:=hr p rfl
 have PI:=fun W=>tM p p W hp hp
 have e1:=IU (show (some p:M.Sp).isSome=true from rfl);rw [e1.out] at PH;clear e1 hr hp;generalize gV (some p) (some p)=q,M.JB (some p)=i4,M.JA (some p)=i3,M.I_ (some p)=i2,M.I9 (some p)=i1 at *;generalize q.isSome=f,M.JB q=k4,M.JA q=k3,M.I_ q=k2,M.I9 q=k1 at *;replace PH:=IU PH;replace PI:=IU PI;obtain ⟨wc,hw3,C,Q,R,B⟩:=dB w #[a,b] 25 #[X,Y,E] 40 #[(0:Int),(0:Int),(0:Int),(0:Int)] 78;have f_:=C.box.c0;have i_:=C.box.c1;have ⟨q0,q1,q2⟩:=Q.aM;go_enter func118,ntmps118
 go_wp2_with first | (go_at_call 138;with_reducible refine p_ (PH.out _) fun w4 hb4=>?_;replace R:=(R.keep hb4).alloc (.cells #[i1,i2,i3,i4] 78);replace B:=(j_ B hb4).alloc (Nat.le_trans B.size hb4.size) (.cells #[i1,i2,i3,i4] 78);have V:=aG.new w4 #[i1,i2,i3,i4] 78;have n1:=R.lt;(have ⟨r0,r1,r2,r3,z0,z1,z2,z3,rl⟩:=R.aK);(have ⟨v0,v1,v2,v3,y0,y1,y2,y3,vl⟩:=V.aK)) | (go_at_call 122;with_reducible refine p_ (PI.out _) fun w5 hb5=>?_;replace ⟨R,B⟩:=Im hb5 R B;(have ⟨r0,r1,r2,r3,z0,z1,z2,z3,rl⟩:=R.aK))
 exact D_ results118 ⟨rfl,Jk B⟩
end
section
open Go Go.RowKit open M Rg
namespace Rg
variable {P:Program} {Q:Exit->Act->World->Prop}
def upd (l:Nat->Bool) (i:Nat):Nat->Bool:=fun j=>if j=i then true else l j
def cr (v:Nat->Value) (i:Nat) (u:Value):Nat->Value:=fun j=>if j=i then u else v j
def mj (md:Region.Mode) (ops:Array Oper) (l:Nat->Bool):Prop:=∀ i o,ops[i]?=some o->l i=true->∀ e ∈ o.after,Region.binds md e=true->l e.on=true
section
variable (P) (Q) (md:Region.Mode) (ops:Array Oper) (I:(Nat->Bool)->(Nat->Value)->World->Prop) (a0:Act)
def nF (i:Nat) (o:Oper) (a:Act) (w:World) (l:Nat->Bool) (vals:Nat->Value):Prop:=
 if Region.wanted o (yielded ops a.tmps)=true then o.wp P a w (fun a' w'=>∃ v,a'=a.put o.dst v/\I (upd l i) (cr vals i v) w') Q else I (upd l i) (cr vals i undef) w
def HI (i:Nat) (o:Oper):Prop:=∀ (a:Act) (w:World) (l:Nat->Bool) (vals:Nat->Value),I l vals w->l i=false->mj md ops l->(∀ e ∈ o.after,Region.binds md e=true->l e.on=true)->(∀ t ∈ o.looksAt ops,a.tmps[t]?=rd md ops a0 vals o t)->nF P Q ops I i o a w l vals
def ic:List Oper->Nat->Prop
 | [],_=>True
 | o :: os,k=>HI P Q md ops I a0 k o/\ic os (k+1)
theorem ic.at {os:List Oper} {k:Nat} (h:ic P Q md ops I a0 os k):∀ {i:Nat} {o:Oper},os[i]?=some o->HI P Q md ops I a0 (k+i) o:=by
 induction os generalizing k with
 | nil=>intro i o hi;simp at hi
 | cons x os ih=>
 intro i o hi
 cases i with
 | zero=>
  simp only [List.getElem?_cons_zero,Option.some.injEq] at hi;subst hi;exact h.1
 | succ i=>
 have:=ih h.2 (i:=i) (o:=o) (by simpa using hi);rw [show k+(i+1)=k+1+i from ω];exact this
def G9 (L:Array Bool) (a:Act) (w:World):Prop:=
 L.size=ops.size/\mj md ops (fun j=>L.getD j false)/\
 ∃ vals:Nat->Value,I (fun j=>L.getD j false) vals w/\a=fill (fun j=>L.getD j false) vals ops.toList 0 a0
end
theorem Ej {md:Region.Mode} {ops:Array Oper} {I:(Nat->Bool)->(Nat->Value)->World->Prop} {a0:Act} (hok:d6 md ops a0.tmps.size=true)
  (hR:ic P Q md ops I a0 ops.toList 0) (hF:∀ (l:Nat->Bool) (vals:Nat->Value) (w:World),(∀ i,i<ops.size->l i=true)->I l vals w->Q .normal (fill (fun _=>true) vals ops.toList 0 a0) w) :
  ∀ (fuel:Nat) (L:Array Bool) (a:Act) (w:World),left (fun j=>L.getD j false) ops.size<=fuel->G9 md ops I a0 L a w->wpAny P md ops Q fuel L a w:=by
 rw [d6,Bool.and_eq_true,Bool.and_eq_true] at hok;obtain ⟨⟨hap,hrd⟩,hac⟩:=hok
 have Ja:∀ i o,ops[i]?=some o->(∀ e ∈ o.after,Region.binds md e=true->e.on<i)/\∀ d,o.dst=some d->d<a0.tmps.size:=fun i o hi=>by
  have hlt:i<ops.size:=(Array.getElem?_eq_some_iff.1 hi).1;have:=List.all_eq_true.1 hac i (List.mem_range.2 hlt);rw [hi] at this;simp only [Bool.and_eq_true,List.all_eq_true,Bool.or_eq_true,Bool.not_eq_true',decide_eq_true_eq] at this;refine ⟨fun e he hb=>?_,fun d hd=>?_⟩
  ·rcases this.1 e (Array.mem_toList_iff.2 he) with q | q
   ·rw [hb] at q;cases q
   exact q
  have:=this.2;rw [hd] at this
  simpa using this
 have htl:∀ i,ops.toList[i]?=ops[i]?:=fun i=>Array.getElem?_toList
 have hall:∀ L:Array Bool,L.size=ops.size->Region.ready md ops L=[]->∀ i,i<ops.size->L.getD i false=true:=by
  intro L hL hr i
  induction i using Nat.strongRecOn with
  | ind i ih=>
  intro hi
  cases hl:L.getD i false
  ·exfalso
   have hm:i ∈ Region.ready md ops L:=by
    unfold Region.ready;rw [List.mem_filter];refine ⟨List.mem_range.2 hi,?_⟩
    have hg:L.getD i true=false:=by
     rw [Array.getD_eq_getD_getElem?,Array.getElem?_eq_getElem ω] at hl ⊢;exact hl
    rw [hg,Array.getElem?_eq_getElem hi];simp only [Bool.not_false,Bool.true_and,Option.map_some,Option.getD_some];rw [Array.all_eq_true_iff_forall_mem];intro e he
    cases hb:Region.binds md e
    ·rfl
    have hlt:=(Ja i _ (Array.getElem?_eq_getElem hi)).1 e he hb;simp [ih e.on hlt ω]
   rw [hr] at hm;cases hm
  rfl
 have hfin:∀ (L:Array Bool) (a:Act) (w:World),G9 md ops I a0 L a w->Region.ready md ops L=[]->Q .normal a w:=by
  rintro L a w ⟨hL,-,vals,hS,rfl⟩ hr;have h:=hall L hL hr;rw [bR (l':=fun _=>true) (v':=vals) ops.toList 0 a0 (fun j _ hj=>h j (by simpa using hj)) (fun _ _ _=>rfl)];exact hF _ vals w h hS
 intro fuel
 induction fuel with
 | zero=>
  intro L a w hl hI;have hz:=ge _ (Nat.le_zero.1 hl)
  have hr:Region.ready md ops L=[]:=by
   unfold Region.ready;rw [List.filter_eq_nil_iff];intro i hi;have hi:=List.mem_range.1 hi;have h1:=hz i hi
   have hg:L.getD i true=true:=by
    have hsz:=hI.1;simp only [Array.getD_eq_getD_getElem?] at h1 ⊢;rw [Array.getElem?_eq_getElem ω] at h1 ⊢;exact h1
   rw [hg];simp
  exact ⟨hr,hfin L a w hI hr⟩
 | succ fuel ih=>
 intro L a w hl hI;refine ⟨hfin L a w hI,fun i hi=>?_⟩;obtain ⟨hL,hdc,vals,hS,rfl⟩:=hI;obtain ⟨hun,o,ho,La⟩:=mem_ready.1 hi;have hilt:i<ops.size:=(Array.getElem?_eq_some_iff.1 ho).1
 have hun':L.getD i false=false:=by
  simp only [Array.getD_eq_getD_getElem?] at hun ⊢;rw [Array.getElem?_eq_getElem ω] at hun ⊢;exact hun
 have hq:=ic.at P Q md ops I a0 hR (i:=i) (o:=o) (by rw [htl];exact ho);rw [Nat.zero_add] at hq
 have hst:=hq (fill (fun j=>L.getD j false) vals ops.toList 0 a0) w (fun j=>L.getD j false) vals hS hun' hdc
  (fun e he hb=>La e he hb)
  (fun t ht=>by
   unfold rd
   have hr1:iO md ops i o t=true:=by
    have:=List.all_eq_true.1 hrd i (List.mem_range.2 hilt);rw [ho] at this;exact List.all_eq_true.1 this t ht
   cases hf:o.after.toList.find? (fun e=>Region.binds md e && ((ops[e.on]?).bind (·.dst)) == some t) with
   | some e=>
    have h1:=List.find?_some hf;have h2:=List.mem_of_find?_eq_some hf;rw [Bool.and_eq_true,beq_iff_eq] at h1;obtain ⟨x,hx,hxd⟩:=Option.bind_eq_some_iff.1 h1.2;have h3:=La e (Array.mem_toList_iff.1 h2) h1.1;have:=mS (l:=fun j=>L.getD j false) (v:=vals) ops.toList 0 e.on x a0 hap (by rw [htl];exact hx) (by simpa using h3) hxd ((Ja e.on x hx).2 t hxd);rw [Nat.zero_add] at this;exact this
   | none=>
   refine f8 ops.toList 0 a0 fun j x hx hlj hxd=>?_
   rw [Nat.zero_add] at hlj;rw [htl] at hx;have hjlt:j<ops.size:=(Array.getElem?_eq_some_iff.1 hx).1;rw [iO,Bool.or_eq_true] at hr1
   rcases hr1 with q | q
   ·obtain ⟨e,he,hp⟩:=List.any_eq_true.1 q
    have:=List.find?_eq_none.1 hf e he;exact this hp
   have:=List.all_eq_true.1 q j (List.mem_range.2 hjlt);rw [hx] at this;simp only [Bool.or_eq_true,bne_iff_ne,ne_eq,beq_iff_eq,List.any_eq_true,Bool.and_eq_true] at this
   rcases this with (q1 | q1) | ⟨e,he,hb,hon⟩
   ·exact q1 hxd
   ·subst q1
    rw [hun'] at hlj;cases hlj
   have:L.getD e.on false=true:=hdc j x hx hlj e (Array.mem_toList_iff.1 he) hb;rw [hon,hun'] at this
   cases this)
 have hnext:∀ (v:Value) (w':World),I (upd (fun j=>L.getD j false) i) (cr vals i v) w'->wpAny P md ops Q fuel (L.setIfInBounds i true) ((fill (fun j=>L.getD j false) vals ops.toList 0 a0).put o.dst v) w':=by
  intro v w' h2
  have e1:∀ j,(L.setIfInBounds i true).getD j false=if j=i then true else L.getD j false:=fun j=>by
   simp only [Array.getD_eq_getD_getElem?]
   by_cases hji:j=i
   ·subst hji
    rw [Array.getElem?_setIfInBounds_self_of_lt ω];simp
   rw [Array.getElem?_setIfInBounds_ne (fun e=>hji e.symm),if_neg hji]
  have e2:(fun j=>(L.setIfInBounds i true).getD j false)=upd (fun j=>L.getD j false) i:=funext e1;refine ih _ _ _ ?_ ⟨by simpa using hL,?_,cr vals i v,by rw [e2];exact h2,?_⟩
  ·have:=i8 (l:=fun j=>L.getD j false) (l':=fun j=>(L.setIfInBounds i true).getD j false) hun' (by rw [e1,if_pos rfl]) (fun j hj=>by rw [e1,if_neg hj]) ops.size hilt
   omega
  ·intro j x hx hlj e he hb
   show (L.setIfInBounds i true).getD e.on false=true
   replace hlj:(L.setIfInBounds i true).getD j false=true:=hlj;rw [e1] at hlj ⊢
   split
   ·rfl
   split at hlj
   ·rename_i hji
    subst hji;rw [ho] at hx;cases hx
    exact La e he hb
   exact hdc j x hx hlj e he hb
  rw [kI ops.toList 0 i o a0 hap (by rw [htl];exact ho) (by simpa using hun')];rw [Nat.zero_add];exact bR _ _ _ (fun j _ _=>(e1 j).symm) (fun _ _ _=>rfl)
 unfold wpOp;rw [ho];unfold nF at hst
 dsimp only
 split at hst
 ·rename_i hw
  rw [if_pos hw];refine Or.inl (Oper.wp_mono ?_ hst);rintro a' w' ⟨v,rfl,h2⟩;exact hnext v w' h2
 rename_i hw
 rw [if_neg hw];exact hnext undef w hst
theorem kZ {id:Nat} {ops:Array Oper} {a0:Act} {w:World} (I:(Nat->Bool)->(Nat->Value)->World->Prop) (hm:P.follows .mixedOrders=true) (hok:d6 .any ops a0.tmps.size=true)
  (hS:∀ vals,I (fun _=>false) vals { w with drawn:=w.drawn+1 }) (hR:ic P Q .any ops I a0 ops.toList 0)
  (hF:∀ (l:Nat->Bool) (vals:Nat->Value) (w:World),(∀ i,i<ops.size->l i=true)->I l vals w->Q .normal (fill (fun _=>true) vals ops.toList 0 a0) w):(Code.region id ops true).wp P Q a0 w:=by
 have rep:∀ j,(Array.replicate ops.size false).getD j false=false:=fun j=>by
  rw [Array.getD_eq_getD_getElem?,Array.getElem?_replicate]
  split <;> rfl
 refine wp_region_any hm (Ej hok hR hF _ _ _ _ ?_ ⟨σ,?_,fun _=>undef,?_,?_⟩)
 ·have:∀ (l:Nat->Bool) n,left l n<=n:=fun l n=>by
   induction n with
   | zero=>exact IY _
   | succ n ih=>unfold left;split <;> omega
  exact this _ _
 ·intro i o hi hl
  replace hl:(Array.replicate ops.size false).getD i false=true:=hl;rw [rep] at hl;cases hl
 ·rw [show (fun j=>(Array.replicate ops.size false).getD j false)=fun _=>false from funext rep]
  exact hS _
 have:∀ (v:Nat->Value) (os:List Oper) (k:Nat) (a:Act),fill (fun _=>false) v os k a=a:=fun v os=>by
  induction os with
  | nil=>intro k a;rfl
  | cons x os ih=>intro k a;unfold fill;simp [ih]
 exact (this _ ops.toList 0 a0).symm.trans (bR _ _ _ (fun j _ hj=>(rep j).symm) (fun _ _ _=>rfl))
end Rg
namespace Rg
variable {P:Program} {Q:Exit->Act->World->Prop}
def cnt (l:Nat->Bool):List Nat->Nat
 | []=>0
 | c :: cs=>if l c=true then cnt l cs+1 else 0
def gY (ops:Array Oper) (c d:Nat):Bool:=match ops[d]? with
 | some o=>o.after.toList.any (fun e=>Region.binds .any e && e.on == c)
 | none=>false
def eK (ops:Array Oper):List Nat->Bool
 | c :: d :: cs=>gY ops c d && decide (c<d) && eK ops (d :: cs)
 | _=>true
theorem dG {ops:Array Oper} {l:Nat->Bool} {c d:Nat} (hc:mj .any ops l) (he:gY ops c d=true) (hd:l d=true):l c=true:=by
 unfold gY at he
 split at he
 ·rename_i o ho
  obtain ⟨e,h1,h2⟩:=List.any_eq_true.1 he;rw [Bool.and_eq_true,beq_iff_eq] at h2;have:=hc d o ho hd e (Array.mem_toList_iff.1 h1) h2.1;rw [h2.2] at this;exact this
 cases he
theorem fz {ops:Array Oper} {l:Nat->Bool} {c d:Nat} {o:Oper} (ho:ops[d]?=some o) (JQ:∀ e ∈ o.after,Region.binds .any e=true->l e.on=true) (he:gY ops c d=true):l c=true:=by
 unfold gY at he;rw [ho] at he;obtain ⟨e,h1,h2⟩:=List.any_eq_true.1 he;rw [Bool.and_eq_true,beq_iff_eq] at h2;have:=JQ e (Array.mem_toList_iff.1 h1) h2.1;rw [h2.2] at this;exact this
theorem iH {l:Nat->Bool} {k:Nat}:∀ C:List Nat,k ∉ C->cnt (upd l k) C=cnt l C
 | [],_=>rfl
 | c :: cs,h=>by
  have h1:c≠k:=fun e=>h (by rw [e];exact List.mem_cons_self ..)
  have e:upd l k c=l c:=if_neg h1;unfold cnt;rw [e,iH cs (fun hk=>h (List.mem_cons_of_mem _ hk))]
theorem kE {ops:Array Oper} {l:Nat->Bool} {k:Nat} (hc:mj .any ops l) (hk:l k=false) (JQ:∀ c,gY ops c k=true->l c=true):∀ C:List Nat,eK ops C=true->k ∈ C->cnt l C=C.idxOf k/\cnt (upd l k) C=C.idxOf k+1
 | [],_,h=>by cases h
 | [c],_,h=>by
  rcases List.mem_cons.1 h with rfl | h
  ·have e:upd l k k=true:=if_pos rfl
   unfold cnt cnt;rw [hk,e];simp
  cases h
 | c :: d :: cs,ho,h=>by
  unfold eK at ho;rw [Bool.and_eq_true,Bool.and_eq_true,decide_eq_true_eq] at ho;obtain ⟨⟨he,hlt⟩,ho⟩:=ho
  by_cases hkc:k=c
  ·subst hkc
   have e:upd l k k=true:=if_pos rfl
   have hd:l d=false:=by
    cases hd:l d
    ·rfl
    rw [dG hc he hd] at hk;cases hk
   have e2:upd l k d=false:=(if_neg ω).trans hd
   have i0:(k :: d :: cs).idxOf k=0:=σ
   rw [i0];unfold cnt;rw [hk,e];unfold cnt;rw [e2];simp
  have hm:k ∈ d :: cs:=(List.mem_cons.1 h).resolve_left hkc;obtain ⟨h1,h2⟩:=kE hc hk JQ (d :: cs) ho hm
  have hlc:l c=true:=by
   by_cases hkd:k=d
   ·subst hkd;exact JQ c he
   have:l d=true:=by
    cases hd:l d
    ·exfalso
     have z:cnt l (d :: cs)=0:=by unfold cnt;rw [hd];rfl
     have:(d :: cs).idxOf k≠0:=by
      rw [List.idxOf_cons]
      have:(d == k)=false:=by rw [beq_eq_false_iff_ne];exact fun e=>hkd e.symm
      rw [this];simp
     omega
    rfl
   exact dG hc he this
  have e:upd l k c=l c:=if_neg (fun e=>hkc e.symm)
  have i0:(c :: d :: cs).idxOf k=(d :: cs).idxOf k+1:=by
   rw [List.idxOf_cons]
   have:(c == k)=false:=by rw [beq_eq_false_iff_ne];exact fun e=>hkc e.symm
   rw [this];rfl
  rw [i0];unfold cnt;rw [e,hlc,if_pos rfl,if_pos rfl,h1,h2];exact ⟨rfl,rfl⟩
end Rg
end
end Go.Proofs.YtkalaljcbmkbmaaGreat
