/-
  Joined texts: contracts and plain lemmas.
-/
import Derived.Test.YtkalaljcbmkbmaaGreatB1
import Derived.Test.YtkalaljcbmkbmaaGreatB5
set_option linter.unusedSimpArgs false
set_option linter.unusedVariables false
set_option maxRecDepth 100000
set_option maxHeartbeats 8000000
namespace Go.Proofs.YtkalaljcbmkbmaaGreat
open Tryz
section
open Go.RowKit open Gr M Rg Rw Wh
namespace Wh
def MO (D F G:Int):Int:=if G<0 then -(F / (KX D F G:Nat)) else F / (KX D F G:Nat)
def MN (D F G:Int):Int:=if G<0 then -(G / (KX D F G:Nat)) else G / (KX D F G:Nat)
def fL (D F G:Int):Bool:=decide (G≠0) && eA (MO D F G) (MN D F G)
def Kh (D F G:Int):Int:=if fL D F G=true then MO D F G else 0
def Ki (D F G:Int):Int:=if fL D F G=true then MN D F G else 0
theorem rg {z:Int} {n:Nat} (h:sz z n) (d:Nat):sz (z / (d:Int)) (n+1):=by
 unfold sz at *;rw [Nat.pow_succ]
 have h1:(z / (d:Int)).natAbs<=z.natAbs+1:=by
  rcases Nat.eq_zero_or_pos d with rfl | hd
  ·simp
  have:=Int.natAbs_ediv_le_natAbs z (d:Int);omega
 have hp:0<10000 ^ n:=Nat.pow_pos δ;omega
theorem gX {z:Int}:(a_ z.natAbs).length=0 ↔ z=0:=by
 rw [List.length_eq_zero_iff,jN];omega
theorem wI {z:Int} {d:Nat} (hd:1<=d):decide (z / (d:Int)<0)=decide (z<0):=by
 rw [decide_eq_decide]
 constructor
 ·intro h
  rcases Int.lt_or_le z 0 with q | q
  ·exact q
  have:=Int.ediv_nonneg (b:=(d:Int)) q ω;omega
 intro h;exact Int.ediv_neg_of_neg_of_pos h ω
end Wh
theorem iU (w:World) (k:Nat):aZ w k (.slice none 0 0) 0:=by
 unfold aZ;rw [show Wh.a_ (0:Int).natAbs=[] from jN.2 rfl];exact aF.nil _ _
theorem xx (a b x z:Int) (vx vz:Value) (w:World) (bx bz:Nat) (hg:M.good a b=true) (hox:aZ w bx vx x) (JD:aZ w bz vz z) (hx:Wh.sz x 1000) (hz:Wh.sz z 1000) :
  Calls prog 168 #[.agg #[a,b],.agg #[decide (x<0),vx,decide (z<0),vz]] w fun e w'=>∃ v1 v2,e=.returned (.tuple #[.agg #[decide (Wh.Kh (aO a b) (ai a b x z) (ae a b x z)<0),v1,decide (Wh.Ki (aO a b) (ai a b x z) (ae a b x z)<0),v2],fL (aO a b) (ai a b x z) (ae a b x z)])/\aZ w' w v1 (Wh.Kh (aO a b) (ai a b x z) (ae a b x z))/\aZ w' w v2 (Wh.Ki (aO a b) (ai a b x z) (ae a b x z))/\Below w w w':=by
 obtain ⟨ax,cx,rfl,-,-⟩:=aF.view hox;obtain ⟨az,cz,rfl,-,-⟩:=aF.view JD;have hin:=aY hg;obtain ⟨ha1,ha2,hb1,hb2⟩:=aW hin;have hdb:=fy hin;have hdn:=iL hg
 have PF:=fun v v' W k k' (h1:aF W k v (Wh.a_ x.natAbs)) (h2:aF W k' v' (Wh.a_ z.natAbs))=>jk a b x z v v' W k k' h1 h2 hx hz ha1 ha2 hb1 hb2
 have PG:=fun v v' W k k' (h1:aF W k v (Wh.a_ x.natAbs)) (h2:aF W k' v' (Wh.a_ z.natAbs))=>fM a b x z v v' W k k' h1 h2 hx hz ha1 ha2 hb1 hb2
 have PD:=fun v v' W k k' (h1:aF W k v (Wh.a_ x.natAbs)) (h2:aF W k' v' (Wh.a_ z.natAbs))=>nd a b x z v v' W k k' hg h1 h2 hx hz
 have zF:=rk hx hz ha1 ha2 hb1 hb2;have zG:=rf hx hz ha1 ha2 hb1 hb2;have hdv:=Ai (ai a b x z) (ae a b x z) hdn;generalize ae a b x z=G,ai a b x z=F,aO a b=D at *;clear hin hg ha1 ha2 hb1 hb2 hdn hx hz
 obtain ⟨d,hd⟩:∃ d,Hid (Wh.KX D F G=d):=⟨_,IU rfl⟩
 rw [hd.out] at hdv PD;have hd1:1<=d:=hdv.1
 have hd2:d<=1000000000000:=ω
 clear hdv hdb;have sF:=aR.2 (aL zF (show 5000<=9000 by omega));have sG:=aR.2 (aL zG (show 6000<=9000 by omega));have zN:=rg zF d;have zE:=rg zG d;have sN:=aR.2 (aL zN (show 5000+1<=9000 by omega));have sE:=aR.2 (aL zE (show 6000+1<=9000 by omega))
 have PQ:=fun v W k (h:aF W k v (Wh.a_ F.natAbs))=>jv F (d:Int) v W k h sF ω ω
 have PR:=fun v W k (h:aF W k v (Wh.a_ G.natAbs))=>jv G (d:Int) v W k h sG ω ω
 generalize hs1:decide (x<0)=s1 at *;generalize hs2:decide (z<0)=s2 at *;clear hs1 hs2;replace hox:=IU (show aF _ _ _ _ from hox);replace JD:=IU (show aF _ _ _ _ from JD);generalize (Wh.a_ z.natAbs).length=lz,(Wh.a_ x.natAbs).length=lx at *;obtain ⟨wc,hw3,C,Q,R,B⟩:=dB w #[a,b] 25 #[s1,.slice ax lx cx,s2,.slice az lz cz] 174 #[false,.slice none 0 0,false,.slice none 0 0] 174;have ox:=IU (aF.below hox.out B);have oz:=IU (aF.below JD.out B);clear hox JD;have f_:=C.box.c0;have i_:=C.box.c1;have J4:=Q.aK.c0;have J5:=Q.aK.c1;have J6:=Q.aK.c2;have J7:=Q.aK.c3;have B_:=R.aK.c0;have C_:=R.aK.c1;have F_:=R.aK.c2;have G_:=R.aK.c3;have y_:=R.aK.f0;have A_:=R.aK.f1;have IZ:=R.aK.f2;have Ia:=R.aK.f3
 by_cases h0:G=0
 ·subst h0
  have hok:fL D F 0=false:=by unfold fL;simp
  have hX:Wh.Kh D F 0=0:=by unfold Wh.Kh;rw [hok];rfl
  have hZ:Wh.Ki D F 0=0:=by unfold Wh.Ki;rw [hok];rfl
  rw [hok,hX,hZ];have hl0:(Wh.a_ (0:Int).natAbs).length=0:=gX.2 rfl;have hs0:decide ((0:Int)<0)=false:=rfl;rw [hs0] at PG ⊢;clear hok hX hZ hs0 PF PD PQ PR sF sG zN zE sN sE zF zG hd hd1 hd2;replace PG:=IU PG;go_enter func168,ntmps168
  go_wp2_with (go_at_call 167;(with_reducible refine (PG.out _ _ _ _ _ ox.out oz.out).mono ?_);rintro e w4 ⟨v4,rfl,Iq,hb4⟩;have JX:=B.size;replace ⟨C,Q,R⟩:=I7 hb4 C Q R;replace ox:=kO ox hb4;replace oz:=kO oz hb4;replace B:=j_ B hb4;obtain ⟨a4,c4,rfl,I1,Ii⟩:=aF.view Iq;clear I1 Ii;have og:=IU (aF.base (show aF _ _ _ _ from Iq) JX);clear Iq;clear JX;(rw [hl0] at og ⊢);have T:=aG.new w4 #[false,.slice a4 0 c4] 116;have b_:=bA w4 (.cells #[false,.slice a4 0 c4] 116);replace ⟨C,Q,R⟩:=I7 b_ C Q R;replace ox:=kO ox b_;replace oz:=kO oz b_;replace og:=kO og b_;replace B:=j_ B b_;clear b_;(replace ⟨f_,i_⟩:=C.b2);(replace ⟨J4,J5,J6,J7⟩:=Q.b4);(replace ⟨B_,C_,F_,G_,y_,A_,IZ,Ia⟩:=R.I0);(replace ⟨JF,JG⟩:=T.b2))
  exact D_ results168 ⟨_,_,rfl,iU _ _,iU _ _,Jk B⟩
 have hlp:¬ (Wh.a_ G.natAbs).length=0:=fun h=>h0 (gX.1 h)
 have hlq:(((Wh.a_ G.natAbs).length:Int) == 0)=false:=by rw [beq_eq_false_iff_ne];omega
 have hne:decide (G≠0)=true:=decide_eq_true h0;have LG:=wI (z:=G) hd1
 have PN:=fun v W k (h:aF W k v (Wh.a_ (F / (d:Int)).natAbs))=>lN (F / (d:Int)) v W k h ω
 have PE:=fun v W k (h:aF W k v (Wh.a_ (G / (d:Int)).natAbs))=>lN (G / (d:Int)) v W k h ω
 have LP:(Wh.a_ (-(F / (d:Int))).natAbs).length<=100000:=by rw [Int.natAbs_neg];omega
 have Oi:(Wh.a_ (-(G / (d:Int))).natAbs).length<=100000:=by rw [Int.natAbs_neg];omega
 have LA:=fun v v' W k k' (h:aF W k v (Wh.a_ (F / (d:Int)).natAbs)) (h':aF W k' v' (Wh.a_ (G / (d:Int)).natAbs))=>pm (F / (d:Int)) (G / (d:Int)) v v' W k k' h h' ω ω
 have ML:=fun v v' W k k' (h:aF W k v (Wh.a_ (-(F / (d:Int))).natAbs)) (h':aF W k' v' (Wh.a_ (-(G / (d:Int))).natAbs))=>pm (-(F / (d:Int))) (-(G / (d:Int))) v v' W k k' h h' LP Oi
 have Oe:fL D F G=eA (if G<0 then -(F / (d:Int)) else F / (d:Int)) (if G<0 then -(G / (d:Int)) else G / (d:Int)):=by unfold fL Wh.MO Wh.MN;rw [hd.out,hne];rfl
 have eX:Wh.Kh D F G=if fL D F G=true then (if G<0 then -(F / (d:Int)) else F / (d:Int)) else 0:=by unfold Wh.Kh Wh.MO;rw [hd.out]
 have eZ:Wh.Ki D F G=if fL D F G=true then (if G<0 then -(G / (d:Int)) else G / (d:Int)) else 0:=by unfold Wh.Ki Wh.MN;rw [hd.out]
 rw [eX,eZ,Oe];clear eX eZ Oe LP Oi hne h0 sF sG zN zE sN sE zF zG;generalize F / (d:Int)=N at *;generalize G / (d:Int)=E at *;generalize F % (d:Int)=rF at *;generalize G % (d:Int)=rG at *;generalize decide (F<0)=sF at *;clear hd
 by_cases hneg:G<0
 ·have hsg:decide (G<0)=true:=decide_eq_true hneg
  rw [hsg] at LG PG;rw [if_pos hneg,if_pos hneg];simp only [hsg,LG] at PR PE LA;clear LA;generalize LP:decide (N<0)=sN at *;replace PG:=IU PG;replace PF:=IU PF;replace PD:=IU PD;replace PQ:=IU PQ;replace PR:=IU PR;replace PN:=IU PN;replace PE:=IU PE;replace ML:=IU ML;replace LP:=IU LP;replace LG:=IU LG;clear hneg hsg hd1 hd2
  obtain ⟨MG,hok⟩:∃ q,eA (-N) (-E)=q:=⟨_,rfl⟩
  cases MG
  all_goals
   rw [hok];replace hok:=IU hok
   first | rw [if_pos rfl,if_pos rfl] | rw [if_neg δ,if_neg δ]
   go_enter func168,ntmps168
   go_upto_region 8 with (first
    | (go_at_call 167;(with_reducible refine (PG.out _ _ _ _ _ ox.out oz.out).mono ?_);rintro e w4 ⟨v4,rfl,Iq,hb4⟩;have JX:=B.size;replace ⟨C,Q,R⟩:=I7 hb4 C Q R;replace ox:=kO ox hb4;replace oz:=kO oz hb4;replace B:=j_ B hb4;obtain ⟨a4,c4,rfl,I1,Ii⟩:=aF.view Iq;clear I1 Ii;have og:=IU (aF.base (show aF _ _ _ _ from Iq) JX);clear Iq;(generalize (Wh.a_ G.natAbs).length=lg at *);clear JX;have T:=aG.new w4 #[true,.slice a4 lg c4] 116;have b_:=bA w4 (.cells #[true,.slice a4 lg c4] 116);replace ⟨C,Q,R⟩:=I7 b_ C Q R;replace ox:=kO ox b_;replace oz:=kO oz b_;replace og:=kO og b_;replace B:=j_ B b_;clear b_;(replace ⟨f_,i_⟩:=C.b2);(replace ⟨J4,J5,J6,J7⟩:=Q.b4);(replace ⟨B_,C_,F_,G_,y_,A_,IZ,Ia⟩:=R.I0);(replace ⟨JF,JG⟩:=T.b2))
    | (go_at_call 180;with_reducible refine p_ (PD.out _ _ _ _ _ ox.out oz.out) fun w6 hb6=>?_;replace ⟨C,Q,R,T⟩:=Ip hb6 C Q R T;replace ox:=kO ox hb6;replace oz:=kO oz hb6;replace og:=kO og hb6;replace B:=j_ B hb6;(replace ⟨f_,i_⟩:=C.b2);(replace ⟨J4,J5,J6,J7⟩:=Q.b4);(replace ⟨B_,C_,F_,G_,y_,A_,IZ,Ia⟩:=R.I0);(replace ⟨JF,JG⟩:=T.b2))
    | (go_at_call 182;(with_reducible refine (PF.out _ _ _ _ _ ox.out oz.out).mono ?_);rintro e w7 ⟨v7,rfl,Lf,Ig⟩;have JX:=B.size;replace ⟨C,Q,R,T⟩:=Ip Ig C Q R T;replace ox:=kO ox Ig;replace oz:=kO oz Ig;replace og:=kO og Ig;replace B:=j_ B Ig;obtain ⟨a7,c7,rfl,I1,Ii⟩:=aF.view Lf;clear I1 Ii;have of:=IU (aF.base (show aF _ _ _ _ from Lf) JX);clear Lf;(generalize (Wh.a_ F.natAbs).length=lf at *);clear JX;(replace ⟨f_,i_⟩:=C.b2);(replace ⟨J4,J5,J6,J7⟩:=Q.b4);(replace ⟨B_,C_,F_,G_,y_,A_,IZ,Ia⟩:=R.I0);(replace ⟨JF,JG⟩:=T.b2))
    | (go_at_call 181;(with_reducible refine (PQ.out _ _ _ of.out).mono ?_);rintro e w8 ⟨v8,rfl,Jb,It⟩;have JX:=B.size;replace ⟨C,Q,R,T⟩:=Ip It C Q R T;replace ox:=kO ox It;replace oz:=kO oz It;replace og:=kO og It;replace of:=kO of It;replace B:=j_ B It;obtain ⟨a8,c8,rfl,I1,Ii⟩:=aF.view Jb;clear I1 Ii;have on:=IU (aF.base (show aF _ _ _ _ from Jb) JX);clear Jb;(generalize (Wh.a_ N.natAbs).length=ln at *);clear JX;have RB:=IU R.lt;have U:=aG.new w8 #[sN,.slice a8 ln c8] 116;have b_:=bA w8 (.cells #[sN,.slice a8 ln c8] 116);replace ⟨C,Q,R,T⟩:=Ip b_ C Q R T;replace ox:=kO ox b_;replace oz:=kO oz b_;replace og:=kO og b_;replace of:=kO of b_;replace on:=kO on b_;replace B:=j_ B b_;clear b_;(replace ⟨f_,i_⟩:=C.b2);(replace ⟨J4,J5,J6,J7⟩:=Q.b4);(replace ⟨B_,C_,F_,G_,y_,A_,IZ,Ia⟩:=R.I0);(replace ⟨JF,JG⟩:=T.b2);(replace ⟨Iw,Ix⟩:=U.b2))
    | (go_at_call 181;(with_reducible refine (PR.out _ _ _ og.out).mono ?_);rintro e w9 ⟨v9,rfl,LL,I2⟩;have JX:=B.size;replace ⟨C,Q,R,T,U⟩:=KU I2 C Q R T U;replace ox:=kO ox I2;replace oz:=kO oz I2;replace og:=kO og I2;replace of:=kO of I2;replace on:=kO on I2;replace B:=j_ B I2;obtain ⟨a9,c9,rfl,I1,Ii⟩:=aF.view LL;clear I1 Ii;have oe:=IU (aF.base (show aF _ _ _ _ from LL) JX);clear LL;(generalize (Wh.a_ E.natAbs).length=le at *);clear JX;have V:=aG.new w9 #[true,.slice a9 le c9] 116;have b_:=bA w9 (.cells #[true,.slice a9 le c9] 116);replace ⟨C,Q,R,T,U⟩:=KU b_ C Q R T U;replace ox:=kO ox b_;replace oz:=kO oz b_;replace og:=kO og b_;replace of:=kO of b_;replace on:=kO on b_;replace oe:=kO oe b_;replace B:=j_ B b_;clear b_;(replace ⟨f_,i_⟩:=C.b2);(replace ⟨J4,J5,J6,J7⟩:=Q.b4);(replace ⟨B_,C_,F_,G_,y_,A_,IZ,Ia⟩:=R.I0);(replace ⟨JF,JG⟩:=T.b2);(replace ⟨Iw,Ix,KB,KC⟩:=U.Jy);(replace ⟨Ir,Is,KO,KQ⟩:=V.Jy)))
   have hUV:w8.heap.size<w9.heap.size:=Nat.lt_of_lt_of_le (by rw [IV];exact Nat.lt_succ_self _) I2.size;generalize w9.alloc (.cells #[true,.slice a9 le c9] 116)=wd at *;refine b8 4 [.is (.agg #[sN,.slice a8 ln c8]),.at (aI (wd.heap.size) (-N)),.is (.agg #[true,.slice a9 le c9]),.at (aI (wd.heap.size) (-E))] κ κ κ ⟨?_,?_,?_,?_,fun h_=>absurd h_ δ,fun h_=>absurd h_ δ,trivial⟩ ?_
   all_goals try ((refine Rg.b1 ?_;intro zZ w_ hB e);have kz:=aE hB U.box.c0;have kz:=aE hB U.box.c1;have kz:=aE hB V.box.c0;have kz:=aE hB V.box.c1;(go_simp;done))
   ·refine Rg.o1 ?_;intro zZ w_ hB e
    have ef:=Rg.ef zZ;refine af rfl τ ?_;exact aI.ret hB (PN.out _ _ _ (aF.below on.out hB))
   ·refine Rg.o1 ?_;intro zZ w_ hB e
    have ef:=Rg.ef zZ;refine af rfl τ ?_;exact aI.ret hB (PE.out _ _ _ (aF.below oe.out hB))
   intro vals wz hB hv hne;have n41:(Rg.Val.at (aI (wd.heap.size) (-N))).ok (vals 1) wz:=hv 1 δ;have n43:(Rg.Val.at (aI (wd.heap.size) (-E))).ok (vals 3) wz:=hv 3 δ;simp only [bD,Rg.fill,Act.put,Nat.reduceAdd];clear hv;obtain ⟨MH,a41,ME,Lw,OE,v_1,Tw⟩:=(cE n41).view;obtain ⟨s43,a43,Ms,Mp,SY,UB,o43⟩:=(cE n43).view;simp only [v_1,UB];clear v_1 UB;have U2:=U.keep hB;have V2:=V.keep hB;have R2:=R.keep hB
   have TY:w8.heap.size≠w9.heap.size:=ω
   have Wo:=TY.symm;have V3:aG ((wz.setCell ⟨w8,0,none⟩ (.bool MH)).setCell ⟨w8,1,none⟩ (.slice a41 ME Lw)) w9 116 #[true,.slice a9 le c9]:=(V2.other Wo _).other Wo _;have V4:=aG.set2 V3 (.bool s43) (.slice a43 Ms Mp);have U4:aG ((((wz.setCell ⟨w8,0,none⟩ (.bool MH)).setCell ⟨w8,1,none⟩ (.slice a41 ME Lw)).setCell ⟨w9,0,none⟩ (.bool s43)).setCell ⟨w9,1,none⟩ (.slice a43 Ms Mp)) w8 116 #[MH,.slice a41 ME Lw]:=((aG.set2 U2 (.bool MH) (.slice a41 ME Lw)).other TY _).other TY _;have oN:=IU (aF.bQ (aF.bQ (aF.base Tw B.size) U2 δ (.bool MH) (.slice a41 ME Lw)) V3 δ (.bool s43) (.slice a43 Ms Mp));have oE:=IU (aF.bQ (aF.bQ (aF.base o43 B.size) U2 δ (.bool MH) (.slice a41 ME Lw)) V3 δ (.bool s43) (.slice a43 Ms Mp));have hw8:w.heap.size+1+1<w8.heap.size:=RB.out
   have XF:w.heap.size+1+1≠w9.heap.size:=ω
   have Te:w.heap.size+1+1≠w8.heap.size:=ω
   have R4:aG ((((wz.setCell ⟨w8,0,none⟩ (.bool MH)).setCell ⟨w8,1,none⟩ (.slice a41 ME Lw)).setCell ⟨w9,0,none⟩ (.bool s43)).setCell ⟨w9,1,none⟩ (.slice a43 Ms Mp)) (w.heap.size+1+1) 174 #[false,.slice none 0 0,false,.slice none 0 0]:=(((R2.other Te _).other Te _).other XF _).other XF _;have B4:Below w w ((((wz.setCell ⟨w8,0,none⟩ (.bool MH)).setCell ⟨w8,1,none⟩ (.slice a41 ME Lw)).setCell ⟨w9,0,none⟩ (.bool s43)).setCell ⟨w9,1,none⟩ (.slice a43 Ms Mp)):=IW (IW (IW (IW (j_ B hB) (by simp <;> omega) _) (by simp <;> omega) _) (by simp <;> omega) _) (by simp <;> omega) _;have ⟨p0,p1,q0,q1,_⟩:=U2.box;have ⟨p2,p3,q2,q3,_⟩:=V2.box;unfold aV aV aV Oper.wp;go_simp
   clear p0 p1 q0 q1 p2 p3 q2 q3 U2 V2 V3 R2 Tw o43 hB U V R C Q T B ox oz og of on oe Te XF TY Wo hUV f_ i_ J4 J5 J6 J7 B_ C_ F_ G_ y_ A_ IZ Ia Iw Ix Ir Is KB KC KO KQ;generalize ((((wz.setCell ⟨w8,0,none⟩ (.bool MH)).setCell ⟨w8,1,none⟩ (.slice a41 ME Lw)).setCell ⟨w9,0,none⟩ (.bool s43)).setCell ⟨w9,1,none⟩ (.slice a43 Ms Mp))=wf at *;have TM:=ML.out;rw [←OE.out,←SY.out] at TM;replace TM:=IU TM
   rename aG _ w8 _ _=>U
   rename aG _ w9 _ _=>V
   rename aG _ (w.heap.size+1+1) _ _=>R
   rename Below _ _ wf=>B
   have Iw:=U.box.c0;have Ix:=U.box.c1;have Ir:=V.box.c0;have Is:=V.box.c1
   go_wp2_with (go_at_call 183;have O:=aG.new wf #[MH,.slice a41 ME Lw,s43,.slice a43 Ms Mp] 174;have b_:=bA wf (.cells #[MH,.slice a41 ME Lw,s43,.slice a43 Ms Mp] 174);replace R:=R.keep b_;replace oN:=kO oN b_;replace oE:=kO oE b_;replace B:=j_ B b_;clear b_;with_reducible refine p_ (TM.out _ _ _ _ _ oN.out oE.out) fun TB I6=>?_;(simp only [hok.out]);replace ⟨R,O⟩:=Im I6 R O;replace oN:=kO oN I6;replace oE:=kO oE I6;replace B:=j_ B I6;(replace ⟨B_,C_,F_,G_,y_,A_,IZ,Ia⟩:=R.I0);(replace ⟨KJ,KL,KM,KN⟩:=O.b4))
  ·exact D_ results168 ⟨_,_,rfl,iU _ _,iU _ _,Jk B⟩
  have hr1:=aF.base (aF.du oN.out R δ (.bool MH) (.slice a41 ME Lw) (.bool s43) (.slice a43 Ms Mp)) (base':=w.heap.size) (by first | exact IY _ | omega);have hr2:=aF.base (aF.du oE.out R δ (.bool MH) (.slice a41 ME Lw) (.bool s43) (.slice a43 Ms Mp)) (base':=w.heap.size) (by first | exact IY _ | omega);exact D_ (v:=.tuple #[.agg #[MH,.slice a41 ME Lw,s43,.slice a43 Ms Mp],true]) results168 ⟨_,_,(by rw [OE.out,SY.out]),hr1,hr2,Jk B⟩
 have hsg:decide (G<0)=false:=decide_eq_false hneg;rw [hsg] at LG PG;rw [if_neg hneg,if_neg hneg];simp only [hsg,LG] at PR PE LA;clear ML PN PE;generalize LP:decide (N<0)=sN at *;replace PG:=IU PG;replace PF:=IU PF;replace PD:=IU PD;replace PQ:=IU PQ;replace PR:=IU PR;replace LA:=IU LA;replace LP:=IU LP;replace LG:=IU LG;clear hneg hsg hd1 hd2
 obtain ⟨MG,hok⟩:∃ q,eA (N) (E)=q:=⟨_,rfl⟩
 cases MG
 all_goals
  rw [hok];replace hok:=IU hok
  first | rw [if_pos rfl,if_pos rfl] | rw [if_neg δ,if_neg δ]
  go_enter func168,ntmps168
  go_wp2_with (first
   | (go_at_call 167;(with_reducible refine (PG.out _ _ _ _ _ ox.out oz.out).mono ?_);rintro e w4 ⟨v4,rfl,Iq,hb4⟩;have JX:=B.size;replace ⟨C,Q,R⟩:=I7 hb4 C Q R;replace ox:=kO ox hb4;replace oz:=kO oz hb4;replace B:=j_ B hb4;obtain ⟨a4,c4,rfl,I1,Ii⟩:=aF.view Iq;clear I1 Ii;have og:=IU (aF.base (show aF _ _ _ _ from Iq) JX);clear Iq;(generalize (Wh.a_ G.natAbs).length=lg at *);clear JX;have T:=aG.new w4 #[false,.slice a4 lg c4] 116;have b_:=bA w4 (.cells #[false,.slice a4 lg c4] 116);replace ⟨C,Q,R⟩:=I7 b_ C Q R;replace ox:=kO ox b_;replace oz:=kO oz b_;replace og:=kO og b_;replace B:=j_ B b_;clear b_;(replace ⟨f_,i_⟩:=C.b2);(replace ⟨J4,J5,J6,J7⟩:=Q.b4);(replace ⟨B_,C_,F_,G_,y_,A_,IZ,Ia⟩:=R.I0);(replace ⟨JF,JG⟩:=T.b2))
   | (go_at_call 180;with_reducible refine p_ (PD.out _ _ _ _ _ ox.out oz.out) fun w6 hb6=>?_;replace ⟨C,Q,R,T⟩:=Ip hb6 C Q R T;replace ox:=kO ox hb6;replace oz:=kO oz hb6;replace og:=kO og hb6;replace B:=j_ B hb6;(replace ⟨f_,i_⟩:=C.b2);(replace ⟨J4,J5,J6,J7⟩:=Q.b4);(replace ⟨B_,C_,F_,G_,y_,A_,IZ,Ia⟩:=R.I0);(replace ⟨JF,JG⟩:=T.b2))
   | (go_at_call 182;(with_reducible refine (PF.out _ _ _ _ _ ox.out oz.out).mono ?_);rintro e w7 ⟨v7,rfl,Lf,Ig⟩;have JX:=B.size;replace ⟨C,Q,R,T⟩:=Ip Ig C Q R T;replace ox:=kO ox Ig;replace oz:=kO oz Ig;replace og:=kO og Ig;replace B:=j_ B Ig;obtain ⟨a7,c7,rfl,I1,Ii⟩:=aF.view Lf;clear I1 Ii;have of:=IU (aF.base (show aF _ _ _ _ from Lf) JX);clear Lf;(generalize (Wh.a_ F.natAbs).length=lf at *);clear JX;(replace ⟨f_,i_⟩:=C.b2);(replace ⟨J4,J5,J6,J7⟩:=Q.b4);(replace ⟨B_,C_,F_,G_,y_,A_,IZ,Ia⟩:=R.I0);(replace ⟨JF,JG⟩:=T.b2))
   | (go_at_call 181;(with_reducible refine (PQ.out _ _ _ of.out).mono ?_);rintro e w8 ⟨v8,rfl,Jb,It⟩;have JX:=B.size;replace ⟨C,Q,R,T⟩:=Ip It C Q R T;replace ox:=kO ox It;replace oz:=kO oz It;replace og:=kO og It;replace of:=kO of It;replace B:=j_ B It;obtain ⟨a8,c8,rfl,I1,Ii⟩:=aF.view Jb;clear I1 Ii;have on:=IU (aF.base (show aF _ _ _ _ from Jb) JX);clear Jb;(generalize (Wh.a_ N.natAbs).length=ln at *);clear JX;have RB:=IU R.lt;have U:=aG.new w8 #[sN,.slice a8 ln c8] 116;have b_:=bA w8 (.cells #[sN,.slice a8 ln c8] 116);replace ⟨C,Q,R,T⟩:=Ip b_ C Q R T;replace ox:=kO ox b_;replace oz:=kO oz b_;replace og:=kO og b_;replace of:=kO of b_;replace on:=kO on b_;replace B:=j_ B b_;clear b_;(replace ⟨f_,i_⟩:=C.b2);(replace ⟨J4,J5,J6,J7⟩:=Q.b4);(replace ⟨B_,C_,F_,G_,y_,A_,IZ,Ia⟩:=R.I0);(replace ⟨JF,JG⟩:=T.b2);(replace ⟨Iw,Ix⟩:=U.b2))
   | (go_at_call 181;(with_reducible refine (PR.out _ _ _ og.out).mono ?_);rintro e w9 ⟨v9,rfl,LL,I2⟩;have JX:=B.size;replace ⟨C,Q,R,T,U⟩:=KU I2 C Q R T U;replace ox:=kO ox I2;replace oz:=kO oz I2;replace og:=kO og I2;replace of:=kO of I2;replace on:=kO on I2;replace B:=j_ B I2;obtain ⟨a9,c9,rfl,I1,Ii⟩:=aF.view LL;clear I1 Ii;have oe:=IU (aF.base (show aF _ _ _ _ from LL) JX);clear LL;(generalize (Wh.a_ E.natAbs).length=le at *);clear JX;have V:=aG.new w9 #[false,.slice a9 le c9] 116;have b_:=bA w9 (.cells #[false,.slice a9 le c9] 116);replace ⟨C,Q,R,T,U⟩:=KU b_ C Q R T U;replace ox:=kO ox b_;replace oz:=kO oz b_;replace og:=kO og b_;replace of:=kO of b_;replace on:=kO on b_;replace oe:=kO oe b_;replace B:=j_ B b_;clear b_;(replace ⟨f_,i_⟩:=C.b2);(replace ⟨J4,J5,J6,J7⟩:=Q.b4);(replace ⟨B_,C_,F_,G_,y_,A_,IZ,Ia⟩:=R.I0);(replace ⟨JF,JG⟩:=T.b2);(replace ⟨Iw,Ix,KB,KC⟩:=U.Jy);(replace ⟨Ir,Is,KO,KQ⟩:=V.Jy);have O:=aG.new (w9.alloc (.cells #[false,.slice a9 le c9] 116)) #[sN,.slice a8 ln c8,false,.slice a9 le c9] 174;have b_:=bA (w9.alloc (.cells #[false,.slice a9 le c9] 116)) (.cells #[sN,.slice a8 ln c8,false,.slice a9 le c9] 174);replace ⟨C,Q,R,T,U,V⟩:=RH b_ C Q R T U V;replace ox:=kO ox b_;replace oz:=kO oz b_;replace og:=kO og b_;replace of:=kO of b_;replace on:=kO on b_;replace oe:=kO oe b_;replace B:=j_ B b_;clear b_;(rw [IV] at O))
   | (go_at_call 183;with_reducible refine p_ (LA.out _ _ _ _ _ on.out oe.out) fun TB I6=>?_;(simp only [hok.out]);replace ⟨C,Q,R,T,U,V,O⟩:=YO I6 C Q R T U V O;replace ox:=kO ox I6;replace oz:=kO oz I6;replace og:=kO og I6;replace of:=kO of I6;replace on:=kO on I6;replace oe:=kO oe I6;replace B:=j_ B I6;(replace ⟨f_,i_⟩:=C.b2);(replace ⟨J4,J5,J6,J7⟩:=Q.b4);(replace ⟨B_,C_,F_,G_,y_,A_,IZ,Ia⟩:=R.I0);(replace ⟨JF,JG⟩:=T.b2);(replace ⟨Iw,Ix⟩:=U.b2);(replace ⟨Ir,Is⟩:=V.b2);(replace ⟨KJ,KL,KM,KN⟩:=O.b4)))
 ·exact D_ results168 ⟨_,_,rfl,iU _ _,iU _ _,Jk B⟩
 have hr1:=aF.base (aF.du on.out R δ (.bool sN) (.slice a8 ln c8) (.bool false) (.slice a9 le c9)) (base':=w.heap.size) (by first | exact IY _ | omega);have hr2:=aF.base (aF.du oe.out R δ (.bool sN) (.slice a8 ln c8) (.bool false) (.slice a9 le c9)) (base':=w.heap.size) (by first | exact IY _ | omega);exact D_ (v:=.tuple #[.agg #[sN,.slice a8 ln c8,false,.slice a9 le c9],true]) results168 ⟨_,_,(by rw [LP.out,LG.out]),hr1,hr2,Jk B⟩
theorem aG.cw {W:World} {g k:Nat} {T:TypeId} {xs:Array Value} (h:aG W g T xs) (hk:g≠k) (x y:Value):aG ((W.setCell ⟨k,0,none⟩ x).setCell ⟨k,1,none⟩ y) g T xs:=(h.other hk x).other hk y
theorem fi {B:Nat} {w W:World} {k:Nat} (h:Below B w W) (hk:B<=k) (x y:Value):Below B w ((W.setCell ⟨k,0,none⟩ x).setCell ⟨k,1,none⟩ y):=(h.setCell hk x).setCell hk y
theorem aF.len {W:World} {base l c:Nat} {a:Option Addr} {xs:List Int} (h:aF W base (.slice a l c) xs):l=xs.length:=by
 obtain ⟨a',c',e,-,-⟩:=aF.view h;injection e
namespace Wh
theorem HZ (D F G:Int):((KX D F G:Nat):Int) ∣ F:=Int.ofNat_dvd_left.2 (Nat.dvd_trans (Nat.gcd_dvd_left _ _) (Nat.gcd_dvd_right _ _))
theorem Ha (D F G:Int):((KX D F G:Nat):Int) ∣ G:=Int.ofNat_dvd_left.2 (Nat.gcd_dvd_right _ _)
end Wh
theorem vY (a b x z:Int) (vx vz:Value) (w:World) (bx bz:Nat) (hg:M.good a b=true) (hox:aZ w bx vx x) (JD:aZ w bz vz z) (hx:Wh.sz x 1000) (hz:Wh.sz z 1000) :
  Calls prog 174 #[.agg #[a,b],.agg #[decide (x<0),vx,decide (z<0),vz]] w fun e w'=>∃ v1 v2,e=.returned (.tuple #[.agg #[decide (Wh.Kh (aO a b) (ai a b x z) (ae a b x z)<0),v1,decide (Wh.Ki (aO a b) (ai a b x z) (ae a b x z)<0),v2],fL (aO a b) (ai a b x z) (ae a b x z)])/\aZ w' w v1 (Wh.Kh (aO a b) (ai a b x z) (ae a b x z))/\aZ w' w v2 (Wh.Ki (aO a b) (ai a b x z) (ae a b x z))/\Below w w w':=by
 obtain ⟨ax,cx,rfl,-,-⟩:=aF.view hox;obtain ⟨az,cz,rfl,-,-⟩:=aF.view JD;have hin:=aY hg;obtain ⟨ha1,ha2,hb1,hb2⟩:=aW hin;have hdn:=iL hg;have hdb:=fy hin
 have PF:=fun v v' W k k' (h1:aF W k v (Wh.a_ x.natAbs)) (h2:aF W k' v' (Wh.a_ z.natAbs))=>Ek a b x z v v' W k k' h1 h2 hx hz ha1 ha2 hb1 hb2
 have PG:=fun v v' W k k' (h1:aF W k v (Wh.a_ x.natAbs)) (h2:aF W k' v' (Wh.a_ z.natAbs))=>pF a b x z v v' W k k' h1 h2 hx hz ha1 ha2 hb1 hb2
 have zF:=rk hx hz ha1 ha2 hb1 hb2;have zG:=rf hx hz ha1 ha2 hb1 hb2;have hdv:=Ai (ai a b x z) (ae a b x z) hdn;have hdF:=HZ (aO a b) (ai a b x z) (ae a b x z);have XG:=Ha (aO a b) (ai a b x z) (ae a b x z);generalize ae a b x z=G,ai a b x z=F at *;have sF:=aR.2 (aL zF (show 5000<=9000 by omega));have sG:=aR.2 (aL zG (show 6000<=9000 by omega));have zF':=lX zF;have zG':=lX zG;have Yg:=aR.2 (aL zF' (show 5000<=9000 by omega));have Yh:=aR.2 (aL zG' (show 6000<=9000 by omega))
 have PM:=fun v W k (h:aF W k v (Wh.a_ F.natAbs))=>kv F v W k h ω
 have PN:=fun v W k (h:aF W k v (Wh.a_ G.natAbs))=>kv G v W k h ω
 have Kg:=fun v v' W k k' (h1:aF W k v (Wh.a_ F.natAbs)) (h2:aF W k' v' (Wh.a_ G.natAbs))=>mH a b F G v v' W k k' hg h1 h2 sF sG
 have Mo:=fun v v' W k k' (h1:aF W k v (Wh.a_ (-F).natAbs)) (h2:aF W k' v' (Wh.a_ (-G).natAbs))=>mH a b (-F) (-G) v v' W k k' hg h1 h2 Yg Yh
 simp only [DM] at Kg Mo;rw [DL] at Mo;generalize aO a b=D at *;clear hin hg ha1 ha2 hb1 hb2 hdn hx hz
 obtain ⟨d,hd⟩:∃ d,Hid (Wh.KX D F G=d):=⟨_,IU rfl⟩
 rw [hd.out] at hdv Kg Mo hdF XG;have hd1:1<=d:=hdv.1
 have hd2:d<=1000000000000:=ω
 clear hdv hdb;have zN:=rg zF d;have zE:=rg zG d;have zN':=lX zN;have zE':=lX zE;have sN:=aR.2 (aL zN (show 5000+1<=9000 by omega));have sE:=aR.2 (aL zE (show 6000+1<=9000 by omega));have sN':=aR.2 (aL zN' (show 5000+1<=9000 by omega));have sE':=aR.2 (aL zE' (show 6000+1<=9000 by omega))
 have NT:=fun v W k (h:aF W k v (Wh.a_ F.natAbs))=>fp F (d:Int) v W k h sF ω ω
 have Mz:=fun v W k (h:aF W k v (Wh.a_ G.natAbs))=>fp G (d:Int) v W k h sG ω ω
 have NU:=fun v W k (h:aF W k v (Wh.a_ (-F).natAbs))=>fp (-F) (d:Int) v W k h Yg ω ω
 have NV:=fun v W k (h:aF W k v (Wh.a_ (-G).natAbs))=>fp (-G) (d:Int) v W k h Yh ω ω
 rw [Int.neg_ediv_of_dvd hdF] at NU;rw [Int.neg_ediv_of_dvd XG] at NV
 have LA:=fun v v' W k k' (h:aF W k v (Wh.a_ (F / (d:Int)).natAbs)) (h':aF W k' v' (Wh.a_ (G / (d:Int)).natAbs))=>uO (F / (d:Int)) (G / (d:Int)) v v' W k k' h h' ω ω
 have ML:=fun v v' W k k' (h:aF W k v (Wh.a_ (-(F / (d:Int))).natAbs)) (h':aF W k' v' (Wh.a_ (-(G / (d:Int))).natAbs))=>uO (-(F / (d:Int))) (-(G / (d:Int))) v v' W k k' h h' ω ω
 clear hdF XG sF sG Yg Yh zF zG zF' zG' zN zE zN' zE' sN sE sN' sE'
 have Oe:G≠0->fL D F G=eA (if G<0 then -(F / (d:Int)) else F / (d:Int)) (if G<0 then -(G / (d:Int)) else G / (d:Int)):=fun hne=>by unfold fL Wh.MO Wh.MN;rw [hd.out,decide_eq_true hne];rfl
 have eX:Wh.Kh D F G=if fL D F G=true then (if G<0 then -(F / (d:Int)) else F / (d:Int)) else 0:=by unfold Wh.Kh Wh.MO;rw [hd.out]
 have eZ:Wh.Ki D F G=if fL D F G=true then (if G<0 then -(G / (d:Int)) else G / (d:Int)) else 0:=by unfold Wh.Ki Wh.MN;rw [hd.out]
 have LG:=wI (z:=G) hd1;generalize hs1:decide (x<0)=s1 at *;generalize hs2:decide (z<0)=s2 at *;clear hs1 hs2;replace hox:=IU (show aF _ _ _ _ from hox);replace JD:=IU (show aF _ _ _ _ from JD);generalize (Wh.a_ z.natAbs).length=lz,(Wh.a_ x.natAbs).length=lx at *;have C:=((aG.new w #[a,b] 25).alloc (.cells #[s1,.slice ax lx cx,s2,.slice az lz cz] 174)).alloc (.cells #[false,.slice none 0 0,false,.slice none 0 0] 174);have Q:=(aG.new (w.alloc (.cells #[a,b] 25)) #[s1,.slice ax lx cx,s2,.slice az lz cz] 174).alloc (.cells #[false,.slice none 0 0,false,.slice none 0 0] 174);rw [IV] at Q;have R:=aG.new ((w.alloc (.cells #[a,b] 25)).alloc (.cells #[s1,.slice ax lx cx,s2,.slice az lz cz] 174)) #[false,.slice none 0 0,false,.slice none 0 0] 174;rw [gy] at R;have B:=(((IX w w).alloc (IY _) (.cells #[a,b] 25)).alloc (by rw [IV];omega) (.cells #[s1,.slice ax lx cx,s2,.slice az lz cz] 174)).alloc (by rw [gy];omega) (.cells #[false,.slice none 0 0,false,.slice none 0 0] 174);have ox:=IU (aF.alloc (aF.alloc (aF.alloc hox.out (.cells #[a,b] 25)) (.cells #[s1,.slice ax lx cx,s2,.slice az lz cz] 174)) (.cells #[false,.slice none 0 0,false,.slice none 0 0] 174));have oz:=IU (aF.alloc (aF.alloc (aF.alloc JD.out (.cells #[a,b] 25)) (.cells #[s1,.slice ax lx cx,s2,.slice az lz cz] 174)) (.cells #[false,.slice none 0 0,false,.slice none 0 0] 174))
 have Lg:w.heap.size+3<=(((w.alloc (.cells #[a,b] 25)).alloc (.cells #[s1,.slice ax lx cx,s2,.slice az lz cz] 174)).alloc (.cells #[false,.slice none 0 0,false,.slice none 0 0] 174)).heap.size:=by rw [IV,gy];omega
 clear hox JD;generalize hw3:((w.alloc (.cells #[a,b] 25)).alloc (.cells #[s1,.slice ax lx cx,s2,.slice az lz cz] 174)).alloc (.cells #[false,.slice none 0 0,false,.slice none 0 0] 174)=wc at *;replace PF:=IU PF;replace PG:=IU PG;replace PM:=IU PM;replace PN:=IU PN;replace Kg:=IU Kg;replace Mo:=IU Mo;replace NT:=IU NT;replace NU:=IU NU;replace Mz:=IU Mz;replace NV:=IU NV;replace LA:=IU LA;replace ML:=IU ML;replace Oe:=IU Oe;replace eX:=IU eX;replace eZ:=IU eZ;replace LG:=IU LG;clear hd1 hd2;go_enter func174,ntmps174
 go_wp2
 go_upto_region 1 with fail
 refine b8 8 [.is (.agg #[a,b]),.is (.agg #[s1,.slice ax lx cx,s2,.slice az lz cz]),.at (aI (wc.heap.size) (F)),.is (.agg #[a,b]),.is (.agg #[s1,.slice ax lx cx,s2,.slice az lz cz]),.at (aI (wc.heap.size) (G)),.new (wc.heap.size) 116 #[false,.slice none 0 0],.new (wc.heap.size) 116 #[false,.slice none 0 0]] κ κ κ ⟨?_,?_,?_,?_,?_,?_,?_,?_,fun h_=>absurd h_ δ,fun h_=>absurd h_ δ,trivial⟩ ?_
 all_goals try ((refine Rg.b1 ?_;intro zZ w_ hB e);have kz:=aE hB C.box.c0;have kz:=aE hB C.box.c1;have kz:=aE hB Q.aK.c0;have kz:=aE hB Q.aK.c1;have kz:=aE hB Q.aK.c2;have kz:=aE hB Q.aK.c3;(go_simp;done))
 ·intro _ zZ w_ hB hr
  have e14:=Rg.t_ (hr 14 δ);have e15:=Rg.t_ (hr 15 δ);have ef:=Rg.ef zZ;refine af rfl τ ?_;exact aI.ret hB (PF.out _ _ _ _ _ (aF.below ox.out hB) (aF.below oz.out hB))
 ·intro _ zZ w_ hB hr
  have e17:=Rg.t_ (hr 17 δ);have e18:=Rg.t_ (hr 18 δ);have ef:=Rg.ef zZ;refine af rfl τ ?_;exact aI.ret hB (PG.out _ _ _ _ _ (aF.below ox.out hB) (aF.below oz.out hB))
 ·intro _ zZ w_ hB hr
  exact ⟨by have:=hB.size;omega,rfl,by first | (go_simp;done) | (go_simp;rfl)⟩
 ·intro _ zZ w_ hB hr
  exact ⟨by have:=hB.size;omega,rfl,by first | (go_simp;done) | (go_simp;rfl)⟩
 intro vals wz hB hv hne;have n6:(Rg.Val.new (wc.heap.size) 116 #[false,.slice none 0 0]).ok (vals 6) wz:=hv 6 δ;have n7:(Rg.Val.new (wc.heap.size) 116 #[false,.slice none 0 0]).ok (vals 7) wz:=hv 7 δ;have n16:(Rg.Val.at (aI (wc.heap.size) (F))).ok (vals 2) wz:=hv 2 δ;have n19:(Rg.Val.at (aI (wc.heap.size) (G))).ok (vals 5) wz:=hv 5 δ;simp only [bD,Rg.fill,Act.put,Nat.reduceAdd];clear hv;have Qk:=hne 6 7 δ δ δ rfl rfl;obtain ⟨g6,Ku,Mt,o6⟩:=n6;replace o6:aG wz g6 116 #[false,.slice none 0 0]:=o6;obtain ⟨g7,Og,Kj,o7⟩:=n7;replace o7:aG wz g7 116 #[false,.slice none 0 0]:=o7;obtain ⟨s16,a16,L_,c16,Kb,v_2,o16⟩:=(cE n16).view;obtain ⟨Mf,M4,MU,c19,Kc,MV,RK⟩:=(cE n19).view;rw [Mt,Kj] at Qk
 have Nu:g6≠g7:=fun e=>Qk (by rw [e])
 simp only [Mt,Kj,v_2,MV];clear Mt Kj v_2 MV;have Po:=Nu.symm
 have XJ:w.heap.size+3<=g6:=ω
 have XK:w.heap.size+3<=g7:=ω
 have RC:w.heap.size<=g6:=ω
 have Tg:w.heap.size<=g7:=ω
 have hc6:w.heap.size≠g6:=ω
 have XC:w.heap.size≠g7:=ω
 have Xd:w.heap.size+1+1≠g6:=ω
 have Xe:w.heap.size+1+1≠g7:=ω
 have V3:aG ((wz.setCell ⟨g6,0,none⟩ (.bool s16)).setCell ⟨g6,1,none⟩ (.slice a16 L_ c16)) g7 116 #[false,.slice none 0 0]:=(o7.other Po _).other Po _;have V:=aG.set2 V3 (.bool Mf) (.slice M4 MU c19);have U:aG ((((wz.setCell ⟨g6,0,none⟩ (.bool s16)).setCell ⟨g6,1,none⟩ (.slice a16 L_ c16)).setCell ⟨g7,0,none⟩ (.bool Mf)).setCell ⟨g7,1,none⟩ (.slice M4 MU c19)) g6 116 #[s16,.slice a16 L_ c16]:=((aG.set2 o6 (.bool s16) (.slice a16 L_ c16)).other Nu _).other Nu _;have oF:=IU (aF.base (aF.bQ (aF.bQ o16 o6 δ (.bool s16) (.slice a16 L_ c16)) V3 δ (.bool Mf) (.slice M4 MU c19)) B.size);have oG:=IU (aF.base (aF.bQ (aF.bQ RK o6 δ (.bool s16) (.slice a16 L_ c16)) V3 δ (.bool Mf) (.slice M4 MU c19)) B.size);replace C:=((C.keep hB).cw hc6 (.bool s16) (.slice a16 L_ c16)).cw XC (.bool Mf) (.slice M4 MU c19);replace R:=((R.keep hB).cw Xd (.bool s16) (.slice a16 L_ c16)).cw Xe (.bool Mf) (.slice M4 MU c19);replace B:Below w w ((((wz.setCell ⟨g6,0,none⟩ (.bool s16)).setCell ⟨g6,1,none⟩ (.slice a16 L_ c16)).setCell ⟨g7,0,none⟩ (.bool Mf)).setCell ⟨g7,1,none⟩ (.slice M4 MU c19)):=IW (IW (IW (IW (j_ B hB) RC _) RC _) Tg _) Tg _;have ⟨p0,p1,q0,q1,_⟩:=o6.box;have ⟨p2,p3,q2,q3,_⟩:=o7.box;unfold aV aV aV Oper.wp;go_simp
 clear p0 p1 q0 q1 p2 p3 q2 q3 V3 o6 o7 o16 RK hB Qk Q ox oz Lg Ku Og XJ XK;generalize ((((wz.setCell ⟨g6,0,none⟩ (.bool s16)).setCell ⟨g6,1,none⟩ (.slice a16 L_ c16)).setCell ⟨g7,0,none⟩ (.bool Mf)).setCell ⟨g7,1,none⟩ (.slice M4 MU c19))=wd at *;have f_:=C.box.c0;have i_:=C.box.c1;have Iw:=U.box.c0;have Ix:=U.box.c1;have Ir:=V.box.c0;have Is:=V.box.c1;have KB:=U.box.f0;have KC:=U.box.f1;have KO:=V.box.f0;have KQ:=V.box.f1;have B_:=R.aK.c0;have y_:=R.aK.f0;have C_:=R.aK.c1;have A_:=R.aK.f1;have F_:=R.aK.c2;have IZ:=R.aK.f2;have G_:=R.aK.c3;have Ia:=R.aK.f3;have ND:=Kb;have NF:=Kc;have N8:=aF.len oG.out
 by_cases h0:G=0
 ·have hl:MU=0:=by rw [N8,h0];exact gX.2 rfl
  have hok:fL D F G=false:=by unfold fL;rw [h0];simp
  have hX:=eX.out;have hZ:=eZ.out;rw [hok,if_neg δ] at hX hZ;replace hX:=IU hX;replace hZ:=IU hZ;replace hok:=IU hok;clear N8 h0 hd eX eZ Oe PF PG PM PN Kg Mo NT NU Mz NV LA ML LG Kb Kc ND NF hc6 XC Xd Xe RC Tg;subst hl;go_wp2;exact D_ (v:=.tuple #[.agg #[false,.slice none 0 0,false,.slice none 0 0],false]) results174 ⟨_,_,(by rw [hX.out,hZ.out,hok.out];rfl),(by rw [hX.out];exact iU _ _),(by rw [hZ.out];exact iU _ _),Jk B⟩
 have hlp:¬ MU=0:=fun h=>h0 (gX.1 (by rw [←N8];exact h))
 have hlq:((MU:Int) == 0)=false:=by rw [beq_eq_false_iff_ne];omega
 have hX:=eX.out;have hZ:=eZ.out;have hO:=Oe.out h0;rw [hO] at hX hZ;clear N8 h0 eX eZ Oe PF PG;replace hd:=IU hd
 by_cases hneg:G<0
 ·have hsg:decide (G<0)=true:=decide_eq_true hneg
  rw [if_pos hneg,if_pos hneg] at hX hZ hO
  obtain rfl:Mf=true:=by rw [Kc.out];exact hsg
  have Lz:=LG.out;rw [hsg] at Lz;clear LG Kc NF ND;replace PM:=PM.out;rw [←Kb.out] at PM;replace PM:=IU PM;replace PN:=PN.out;rw [hsg] at PN;replace PN:=IU PN;clear Kg NT Mz LA;replace Mo:=Mo.out;replace NU:=NU.out;replace NV:=NV.out;replace ML:=ML.out;replace PN:=PN.out;replace PM:=PM.out;generalize hs5:decide (-F<0)=s5 at *;generalize hs6:decide (-G<0)=s6 at *;generalize -F % (d:Int)=rF at *;generalize -G % (d:Int)=rG at *;generalize hN:-(F / (d:Int))=N at *;generalize hE:-(G / (d:Int))=E at *;clear hN;clear hE;generalize LP:decide (N<0)=sN at *;generalize Oi:decide (E<0)=sE at *;replace Mo:=IU Mo;replace NU:=IU NU;replace NV:=IU NV;replace ML:=IU ML;replace PM:=IU PM;replace PN:=IU PN;replace LP:=IU LP;replace Oi:=IU Oi;clear Lz hs5 hs6;clear hneg hsg hd
  obtain ⟨MG,hok⟩:∃ q,eA N E=q:=⟨_,rfl⟩
  cases MG
  all_goals
   rw [hok] at hX hZ hO
   first | rw [if_pos rfl] at hX hZ | rw [if_neg δ] at hX hZ
   have hq:=hok;replace hok:=IU hO;replace hq:=IU hq;replace hX:=IU hX;replace hZ:=IU hZ;clear hO
   go_wp2_with (first
    | (go_at_call 192;(with_reducible refine (PM.out _ _ _ oF.out).mono ?_);rintro e w4 ⟨v4,rfl,Iq,hb4⟩;have JX:=B.size;replace ⟨C,R,U,V⟩:=Ip hb4 C R U V;replace oF:=kO oF hb4;replace oG:=kO oG hb4;replace B:=j_ B hb4;obtain ⟨a4,c4,rfl,I1,Ii⟩:=aF.view Iq;clear I1 Ii;have KZ:=IU (aF.base (show aF _ _ _ _ from Iq) JX);clear Iq;(generalize (Wh.a_ (-F).natAbs).length=l4 at *);clear JX;have pU_c0:=U.box.c0;have pU_c1:=U.box.c1;have pU_f0:=U.box.f0;have pU_f1:=U.box.f1;replace oF:=sO oF U δ (.bool s5) (.slice a4 l4 c4);replace oG:=sO oG U δ (.bool s5) (.slice a4 l4 c4);replace KZ:=sO KZ U δ (.bool s5) (.slice a4 l4 c4);replace C:=C.cw hc6 (.bool s5) (.slice a4 l4 c4);replace R:=R.cw Xd (.bool s5) (.slice a4 l4 c4);replace V:=V.cw Po (.bool s5) (.slice a4 l4 c4);replace U:=aG.set2 U (.bool s5) (.slice a4 l4 c4);replace B:=fi B RC (.bool s5) (.slice a4 l4 c4);(replace ⟨f_,i_⟩:=C.b2);(replace ⟨B_,C_,F_,G_,y_,A_,IZ,Ia⟩:=R.I0);(replace ⟨Iw,Ix,KB,KC⟩:=U.Jy);(replace ⟨Ir,Is,KO,KQ⟩:=V.Jy))
    | (go_at_call 192;(with_reducible refine (PN.out _ _ _ oG.out).mono ?_);rintro e w5 ⟨v5,rfl,JU,hb5⟩;have JX:=B.size;replace ⟨C,R,U,V⟩:=Ip hb5 C R U V;replace oF:=kO oF hb5;replace oG:=kO oG hb5;replace KZ:=kO KZ hb5;replace B:=j_ B hb5;obtain ⟨a5,c5,rfl,I1,Ii⟩:=aF.view JU;clear I1 Ii;have Kz:=IU (aF.base (show aF _ _ _ _ from JU) JX);clear JU;(generalize (Wh.a_ (-G).natAbs).length=l5 at *);clear JX;have pV_c0:=V.box.c0;have pV_c1:=V.box.c1;have pV_f0:=V.box.f0;have pV_f1:=V.box.f1;replace oF:=sO oF V δ (.bool s6) (.slice a5 l5 c5);replace oG:=sO oG V δ (.bool s6) (.slice a5 l5 c5);replace KZ:=sO KZ V δ (.bool s6) (.slice a5 l5 c5);replace Kz:=sO Kz V δ (.bool s6) (.slice a5 l5 c5);replace C:=C.cw XC (.bool s6) (.slice a5 l5 c5);replace R:=R.cw Xe (.bool s6) (.slice a5 l5 c5);replace U:=U.cw Nu (.bool s6) (.slice a5 l5 c5);replace V:=aG.set2 V (.bool s6) (.slice a5 l5 c5);replace B:=fi B Tg (.bool s6) (.slice a5 l5 c5);(replace ⟨f_,i_⟩:=C.b2);(replace ⟨B_,C_,F_,G_,y_,A_,IZ,Ia⟩:=R.I0);(replace ⟨Iw,Ix,KB,KC⟩:=U.Jy);(replace ⟨Ir,Is,KO,KQ⟩:=V.Jy))
    | (go_at_call 193;with_reducible refine p_ (Mo.out _ _ _ _ _ KZ.out Kz.out) fun w6 hb6=>?_;replace ⟨C,R,U,V⟩:=Ip hb6 C R U V;replace oF:=kO oF hb6;replace oG:=kO oG hb6;replace KZ:=kO KZ hb6;replace Kz:=kO Kz hb6;replace B:=j_ B hb6;(replace ⟨f_,i_⟩:=C.b2);(replace ⟨B_,C_,F_,G_,y_,A_,IZ,Ia⟩:=R.I0);(replace ⟨Iw,Ix,KB,KC⟩:=U.Jy);(replace ⟨Ir,Is,KO,KQ⟩:=V.Jy))
    | (go_at_call 194;(with_reducible refine (NU.out _ _ _ KZ.out).mono ?_);rintro e w8 ⟨v8,rfl,Jb,It⟩;have JX:=B.size;replace ⟨C,R,U,V⟩:=Ip It C R U V;replace oF:=kO oF It;replace oG:=kO oG It;replace KZ:=kO KZ It;replace Kz:=kO Kz It;replace B:=j_ B It;obtain ⟨a8,c8,rfl,I1,Ii⟩:=aF.view Jb;clear I1 Ii;have on:=IU (aF.base (show aF _ _ _ _ from Jb) JX);clear Jb;(generalize (Wh.a_ N.natAbs).length=ln at *);clear JX;have N_:=aG.new w8 #[sN,.slice a8 ln c8] 116;have b_:=bA w8 (.cells #[sN,.slice a8 ln c8] 116);replace ⟨C,R,U,V⟩:=Ip b_ C R U V;replace oF:=kO oF b_;replace oG:=kO oG b_;replace KZ:=kO KZ b_;replace Kz:=kO Kz b_;replace on:=kO on b_;replace B:=j_ B b_;clear b_;(replace ⟨f_,i_⟩:=C.b2);(replace ⟨B_,C_,F_,G_,y_,A_,IZ,Ia⟩:=R.I0);(replace ⟨Iw,Ix,KB,KC⟩:=U.Jy);(replace ⟨Ir,Is,KO,KQ⟩:=V.Jy);(replace ⟨K8,K9⟩:=N_.b2))
    | (go_at_call 194;(with_reducible refine (NV.out _ _ _ Kz.out).mono ?_);rintro e w9 ⟨v9,rfl,LL,I2⟩;have JX:=B.size;replace ⟨C,R,U,V,N_⟩:=KU I2 C R U V N_;replace oF:=kO oF I2;replace oG:=kO oG I2;replace KZ:=kO KZ I2;replace Kz:=kO Kz I2;replace on:=kO on I2;replace B:=j_ B I2;obtain ⟨a9,c9,rfl,I1,Ii⟩:=aF.view LL;clear I1 Ii;have oe:=IU (aF.base (show aF _ _ _ _ from LL) JX);clear LL;(generalize (Wh.a_ E.natAbs).length=le at *);clear JX;have E_:=aG.new w9 #[sE,.slice a9 le c9] 116;have b_:=bA w9 (.cells #[sE,.slice a9 le c9] 116);replace ⟨C,R,U,V,N_⟩:=KU b_ C R U V N_;replace oF:=kO oF b_;replace oG:=kO oG b_;replace KZ:=kO KZ b_;replace Kz:=kO Kz b_;replace on:=kO on b_;replace oe:=kO oe b_;replace B:=j_ B b_;clear b_;(replace ⟨f_,i_⟩:=C.b2);(replace ⟨B_,C_,F_,G_,y_,A_,IZ,Ia⟩:=R.I0);(replace ⟨Iw,Ix,KB,KC⟩:=U.Jy);(replace ⟨Ir,Is,KO,KQ⟩:=V.Jy);(replace ⟨K8,K9⟩:=N_.b2);(replace ⟨Mv,Mw⟩:=E_.b2);have O:=aG.new (w9.alloc (.cells #[sE,.slice a9 le c9] 116)) #[sN,.slice a8 ln c8,sE,.slice a9 le c9] 174;have b_:=bA (w9.alloc (.cells #[sE,.slice a9 le c9] 116)) (.cells #[sN,.slice a8 ln c8,sE,.slice a9 le c9] 174);replace ⟨C,R,U,V,N_,E_⟩:=RH b_ C R U V N_ E_;replace oF:=kO oF b_;replace oG:=kO oG b_;replace KZ:=kO KZ b_;replace Kz:=kO Kz b_;replace on:=kO on b_;replace oe:=kO oe b_;replace B:=j_ B b_;clear b_;(rw [IV] at O))
    | (go_at_call 195;with_reducible refine p_ (ML.out _ _ _ _ _ on.out oe.out) fun TB I6=>?_;(simp only [hq.out]);replace ⟨C,R,U,V,N_,E_,O⟩:=YO I6 C R U V N_ E_ O;replace oF:=kO oF I6;replace oG:=kO oG I6;replace KZ:=kO KZ I6;replace Kz:=kO Kz I6;replace on:=kO on I6;replace oe:=kO oe I6;replace B:=j_ B I6;(replace ⟨f_,i_⟩:=C.b2);(replace ⟨B_,C_,F_,G_,y_,A_,IZ,Ia⟩:=R.I0);(replace ⟨Iw,Ix⟩:=U.b2);(replace ⟨Ir,Is⟩:=V.b2);(replace ⟨K8,K9⟩:=N_.b2);(replace ⟨Mv,Mw⟩:=E_.b2);(replace ⟨KJ,KL,KM,KN⟩:=O.b4)))
  ·exact D_ (v:=.tuple #[.agg #[false,.slice none 0 0,false,.slice none 0 0],false]) results174 ⟨_,_,(by rw [hX.out,hZ.out,hok.out];rfl),(by rw [hX.out];exact iU _ _),(by rw [hZ.out];exact iU _ _),Jk B⟩
  have hr1:=aF.base (aF.du on.out R δ (.bool sN) (.slice a8 ln c8) (.bool sE) (.slice a9 le c9)) (base':=w.heap.size) (IY _);have hr2:=aF.base (aF.du oe.out R δ (.bool sN) (.slice a8 ln c8) (.bool sE) (.slice a9 le c9)) (base':=w.heap.size) (IY _);exact D_ (v:=.tuple #[.agg #[sN,.slice a8 ln c8,sE,.slice a9 le c9],true]) results174 ⟨_,_,(by rw [hX.out,hZ.out,hok.out,LP.out,Oi.out]),(by rw [hX.out];exact hr1),(by rw [hZ.out];exact hr2),Jk B⟩
 have hsg:decide (G<0)=false:=decide_eq_false hneg;rw [if_neg hneg,if_neg hneg] at hX hZ hO
 obtain rfl:Mf=false:=by rw [Kc.out];exact hsg
 have Lz:=LG.out;rw [hsg] at Lz;clear LG Kc NF ND;clear PM PN Mo NU NV ML;replace Kg:=Kg.out;replace NT:=NT.out;replace Mz:=Mz.out;replace LA:=LA.out;simp only [←Kb.out,hsg] at Kg NT;simp only [hsg] at Mz;generalize F % (d:Int)=rF at *;generalize G % (d:Int)=rG at *;generalize hN:F / (d:Int)=N at *;generalize hE:G / (d:Int)=E at *;clear hN;subst hE;simp only [Lz] at Mz LA;generalize hE:G / (d:Int)=E at *;clear hE;generalize LP:decide (N<0)=sN at *
 skip
 replace Kg:=IU Kg;replace NT:=IU NT;replace Mz:=IU Mz;replace LA:=IU LA;replace LP:=IU LP;replace Oi:=IU Lz;clear Lz;clear hneg hsg hd
 obtain ⟨MG,hok⟩:∃ q,eA N E=q:=⟨_,rfl⟩
 cases MG
 all_goals
  rw [hok] at hX hZ hO
  first | rw [if_pos rfl] at hX hZ | rw [if_neg δ] at hX hZ
  have hq:=hok;replace hok:=IU hO;replace hq:=IU hq;replace hX:=IU hX;replace hZ:=IU hZ;clear hO
  go_wp2_with (first
   | (go_at_call 193;with_reducible refine p_ (Kg.out _ _ _ _ _ oF.out oG.out) fun w6 hb6=>?_;replace ⟨C,R,U,V⟩:=Ip hb6 C R U V;replace oF:=kO oF hb6;replace oG:=kO oG hb6;replace B:=j_ B hb6;(replace ⟨f_,i_⟩:=C.b2);(replace ⟨B_,C_,F_,G_,y_,A_,IZ,Ia⟩:=R.I0);(replace ⟨Iw,Ix,KB,KC⟩:=U.Jy);(replace ⟨Ir,Is,KO,KQ⟩:=V.Jy))
   | (go_at_call 194;(with_reducible refine (NT.out _ _ _ oF.out).mono ?_);rintro e w8 ⟨v8,rfl,Jb,It⟩;have JX:=B.size;replace ⟨C,R,U,V⟩:=Ip It C R U V;replace oF:=kO oF It;replace oG:=kO oG It;replace B:=j_ B It;obtain ⟨a8,c8,rfl,I1,Ii⟩:=aF.view Jb;clear I1 Ii;have on:=IU (aF.base (show aF _ _ _ _ from Jb) JX);clear Jb;(generalize (Wh.a_ N.natAbs).length=ln at *);clear JX;have N_:=aG.new w8 #[sN,.slice a8 ln c8] 116;have b_:=bA w8 (.cells #[sN,.slice a8 ln c8] 116);replace ⟨C,R,U,V⟩:=Ip b_ C R U V;replace oF:=kO oF b_;replace oG:=kO oG b_;replace on:=kO on b_;replace B:=j_ B b_;clear b_;(replace ⟨f_,i_⟩:=C.b2);(replace ⟨B_,C_,F_,G_,y_,A_,IZ,Ia⟩:=R.I0);(replace ⟨Iw,Ix,KB,KC⟩:=U.Jy);(replace ⟨Ir,Is,KO,KQ⟩:=V.Jy);(replace ⟨K8,K9⟩:=N_.b2))
   | (go_at_call 194;(with_reducible refine (Mz.out _ _ _ oG.out).mono ?_);rintro e w9 ⟨v9,rfl,LL,I2⟩;have JX:=B.size;replace ⟨C,R,U,V,N_⟩:=KU I2 C R U V N_;replace oF:=kO oF I2;replace oG:=kO oG I2;replace on:=kO on I2;replace B:=j_ B I2;obtain ⟨a9,c9,rfl,I1,Ii⟩:=aF.view LL;clear I1 Ii;have oe:=IU (aF.base (show aF _ _ _ _ from LL) JX);clear LL;(generalize (Wh.a_ E.natAbs).length=le at *);clear JX;have E_:=aG.new w9 #[false,.slice a9 le c9] 116;have b_:=bA w9 (.cells #[false,.slice a9 le c9] 116);replace ⟨C,R,U,V,N_⟩:=KU b_ C R U V N_;replace oF:=kO oF b_;replace oG:=kO oG b_;replace on:=kO on b_;replace oe:=kO oe b_;replace B:=j_ B b_;clear b_;(replace ⟨f_,i_⟩:=C.b2);(replace ⟨B_,C_,F_,G_,y_,A_,IZ,Ia⟩:=R.I0);(replace ⟨Iw,Ix,KB,KC⟩:=U.Jy);(replace ⟨Ir,Is,KO,KQ⟩:=V.Jy);(replace ⟨K8,K9⟩:=N_.b2);(replace ⟨Mv,Mw⟩:=E_.b2);have O:=aG.new (w9.alloc (.cells #[false,.slice a9 le c9] 116)) #[sN,.slice a8 ln c8,false,.slice a9 le c9] 174;have b_:=bA (w9.alloc (.cells #[false,.slice a9 le c9] 116)) (.cells #[sN,.slice a8 ln c8,false,.slice a9 le c9] 174);replace ⟨C,R,U,V,N_,E_⟩:=RH b_ C R U V N_ E_;replace oF:=kO oF b_;replace oG:=kO oG b_;replace on:=kO on b_;replace oe:=kO oe b_;replace B:=j_ B b_;clear b_;(rw [IV] at O))
   | (go_at_call 195;with_reducible refine p_ (LA.out _ _ _ _ _ on.out oe.out) fun TB I6=>?_;(simp only [hq.out]);replace ⟨C,R,U,V,N_,E_,O⟩:=YO I6 C R U V N_ E_ O;replace oF:=kO oF I6;replace oG:=kO oG I6;replace on:=kO on I6;replace oe:=kO oe I6;replace B:=j_ B I6;(replace ⟨f_,i_⟩:=C.b2);(replace ⟨B_,C_,F_,G_,y_,A_,IZ,Ia⟩:=R.I0);(replace ⟨Iw,Ix⟩:=U.b2);(replace ⟨Ir,Is⟩:=V.b2);(replace ⟨K8,K9⟩:=N_.b2);(replace ⟨Mv,Mw⟩:=E_.b2);(replace ⟨KJ,KL,KM,KN⟩:=O.b4)))
 ·exact D_ (v:=.tuple #[.agg #[false,.slice none 0 0,false,.slice none 0 0],false]) results174 ⟨_,_,(by rw [hX.out,hZ.out,hok.out];rfl),(by rw [hX.out];exact iU _ _),(by rw [hZ.out];exact iU _ _),Jk B⟩
 have hr1:=aF.base (aF.du on.out R δ (.bool sN) (.slice a8 ln c8) (.bool false) (.slice a9 le c9)) (base':=w.heap.size) (IY _);have hr2:=aF.base (aF.du oe.out R δ (.bool sN) (.slice a8 ln c8) (.bool false) (.slice a9 le c9)) (base':=w.heap.size) (IY _);exact D_ (v:=.tuple #[.agg #[sN,.slice a8 ln c8,false,.slice a9 le c9],true]) results174 ⟨_,_,(by rw [hX.out,hZ.out,hok.out,LP.out,Oi.out]),(by rw [hX.out];exact hr1),(by rw [hZ.out];exact hr2),Jk B⟩
namespace M
def hM (a b:Int):Int:=max (1+2*a+8*b+a*a) (4*(1+a+b))
def hK (a b d:Int):Int:=max (15+21*a+27*b) (4*d+5*a*a*b+4*a*(3*a*a*a+22*b*b)+12*b*(a*a*a+8*b*b)+(a*(5*a*a*a+32*b*b)+2*b*(13*a*a*a+96*b*b)+3*a*a*(a*a*a+8*b*b)))
def hC (a b:Int):Nat:=Wh.bl (max (hM a.natAbs b.natAbs) (hK a.natAbs b.natAbs (aO a b).natAbs)).toNat
theorem Ij {x y m n k:Int} (hx:0<=x/\x<=m) (hy:0<=y/\y<=n) (hk:m*n<=k):0<=x*y/\x*y<=k:=
 ⟨Int.mul_nonneg hx.1 hy.1,Int.le_trans (Int.mul_le_mul hx.2 hy.2 hy.1 (Int.le_trans hx.1 hx.2)) hk⟩
end M
theorem k9 (a0 b0:Int) (w:World) (hin:ay a0 b0=true) :
  cB 170 #[.agg #[a0,b0]] w (.tuple #[M.hM a0.natAbs b0.natAbs,M.hK a0.natAbs b0.natAbs (aO a0 b0).natAbs]):=by
 obtain ⟨x1,x2,y1,y2⟩:=aW hin;have hdb:=fy hin
 have PC:=fun W=>qb a0 b0 W hin
 clear hin;generalize aO a0 b0=D at *
 obtain ⟨a,ha⟩:∃ a:Int,Hid (a=a0.natAbs):=⟨_,IU rfl⟩
 obtain ⟨b,hb⟩:∃ b:Int,Hid (b=b0.natAbs):=⟨_,IU rfl⟩
 obtain ⟨d,hd⟩:∃ d:Int,Hid (d=D.natAbs):=⟨_,IU rfl⟩
 rw [←ha.out,←hb.out,←hd.out]
 have a1:0<=a/\a<=1000:=by have:=ha.out;omega
 have b1:0<=b/\b<=10000:=by have:=hb.out;omega
 have d1:0<=d/\d<=6700000000:=by have:=hd.out;omega
 obtain ⟨a1,a2⟩:=a1;obtain ⟨b1,b2⟩:=b1;obtain ⟨d1,d2⟩:=d1;have bd1:0<=2*a/\2*a<=2000:=M.Ij (show (0:Int)<=2/\(2:Int)<=2 from ω) (show 0<=a/\a<=1000 from ω) ω;have TU:0<=8*b/\8*b<=80000:=M.Ij (show (0:Int)<=8/\(8:Int)<=8 from ω) (show 0<=b/\b<=10000 from ω) ω;have Rd:0<=a*a/\a*a<=1000000:=M.Ij (show 0<=a/\a<=1000 from ω) (show 0<=a/\a<=1000 from ω) ω;have bd4:0<=4*d/\4*d<=26800000000:=M.Ij (show (0:Int)<=4/\(4:Int)<=4 from ω) (show 0<=d/\d<=6700000000 from ω) ω;have Rn:0<=4*a/\4*a<=4000:=M.Ij (show (0:Int)<=4/\(4:Int)<=4 from ω) (show 0<=a/\a<=1000 from ω) ω;have Rt:0<=4*a*a/\4*a*a<=4000000:=M.Ij Rn (show 0<=a/\a<=1000 from ω) ω;have bd7:0<=4*a*a*b/\4*a*a*b<=40000000000:=M.Ij Rt (show 0<=b/\b<=10000 from ω) ω;have TV:0<=3*a/\3*a<=3000:=M.Ij (show (0:Int)<=3/\(3:Int)<=3 from ω) (show 0<=a/\a<=1000 from ω) ω;have Ru:0<=3*a*a/\3*a*a<=3000000:=M.Ij TV (show 0<=a/\a<=1000 from ω) ω;have Nn:0<=3*a*a*a/\3*a*a*a<=3000000000:=M.Ij Ru (show 0<=a/\a<=1000 from ω) ω;have O7:0<=22*b/\22*b<=220000:=M.Ij (show (0:Int)<=22/\(22:Int)<=22 from ω) (show 0<=b/\b<=10000 from ω) ω;have O8:0<=22*b*b/\22*b*b<=2200000000:=M.Ij O7 (show 0<=b/\b<=10000 from ω) ω;have RX:0<=4*a*(3*a*a*a+22*b*b)/\4*a*(3*a*a*a+22*b*b)<=20800000000000:=M.Ij Rn (show 0<=3*a*a*a+22*b*b/\3*a*a*a+22*b*b<=5200000000 from ω) ω;have O9:0<=12*b/\12*b<=120000:=M.Ij (show (0:Int)<=12/\(12:Int)<=12 from ω) (show 0<=b/\b<=10000 from ω) ω;have O_:0<=a*a*a/\a*a*a<=1000000000:=M.Ij Rd (show 0<=a/\a<=1000 from ω) ω;have RY:0<=8*b*b/\8*b*b<=800000000:=M.Ij TU (show 0<=b/\b<=10000 from ω) ω;have RZ:0<=12*b*(a*a*a+8*b*b)/\12*b*(a*a*a+8*b*b)<=216000000000000:=M.Ij O9 (show 0<=a*a*a+8*b*b/\a*a*a+8*b*b<=1800000000 from ω) ω;have Ra:0<=a*a*b/\a*a*b<=10000000000:=M.Ij Rd (show 0<=b/\b<=10000 from ω) ω;have PJ:0<=5*a/\5*a<=5000:=M.Ij (show (0:Int)<=5/\(5:Int)<=5 from ω) (show 0<=a/\a<=1000 from ω) ω;have Np:0<=5*a*a/\5*a*a<=5000000:=M.Ij PJ (show 0<=a/\a<=1000 from ω) ω;have Rb:0<=5*a*a*a/\5*a*a*a<=5000000000:=M.Ij Np (show 0<=a/\a<=1000 from ω) ω;have Pa:0<=32*b/\32*b<=320000:=M.Ij (show (0:Int)<=32/\(32:Int)<=32 from ω) (show 0<=b/\b<=10000 from ω) ω;have Pb:0<=32*b*b/\32*b*b<=3200000000:=M.Ij Pa (show 0<=b/\b<=10000 from ω) ω;have Pc:0<=a*(5*a*a*a+32*b*b)/\a*(5*a*a*a+32*b*b)<=8200000000000:=M.Ij (show 0<=a/\a<=1000 from ω) (show 0<=5*a*a*a+32*b*b/\5*a*a*a+32*b*b<=8200000000 from ω) ω;have Nq:0<=2*b/\2*b<=20000:=M.Ij (show (0:Int)<=2/\(2:Int)<=2 from ω) (show 0<=b/\b<=10000 from ω) ω;have Pd:0<=13*a/\13*a<=13000:=M.Ij (show (0:Int)<=13/\(13:Int)<=13 from ω) (show 0<=a/\a<=1000 from ω) ω;have Nr:0<=13*a*a/\13*a*a<=13000000:=M.Ij Pd (show 0<=a/\a<=1000 from ω) ω;have Rc:0<=13*a*a*a/\13*a*a*a<=13000000000:=M.Ij Nr (show 0<=a/\a<=1000 from ω) ω;have Pe:0<=96*b/\96*b<=960000:=M.Ij (show (0:Int)<=96/\(96:Int)<=96 from ω) (show 0<=b/\b<=10000 from ω) ω;have Re:0<=96*b*b/\96*b*b<=9600000000:=M.Ij Pe (show 0<=b/\b<=10000 from ω) ω;have U_:0<=2*b*(13*a*a*a+96*b*b)/\2*b*(13*a*a*a+96*b*b)<=452000000000000:=M.Ij Nq (show 0<=13*a*a*a+96*b*b/\13*a*a*a+96*b*b<=22600000000 from ω) ω;have VG:0<=3*a*a*(a*a*a+8*b*b)/\3*a*a*(a*a*a+8*b*b)<=5400000000000000:=M.Ij Ru (show 0<=a*a*a+8*b*b/\a*a*a+8*b*b<=1800000000 from ω) ω;obtain ⟨bd1_1,bd1_2⟩:=bd1;obtain ⟨bd2_1,bd2_2⟩:=TU;obtain ⟨bd3_1,bd3_2⟩:=Rd;obtain ⟨bd4_1,bd4_2⟩:=bd4;obtain ⟨bd5_1,bd5_2⟩:=Rn;obtain ⟨bd6_1,bd6_2⟩:=Rt;obtain ⟨bd7_1,bd7_2⟩:=bd7;obtain ⟨bd8_1,bd8_2⟩:=TV;obtain ⟨bd9_1,bd9_2⟩:=Ru;obtain ⟨UP,UQ⟩:=Nn;obtain ⟨UR,US⟩:=O7;obtain ⟨UT,UU⟩:=O8;obtain ⟨UV,UW⟩:=RX;obtain ⟨UX,UY⟩:=O9;obtain ⟨UZ,Ua⟩:=O_;obtain ⟨Ub,Uc⟩:=RY;obtain ⟨Ud,Ue⟩:=RZ;obtain ⟨Uf,Ug⟩:=Ra;obtain ⟨Uh,Ui⟩:=PJ;obtain ⟨Uj,Uk⟩:=Np;obtain ⟨Ul,Um⟩:=Rb;obtain ⟨Un,Uo⟩:=Pa;obtain ⟨Up,Uq⟩:=Pb;obtain ⟨Ur,Us⟩:=Pc;obtain ⟨Ut,Uu⟩:=Nq;obtain ⟨Uv,Uw⟩:=Pd;obtain ⟨Ux,Uy⟩:=Nr;obtain ⟨Uz,U0⟩:=Rc;obtain ⟨U1,U5⟩:=Pe;obtain ⟨U6,U9⟩:=Re;obtain ⟨VE,VF⟩:=U_;obtain ⟨VH,VI⟩:=VG;have hM:Hid (M.hM a b=max (1+2*a+8*b+a*a) (4*(1+a+b))):=IU rfl;have hK:Hid (M.hK a b d=max (12+16*a+3+5*a+27*b) (4*d+4*a*a*b+4*a*(3*a*a*a+22*b*b)+12*b*(a*a*a+8*b*b)+(a*a*b+a*(5*a*a*a+32*b*b)+2*b*(13*a*a*a+96*b*b)+3*a*a*(a*a*a+8*b*b)))):=IU (by unfold M.hK;congr 1 <;> grind);have mA:=IU (show (if a0 < -a0 then -a0 else a0)=a by have:=ha.out;split <;> omega);have mB:=IU (show (if b0 < -b0 then -b0 else b0)=b by have:=hb.out;split <;> omega);have mD:=IU (show (if D < -D then -D else D)=d by have:=hd.out;split <;> omega);have nA:=IU (show max a0 (-a0)=a by have:=ha.out;omega);have nB:=IU (show max b0 (-b0)=b by have:=hb.out;omega);have nD:=IU (show max D (-D)=d by have:=hd.out;omega)
 skip
 replace PC:=IU PC;obtain ⟨wc,hw3,C,B⟩:=cf w #[a0,b0] 25;go_enter func170,ntmps170
 go_wp2
 go_upto_region 1 with fail
 refine b8 21 [.is (.pointer (some ⟨w,0,none⟩)),.is a0,.is (.pointer (some ⟨w,0,none⟩)),.is a0,.is (-a0:Int),.is a,.is (.pointer (some ⟨w,1,none⟩)),.is b0,.is (.pointer (some ⟨w,1,none⟩)),.is b0,.is (-b0:Int),.is b,.is (.agg #[a0,b0]),.is D,.is (.agg #[a0,b0]),.is D,.is (-D:Int),.is d,.is a,.is b,.is d] κ κ κ ⟨?_,?_,?_,?_,?_,?_,?_,?_,?_,?_,?_,?_,?_,?_,?_,?_,?_,?_,?_,?_,?_,trivial⟩ ?_
 all_goals try ((first | (refine Rg.b1 ?_;intro zZ w_ hB e) | (refine Rg.b2 ?_;intro zZ w_ hB e f));have kz:=aE hB C.box.c0;have kz:=aE hB C.box.c1;have kz:=aE hB C.box.c0;have kz:=aE hB C.box.c1;(first | (go_simp;done) | (go_simp;exact Rg.wo ω) | (go_simp;first | done | (rw [mA.out];done) | (rw [nA.out];done) | (simp only [mA.out];done);done) | (go_simp;first | done | (rw [mB.out];done) | (rw [nB.out];done) | (simp only [mB.out];done);done) | (go_simp;first | done | (rw [mD.out];done) | (rw [nD.out];done) | (simp only [mD.out];done);done)))
 ·refine Rg.o1 ?_;intro zZ w_ hB e
  have ef:=Rg.ef zZ;exact bp rfl γ (PC.out _)
 ·refine Rg.o1 ?_;intro zZ w_ hB e
  have ef:=Rg.ef zZ;exact bp rfl γ (PC.out _)
 intro vals wz hB1 hv hne;have Ys:vals 18=.int .i64 a:=hv 18 δ;have Yt:vals 19=.int .i64 b:=hv 19 δ;have OX:vals 20=.int .i64 d:=hv 20 δ;simp only [bD,Rg.fill,Act.put,Nat.reduceAdd];simp only [Ys,Yt,OX];replace B:=j_ B hB1;unfold aV;go_wp2;go_ret2;exact ⟨by rw [hM.out,hK.out];first | rfl,B⟩
theorem qy (a0 b0:Int) (w:World) (hin:ay a0 b0=true) :
  cB 176 #[.agg #[a0,b0]] w (.tuple #[M.hM a0.natAbs b0.natAbs,M.hK a0.natAbs b0.natAbs (aO a0 b0).natAbs]):=by
 obtain ⟨x1,x2,y1,y2⟩:=aW hin;have hdb:=fy hin
 have PC:=fun W=>pc a0 b0 W hin
 have PA:=fun x W (h1:-9223372036854775807<=x) (h2:x<=9223372036854775807)=>df x W h1 h2
 have PM:=fun x y W=>fE x y W
 generalize aO a0 b0=D at *
 obtain ⟨a,ha⟩:∃ a:Int,Hid (a=a0.natAbs):=⟨_,IU rfl⟩
 obtain ⟨b,hb⟩:∃ b:Int,Hid (b=b0.natAbs):=⟨_,IU rfl⟩
 obtain ⟨d,hd⟩:∃ d:Int,Hid (d=D.natAbs):=⟨_,IU rfl⟩
 rw [←ha.out,←hb.out,←hd.out]
 have a1:0<=a/\a<=1000:=by have:=ha.out;omega
 have b1:0<=b/\b<=10000:=by have:=hb.out;omega
 have d1:0<=d/\d<=6700000000:=by have:=hd.out;omega
 obtain ⟨a1,a2⟩:=a1;obtain ⟨b1,b2⟩:=b1;obtain ⟨d1,d2⟩:=d1;have VJ:0<=2*a/\2*a<=2000:=M.Ij (show (0:Int)<=2/\(2:Int)<=2 from ω) (show 0<=a/\a<=1000 from ω) ω;have Rf:0<=8*b/\8*b<=80000:=M.Ij (show (0:Int)<=8/\(8:Int)<=8 from ω) (show 0<=b/\b<=10000 from ω) ω;have Rh:0<=a*a/\a*a<=1000000:=M.Ij (show 0<=a/\a<=1000 from ω) (show 0<=a/\a<=1000 from ω) ω;have VQ:0<=4*d/\4*d<=26800000000:=M.Ij (show (0:Int)<=4/\(4:Int)<=4 from ω) (show 0<=d/\d<=6700000000 from ω) ω;have Ri:0<=5*a/\5*a<=5000:=M.Ij (show (0:Int)<=5/\(5:Int)<=5 from ω) (show 0<=a/\a<=1000 from ω) ω;have Pf:0<=5*a*a/\5*a*a<=5000000:=M.Ij Ri (show 0<=a/\a<=1000 from ω) ω;have VY:0<=5*a*a*b/\5*a*a*b<=50000000000:=M.Ij Pf (show 0<=b/\b<=10000 from ω) ω;have Rj:0<=4*a/\4*a<=4000:=M.Ij (show (0:Int)<=4/\(4:Int)<=4 from ω) (show 0<=a/\a<=1000 from ω) ω;have Rk:0<=3*a/\3*a<=3000:=M.Ij (show (0:Int)<=3/\(3:Int)<=3 from ω) (show 0<=a/\a<=1000 from ω) ω;have Pg:0<=3*a*a/\3*a*a<=3000000:=M.Ij Rk (show 0<=a/\a<=1000 from ω) ω;have Vh:0<=3*a*a*a/\3*a*a*a<=3000000000:=M.Ij Pg (show 0<=a/\a<=1000 from ω) ω;have Rl:0<=22*b/\22*b<=220000:=M.Ij (show (0:Int)<=22/\(22:Int)<=22 from ω) (show 0<=b/\b<=10000 from ω) ω;have Vm:0<=22*b*b/\22*b*b<=2200000000:=M.Ij Rl (show 0<=b/\b<=10000 from ω) ω;have Vp:0<=4*a*(3*a*a*a+22*b*b)/\4*a*(3*a*a*a+22*b*b)<=20800000000000:=M.Ij Rj (show 0<=3*a*a*a+22*b*b/\3*a*a*a+22*b*b<=5200000000 from ω) ω;have Rm:0<=12*b/\12*b<=120000:=M.Ij (show (0:Int)<=12/\(12:Int)<=12 from ω) (show 0<=b/\b<=10000 from ω) ω;have Vu:0<=a*a*a/\a*a*a<=1000000000:=M.Ij Rh (show 0<=a/\a<=1000 from ω) ω;have Vx:0<=8*b*b/\8*b*b<=800000000:=M.Ij Rf (show 0<=b/\b<=10000 from ω) ω;have V6:0<=12*b*(a*a*a+8*b*b)/\12*b*(a*a*a+8*b*b)<=216000000000000:=M.Ij Rm (show 0<=a*a*a+8*b*b/\a*a*a+8*b*b<=1800000000 from ω) ω;have WA:0<=5*a*a*a/\5*a*a*a<=5000000000:=M.Ij Pf (show 0<=a/\a<=1000 from ω) ω;have Ro:0<=32*b/\32*b<=320000:=M.Ij (show (0:Int)<=32/\(32:Int)<=32 from ω) (show 0<=b/\b<=10000 from ω) ω;have WF:0<=32*b*b/\32*b*b<=3200000000:=M.Ij Ro (show 0<=b/\b<=10000 from ω) ω;have WI:0<=a*(5*a*a*a+32*b*b)/\a*(5*a*a*a+32*b*b)<=8200000000000:=M.Ij (show 0<=a/\a<=1000 from ω) (show 0<=5*a*a*a+32*b*b/\5*a*a*a+32*b*b<=8200000000 from ω) ω;have Rp:0<=2*b/\2*b<=20000:=M.Ij (show (0:Int)<=2/\(2:Int)<=2 from ω) (show 0<=b/\b<=10000 from ω) ω;have Rq:0<=13*a/\13*a<=13000:=M.Ij (show (0:Int)<=13/\(13:Int)<=13 from ω) (show 0<=a/\a<=1000 from ω) ω;have Rr:0<=13*a*a/\13*a*a<=13000000:=M.Ij Rq (show 0<=a/\a<=1000 from ω) ω;have WR:0<=13*a*a*a/\13*a*a*a<=13000000000:=M.Ij Rr (show 0<=a/\a<=1000 from ω) ω;have Rs:0<=96*b/\96*b<=960000:=M.Ij (show (0:Int)<=96/\(96:Int)<=96 from ω) (show 0<=b/\b<=10000 from ω) ω;have WW:0<=96*b*b/\96*b*b<=9600000000:=M.Ij Rs (show 0<=b/\b<=10000 from ω) ω;have WZ:0<=2*b*(13*a*a*a+96*b*b)/\2*b*(13*a*a*a+96*b*b)<=452000000000000:=M.Ij Rp (show 0<=13*a*a*a+96*b*b/\13*a*a*a+96*b*b<=22600000000 from ω) ω;have Wc:0<=3*a*a*(a*a*a+8*b*b)/\3*a*a*(a*a*a+8*b*b)<=5400000000000000:=M.Ij Pg (show 0<=a*a*a+8*b*b/\a*a*a+8*b*b<=1800000000 from ω) ω;obtain ⟨VK,VL⟩:=VJ;obtain ⟨VM,VN⟩:=Rf;obtain ⟨VO,VP⟩:=Rh;obtain ⟨VR,VS⟩:=VQ;obtain ⟨VU,VV⟩:=Ri;obtain ⟨VW,VX⟩:=Pf;obtain ⟨VZ,Va⟩:=VY;obtain ⟨Vb,Vc⟩:=Rj;obtain ⟨Vd,Ve⟩:=Rk;obtain ⟨Vf,Vg⟩:=Pg;obtain ⟨Vi,Vj⟩:=Vh;obtain ⟨Vk,Vl⟩:=Rl;obtain ⟨Vn,Vo⟩:=Vm;obtain ⟨Vq,Vr⟩:=Vp;obtain ⟨Vs,Vt⟩:=Rm;obtain ⟨Vv,Vw⟩:=Vu;obtain ⟨Vy,Vz⟩:=Vx;obtain ⟨V7,V_⟩:=V6;obtain ⟨WB,WC⟩:=WA;obtain ⟨WD,WE⟩:=Ro;obtain ⟨WG,WH⟩:=WF;obtain ⟨WJ,WK⟩:=WI;obtain ⟨WL,WM⟩:=Rp;obtain ⟨WN,WO⟩:=Rq;obtain ⟨WP,WQ⟩:=Rr;obtain ⟨WS,WT⟩:=WR;obtain ⟨WU,WV⟩:=Rs;obtain ⟨WX,WY⟩:=WW;obtain ⟨Wa,Wb⟩:=WZ;obtain ⟨We,Wf⟩:=Wc;have hM:Hid (M.hM a b=max (1+2*a+8*b+a*a) (4*(1+a+b))):=IU rfl;have hK:Hid (M.hK a b d=max (15+21*a+27*b) (4*d+5*a*a*b+4*a*(3*a*a*a+22*b*b)+12*b*(a*a*a+8*b*b)+(a*(5*a*a*a+32*b*b)+2*b*(13*a*a*a+96*b*b)+3*a*a*(a*a*a+8*b*b)))):=IU rfl
 skip
 replace PC:=IU PC;replace PA:=IU PA;replace PM:=IU PM;obtain ⟨wc,hw3,C,B⟩:=cf w #[a0,b0] 25;go_enter func176,ntmps176
 go_wp2
 go_upto_region 1 with fail
 refine b8 12 [.is (.pointer (some ⟨w,0,none⟩)),.is a0,.is a,.is (.pointer (some ⟨w,1,none⟩)),.is b0,.is b,.is (.agg #[a0,b0]),.is D,.is d,.is a,.is b,.is d] κ κ κ ⟨?_,?_,?_,?_,?_,?_,?_,?_,?_,?_,?_,?_,trivial⟩ ?_
 all_goals try ((refine Rg.b1 ?_;intro zZ w_ hB e);have kz:=aE hB C.box.c0;have kz:=aE hB C.box.c1;have kz:=aE hB C.box.c0;have kz:=aE hB C.box.c1;(go_simp;done))
 ·refine Rg.o1 ?_;intro zZ w_ hB e
  have ef:=Rg.ef zZ;refine af rfl τ ?_;refine (PA.out a0 _ ω ω).mono ?_;rintro e w5 ⟨rfl,rfl⟩;exact ⟨_,rfl,(by rw [ha.out];rfl),IX _ _⟩
 ·refine Rg.o1 ?_;intro zZ w_ hB e
  have ef:=Rg.ef zZ;refine af rfl τ ?_;refine (PA.out b0 _ ω ω).mono ?_;rintro e w5 ⟨rfl,rfl⟩;exact ⟨_,rfl,(by rw [hb.out];rfl),IX _ _⟩
 ·refine Rg.o1 ?_;intro zZ w_ hB e
  have ef:=Rg.ef zZ;exact bp rfl γ (PC.out _)
 ·refine Rg.o1 ?_;intro zZ w_ hB e
  have ef:=Rg.ef zZ;refine af rfl τ ?_;refine (PA.out D _ ω ω).mono ?_;rintro e w5 ⟨rfl,rfl⟩;exact ⟨_,rfl,(by rw [hd.out];rfl),IX _ _⟩
 intro vals wz hB1 hv hne;have J9:vals 9=.int .i64 a:=hv 9 δ;have JJ:vals 10=.int .i64 b:=hv 10 δ;have KF:vals 11=.int .i64 d:=hv 11 δ;simp only [bD,Rg.fill,Act.put,Nat.reduceAdd];simp only [J9,JJ,KF];replace B:=j_ B hB1;unfold aV
 go_wp2_with (go_at_call 94;with_reducible refine Id (PM.out _ _ _) ?_)
 go_ret2;exact ⟨by rw [hM.out,hK.out];first | rfl,B⟩
theorem M.ui {a0 b0:Int} (hin:ay a0 b0=true):0<=max (M.hM a0.natAbs b0.natAbs) (M.hK a0.natAbs b0.natAbs (aO a0 b0).natAbs)/\max (M.hM a0.natAbs b0.natAbs) (M.hK a0.natAbs b0.natAbs (aO a0 b0).natAbs)<=100000000000000000:=by
 obtain ⟨x1,x2,y1,y2⟩:=aW hin;have hdb:=fy hin
 obtain ⟨a,ha⟩:∃ a:Int,(a=a0.natAbs):=⟨_,rfl⟩
 obtain ⟨b,hb⟩:∃ b:Int,(b=b0.natAbs):=⟨_,rfl⟩
 obtain ⟨d,hd⟩:∃ d:Int,(d=(aO a0 b0).natAbs):=⟨_,rfl⟩
 rw [←ha,←hb,←hd]
 have a1:0<=a/\a<=1000:=ω
 have b1:0<=b/\b<=10000:=ω
 have d1:0<=d/\d<=6700000000:=ω
 clear ha hb hd hdb x1 x2 y1 y2 hin;have bd1:0<=2*a/\2*a<=2000:=M.Ij (show (0:Int)<=2/\(2:Int)<=2 from ω) (show 0<=a/\a<=1000 from ω) ω;have TU:0<=8*b/\8*b<=80000:=M.Ij (show (0:Int)<=8/\(8:Int)<=8 from ω) (show 0<=b/\b<=10000 from ω) ω;have Rd:0<=a*a/\a*a<=1000000:=M.Ij (show 0<=a/\a<=1000 from ω) (show 0<=a/\a<=1000 from ω) ω;have bd4:0<=4*d/\4*d<=26800000000:=M.Ij (show (0:Int)<=4/\(4:Int)<=4 from ω) (show 0<=d/\d<=6700000000 from ω) ω;have Rn:0<=5*a/\5*a<=5000:=M.Ij (show (0:Int)<=5/\(5:Int)<=5 from ω) (show 0<=a/\a<=1000 from ω) ω;have Rt:0<=5*a*a/\5*a*a<=5000000:=M.Ij Rn (show 0<=a/\a<=1000 from ω) ω;have bd7:0<=5*a*a*b/\5*a*a*b<=50000000000:=M.Ij Rt (show 0<=b/\b<=10000 from ω) ω;have TV:0<=4*a/\4*a<=4000:=M.Ij (show (0:Int)<=4/\(4:Int)<=4 from ω) (show 0<=a/\a<=1000 from ω) ω;have Ru:0<=3*a/\3*a<=3000:=M.Ij (show (0:Int)<=3/\(3:Int)<=3 from ω) (show 0<=a/\a<=1000 from ω) ω;have Nn:0<=3*a*a/\3*a*a<=3000000:=M.Ij Ru (show 0<=a/\a<=1000 from ω) ω;have O7:0<=3*a*a*a/\3*a*a*a<=3000000000:=M.Ij Nn (show 0<=a/\a<=1000 from ω) ω;have O8:0<=22*b/\22*b<=220000:=M.Ij (show (0:Int)<=22/\(22:Int)<=22 from ω) (show 0<=b/\b<=10000 from ω) ω;have RX:0<=22*b*b/\22*b*b<=2200000000:=M.Ij O8 (show 0<=b/\b<=10000 from ω) ω;have O9:0<=4*a*(3*a*a*a+22*b*b)/\4*a*(3*a*a*a+22*b*b)<=20800000000000:=M.Ij TV (show 0<=3*a*a*a+22*b*b/\3*a*a*a+22*b*b<=5200000000 from ω) ω;have O_:0<=12*b/\12*b<=120000:=M.Ij (show (0:Int)<=12/\(12:Int)<=12 from ω) (show 0<=b/\b<=10000 from ω) ω;have RY:0<=a*a*a/\a*a*a<=1000000000:=M.Ij Rd (show 0<=a/\a<=1000 from ω) ω;have RZ:0<=8*b*b/\8*b*b<=800000000:=M.Ij TU (show 0<=b/\b<=10000 from ω) ω;have Ra:0<=12*b*(a*a*a+8*b*b)/\12*b*(a*a*a+8*b*b)<=216000000000000:=M.Ij O_ (show 0<=a*a*a+8*b*b/\a*a*a+8*b*b<=1800000000 from ω) ω;have PJ:0<=5*a*a*a/\5*a*a*a<=5000000000:=M.Ij Rt (show 0<=a/\a<=1000 from ω) ω;have Np:0<=32*b/\32*b<=320000:=M.Ij (show (0:Int)<=32/\(32:Int)<=32 from ω) (show 0<=b/\b<=10000 from ω) ω;have Rb:0<=32*b*b/\32*b*b<=3200000000:=M.Ij Np (show 0<=b/\b<=10000 from ω) ω;have Pa:0<=a*(5*a*a*a+32*b*b)/\a*(5*a*a*a+32*b*b)<=8200000000000:=M.Ij (show 0<=a/\a<=1000 from ω) (show 0<=5*a*a*a+32*b*b/\5*a*a*a+32*b*b<=8200000000 from ω) ω;have Pb:0<=2*b/\2*b<=20000:=M.Ij (show (0:Int)<=2/\(2:Int)<=2 from ω) (show 0<=b/\b<=10000 from ω) ω;have Pc:0<=13*a/\13*a<=13000:=M.Ij (show (0:Int)<=13/\(13:Int)<=13 from ω) (show 0<=a/\a<=1000 from ω) ω;have Nq:0<=13*a*a/\13*a*a<=13000000:=M.Ij Pc (show 0<=a/\a<=1000 from ω) ω;have Pd:0<=13*a*a*a/\13*a*a*a<=13000000000:=M.Ij Nq (show 0<=a/\a<=1000 from ω) ω;have Nr:0<=96*b/\96*b<=960000:=M.Ij (show (0:Int)<=96/\(96:Int)<=96 from ω) (show 0<=b/\b<=10000 from ω) ω;have Rc:0<=96*b*b/\96*b*b<=9600000000:=M.Ij Nr (show 0<=b/\b<=10000 from ω) ω;have Pe:0<=2*b*(13*a*a*a+96*b*b)/\2*b*(13*a*a*a+96*b*b)<=452000000000000:=M.Ij Pb (show 0<=13*a*a*a+96*b*b/\13*a*a*a+96*b*b<=22600000000 from ω) ω;have Re:0<=3*a*a*(a*a*a+8*b*b)/\3*a*a*(a*a*a+8*b*b)<=5400000000000000:=M.Ij Nn (show 0<=a*a*a+8*b*b/\a*a*a+8*b*b<=1800000000 from ω) ω;unfold M.hM M.hK;omega
theorem M.pg {a0 b0:Int} (hin:ay a0 b0=true):M.hC a0 b0<=60:=by
 have h:=ui hin;unfold M.hC Wh.bl;generalize max (M.hM a0.natAbs b0.natAbs) (M.hK a0.natAbs b0.natAbs (aO a0 b0).natAbs)=X at *
 split
 ·omega
 rename_i h0
 have:=(Nat.log2_lt h0 (k:=59)).2 (by
                      have:(2:Nat) ^ 59=576460752303423488:=δ
                      omega)
 omega
theorem jw (a0 b0:Int) (w:World) (hin:ay a0 b0=true) :
  cB 160 #[.agg #[a0,b0]] w (.int .i64 (M.hC a0 b0:Nat)):=by
 have hbd:=ui hin
 have PD:=fun W=>k9 a0 b0 W hin
 have hc:Hid (M.hC a0 b0=Wh.bl (max (M.hM a0.natAbs b0.natAbs) (M.hK a0.natAbs b0.natAbs (aO a0 b0).natAbs)).toNat):=IU rfl;generalize M.hK a0.natAbs b0.natAbs (aO a0 b0).natAbs=k,M.hM a0.natAbs b0.natAbs=m at *
 have hx:max m k=if m<k then k else m:=by split <;> omega
 have PL:=fun W=>Tryz.bits_Len (max m k) W ω ω
 rw [z8 _ ω] at PL;obtain ⟨x1,x2⟩:=hbd;replace PD:=IU PD;replace PL:=IU PL;replace hx:=IU hx;have B:=(IX w w).alloc (IY _) (.cells #[a0,b0] 25);go_enter func160,ntmps160
 go_wp2_with (first
  | (go_at_call 170;with_reducible refine p_ (PD.out _) fun w4 hb4=>?_;replace B:=j_ B hb4)
  | (go_at_call 171;(refine (PL.out _).mono ?_);rintro e w6 ⟨rfl,rfl⟩))
 go_ret;exact ⟨by rw [hc.out];rfl,B⟩
theorem qx (a0 b0:Int) (w:World) (hin:ay a0 b0=true) :
  cB 164 #[.agg #[a0,b0]] w (.int .i64 (M.hC a0 b0:Nat)):=by
 have hbd:=ui hin;have hcb:=pg hin
 have PD:=fun W=>qy a0 b0 W hin
 have hc:Hid (M.hC a0 b0=Wh.bl (max (M.hM a0.natAbs b0.natAbs) (M.hK a0.natAbs b0.natAbs (aO a0 b0).natAbs)).toNat):=IU rfl;rw [hc.out] at hcb;generalize M.hK a0.natAbs b0.natAbs (aO a0 b0).natAbs=k,M.hM a0.natAbs b0.natAbs=m at *
 have PM:=fun W=>fE m k W
 generalize max m k=X at *;obtain ⟨x1,x2⟩:=hbd
 have hxn:X.natAbs=X.toNat:=ω
 have PO:=fun W=>nL X W ω ω
 have PB:=fun v W k (h:aF W k v (Wh.a_ X.natAbs))=>nK X v W k h (Nat.le_trans (dw (k:=5) ω) δ) (by rw [hxn];omega)
 replace hxn:=IU hxn;generalize decide (X<0)=sX at *;replace PD:=IU PD;replace PM:=IU PM;replace PO:=IU PO;replace PB:=IU PB;clear hcb;have B:=(IX w w).alloc (IY _) (.cells #[a0,b0] 25);go_enter func164,ntmps164
 go_wp2_with (first
  | (go_at_call 176;with_reducible refine p_ (PD.out _) fun w4 hb4=>?_;replace B:=j_ B hb4)
  | (go_at_call 94;with_reducible refine Id (PM.out _) ?_)
  | (go_at_call 177;(with_reducible refine (PO.out _).mono ?_);rintro e w6 ⟨v6,rfl,Kx,hb6⟩;have Lf:=(show aF _ _ _ _ from Kx);replace B:=j_ B hb6)
  | (go_at_call 175;with_reducible refine p_ (PB.out _ _ _ Lf) fun w8 It=>?_;replace B:=j_ B It))
 go_ret;exact ⟨by rw [hc.out,←hxn.out];rfl,B⟩
def M.p4 (n:Nat):Int:=3*4 ^ n
theorem M.Dy (n:Nat):M.p4 (n+1)=M.p4 n*4:=by unfold M.p4;rw [Int.pow_succ];omega
theorem M.xG:∀ n:Nat,n<=5->3<=M.p4 n/\M.p4 n<=3072:=δ
theorem xo (n:Nat) (w:World) (hn:n<=5) :
  cP 165 #[.int .i64 (n:Int)] w (.int .i64 (M.p4 n)):=by
 go_enter func165,ntmps165
 go_wp2
 go_loop [0,3] (fun i o=>∃ k:Nat,k<=n/\i=.int .i64 ((n - k:Nat):Int)/\o=.int .i64 (M.p4 k)) (fun i _=>(intOf i).toNat)
 case atStart=>exact ⟨0,Nat.zero_le _,rfl,rfl⟩
 case round=>
 obtain ⟨k,hk,rfl,rfl⟩:=hrel;have hb:=xG k ω;have hs:=IU (Dy k)
 by_cases hlt:k<n
 ·obtain ⟨j,hj⟩:∃ j:Nat,n - k=j+1:=⟨n - k - 1,ω⟩
  have hj2:=IU (show n - (k+1)=j by omega);rw [hj]
  have hjb:(j:Int)<=4:=ω
  clear hj;go_wp2
  go_round
  case rel=>exact ⟨k+1,ω,(by first | (rw [hj2.out];done) | (rw [hj2.out];go_num)),by rw [hs.out]⟩
  case measure=>simp [intOf] <;> omega
 obtain rfl:n=k:=ω
 rw [Nat.sub_self];go_wp2;go_ret;exact ⟨rfl,rfl⟩
end
end Go.Proofs.YtkalaljcbmkbmaaGreat
