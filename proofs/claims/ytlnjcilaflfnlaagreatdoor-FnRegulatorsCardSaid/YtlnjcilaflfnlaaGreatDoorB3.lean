/-
  Joined: contracts, lemmas.
-/
import Derived.Test.YtlnjcilaflfnlaaGreatDoorB2
set_option linter.unusedSimpArgs false
set_option linter.unusedVariables false
set_option maxRecDepth 100000
set_option maxHeartbeats 8000000
namespace Go.Proofs.YtlnjcilaflfnlaaGreatDoor
open _root_.Go.Proofs.Tryz
section
open Go.RowKit open Gr M Rg Rw Wh
theorem Gz (a b x z:Int) (vx vz:Value) (w:World) (bx bz:Nat) (hox:af w bx vx x) (LH:af w bz vz z) (hx:Wh.sz x 1000) (hz:Wh.sz z 1000) (ha1:-1000<=a) (ha2:a<=1000) (hb1:-10000<=b) (hb2:b<=10000) :
  Calls prog 192 #[.agg #[a,b],.agg #[decide (x<0),vx,decide (z<0),vz]] w fun e w'=>∃ sl,e=.returned (.agg #[decide (bB a b x z<0),sl])/\af w' w sl (bB a b x z)/\Below w w w':=by
 obtain ⟨ax,cx,rfl,-,-⟩:=aF.view hox;obtain ⟨az,cz,rfl,-,-⟩:=aF.view LH;have haa:-1000000<=a*a/\a*a<=1000000:=aH (x:=a) (y:=a) (m:=1000) (n:=1000);have mx:=ay hx hx;have mz:=ay hz hz;have mxx:=ay mx mx;have mxz:=ay mx mz;have mt:=ay mxz (bi (n:=2*a) ω ω);have m1:=uU (aL mxx (show 1000+1000+(1000+1000)<=4100 by omega)) (aL mt (show _<=4100 by omega));have n1:=ay hx hz;have n2:=ay n1 mz;have n3:=ay n2 (bi (n:=8*b) ω ω);have m2:=uU (aL m1 (show 4100+1<=4200 by omega)) (aL n3 (show _<=4200 by omega));have mzz:=ay mz mz;have n4:=ay mzz (bi (n:=a*a) ω ω)
 have P0:=fun v W k (h:aF W k v (Wh.a_ (x).natAbs))=>fX (x) v W k h (aR.2 (aL hx ω))
 have P1:=fun v W k (h:aF W k v (Wh.a_ (z).natAbs))=>fX (z) v W k h (aR.2 (aL hz ω))
 have P2:=fun v W k (h:aF W k v (Wh.a_ (x*x).natAbs))=>fX (x*x) v W k h (aR.2 (aL mx ω))
 have P3:=fun v v' W k k' (h:aF W k v (Wh.a_ (x*x).natAbs)) (h':aF W k' v' (Wh.a_ (z*z).natAbs))=>gD (x*x) (z*z) v v' W k k' h h' (aR.2 (aL mx ω)) (aR.2 (aL mz ω))
 have P4:=fun v W k (h:aF W k v (Wh.a_ (x*x*(z*z)).natAbs))=>gK (x*x*(z*z)) (2*a) v W k h (aR.2 (aL mxz ω)) ω ω
 have P5:=fun v v' W k k' (h:aF W k v (Wh.a_ (x*x*(x*x)).natAbs)) (h':aF W k' v' (Wh.a_ (x*x*(z*z)*(2*a)).natAbs))=>sw (x*x*(x*x)) (x*x*(z*z)*(2*a)) v v' W k k' h h' (aR.2 (aL mxx ω)) (aR.2 (aL mt ω))
 have P6:=fun v v' W k k' (h:aF W k v (Wh.a_ (x).natAbs)) (h':aF W k' v' (Wh.a_ (z).natAbs))=>gD (x) (z) v v' W k k' h h' (aR.2 (aL hx ω)) (aR.2 (aL hz ω))
 have P7:=fun v v' W k k' (h:aF W k v (Wh.a_ (x*z).natAbs)) (h':aF W k' v' (Wh.a_ (z*z).natAbs))=>gD (x*z) (z*z) v v' W k k' h h' (aR.2 (aL n1 ω)) (aR.2 (aL mz ω))
 have P8:=fun v W k (h:aF W k v (Wh.a_ (x*z*(z*z)).natAbs))=>gK (x*z*(z*z)) (8*b) v W k h (aR.2 (aL n2 ω)) ω ω
 have P9:=fun v v' W k k' (h:aF W k v (Wh.a_ (x*x*(x*x) - x*x*(z*z)*(2*a)).natAbs)) (h':aF W k' v' (Wh.a_ (x*z*(z*z)*(8*b)).natAbs))=>sw (x*x*(x*x) - x*x*(z*z)*(2*a)) (x*z*(z*z)*(8*b)) v v' W k k' h h' (aR.2 (aL m1 ω)) (aR.2 (aL n3 ω))
 have PA:=fun v W k (h:aF W k v (Wh.a_ (z*z).natAbs))=>fX (z*z) v W k h (aR.2 (aL mz ω))
 have PB:=fun v W k (h:aF W k v (Wh.a_ (z*z*(z*z)).natAbs))=>gK (z*z*(z*z)) (a*a) v W k h (aR.2 (aL mzz ω)) ω ω
 have PC:=fun v v' W k k' (h:aF W k v (Wh.a_ (x*x*(x*x) - x*x*(z*z)*(2*a) - x*z*(z*z)*(8*b)).natAbs)) (h':aF W k' v' (Wh.a_ (z*z*(z*z)*(a*a)).natAbs))=>pD (x*x*(x*x) - x*x*(z*z)*(2*a) - x*z*(z*z)*(8*b)) (z*z*(z*z)*(a*a)) v v' W k k' h h' (aR.2 (aL m2 ω)) (aR.2 (aL n4 ω))
 have hT:=wU a b x z;rw [hT] at PC;generalize bB a b x z=F at *;generalize Wl:x*x*(x*x) - x*x*(z*z)*(2*a) - x*z*(z*z)*(8*b)=S2 at *;generalize Wk:x*x*(x*x) - x*x*(z*z)*(2*a)=S1 at *;generalize hGyb:x*z*(z*z)*(8*b)=yb at *;generalize hGza:z*z*(z*z)*(a*a)=za at *;generalize hGxt:x*x*(z*z)*(2*a)=xt at *;generalize hGy2:x*z*(z*z)=y2 at *;generalize hGzzz:z*z*(z*z)=zzz at *;generalize hGxz2:x*x*(z*z)=xz2 at *;generalize hGxxx:x*x*(x*x)=xxx at *;generalize hGy1:x*z=y1 at *;generalize Wm:x*x=xq at *;generalize Wn:z*z=zq at *;replace P0:=KO P0;replace P1:=KO P1;replace P2:=KO P2;replace P3:=KO P3;replace P4:=KO P4;replace P5:=KO P5;replace P6:=KO P6;replace P7:=KO P7;replace P8:=KO P8;replace P9:=KO P9;replace PA:=KO PA;replace PB:=KO PB;replace PC:=KO PC;generalize hs1:decide (x<0)=s1 at *;replace hs1:=KO hs1.symm;generalize hs2:decide (z<0)=s2 at *;replace hs2:=KO hs2.symm;replace hox:=KO (show aF _ _ _ _ from hox);replace LH:=KO (show aF _ _ _ _ from LH);generalize (Wh.a_ z.natAbs).length=lz,(Wh.a_ x.natAbs).length=lx at *;obtain ⟨w3,hw3,b1,b2,b3,hB⟩:=dF w #[a,b] 24 #[s1,.slice ax lx cx,s2,.slice az lz cz] 162 #[false,.slice none 0 0] 145;have Nc:=KO (aF.below hox.out hB);have Nd:=KO (aF.below LH.out hB)
 have hz3:w3.heap.size=w.heap.size+3:=by rw [←hw3,KQ,iW]
 clear hox LH;have e0:=b2.aI.c0;have e1:=b2.aI.c1;have e2:=b2.aI.c2;have e3:=b2.aI.c3;go_enter func192,ntmps192
 go_wp2
 go_upto_region 1 with fail
 go_cut [5,6] (fun p q wx=>∃ gx gz,w.heap.size+3<=gx/\w.heap.size+3<=gz/\p=.pointer (some ⟨gx,0,none⟩)/\q=.pointer (some ⟨gz,0,none⟩)/\aG wx gx 145 #[s1,.slice ax lx cx]/\aG wx gz 145 #[s2,.slice az lz cz]/\Below (w.heap.size+3) w3 wx)
 case first=>
  go_region
  all_goals
   exact SA
 case rest=>
 obtain ⟨gx,gz,hgx,hgz,rfl,rfl,X,Z,hbx⟩:=hcut;rw [←hz3] at hbx;have ox:=KO (aF.below Nc.out hbx);have oz:=KO (aF.below Nd.out hbx);have C:=b1.keep hbx;have R:=b3.keep hbx;have hw:=p_ hB hbx
 have Nz:w.heap.size+3<=wc.heap.size:=by have:=hbx.size;omega
 clear hz3
 go_upto_region 2 with fail
 refine be 6 [.is (.agg #[s1,.slice ax lx cx]),.at (aK (wc.heap.size) (xq)),.is (.agg #[s2,.slice az lz cz]),.at (aK (wc.heap.size) (zq)),.new (wc.heap.size) 145 #[false,.slice none 0 0],.new (wc.heap.size) 145 #[false,.slice none 0 0]] κ κ κ ⟨?_,?_,?_,?_,?_,?_,fun h_=>absurd h_ δ,fun h_=>absurd h_ δ,trivial⟩ ?_
 all_goals try ((refine Rg.b1 ?_;intro zZ w_ hB e);have kz:=aE hB X.box.c0;have kz:=aE hB X.box.c1;have kz:=aE hB Z.box.c0;have kz:=aE hB Z.box.c1;(go_simp;done))
 ·refine Rg.o1 ?_;intro zZ w_ hB e
  have ef:=Rg.ef zZ;refine aj rfl τ ?_;exact aK.ret hB (P0.out _ _ _ (aF.below ox.out hB))
 ·refine Rg.o1 ?_;intro zZ w_ hB e
  have ef:=Rg.ef zZ;refine aj rfl τ ?_;exact aK.ret hB (P1.out _ _ _ (aF.below oz.out hB))
 ·exact M4
 ·exact M4
 intro vals wz hB hv hne;have n7:(Rg.Val.new (wc.heap.size) 145 #[false,.slice none 0 0]).ok (vals 4) wz:=hv 4 δ;have n8:(Rg.Val.new (wc.heap.size) 145 #[false,.slice none 0 0]).ok (vals 5) wz:=hv 5 δ;have n15:(Rg.Val.at (aK (wc.heap.size) (xq))).ok (vals 1) wz:=hv 1 δ;have n17:(Rg.Val.at (aK (wc.heap.size) (zq))).ok (vals 3) wz:=hv 3 δ;simp only [bD,Rg.fill,Act.put,Nat.reduceAdd];have UM:=hne 4 5 δ δ δ rfl rfl;obtain ⟨g7,SP,Pg,o7⟩:=n7;replace o7:aG wz g7 145 #[false,.slice none 0 0]:=o7;obtain ⟨g8,Th,Ow,o8⟩:=n8;replace o8:aG wz g8 145 #[false,.slice none 0 0]:=o8;obtain ⟨s15,QH,QZ,c15,RZ,v_1,Vf⟩:=(cX n15).view;obtain ⟨Qb,a17,Qa,c17,QU,v_3,o17⟩:=(cX n17).view;rw [Pg,Ow] at UM
 have RI:g7≠g8:=fun e=>UM (by rw [e])
 simp only [Pg,Ow,v_1,v_3];have TN:=RI.symm;have hB2:Below wc wc ((((wz.setCell ⟨g7,0,none⟩ (.bool s15)).setCell ⟨g7,1,none⟩ (.slice QH QZ c15)).setCell ⟨g8,0,none⟩ (.bool Qb)).setCell ⟨g8,1,none⟩ (.slice a17 Qa c17)):=KR (KR (KR (KR hB SP _) SP _) Th _) Th _;have V8:aG ((wz.setCell ⟨g7,0,none⟩ (.bool s15)).setCell ⟨g7,1,none⟩ (.slice QH QZ c15)) g8 145 #[false,.slice none 0 0]:=(o8.other TN _).other TN _;have U8:=aG.set2 V8 (.bool Qb) (.slice a17 Qa c17);have U7:aG ((((wz.setCell ⟨g7,0,none⟩ (.bool s15)).setCell ⟨g7,1,none⟩ (.slice QH QZ c15)).setCell ⟨g8,0,none⟩ (.bool Qb)).setCell ⟨g8,1,none⟩ (.slice a17 Qa c17)) g7 145 #[s15,.slice QH QZ c15]:=((aG.set2 o7 (.bool s15) (.slice QH QZ c15)).other RI _).other RI _;have oq:=KO (aF.bV (aF.bV Vf o7 δ (.bool s15) (.slice QH QZ c15)) V8 δ (.bool Qb) (.slice a17 Qa c17));have or:=KO (aF.bV (aF.bV o17 o7 δ (.bool s15) (.slice QH QZ c15)) V8 δ (.bool Qb) (.slice a17 Qa c17));have ⟨c0,c1,f0,f1,_⟩:=o7.box;have ⟨c2,c3,f2,f3,_⟩:=o8.box;unfold aU aU aU Oper.wp;go_simp
 clear c0 c1 f0 f1 c2 c3 f2 f3 o7 o8 Vf o17 V8 RI TN UM;generalize ((((wz.setCell ⟨g7,0,none⟩ (.bool s15)).setCell ⟨g7,1,none⟩ (.slice QH QZ c15)).setCell ⟨g8,0,none⟩ (.bool Qb)).setCell ⟨g8,1,none⟩ (.slice a17 Qa c17))=wd at *;replace ⟨X,Z,C,R⟩:=Kl hB2 X Z C R;replace ox:=KO (aF.below ox.out hB2);replace oz:=KO (aF.below oz.out hB2);have hgd:g8<wd.heap.size:=U8.lt;replace hw:=p_ hw hB2;have O9:wc.heap.size<=wd.heap.size:=hB2.size
 go_upto_region 3 with fail
 refine be 11 [.is (.agg #[s15,.slice QH QZ c15]),.at (aK (wd.heap.size) (xxx)),.is (.agg #[s15,.slice QH QZ c15]),.is (.agg #[Qb,.slice a17 Qa c17]),.at (aK (wd.heap.size) (xz2)),.is (.pointer (some ⟨w,0,none⟩)),.is a,.is (2*a:Int),.at (aK (wd.heap.size) (xt)),.at (aK (wd.heap.size) (S1)),.new (wd.heap.size) 145 #[false,.slice none 0 0]] κ κ κ ⟨?_,?_,?_,?_,?_,?_,?_,?_,?_,?_,?_,fun h_=>absurd h_ δ,trivial⟩ ?_
 all_goals try ((refine Rg.b1 ?_;intro zZ w_ hB e);have kz:=aE hB U7.box.c0;have kz:=aE hB U7.box.c1;have kz:=aE hB U8.box.c0;have kz:=aE hB U8.box.c1;have kz:=aE hB C.box.c0;have ec:=Rg.ec zZ;(first | (go_simp;done) | (go_simp;exact Rg.wo ω)))
 ·refine Rg.o1 ?_;intro zZ w_ hB e
  have ef:=Rg.ef zZ;refine aj rfl τ ?_;rw [RZ.out];exact aK.ret hB (P2.out _ _ _ (aF.below oq.out hB))
 ·intro _ zZ w_ hB hr
  have e20:=Rg.A_ (hr 20 δ);have e21:=Rg.A_ (hr 21 δ);have ef:=Rg.ef zZ;refine aj rfl τ ?_;rw [RZ.out];rw [QU.out];exact aK.ret hB (P3.out _ _ _ _ _ (aF.below oq.out hB) (aF.below or.out hB))
 ·intro _ zZ w_ hB hr
  obtain ⟨s22,a22,l22,c22,hs22,e22,o22⟩:=aK.get (hr 22 δ);have e25:=Rg.A_ (hr 25 δ);have ef:=Rg.ef zZ;refine aj rfl τ ?_;obtain rfl:=hs22.out;exact aK.ret hB (P4.out _ _ _ o22)
 ·intro _ zZ w_ hB hr
  obtain ⟨Pa,QI,Ou,c19,Mx,e19,Vg⟩:=aK.get (hr 19 δ);obtain ⟨s26,a26,l26,c26,T0,e26,o26⟩:=aK.get (hr 26 δ);have ef:=Rg.ef zZ;refine aj rfl τ ?_;obtain rfl:=Mx.out;obtain rfl:=T0.out;exact aK.ret hB (P5.out _ _ _ _ _ Vg o26)
 ·exact M4
 intro vals wz hB hv hne;have n9:(Rg.Val.new (wd.heap.size) 145 #[false,.slice none 0 0]).ok (vals 10) wz:=hv 10 δ;have n27:(Rg.Val.at (aK (wd.heap.size) (S1))).ok (vals 9) wz:=hv 9 δ;simp only [bD,Rg.fill,Act.put,Nat.reduceAdd];obtain ⟨g9,VV,LG,o9⟩:=n9;replace o9:aG wz g9 145 #[false,.slice none 0 0]:=o9;obtain ⟨UO,a27,UF,TD,T5,MX,o27⟩:=(cX n27).view;simp only [LG,MX];have hB2:Below wd wd ((wz.setCell ⟨g9,0,none⟩ (.bool UO)).setCell ⟨g9,1,none⟩ (.slice a27 UF TD)):=KR (KR hB VV _) VV _;have U:=aG.set2 o9 (.bool UO) (.slice a27 UF TD);have oU:=KO (aF.bV o27 o9 δ (.bool UO) (.slice a27 UF TD));have ⟨c0,c1,f0,f1,_⟩:=o9.box;unfold aU aU Oper.wp;go_simp
 clear c0 c1 f0 f1 o9 o27;generalize ((wz.setCell ⟨g9,0,none⟩ (.bool UO)).setCell ⟨g9,1,none⟩ (.slice a27 UF TD))=we at *;replace ⟨X,Z,C,R,U8⟩:=Lp hB2 X Z C R U8;replace ox:=KO (aF.below ox.out hB2);replace oz:=KO (aF.below oz.out hB2);replace or:=KO (aF.below or.out hB2);replace hw:=p_ hw hB2;have O9:wd.heap.size<=we.heap.size:=hB2.size
 go_upto_region 4 with fail
 clear hB2 hB;refine be 11 [.is (.agg #[UO,.slice a27 UF TD]),.is (.agg #[s1,.slice ax lx cx]),.is (.agg #[s2,.slice az lz cz]),.at (aK (we.heap.size) (y1)),.is (.agg #[Qb,.slice a17 Qa c17]),.at (aK (we.heap.size) (y2)),.is (.pointer (some ⟨w,1,none⟩)),.is b,.is (8*b:Int),.at (aK (we.heap.size) (yb)),.at (aK (we.heap.size) (S2))] κ κ κ ⟨?_,?_,?_,?_,?_,?_,?_,?_,?_,?_,?_,fun h_=>absurd h_ δ,trivial⟩ ?_
 all_goals try ((refine Rg.b1 ?_;intro zZ w_ hB e);have kz:=aE hB U.box.c0;have kz:=aE hB U.box.c1;have kz:=aE hB X.box.c0;have kz:=aE hB X.box.c1;have kz:=aE hB Z.box.c0;have kz:=aE hB Z.box.c1;have kz:=aE hB U8.box.c0;have kz:=aE hB U8.box.c1;have kz:=aE hB C.box.c1;have ec:=Rg.ec zZ;(first | (go_simp;done) | (go_simp;exact Rg.wo ω)))
 ·intro _ zZ w_ hB hr
  have e29:=Rg.A_ (hr 29 δ);have e30:=Rg.A_ (hr 30 δ);have ef:=Rg.ef zZ;refine aj rfl τ ?_;exact aK.ret hB (P6.out _ _ _ _ _ (aF.below ox.out hB) (aF.below oz.out hB))
 ·intro _ zZ w_ hB hr
  obtain ⟨s31,a31,l31,c31,hs31,e31,o31⟩:=aK.get (hr 31 δ);have e32:=Rg.A_ (hr 32 δ);have ef:=Rg.ef zZ;refine aj rfl τ ?_;obtain rfl:=hs31.out;rw [QU.out];exact aK.ret hB (P7.out _ _ _ _ _ o31 (aF.below or.out hB))
 ·intro _ zZ w_ hB hr
  obtain ⟨Rh,a33,Rc,RC,QW,e33,UI⟩:=aK.get (hr 33 δ);have e36:=Rg.A_ (hr 36 δ);have ef:=Rg.ef zZ;refine aj rfl τ ?_;obtain rfl:=QW.out;exact aK.ret hB (P8.out _ _ _ UI)
 ·intro _ zZ w_ hB hr
  have e28:=Rg.A_ (hr 28 δ);obtain ⟨s37,a37,l37,c37,hs37,e37,o37⟩:=aK.get (hr 37 δ);have ef:=Rg.ef zZ;refine aj rfl τ ?_;obtain rfl:=hs37.out;rw [T5.out];exact aK.ret hB (P9.out _ _ _ _ _ (aF.below oU.out hB) o37)
 intro vals wy hB hv hne;have n38:(Rg.Val.at (aK (we.heap.size) (S2))).ok (vals 10) wy:=hv 10 δ;simp only [bD,Rg.fill,Act.put,Nat.reduceAdd];obtain ⟨Ri,a38,Rd,RD,hs38,LG,o38⟩:=(cX n38).view;simp only [LG];have U2:=U.keep hB;have hB2:Below wd we ((wy.setCell ⟨g9,0,none⟩ (.bool Ri)).setCell ⟨g9,1,none⟩ (.slice a38 Rd RD)):=KR (KR (hB.mono O9) VV _) VV _;have oS:=KO (aF.bV o38 U2 δ (.bool Ri) (.slice a38 Rd RD));have U3:=aG.set2 U2 (.bool Ri) (.slice a38 Rd RD)
 have hq8:g8<wd.heap.size/\w.heap.size+1+1<wd.heap.size:=⟨hgd,ω⟩
 have hC9:w.heap.size<wd.heap.size:=ω
 have C5:aG ((wy.setCell ⟨g9,0,none⟩ (.bool Ri)).setCell ⟨g9,1,none⟩ (.slice a38 Rd RD)) w 24 #[a,b]:=((C.keep hB).other ω _).other ω _;have R5:aG ((wy.setCell ⟨g9,0,none⟩ (.bool Ri)).setCell ⟨g9,1,none⟩ (.slice a38 Rd RD)) (w.heap.size+1+1) 145 #[false,.slice none 0 0]:=((R.keep hB).other ω _).other ω _;have Q5:aG ((wy.setCell ⟨g9,0,none⟩ (.bool Ri)).setCell ⟨g9,1,none⟩ (.slice a38 Rd RD)) g8 145 #[Qb,.slice a17 Qa c17]:=((U8.keep hB).other ω _).other ω _;have oq5:=KO (aF.bV (aF.below or.out hB) U2 δ (.bool Ri) (.slice a38 Rd RD));have Vb:=hw.trans (hB2.mono (show w.heap.size<=wd.heap.size by omega));have ⟨c0,c1,f0,f1,_⟩:=U2.box;unfold aU aU Oper.wp;go_simp
 clear c0 c1 f0 f1 U2 hB2 hB;generalize ((wy.setCell ⟨g9,0,none⟩ (.bool Ri)).setCell ⟨g9,1,none⟩ (.slice a38 Rd RD))=wf at *
 go_upto_region 5 with fail
 refine be 10 [.is (.agg #[Ri,.slice a38 Rd RD]),.is (.agg #[Qb,.slice a17 Qa c17]),.at (aK (wf.heap.size) (zzz)),.is (.pointer (some ⟨w,0,none⟩)),.is a,.is (.pointer (some ⟨w,0,none⟩)),.is a,.is (a*a:Int),.at (aK (wf.heap.size) (za)),.at (aK (wf.heap.size) (F))] κ κ κ ⟨?_,?_,?_,?_,?_,?_,?_,?_,?_,?_,fun h_=>absurd h_ δ,trivial⟩ ?_
 all_goals try ((first | (refine Rg.b1 ?_;intro zZ w_ hB e) | (refine Rg.b2 ?_;intro zZ w_ hB e f));have kz:=aE hB U3.box.c0;have kz:=aE hB U3.box.c1;have kz:=aE hB Q5.box.c0;have kz:=aE hB Q5.box.c1;have kz:=aE hB C5.box.c0;(first | (go_simp;done) | (go_simp;exact Rg.wo ω)))
 ·refine Rg.o1 ?_;intro zZ w_ hB e
  have ef:=Rg.ef zZ;refine aj rfl τ ?_;rw [QU.out];exact aK.ret hB (PA.out _ _ _ (aF.below oq5.out hB))
 ·intro _ zZ w_ hB hr
  obtain ⟨Ob,a41,OY,OI,Ra,e41,o41⟩:=aK.get (hr 41 δ);have e46:=Rg.A_ (hr 46 δ);have ef:=Rg.ef zZ;refine aj rfl τ ?_;obtain rfl:=Ra.out;exact aK.ret hB (PB.out _ _ _ o41)
 ·intro _ zZ w_ hB hr
  have e39:=Rg.A_ (hr 39 δ);obtain ⟨s47,a47,l47,c47,hs47,e47,o47⟩:=aK.get (hr 47 δ);have ef:=Rg.ef zZ;refine aj rfl τ ?_;obtain rfl:=hs47.out;rw [hs38.out];exact aK.ret hB (PC.out _ _ _ _ _ (aF.below oS.out hB) o47)
 intro vals wv Wi hv hne;have n48:(Rg.Val.at (aK (wf.heap.size) (F))).ok (vals 9) wv:=hv 9 δ;simp only [bD,Rg.fill,Act.put,Nat.reduceAdd];obtain ⟨Xn,a48,Xb,WY,T7,MX,o48⟩:=(cX n48).view;simp only [MX];replace R:=R5;replace hw:=Vb;have R2:=R.keep Wi;have ⟨c0,c1,f0,f1,_⟩:=R2.box;have hr1:=aF.base (aF.bV o48 R2 δ (.bool Xn) (.slice a48 Xb WY)) (show w.heap.size<=wf.heap.size from hw.size);have hr2:Below w w ((wv.setCell ⟨w.heap.size+1+1,0,none⟩ (.bool Xn)).setCell ⟨w.heap.size+1+1,1,none⟩ (.slice a48 Xb WY)):=KR (KR (p_ hw Wi) (by simp <;> omega) _) (by simp <;> omega) _;unfold aU aU Oper.wp;go_simp
 go_wp2;exact KU (v:=.agg #[Xn,.slice a48 Xb WY]) results192 ⟨_,by rw [T7.out],hr1,hr2⟩
theorem Pi {p:Prop} (h:p:=by
 refine Rg.o1 ?_;intro zZ w_ hB e
 have ef:=Rg.ef zZ;exact bO rfl γ (PC.out _)):p:=h
theorem Z4 {p:Prop} (h:p:=by have ef:=Rg.ef zZ;refine aj rfl τ ?_;exact aK.ret hB (PF.out _ _ _ _ _ (aF.below ox.out hB) (aF.below oz.out hB))):p:=h
theorem Z6 {p:Prop} (h:p:=by have ef:=Rg.ef zZ;refine aj rfl τ ?_;exact aK.ret hB (PG.out _ _ _ _ _ (aF.below ox.out hB) (aF.below oz.out hB))):p:=h
namespace Wh
theorem uW {a b x z:Int} (hx:sz x 1000) (hz:sz z 1000) (ha1:-1000<=a) (ha2:a<=1000) (hb1:-10000<=b) (hb2:b<=10000):sz (bB a b x z) 5000:=by
 have haa:-1000000<=a*a/\a*a<=1000000:=aH (x:=a) (y:=a) (m:=1000) (n:=1000);rw [←wU];have mx:=ay hx hx;have mz:=ay hz hz;have m1:=uU (aL (ay mx mx) (show 1000+1000+(1000+1000)<=4100 by omega)) (aL (ay (ay mx mz) (bi (n:=2*a) ω ω)) (show _<=4100 by omega));have m2:=uU (aL m1 (show 4100+1<=4200 by omega)) (aL (ay (ay (ay hx hz) mz) (bi (n:=8*b) ω ω)) (show _<=4200 by omega));exact aL (kT (aL m2 (show 4200+1<=4300 by omega)) (aL (ay (ay mz mz) (bi (n:=a*a) ω ω)) (show _<=4300 by omega))) ω
theorem uS {a b x z:Int} (hx:sz x 1000) (hz:sz z 1000) (ha1:-1000<=a) (ha2:a<=1000) (hb1:-10000<=b) (hb2:b<=10000):sz (ah a b x z) 6000:=by
 rw [←uo];have m1:=ay hx hx;have m0:=ay hz hz;have m2:=ay m1 hx;have m4:=ay (ay hx m0) (bi (n:=a) ω ω);have m5:=kT (aL m2 (show 1000+1000+1000<=4000 by omega)) (aL m4 (show _<=4000 by omega));have m7:=ay (ay hz m0) (bi (n:=b) ω ω);have m8:=kT (aL m5 (show 4000+1<=4100 by omega)) (aL m7 (show _<=4100 by omega));exact aL (ay (ay hz m8) (bi (n:=4) ω ω)) ω
def Mm (D F G:Int):Nat:=Nat.gcd (Nat.gcd (4*D.natAbs) F.natAbs) G.natAbs
theorem DH (D F G:Int):Nat.gcd (G.natAbs % Nat.gcd (F.natAbs % (4*D.natAbs)) (4*D.natAbs)) (Nat.gcd (F.natAbs % (4*D.natAbs)) (4*D.natAbs))=Mm D F G:=by
 unfold Mm;rw [←Nat.gcd_rec,←Nat.gcd_rec]
theorem vM (n:Nat) (y:Int):M.gcd (n:Int) (y % (n:Int))=(Nat.gcd n y.natAbs:Nat):=by
 unfold M.gcd Int.gcd;rw [Int.natAbs_natCast]
 by_cases hn:n=0
 ·subst hn
  simp
 congr 1
 apply Nat.dvd_antisymm
 ·refine Nat.dvd_gcd (Nat.gcd_dvd_left _ _) ?_
  have h1:(Nat.gcd n (y % (n:Int)).natAbs:Int) ∣ y % (n:Int):=Int.ofNat_dvd_left.2 (Nat.gcd_dvd_right _ _);have h2:(Nat.gcd n (y % (n:Int)).natAbs:Int) ∣ (n:Int):=Int.ofNat_dvd.2 (Nat.gcd_dvd_left _ _)
  have h3:(Nat.gcd n (y % (n:Int)).natAbs:Int) ∣ y:=by
   have h4:=Int.dvd_add h1 (Int.dvd_mul_of_dvd_left (c:=y / (n:Int)) h2)
   rwa [Int.emod_add_mul_ediv] at h4
  exact Int.ofNat_dvd_left.1 h3
 refine Nat.dvd_gcd (Nat.gcd_dvd_left _ _) ?_;have h1:(Nat.gcd n y.natAbs:Int) ∣ y:=Int.ofNat_dvd_left.2 (Nat.gcd_dvd_right _ _);have h2:(Nat.gcd n y.natAbs:Int) ∣ (n:Int):=Int.ofNat_dvd.2 (Nat.gcd_dvd_left _ _)
 have h3:(Nat.gcd n y.natAbs:Int) ∣ y % (n:Int):=by
  rw [Int.emod_def];exact Int.dvd_sub h1 (Int.dvd_mul_of_dvd_left h2)
 exact Int.ofNat_dvd_left.1 h3
theorem FX (D F G:Int):M.gcd (M.gcd (4*(D.natAbs:Int)) (F % (4*(D.natAbs:Int)))) (G % (4*(D.natAbs:Int)))=(Mm D F G:Nat):=by
 have e:(4*(D.natAbs:Int))=((4*D.natAbs:Nat):Int):=ω
 rw [e,vM];unfold Mm;have h:Nat.gcd F.natAbs F.natAbs=F.natAbs:=Nat.gcd_self _;have h1:=vM (4*D.natAbs) G;unfold M.gcd Int.gcd at h1 ⊢;rw [Int.natAbs_natCast] at h1 ⊢
 have h2:Nat.gcd (4*D.natAbs) (G % ((4*D.natAbs:Nat):Int)).natAbs=Nat.gcd (4*D.natAbs) G.natAbs:=ω
 rw [Nat.gcd_comm (4*D.natAbs) F.natAbs,Nat.gcd_assoc,Nat.gcd_assoc,h2]
theorem FW (D F G:Int):Mm D (-F) (-G)=Mm D F G:=by unfold Mm;rw [Int.natAbs_neg,Int.natAbs_neg]
theorem DG {D:Int} (F G:Int) (h:D≠0):1<=Mm D F G/\Mm D F G<=4*D.natAbs:=by
 unfold Mm
 have h0:0<4*D.natAbs:=ω
 have h1:0<Nat.gcd (4*D.natAbs) F.natAbs:=Nat.gcd_pos_of_pos_left _ h0;exact ⟨Nat.gcd_pos_of_pos_left _ h1,Nat.le_trans (Nat.gcd_le_left _ h1) (Nat.gcd_le_left _ h0)⟩
end Wh
theorem qM (a b x z:Int) (vx vz:Value) (w:World) (bx bz:Nat) (hg:M.good a b=true) (hox:af w bx vx x) (LH:af w bz vz z) (hx:Wh.sz x 1000) (hz:Wh.sz z 1000) :
  cB 181 #[.agg #[a,b],.agg #[decide (x<0),vx,decide (z<0),vz]] w (.int .i64 (Wh.Mm (aN a b) (bB a b x z) (ah a b x z):Nat)):=by
 obtain ⟨ax,cx,rfl,-,-⟩:=aF.view hox;obtain ⟨az,cz,rfl,-,-⟩:=aF.view LH;have hin:=ae hg;obtain ⟨ha1,ha2,hb1,hb2⟩:=ag hin;have hdb:=gc hin;have hdn:=jA hg
 have PC:=fun W=>tK a b W hin
 have PF:=fun v v' W k k' (h1:aF W k v (Wh.a_ x.natAbs)) (h2:aF W k' v' (Wh.a_ z.natAbs))=>lP a b x z v v' W k k' h1 h2 hx hz ha1 ha2 hb1 hb2
 have PG:=fun v v' W k k' (h1:aF W k v (Wh.a_ x.natAbs)) (h2:aF W k' v' (Wh.a_ z.natAbs))=>fx a b x z v v' W k k' h1 h2 hx hz ha1 ha2 hb1 hb2
 have sF:=aR.2 (aL (uW hx hz ha1 ha2 hb1 hb2) (show 5000<=9000 by omega));have sG:=aR.2 (aL (uS hx hz ha1 ha2 hb1 hb2) (show 6000<=9000 by omega));have hres:=DH (aN a b) (bB a b x z) (ah a b x z);generalize ah a b x z=G,bB a b x z=F,aN a b=D,Wh.Mm (aN a b) (bB a b x z) (ah a b x z)=RES at *
 have hn1:1<=4*D.natAbs:=ω
 have hn2:4*D.natAbs<=1000000000000:=ω
 have PV:=fun v W k (h:aF W k v (Wh.a_ F.natAbs))=>lN F (4*D.natAbs) v W k h sF hn1 hn2
 have hm1:1<=Nat.gcd (F.natAbs % (4*D.natAbs)) (4*D.natAbs):=Nat.gcd_pos_of_pos_right _ hn1;have hm2:Nat.gcd (F.natAbs % (4*D.natAbs)) (4*D.natAbs)<=1000000000000:=Nat.le_trans (Nat.gcd_le_right _ hn1) hn2
 have PW:=fun v W k (h:aF W k v (Wh.a_ G.natAbs))=>lN G (Nat.gcd (F.natAbs % (4*D.natAbs)) (4*D.natAbs)) v W k h sG hm1 hm2
 rw [hres] at PW
 have hmax:(if 4*D < -4*D then -4*D else 4*D)=((4*D.natAbs:Nat):Int):=by split <;> omega
 have QR:max (4*D) (-4*D)=((4*D.natAbs:Nat):Int):=ω
 clear hn1 hn2 hm1 hm2 hres sF sG ha1 ha2 hb1 hb2 hdn
 have hD1:-6700000000<=D:=ω
 have hD2:D<=6700000000:=ω
 clear hdb;generalize hN:4*D.natAbs=N at *;replace hN:=KO hN;generalize Nat.gcd (F.natAbs % N) N=N2 at *;replace hmax:=KO hmax;replace QR:=KO QR;replace PC:=KO PC;replace PF:=KO PF;replace PG:=KO PG;replace PV:=KO PV;replace PW:=KO PW;generalize hs1:decide (x<0)=s1 at *;generalize hs2:decide (z<0)=s2 at *;clear hs1 hs2;replace hox:=KO (show aF _ _ _ _ from hox);replace LH:=KO (show aF _ _ _ _ from LH);generalize (Wh.a_ z.natAbs).length=lz,(Wh.a_ x.natAbs).length=lx at *;obtain ⟨wc,hw3,b1,b2,hB⟩:=dQ w #[a,b] 24 #[s1,.slice ax lx cx,s2,.slice az lz cz] 162;have ox:=KO (aF.below hox.out hB);have oz:=KO (aF.below LH.out hB);clear hox LH;go_enter func181,ntmps181
 go_wp2
 go_upto_region 1 with fail
 refine be 8 [.is (.agg #[a,b]),.is D,.is (4*D:Int),.is (.agg #[a,b]),.is D,.is ((-4)*D:Int),.is (.int .i64 ((N:Nat):Int)),.is (.int .i64 ((N:Nat):Int))] κ κ κ ⟨?_,?_,?_,?_,?_,?_,?_,?_,trivial⟩ ?_
 all_goals try ((first | (refine Rg.b1 ?_;intro zZ w_ hB e) | (refine Rg.b2 ?_;intro zZ w_ hB e f));have kz:=aE hB b1.box.c0;have kz:=aE hB b1.box.c1;have ec:=Rg.ec zZ;(first | (go_simp;done) | (go_simp;exact Rg.wo ω) | (go_simp;first | done | (rw [hmax.out];done) | (rw [QR.out];done) | (simp only [hmax.out];done);done)))
 ·exact Pi
 ·exact Pi
 intro vals wz hB1 hv hne;have Mi:vals 7=.int .i64 ((N:Nat):Int):=hv 7 δ;simp only [bD,Rg.fill,Act.put,Nat.reduceAdd];clear hv;simp only [Mi];clear Mi;replace ⟨b1,b2⟩:=Kt hB1 b1 b2;replace ox:=KO (aF.below ox.out hB1);replace oz:=KO (aF.below oz.out hB1);have hBw:=p_ hB hB1;unfold aU
 go_upto_region 2 with fail
 clear hB1;refine be 10 [.is (.agg #[a,b]),.is (.agg #[s1,.slice ax lx cx,s2,.slice az lz cz]),.at (aK (wz.heap.size) (G)),.is (.agg #[a,b]),.is (.agg #[s1,.slice ax lx cx,s2,.slice az lz cz]),.at (aK (wz.heap.size) (F)),.is (.int .i64 ((N:Nat):Int)),.is (.int .i64 ((N2:Nat):Int)),.is (.int .i64 ((RES:Nat):Int)),.is (.int .i64 ((RES:Nat):Int))] κ κ κ ⟨?_,?_,?_,?_,?_,?_,?_,?_,?_,?_,trivial⟩ ?_
 all_goals try ((refine Rg.b1 ?_;intro zZ w_ hB e);have kz:=aE hB b1.box.c0;have kz:=aE hB b1.box.c1;have kz:=aE hB b2.aI.c0;have kz:=aE hB b2.aI.c1;have kz:=aE hB b2.aI.c2;have kz:=aE hB b2.aI.c3;(go_simp;done))
 ·intro _ zZ w_ hB hr
  have e13:=Rg.A_ (hr 13 δ);have e14:=Rg.A_ (hr 14 δ);exact Z6
 ·intro _ zZ w_ hB hr
  have e16:=Rg.A_ (hr 16 δ);have e17:=Rg.A_ (hr 17 δ);exact Z4
 ·intro _ zZ w_ hB hr
  obtain ⟨s18,a18,l18,c18,Tw,e18,o18⟩:=aK.get (hr 18 δ);have e19:=Rg.A_ (hr 19 δ);have ef:=Rg.ef zZ;obtain rfl:=Tw.out;exact bO rfl γ (PV.out _ _ _ o18)
 ·intro _ zZ w_ hB hr
  obtain ⟨s15,QH,QZ,c15,RZ,e15,Vf⟩:=aK.get (hr 15 δ);have e20:=Rg.A_ (hr 20 δ);have ef:=Rg.ef zZ;obtain rfl:=RZ.out;exact bO rfl γ (PW.out _ _ _ Vf)
 intro vals wy hB2 hv hne;have MX:vals 9=.int .i64 ((RES:Nat):Int):=hv 9 δ;simp only [bD,Rg.fill,Act.put,Nat.reduceAdd];clear hv;simp only [MX];clear MX;unfold aU;go_wp2;go_ret;exact ⟨rfl,p_ hBw hB2⟩
theorem VG {p:Prop} (h:p:=by exact KU results164 ⟨_,_,rfl,jS _ _,jS _ _,Lv B⟩):p:=h
theorem SH {p:Prop} (h:p:=by first | exact KT _ | omega):p:=h
namespace Wh
def Oj (D F G:Int):Int:=if G<0 then -(F / (Mm D F G:Nat)) else F / (Mm D F G:Nat)
def Oi (D F G:Int):Int:=if G<0 then -(G / (Mm D F G:Nat)) else G / (Mm D F G:Nat)
def fw (D F G:Int):Bool:=decide (G≠0) && ew (Oj D F G) (Oi D F G)
def M8 (D F G:Int):Int:=if fw D F G=true then Oj D F G else 0
def M9 (D F G:Int):Int:=if fw D F G=true then Oi D F G else 0
theorem uT {z:Int} {n:Nat} (h:sz z n) (d:Nat):sz (z / (d:Int)) (n+1):=by
 unfold sz at *;rw [Nat.pow_succ]
 have h1:(z / (d:Int)).natAbs<=z.natAbs+1:=by
  rcases Nat.eq_zero_or_pos d with rfl | hd
  ·simp
  have:=Int.natAbs_ediv_le_natAbs z (d:Int);omega
 have hp:0<10000 ^ n:=Nat.pow_pos δ;omega
theorem iL {z:Int}:(a_ z.natAbs).length=0 ↔ z=0:=by
 rw [List.length_eq_zero_iff,kZ];omega
theorem yh {z:Int} {d:Nat} (hd:1<=d):decide (z / (d:Int)<0)=decide (z<0):=by
 rw [decide_eq_decide]
 constructor
 ·intro h
  rcases Int.lt_or_le z 0 with q | q
  ·exact q
  have:=Int.ediv_nonneg (b:=(d:Int)) q ω;omega
 intro h;exact Int.ediv_neg_of_neg_of_pos h ω
end Wh
theorem jS (w:World) (k:Nat):af w k (.slice none 0 0) 0:=by
 unfold af;rw [show Wh.a_ (0:Int).natAbs=[] from kZ.2 rfl];exact aF.nil _ _
theorem Ah (a b x z:Int) (vx vz:Value) (w:World) (bx bz:Nat) (hg:M.good a b=true) (hox:af w bx vx x) (LH:af w bz vz z) (hx:Wh.sz x 1000) (hz:Wh.sz z 1000) :
  Calls prog 164 #[.agg #[a,b],.agg #[decide (x<0),vx,decide (z<0),vz]] w fun e w'=>∃ v1 v2,e=.returned (.tuple #[.agg #[decide (Wh.M8 (aN a b) (bB a b x z) (ah a b x z)<0),v1,decide (Wh.M9 (aN a b) (bB a b x z) (ah a b x z)<0),v2],fw (aN a b) (bB a b x z) (ah a b x z)])/\af w' w v1 (Wh.M8 (aN a b) (bB a b x z) (ah a b x z))/\af w' w v2 (Wh.M9 (aN a b) (bB a b x z) (ah a b x z))/\Below w w w':=by
 obtain ⟨ax,cx,rfl,-,-⟩:=aF.view hox;obtain ⟨az,cz,rfl,-,-⟩:=aF.view LH;have hin:=ae hg;obtain ⟨ha1,ha2,hb1,hb2⟩:=ag hin;have hdb:=gc hin;have hdn:=jA hg
 have PF:=fun v v' W k k' (h1:aF W k v (Wh.a_ x.natAbs)) (h2:aF W k' v' (Wh.a_ z.natAbs))=>lP a b x z v v' W k k' h1 h2 hx hz ha1 ha2 hb1 hb2
 have PG:=fun v v' W k k' (h1:aF W k v (Wh.a_ x.natAbs)) (h2:aF W k' v' (Wh.a_ z.natAbs))=>fx a b x z v v' W k k' h1 h2 hx hz ha1 ha2 hb1 hb2
 have PD:=fun v v' W k k' (h1:aF W k v (Wh.a_ x.natAbs)) (h2:aF W k' v' (Wh.a_ z.natAbs))=>qM a b x z v v' W k k' hg h1 h2 hx hz
 have zF:=uW hx hz ha1 ha2 hb1 hb2;have zG:=uS hx hz ha1 ha2 hb1 hb2;have hdv:=DG (bB a b x z) (ah a b x z) hdn;generalize ah a b x z=G,bB a b x z=F,aN a b=D at *;clear hin hg ha1 ha2 hb1 hb2 hdn hx hz
 obtain ⟨d,hd⟩:∃ d,Hid (Wh.Mm D F G=d):=⟨_,KO rfl⟩
 rw [hd.out] at hdv PD;have hd1:1<=d:=hdv.1
 have hd2:d<=1000000000000:=ω
 clear hdv hdb;have sF:=aR.2 (aL zF (show 5000<=9000 by omega));have sG:=aR.2 (aL zG (show 6000<=9000 by omega));have zN:=uT zF d;have zE:=uT zG d;have sN:=aR.2 (aL zN (show 5000+1<=9000 by omega));have sE:=aR.2 (aL zE (show 6000+1<=9000 by omega))
 have PQ:=fun v W k (h:aF W k v (Wh.a_ F.natAbs))=>lX F (d:Int) v W k h sF ω ω
 have PR:=fun v W k (h:aF W k v (Wh.a_ G.natAbs))=>lX G (d:Int) v W k h sG ω ω
 generalize hs1:decide (x<0)=s1 at *;generalize hs2:decide (z<0)=s2 at *;clear hs1 hs2;replace hox:=KO (show aF _ _ _ _ from hox);replace LH:=KO (show aF _ _ _ _ from LH);generalize (Wh.a_ z.natAbs).length=lz,(Wh.a_ x.natAbs).length=lx at *;obtain ⟨wc,hw3,C,Q,R,B⟩:=dF w #[a,b] 24 #[s1,.slice ax lx cx,s2,.slice az lz cz] 162 #[false,.slice none 0 0,false,.slice none 0 0] 162;have ox:=KO (aF.below hox.out B);have oz:=KO (aF.below LH.out B);clear hox LH;have f_:=C.box.c0;have j_:=C.box.c1;have MI:=Q.aI.c0;have MJ:=Q.aI.c1;have MK:=Q.aI.c2;have ML:=Q.aI.c3;have D_:=R.aI.c0;have F_:=R.aI.c1;have I_:=R.aI.c2;have J_:=R.aI.c3;have B_:=R.aI.f0;have C_:=R.aI.f1;have KV:=R.aI.f2;have KW:=R.aI.f3
 by_cases h0:G=0
 ·subst h0
  have hok:fw D F 0=false:=by unfold fw;simp
  have hX:Wh.M8 D F 0=0:=by unfold Wh.M8;rw [hok];rfl
  have hZ:Wh.M9 D F 0=0:=by unfold Wh.M9;rw [hok];rfl
  rw [hok,hX,hZ];have hl0:(Wh.a_ (0:Int).natAbs).length=0:=iL.2 rfl;have hs0:decide ((0:Int)<0)=false:=rfl;rw [hs0] at PG ⊢;clear hok hX hZ hs0 PF PD PQ PR sF sG zN zE sN sE zF zG hd hd1 hd2;replace PG:=KO PG;go_enter func164,ntmps164
  go_wp2_with ((with_reducible refine (PG.out _ _ _ _ _ ox.out oz.out).mono ?_);rintro e w4 ⟨v4,rfl,Ks,hb4⟩;have La:=B.size;replace ⟨C,Q,R⟩:=Ky hb4 C Q R;replace ox:=kO ox hb4;replace oz:=kO oz hb4;replace B:=p_ B hb4;obtain ⟨a4,c4,rfl,K7,Ke⟩:=aF.view Ks;clear K7 Ke;have og:=KO (aF.base (show aF _ _ _ _ from Ks) La);clear Ks;clear La;(rw [hl0] at og ⊢);have T:=aG.new w4 #[false,.slice a4 0 c4] 145;have b_:=bA w4 (.cells #[false,.slice a4 0 c4] 145);replace ⟨C,Q,R⟩:=Ky b_ C Q R;replace ox:=kO ox b_;replace oz:=kO oz b_;replace og:=kO og b_;replace B:=p_ B b_;clear b_;(replace ⟨f_,j_⟩:=C.b2);(replace ⟨MI,MJ,MK,ML⟩:=Q.b4);(replace ⟨D_,F_,I_,J_,B_,C_,KV,KW⟩:=R.LA);(replace ⟨LI,LJ⟩:=T.b2))
  exact VG
 have hlp:¬ (Wh.a_ G.natAbs).length=0:=fun h=>h0 (iL.1 h)
 have hlq:(((Wh.a_ G.natAbs).length:Int) == 0)=false:=by rw [beq_eq_false_iff_ne];omega
 have hne:decide (G≠0)=true:=decide_eq_true h0;have NZ:=yh (z:=G) hd1
 have PN:=fun v W k (h:aF W k v (Wh.a_ (F / (d:Int)).natAbs))=>np (F / (d:Int)) v W k h ω
 have PE:=fun v W k (h:aF W k v (Wh.a_ (G / (d:Int)).natAbs))=>np (G / (d:Int)) v W k h ω
 have Nh:(Wh.a_ (-(F / (d:Int))).natAbs).length<=100000:=by rw [Int.natAbs_neg];omega
 have SU:(Wh.a_ (-(G / (d:Int))).natAbs).length<=100000:=by rw [Int.natAbs_neg];omega
 have NU:=fun v v' W k k' (h:aF W k v (Wh.a_ (F / (d:Int)).natAbs)) (h':aF W k' v' (Wh.a_ (G / (d:Int)).natAbs))=>sJ (F / (d:Int)) (G / (d:Int)) v v' W k k' h h' ω ω
 have Of:=fun v v' W k k' (h:aF W k v (Wh.a_ (-(F / (d:Int))).natAbs)) (h':aF W k' v' (Wh.a_ (-(G / (d:Int))).natAbs))=>sJ (-(F / (d:Int))) (-(G / (d:Int))) v v' W k k' h h' Nh SU
 have SM:fw D F G=ew (if G<0 then -(F / (d:Int)) else F / (d:Int)) (if G<0 then -(G / (d:Int)) else G / (d:Int)):=by unfold fw Wh.Oj Wh.Oi;rw [hd.out,hne];rfl
 have eX:Wh.M8 D F G=if fw D F G=true then (if G<0 then -(F / (d:Int)) else F / (d:Int)) else 0:=by unfold Wh.M8 Wh.Oj;rw [hd.out]
 have eZ:Wh.M9 D F G=if fw D F G=true then (if G<0 then -(G / (d:Int)) else G / (d:Int)) else 0:=by unfold Wh.M9 Wh.Oi;rw [hd.out]
 rw [eX,eZ,SM];clear eX eZ SM Nh SU hne h0 sF sG zN zE sN sE zF zG;generalize F / (d:Int)=N at *;generalize G / (d:Int)=E at *;generalize F % (d:Int)=rF at *;generalize G % (d:Int)=rG at *;generalize decide (F<0)=sF at *;clear hd
 by_cases hneg:G<0
 ·have hsg:decide (G<0)=true:=decide_eq_true hneg
  rw [hsg] at NZ PG;rw [if_pos hneg,if_pos hneg];simp only [hsg,NZ] at PR PE NU;clear NU;generalize Nh:decide (N<0)=sN at *;replace PG:=KO PG;replace PF:=KO PF;replace PD:=KO PD;replace PQ:=KO PQ;replace PR:=KO PR;replace PN:=KO PN;replace PE:=KO PE;replace Of:=KO Of;replace Nh:=KO Nh;replace NZ:=KO NZ;clear hneg hsg hd1 hd2
  obtain ⟨Oa,hok⟩:∃ q,ew (-N) (-E)=q:=⟨_,rfl⟩
  cases Oa
  all_goals
   rw [hok];replace hok:=KO hok
   first | rw [if_pos rfl,if_pos rfl] | rw [if_neg δ,if_neg δ]
   go_enter func164,ntmps164
   go_upto_region 8 with (first
    | ((with_reducible refine (PG.out _ _ _ _ _ ox.out oz.out).mono ?_);rintro e w4 ⟨v4,rfl,Ks,hb4⟩;have La:=B.size;replace ⟨C,Q,R⟩:=Ky hb4 C Q R;replace ox:=kO ox hb4;replace oz:=kO oz hb4;replace B:=p_ B hb4;obtain ⟨a4,c4,rfl,K7,Ke⟩:=aF.view Ks;clear K7 Ke;have og:=KO (aF.base (show aF _ _ _ _ from Ks) La);clear Ks;(generalize (Wh.a_ G.natAbs).length=lg at *);clear La;have T:=aG.new w4 #[true,.slice a4 lg c4] 145;have b_:=bA w4 (.cells #[true,.slice a4 lg c4] 145);replace ⟨C,Q,R⟩:=Ky b_ C Q R;replace ox:=kO ox b_;replace oz:=kO oz b_;replace og:=kO og b_;replace B:=p_ B b_;clear b_;(replace ⟨f_,j_⟩:=C.b2);(replace ⟨MI,MJ,MK,ML⟩:=Q.b4);(replace ⟨D_,F_,I_,J_,B_,C_,KV,KW⟩:=R.LA);(replace ⟨LI,LJ⟩:=T.b2))
    | (with_reducible refine Km (PD.out _ _ _ _ _ ox.out oz.out) fun w6 hb6=>?_;replace ⟨C,Q,R,T⟩:=Kl hb6 C Q R T;replace ox:=kO ox hb6;replace oz:=kO oz hb6;replace og:=kO og hb6;replace B:=p_ B hb6;(replace ⟨f_,j_⟩:=C.b2);(replace ⟨MI,MJ,MK,ML⟩:=Q.b4);(replace ⟨D_,F_,I_,J_,B_,C_,KV,KW⟩:=R.LA);(replace ⟨LI,LJ⟩:=T.b2))
    | ((with_reducible refine (PF.out _ _ _ _ _ ox.out oz.out).mono ?_);rintro e w7 ⟨v7,rfl,Nx,KY⟩;have La:=B.size;replace ⟨C,Q,R,T⟩:=Kl KY C Q R T;replace ox:=kO ox KY;replace oz:=kO oz KY;replace og:=kO og KY;replace B:=p_ B KY;obtain ⟨a7,c7,rfl,K7,Ke⟩:=aF.view Nx;clear K7 Ke;have of:=KO (aF.base (show aF _ _ _ _ from Nx) La);clear Nx;(generalize (Wh.a_ F.natAbs).length=lf at *);clear La;(replace ⟨f_,j_⟩:=C.b2);(replace ⟨MI,MJ,MK,ML⟩:=Q.b4);(replace ⟨D_,F_,I_,J_,B_,C_,KV,KW⟩:=R.LA);(replace ⟨LI,LJ⟩:=T.b2))
    | ((with_reducible refine (PQ.out _ _ _ of.out).mono ?_);rintro e w8 ⟨v8,rfl,Me,Ko⟩;have La:=B.size;replace ⟨C,Q,R,T⟩:=Kl Ko C Q R T;replace ox:=kO ox Ko;replace oz:=kO oz Ko;replace og:=kO og Ko;replace of:=kO of Ko;replace B:=p_ B Ko;obtain ⟨a8,c8,rfl,K7,Ke⟩:=aF.view Me;clear K7 Ke;have on:=KO (aF.base (show aF _ _ _ _ from Me) La);clear Me;(generalize (Wh.a_ N.natAbs).length=ln at *);clear La;have VU:=KO R.lt;have U:=aG.new w8 #[sN,.slice a8 ln c8] 145;have b_:=bA w8 (.cells #[sN,.slice a8 ln c8] 145);replace ⟨C,Q,R,T⟩:=Kl b_ C Q R T;replace ox:=kO ox b_;replace oz:=kO oz b_;replace og:=kO og b_;replace of:=kO of b_;replace on:=kO on b_;replace B:=p_ B b_;clear b_;(replace ⟨f_,j_⟩:=C.b2);(replace ⟨MI,MJ,MK,ML⟩:=Q.b4);(replace ⟨D_,F_,I_,J_,B_,C_,KV,KW⟩:=R.LA);(replace ⟨LI,LJ⟩:=T.b2);(replace ⟨Kz,K4⟩:=U.b2))
    | ((with_reducible refine (PR.out _ _ _ og.out).mono ?_);rintro e w9 ⟨v9,rfl,OS,Kr⟩;have La:=B.size;replace ⟨C,Q,R,T,U⟩:=Lp Kr C Q R T U;replace ox:=kO ox Kr;replace oz:=kO oz Kr;replace og:=kO og Kr;replace of:=kO of Kr;replace on:=kO on Kr;replace B:=p_ B Kr;obtain ⟨a9,c9,rfl,K7,Ke⟩:=aF.view OS;clear K7 Ke;have oe:=KO (aF.base (show aF _ _ _ _ from OS) La);clear OS;(generalize (Wh.a_ E.natAbs).length=le at *);clear La;have V:=aG.new w9 #[true,.slice a9 le c9] 145;have b_:=bA w9 (.cells #[true,.slice a9 le c9] 145);replace ⟨C,Q,R,T,U⟩:=Lp b_ C Q R T U;replace ox:=kO ox b_;replace oz:=kO oz b_;replace og:=kO og b_;replace of:=kO of b_;replace on:=kO on b_;replace oe:=kO oe b_;replace B:=p_ B b_;clear b_;(replace ⟨f_,j_⟩:=C.b2);(replace ⟨MI,MJ,MK,ML⟩:=Q.b4);(replace ⟨D_,F_,I_,J_,B_,C_,KV,KW⟩:=R.LA);(replace ⟨LI,LJ⟩:=T.b2);(replace ⟨Kz,K4,MP,MQ⟩:=U.L_);(replace ⟨Ku,Kv,Mb,Mc⟩:=V.L_)))
   have hUV:w8.heap.size<w9.heap.size:=Nat.lt_of_lt_of_le (by rw [KQ];exact Nat.lt_succ_self _) Kr.size;generalize w9.alloc (.cells #[true,.slice a9 le c9] 145)=wd at *;refine be 4 [.is (.agg #[sN,.slice a8 ln c8]),.at (aK (wd.heap.size) (-N)),.is (.agg #[true,.slice a9 le c9]),.at (aK (wd.heap.size) (-E))] κ κ κ ⟨?_,?_,?_,?_,fun h_=>absurd h_ δ,fun h_=>absurd h_ δ,trivial⟩ ?_
   all_goals try ((refine Rg.b1 ?_;intro zZ w_ hB e);have kz:=aE hB U.box.c0;have kz:=aE hB U.box.c1;have kz:=aE hB V.box.c0;have kz:=aE hB V.box.c1;(go_simp;done))
   ·refine Rg.o1 ?_;intro zZ w_ hB e
    have ef:=Rg.ef zZ;refine aj rfl τ ?_;exact aK.ret hB (PN.out _ _ _ (aF.below on.out hB))
   ·refine Rg.o1 ?_;intro zZ w_ hB e
    have ef:=Rg.ef zZ;refine aj rfl τ ?_;exact aK.ret hB (PE.out _ _ _ (aF.below oe.out hB))
   intro vals wz hB hv hne;have n41:(Rg.Val.at (aK (wd.heap.size) (-N))).ok (vals 1) wz:=hv 1 δ;have n43:(Rg.Val.at (aK (wd.heap.size) (-E))).ok (vals 3) wz:=hv 3 δ;simp only [bD,Rg.fill,Act.put,Nat.reduceAdd];clear hv;obtain ⟨Ob,a41,OY,OI,Ra,v_1,o41⟩:=(cX n41).view;obtain ⟨s43,a43,Pu,Po,XH,v_3,o43⟩:=(cX n43).view;simp only [v_1,v_3];clear v_1 v_3;have U2:=U.keep hB;have V2:=V.keep hB;have R2:=R.keep hB
   have dUV:w8.heap.size≠w9.heap.size:=ω
   have dVU:=dUV.symm;have V3:aG ((wz.setCell ⟨w8,0,none⟩ (.bool Ob)).setCell ⟨w8,1,none⟩ (.slice a41 OY OI)) w9 145 #[true,.slice a9 le c9]:=(V2.other dVU _).other dVU _;have V4:=aG.set2 V3 (.bool s43) (.slice a43 Pu Po);have U4:aG ((((wz.setCell ⟨w8,0,none⟩ (.bool Ob)).setCell ⟨w8,1,none⟩ (.slice a41 OY OI)).setCell ⟨w9,0,none⟩ (.bool s43)).setCell ⟨w9,1,none⟩ (.slice a43 Pu Po)) w8 145 #[Ob,.slice a41 OY OI]:=((aG.set2 U2 (.bool Ob) (.slice a41 OY OI)).other dUV _).other dUV _;have oN:=KO (aF.bV (aF.bV (aF.base o41 B.size) U2 δ (.bool Ob) (.slice a41 OY OI)) V3 δ (.bool s43) (.slice a43 Pu Po));have oE:=KO (aF.bV (aF.bV (aF.base o43 B.size) U2 δ (.bool Ob) (.slice a41 OY OI)) V3 δ (.bool s43) (.slice a43 Pu Po));have hw8:w.heap.size+1+1<w8.heap.size:=VU.out
   have hd9:w.heap.size+1+1≠w9.heap.size:=ω
   have hd8:w.heap.size+1+1≠w8.heap.size:=ω
   have R4:aG ((((wz.setCell ⟨w8,0,none⟩ (.bool Ob)).setCell ⟨w8,1,none⟩ (.slice a41 OY OI)).setCell ⟨w9,0,none⟩ (.bool s43)).setCell ⟨w9,1,none⟩ (.slice a43 Pu Po)) (w.heap.size+1+1) 162 #[false,.slice none 0 0,false,.slice none 0 0]:=(((R2.other hd8 _).other hd8 _).other hd9 _).other hd9 _;have B4:Below w w ((((wz.setCell ⟨w8,0,none⟩ (.bool Ob)).setCell ⟨w8,1,none⟩ (.slice a41 OY OI)).setCell ⟨w9,0,none⟩ (.bool s43)).setCell ⟨w9,1,none⟩ (.slice a43 Pu Po)):=KR (KR (KR (KR (p_ B hB) (by simp <;> omega) _) (by simp <;> omega) _) (by simp <;> omega) _) (by simp <;> omega) _;have ⟨p0,p1,q0,q1,_⟩:=U2.box;have ⟨p2,p3,q2,q3,_⟩:=V2.box;unfold aU aU aU Oper.wp;go_simp
   clear p0 p1 q0 q1 p2 p3 q2 q3 U2 V2 V3 R2 o41 o43 hB U V R C Q T B ox oz og of on oe hd8 hd9 dUV dVU hUV f_ j_ MI MJ MK ML D_ F_ I_ J_ B_ C_ KV KW Kz K4 Ku Kv MP MQ Mb Mc;generalize ((((wz.setCell ⟨w8,0,none⟩ (.bool Ob)).setCell ⟨w8,1,none⟩ (.slice a41 OY OI)).setCell ⟨w9,0,none⟩ (.bool s43)).setCell ⟨w9,1,none⟩ (.slice a43 Pu Po))=wf at *;have PI3:=Of.out;rw [←Ra.out,←XH.out] at PI3;replace PI3:=KO PI3
   rename aG _ w8 _ _=>U
   rename aG _ w9 _ _=>V
   rename aG _ (w.heap.size+1+1) _ _=>R
   rename Below _ _ wf=>B
   have Kz:=U.box.c0;have K4:=U.box.c1;have Ku:=V.box.c0;have Kv:=V.box.c1
   go_wp2_with (go_at_call 184;have O:=aG.new wf #[Ob,.slice a41 OY OI,s43,.slice a43 Pu Po] 162;have b_:=bA wf (.cells #[Ob,.slice a41 OY OI,s43,.slice a43 Pu Po] 162);replace R:=R.keep b_;replace oN:=kO oN b_;replace oE:=kO oE b_;replace B:=p_ B b_;clear b_;with_reducible refine Km (PI3.out _ _ _ _ _ oN.out oE.out) fun X4 LE=>?_;(simp only [hok.out]);replace ⟨R,O⟩:=Kt LE R O;replace oN:=kO oN LE;replace oE:=kO oE LE;replace B:=p_ B LE;(replace ⟨D_,F_,I_,J_,B_,C_,KV,KW⟩:=R.LA);(replace ⟨NP,NQ,NS,NT⟩:=O.b4))
  ·exact VG
  have hr1:=aF.base (aF.eR oN.out R δ (.bool Ob) (.slice a41 OY OI) (.bool s43) (.slice a43 Pu Po)) (base':=w.heap.size) SH;have hr2:=aF.base (aF.eR oE.out R δ (.bool Ob) (.slice a41 OY OI) (.bool s43) (.slice a43 Pu Po)) (base':=w.heap.size) SH;exact KU (v:=.tuple #[.agg #[Ob,.slice a41 OY OI,s43,.slice a43 Pu Po],true]) results164 ⟨_,_,(by rw [Ra.out,XH.out]),hr1,hr2,Lv B⟩
 have hsg:decide (G<0)=false:=decide_eq_false hneg;rw [hsg] at NZ PG;rw [if_neg hneg,if_neg hneg];simp only [hsg,NZ] at PR PE NU;clear Of PN PE;generalize Nh:decide (N<0)=sN at *;replace PG:=KO PG;replace PF:=KO PF;replace PD:=KO PD;replace PQ:=KO PQ;replace PR:=KO PR;replace NU:=KO NU;replace Nh:=KO Nh;replace NZ:=KO NZ;clear hneg hsg hd1 hd2
 obtain ⟨Oa,hok⟩:∃ q,ew (N) (E)=q:=⟨_,rfl⟩
 cases Oa
 all_goals
  rw [hok];replace hok:=KO hok
  first | rw [if_pos rfl,if_pos rfl] | rw [if_neg δ,if_neg δ]
  go_enter func164,ntmps164
  go_wp2_with (first
   | ((with_reducible refine (PG.out _ _ _ _ _ ox.out oz.out).mono ?_);rintro e w4 ⟨v4,rfl,Ks,hb4⟩;have La:=B.size;replace ⟨C,Q,R⟩:=Ky hb4 C Q R;replace ox:=kO ox hb4;replace oz:=kO oz hb4;replace B:=p_ B hb4;obtain ⟨a4,c4,rfl,K7,Ke⟩:=aF.view Ks;clear K7 Ke;have og:=KO (aF.base (show aF _ _ _ _ from Ks) La);clear Ks;(generalize (Wh.a_ G.natAbs).length=lg at *);clear La;have T:=aG.new w4 #[false,.slice a4 lg c4] 145;have b_:=bA w4 (.cells #[false,.slice a4 lg c4] 145);replace ⟨C,Q,R⟩:=Ky b_ C Q R;replace ox:=kO ox b_;replace oz:=kO oz b_;replace og:=kO og b_;replace B:=p_ B b_;clear b_;(replace ⟨f_,j_⟩:=C.b2);(replace ⟨MI,MJ,MK,ML⟩:=Q.b4);(replace ⟨D_,F_,I_,J_,B_,C_,KV,KW⟩:=R.LA);(replace ⟨LI,LJ⟩:=T.b2))
   | (with_reducible refine Km (PD.out _ _ _ _ _ ox.out oz.out) fun w6 hb6=>?_;replace ⟨C,Q,R,T⟩:=Kl hb6 C Q R T;replace ox:=kO ox hb6;replace oz:=kO oz hb6;replace og:=kO og hb6;replace B:=p_ B hb6;(replace ⟨f_,j_⟩:=C.b2);(replace ⟨MI,MJ,MK,ML⟩:=Q.b4);(replace ⟨D_,F_,I_,J_,B_,C_,KV,KW⟩:=R.LA);(replace ⟨LI,LJ⟩:=T.b2))
   | ((with_reducible refine (PF.out _ _ _ _ _ ox.out oz.out).mono ?_);rintro e w7 ⟨v7,rfl,Nx,KY⟩;have La:=B.size;replace ⟨C,Q,R,T⟩:=Kl KY C Q R T;replace ox:=kO ox KY;replace oz:=kO oz KY;replace og:=kO og KY;replace B:=p_ B KY;obtain ⟨a7,c7,rfl,K7,Ke⟩:=aF.view Nx;clear K7 Ke;have of:=KO (aF.base (show aF _ _ _ _ from Nx) La);clear Nx;(generalize (Wh.a_ F.natAbs).length=lf at *);clear La;(replace ⟨f_,j_⟩:=C.b2);(replace ⟨MI,MJ,MK,ML⟩:=Q.b4);(replace ⟨D_,F_,I_,J_,B_,C_,KV,KW⟩:=R.LA);(replace ⟨LI,LJ⟩:=T.b2))
   | ((with_reducible refine (PQ.out _ _ _ of.out).mono ?_);rintro e w8 ⟨v8,rfl,Me,Ko⟩;have La:=B.size;replace ⟨C,Q,R,T⟩:=Kl Ko C Q R T;replace ox:=kO ox Ko;replace oz:=kO oz Ko;replace og:=kO og Ko;replace of:=kO of Ko;replace B:=p_ B Ko;obtain ⟨a8,c8,rfl,K7,Ke⟩:=aF.view Me;clear K7 Ke;have on:=KO (aF.base (show aF _ _ _ _ from Me) La);clear Me;(generalize (Wh.a_ N.natAbs).length=ln at *);clear La;have VU:=KO R.lt;have U:=aG.new w8 #[sN,.slice a8 ln c8] 145;have b_:=bA w8 (.cells #[sN,.slice a8 ln c8] 145);replace ⟨C,Q,R,T⟩:=Kl b_ C Q R T;replace ox:=kO ox b_;replace oz:=kO oz b_;replace og:=kO og b_;replace of:=kO of b_;replace on:=kO on b_;replace B:=p_ B b_;clear b_;(replace ⟨f_,j_⟩:=C.b2);(replace ⟨MI,MJ,MK,ML⟩:=Q.b4);(replace ⟨D_,F_,I_,J_,B_,C_,KV,KW⟩:=R.LA);(replace ⟨LI,LJ⟩:=T.b2);(replace ⟨Kz,K4⟩:=U.b2))
   | ((with_reducible refine (PR.out _ _ _ og.out).mono ?_);rintro e w9 ⟨v9,rfl,OS,Kr⟩;have La:=B.size;replace ⟨C,Q,R,T,U⟩:=Lp Kr C Q R T U;replace ox:=kO ox Kr;replace oz:=kO oz Kr;replace og:=kO og Kr;replace of:=kO of Kr;replace on:=kO on Kr;replace B:=p_ B Kr;obtain ⟨a9,c9,rfl,K7,Ke⟩:=aF.view OS;clear K7 Ke;have oe:=KO (aF.base (show aF _ _ _ _ from OS) La);clear OS;(generalize (Wh.a_ E.natAbs).length=le at *);clear La;have V:=aG.new w9 #[false,.slice a9 le c9] 145;have b_:=bA w9 (.cells #[false,.slice a9 le c9] 145);replace ⟨C,Q,R,T,U⟩:=Lp b_ C Q R T U;replace ox:=kO ox b_;replace oz:=kO oz b_;replace og:=kO og b_;replace of:=kO of b_;replace on:=kO on b_;replace oe:=kO oe b_;replace B:=p_ B b_;clear b_;(replace ⟨f_,j_⟩:=C.b2);(replace ⟨MI,MJ,MK,ML⟩:=Q.b4);(replace ⟨D_,F_,I_,J_,B_,C_,KV,KW⟩:=R.LA);(replace ⟨LI,LJ⟩:=T.b2);(replace ⟨Kz,K4,MP,MQ⟩:=U.L_);(replace ⟨Ku,Kv,Mb,Mc⟩:=V.L_);have O:=aG.new (w9.alloc (.cells #[false,.slice a9 le c9] 145)) #[sN,.slice a8 ln c8,false,.slice a9 le c9] 162;have b_:=bA (w9.alloc (.cells #[false,.slice a9 le c9] 145)) (.cells #[sN,.slice a8 ln c8,false,.slice a9 le c9] 162);replace ⟨C,Q,R,T,U,V⟩:=Ps b_ C Q R T U V;replace ox:=kO ox b_;replace oz:=kO oz b_;replace og:=kO og b_;replace of:=kO of b_;replace on:=kO on b_;replace oe:=kO oe b_;replace B:=p_ B b_;clear b_;(rw [KQ] at O))
   | (with_reducible refine Km (NU.out _ _ _ _ _ on.out oe.out) fun X4 LE=>?_;(simp only [hok.out]);replace ⟨C,Q,R,T,U,V,O⟩:=Qs LE C Q R T U V O;replace ox:=kO ox LE;replace oz:=kO oz LE;replace og:=kO og LE;replace of:=kO of LE;replace on:=kO on LE;replace oe:=kO oe LE;replace B:=p_ B LE;(replace ⟨f_,j_⟩:=C.b2);(replace ⟨MI,MJ,MK,ML⟩:=Q.b4);(replace ⟨D_,F_,I_,J_,B_,C_,KV,KW⟩:=R.LA);(replace ⟨LI,LJ⟩:=T.b2);(replace ⟨Kz,K4⟩:=U.b2);(replace ⟨Ku,Kv⟩:=V.b2);(replace ⟨NP,NQ,NS,NT⟩:=O.b4)))
 ·exact VG
 have hr1:=aF.base (aF.eR on.out R δ (.bool sN) (.slice a8 ln c8) (.bool false) (.slice a9 le c9)) (base':=w.heap.size) SH;have hr2:=aF.base (aF.eR oe.out R δ (.bool sN) (.slice a8 ln c8) (.bool false) (.slice a9 le c9)) (base':=w.heap.size) SH;exact KU (v:=.tuple #[.agg #[sN,.slice a8 ln c8,false,.slice a9 le c9],true]) results164 ⟨_,_,(by rw [Nh.out,NZ.out]),hr1,hr2,Lv B⟩
theorem Ui {p:Prop} (h:p:=by exact KU (v:=.tuple #[.agg #[false,.slice none 0 0,false,.slice none 0 0],false]) results170 ⟨_,_,(by rw [hX.out,hZ.out,hok.out];rfl),(by rw [hX.out];exact jS _ _),(by rw [hZ.out];exact jS _ _),Lv B⟩):p:=h
theorem aG.dE {W:World} {g k:Nat} {T:TypeId} {xs:Array Value} (h:aG W g T xs) (hk:g≠k) (x y:Value):aG ((W.setCell ⟨k,0,none⟩ x).setCell ⟨k,1,none⟩ y) g T xs:=(h.other hk x).other hk y
theorem gT {B:Nat} {w W:World} {k:Nat} (h:Below B w W) (hk:B<=k) (x y:Value):Below B w ((W.setCell ⟨k,0,none⟩ x).setCell ⟨k,1,none⟩ y):=(h.setCell hk x).setCell hk y
theorem aF.len {W:World} {base l c:Nat} {a:Option Addr} {xs:List Int} (h:aF W base (.slice a l c) xs):l=xs.length:=by
 obtain ⟨a',c',e,-,-⟩:=aF.view h;injection e
namespace Wh
theorem Jf (D F G:Int):((Mm D F G:Nat):Int) ∣ F:=Int.ofNat_dvd_left.2 (Nat.dvd_trans (Nat.gcd_dvd_left _ _) (Nat.gcd_dvd_right _ _))
theorem Jg (D F G:Int):((Mm D F G:Nat):Int) ∣ G:=Int.ofNat_dvd_left.2 (Nat.gcd_dvd_right _ _)
end Wh
theorem yM (a b x z:Int) (vx vz:Value) (w:World) (bx bz:Nat) (hg:M.good a b=true) (hox:af w bx vx x) (LH:af w bz vz z) (hx:Wh.sz x 1000) (hz:Wh.sz z 1000) :
  Calls prog 170 #[.agg #[a,b],.agg #[decide (x<0),vx,decide (z<0),vz]] w fun e w'=>∃ v1 v2,e=.returned (.tuple #[.agg #[decide (Wh.M8 (aN a b) (bB a b x z) (ah a b x z)<0),v1,decide (Wh.M9 (aN a b) (bB a b x z) (ah a b x z)<0),v2],fw (aN a b) (bB a b x z) (ah a b x z)])/\af w' w v1 (Wh.M8 (aN a b) (bB a b x z) (ah a b x z))/\af w' w v2 (Wh.M9 (aN a b) (bB a b x z) (ah a b x z))/\Below w w w':=by
 obtain ⟨ax,cx,rfl,-,-⟩:=aF.view hox;obtain ⟨az,cz,rfl,-,-⟩:=aF.view LH;have hin:=ae hg;obtain ⟨ha1,ha2,hb1,hb2⟩:=ag hin;have hdn:=jA hg;have hdb:=gc hin
 have PF:=fun v v' W k k' (h1:aF W k v (Wh.a_ x.natAbs)) (h2:aF W k' v' (Wh.a_ z.natAbs))=>Gz a b x z v v' W k k' h1 h2 hx hz ha1 ha2 hb1 hb2
 have PG:=fun v v' W k k' (h1:aF W k v (Wh.a_ x.natAbs)) (h2:aF W k' v' (Wh.a_ z.natAbs))=>rK a b x z v v' W k k' h1 h2 hx hz ha1 ha2 hb1 hb2
 have zF:=uW hx hz ha1 ha2 hb1 hb2;have zG:=uS hx hz ha1 ha2 hb1 hb2;have hdv:=DG (bB a b x z) (ah a b x z) hdn;have hdF:=Jf (aN a b) (bB a b x z) (ah a b x z);have hdG:=Jg (aN a b) (bB a b x z) (ah a b x z);generalize ah a b x z=G,bB a b x z=F at *;have sF:=aR.2 (aL zF (show 5000<=9000 by omega));have sG:=aR.2 (aL zG (show 6000<=9000 by omega));have zF':=oQ zF;have zG':=oQ zG;have sF':=aR.2 (aL zF' (show 5000<=9000 by omega));have sG':=aR.2 (aL zG' (show 6000<=9000 by omega))
 have PM:=fun v W k (h:aF W k v (Wh.a_ F.natAbs))=>nK F v W k h ω
 have PN:=fun v W k (h:aF W k v (Wh.a_ G.natAbs))=>nK G v W k h ω
 have M7:=fun v v' W k k' (h1:aF W k v (Wh.a_ F.natAbs)) (h2:aF W k' v' (Wh.a_ G.natAbs))=>oy a b F G v v' W k k' hg h1 h2 sF sG
 have Pn:=fun v v' W k k' (h1:aF W k v (Wh.a_ (-F).natAbs)) (h2:aF W k' v' (Wh.a_ (-G).natAbs))=>oy a b (-F) (-G) v v' W k k' hg h1 h2 sF' sG'
 simp only [FX] at M7 Pn;rw [FW] at Pn;generalize aN a b=D at *;clear hin hg ha1 ha2 hb1 hb2 hdn hx hz
 obtain ⟨d,hd⟩:∃ d,Hid (Wh.Mm D F G=d):=⟨_,KO rfl⟩
 rw [hd.out] at hdv M7 Pn hdF hdG;have hd1:1<=d:=hdv.1
 have hd2:d<=1000000000000:=ω
 clear hdv hdb;have zN:=uT zF d;have zE:=uT zG d;have zN':=oQ zN;have zE':=oQ zE;have sN:=aR.2 (aL zN (show 5000+1<=9000 by omega));have sE:=aR.2 (aL zE (show 6000+1<=9000 by omega));have sN':=aR.2 (aL zN' (show 5000+1<=9000 by omega));have sE':=aR.2 (aL zE' (show 6000+1<=9000 by omega))
 have Qk:=fun v W k (h:aF W k v (Wh.a_ F.natAbs))=>gV F (d:Int) v W k h sF ω ω
 have QF:=fun v W k (h:aF W k v (Wh.a_ G.natAbs))=>gV G (d:Int) v W k h sG ω ω
 have Ql:=fun v W k (h:aF W k v (Wh.a_ (-F).natAbs))=>gV (-F) (d:Int) v W k h sF' ω ω
 have Qm:=fun v W k (h:aF W k v (Wh.a_ (-G).natAbs))=>gV (-G) (d:Int) v W k h sG' ω ω
 rw [Int.neg_ediv_of_dvd hdF] at Ql;rw [Int.neg_ediv_of_dvd hdG] at Qm
 have NU:=fun v v' W k k' (h:aF W k v (Wh.a_ (F / (d:Int)).natAbs)) (h':aF W k' v' (Wh.a_ (G / (d:Int)).natAbs))=>wl (F / (d:Int)) (G / (d:Int)) v v' W k k' h h' ω ω
 have Of:=fun v v' W k k' (h:aF W k v (Wh.a_ (-(F / (d:Int))).natAbs)) (h':aF W k' v' (Wh.a_ (-(G / (d:Int))).natAbs))=>wl (-(F / (d:Int))) (-(G / (d:Int))) v v' W k k' h h' ω ω
 clear hdF hdG sF sG sF' sG' zF zG zF' zG' zN zE zN' zE' sN sE sN' sE'
 have SM:G≠0->fw D F G=ew (if G<0 then -(F / (d:Int)) else F / (d:Int)) (if G<0 then -(G / (d:Int)) else G / (d:Int)):=fun hne=>by unfold fw Wh.Oj Wh.Oi;rw [hd.out,decide_eq_true hne];rfl
 have eX:Wh.M8 D F G=if fw D F G=true then (if G<0 then -(F / (d:Int)) else F / (d:Int)) else 0:=by unfold Wh.M8 Wh.Oj;rw [hd.out]
 have eZ:Wh.M9 D F G=if fw D F G=true then (if G<0 then -(G / (d:Int)) else G / (d:Int)) else 0:=by unfold Wh.M9 Wh.Oi;rw [hd.out]
 have NZ:=yh (z:=G) hd1;generalize hs1:decide (x<0)=s1 at *;generalize hs2:decide (z<0)=s2 at *;clear hs1 hs2;replace hox:=KO (show aF _ _ _ _ from hox);replace LH:=KO (show aF _ _ _ _ from LH);generalize (Wh.a_ z.natAbs).length=lz,(Wh.a_ x.natAbs).length=lx at *;have C:=((aG.new w #[a,b] 24).alloc (.cells #[s1,.slice ax lx cx,s2,.slice az lz cz] 162)).alloc (.cells #[false,.slice none 0 0,false,.slice none 0 0] 162);have Q:=(aG.new (w.alloc (.cells #[a,b] 24)) #[s1,.slice ax lx cx,s2,.slice az lz cz] 162).alloc (.cells #[false,.slice none 0 0,false,.slice none 0 0] 162);rw [KQ] at Q;have R:=aG.new ((w.alloc (.cells #[a,b] 24)).alloc (.cells #[s1,.slice ax lx cx,s2,.slice az lz cz] 162)) #[false,.slice none 0 0,false,.slice none 0 0] 162;rw [iW] at R;have B:=(((KS w w).alloc (KT _) (.cells #[a,b] 24)).alloc (by rw [KQ];omega) (.cells #[s1,.slice ax lx cx,s2,.slice az lz cz] 162)).alloc (by rw [iW];omega) (.cells #[false,.slice none 0 0,false,.slice none 0 0] 162);have ox:=KO (aF.alloc (aF.alloc (aF.alloc hox.out (.cells #[a,b] 24)) (.cells #[s1,.slice ax lx cx,s2,.slice az lz cz] 162)) (.cells #[false,.slice none 0 0,false,.slice none 0 0] 162));have oz:=KO (aF.alloc (aF.alloc (aF.alloc LH.out (.cells #[a,b] 24)) (.cells #[s1,.slice ax lx cx,s2,.slice az lz cz] 162)) (.cells #[false,.slice none 0 0,false,.slice none 0 0] 162))
 have Nz:w.heap.size+3<=(((w.alloc (.cells #[a,b] 24)).alloc (.cells #[s1,.slice ax lx cx,s2,.slice az lz cz] 162)).alloc (.cells #[false,.slice none 0 0,false,.slice none 0 0] 162)).heap.size:=by rw [KQ,iW];omega
 clear hox LH;generalize hw3:((w.alloc (.cells #[a,b] 24)).alloc (.cells #[s1,.slice ax lx cx,s2,.slice az lz cz] 162)).alloc (.cells #[false,.slice none 0 0,false,.slice none 0 0] 162)=wc at *;replace PF:=KO PF;replace PG:=KO PG;replace PM:=KO PM;replace PN:=KO PN;replace M7:=KO M7;replace Pn:=KO Pn;replace Qk:=KO Qk;replace Ql:=KO Ql;replace QF:=KO QF;replace Qm:=KO Qm;replace NU:=KO NU;replace Of:=KO Of;replace SM:=KO SM;replace eX:=KO eX;replace eZ:=KO eZ;replace NZ:=KO NZ;clear hd1 hd2;go_enter func170,ntmps170
 go_wp2
 go_upto_region 1 with fail
 refine be 8 [.is (.agg #[a,b]),.is (.agg #[s1,.slice ax lx cx,s2,.slice az lz cz]),.at (aK (wc.heap.size) (F)),.is (.agg #[a,b]),.is (.agg #[s1,.slice ax lx cx,s2,.slice az lz cz]),.at (aK (wc.heap.size) (G)),.new (wc.heap.size) 145 #[false,.slice none 0 0],.new (wc.heap.size) 145 #[false,.slice none 0 0]] κ κ κ ⟨?_,?_,?_,?_,?_,?_,?_,?_,fun h_=>absurd h_ δ,fun h_=>absurd h_ δ,trivial⟩ ?_
 all_goals try ((refine Rg.b1 ?_;intro zZ w_ hB e);have kz:=aE hB C.box.c0;have kz:=aE hB C.box.c1;have kz:=aE hB Q.aI.c0;have kz:=aE hB Q.aI.c1;have kz:=aE hB Q.aI.c2;have kz:=aE hB Q.aI.c3;(go_simp;done))
 ·intro _ zZ w_ hB hr
  have e14:=Rg.A_ (hr 14 δ);have e15:=Rg.A_ (hr 15 δ);exact Z4
 ·intro _ zZ w_ hB hr
  have e17:=Rg.A_ (hr 17 δ);have e18:=Rg.A_ (hr 18 δ);exact Z6
 ·exact M4
 ·exact M4
 intro vals wz hB hv hne;have n6:(Rg.Val.new (wc.heap.size) 145 #[false,.slice none 0 0]).ok (vals 6) wz:=hv 6 δ;have n7:(Rg.Val.new (wc.heap.size) 145 #[false,.slice none 0 0]).ok (vals 7) wz:=hv 7 δ;have n16:(Rg.Val.at (aK (wc.heap.size) (F))).ok (vals 2) wz:=hv 2 δ;have n19:(Rg.Val.at (aK (wc.heap.size) (G))).ok (vals 5) wz:=hv 5 δ;simp only [bD,Rg.fill,Act.put,Nat.reduceAdd];clear hv;have UL:=hne 6 7 δ δ δ rfl rfl;obtain ⟨g6,Mu,Px,o6⟩:=n6;replace o6:aG wz g6 145 #[false,.slice none 0 0]:=o6;obtain ⟨g7,SP,Mi,o7⟩:=n7;replace o7:aG wz g7 145 #[false,.slice none 0 0]:=o7;obtain ⟨s16,a16,OX,c16,Mw,Xv,o16⟩:=(cX n16).view;obtain ⟨Pa,QI,Ou,c19,Mx,Ow,Vg⟩:=(cX n19).view;rw [Px,Mi] at UL
 have RH:g6≠g7:=fun e=>UL (by rw [e])
 simp only [Px,Mi,Xv,Ow];clear Px Mi Xv Ow;have TM:=RH.symm
 have hg6w:w.heap.size+3<=g6:=ω
 have hg7w:w.heap.size+3<=g7:=ω
 have VX:w.heap.size<=g6:=ω
 have hk7:w.heap.size<=g7:=ω
 have hc6:w.heap.size≠g6:=ω
 have hc7:w.heap.size≠g7:=ω
 have hr6:w.heap.size+1+1≠g6:=ω
 have hr7:w.heap.size+1+1≠g7:=ω
 have V3:aG ((wz.setCell ⟨g6,0,none⟩ (.bool s16)).setCell ⟨g6,1,none⟩ (.slice a16 OX c16)) g7 145 #[false,.slice none 0 0]:=(o7.other TM _).other TM _;have V:=aG.set2 V3 (.bool Pa) (.slice QI Ou c19);have U:aG ((((wz.setCell ⟨g6,0,none⟩ (.bool s16)).setCell ⟨g6,1,none⟩ (.slice a16 OX c16)).setCell ⟨g7,0,none⟩ (.bool Pa)).setCell ⟨g7,1,none⟩ (.slice QI Ou c19)) g6 145 #[s16,.slice a16 OX c16]:=((aG.set2 o6 (.bool s16) (.slice a16 OX c16)).other RH _).other RH _;have oF:=KO (aF.base (aF.bV (aF.bV o16 o6 δ (.bool s16) (.slice a16 OX c16)) V3 δ (.bool Pa) (.slice QI Ou c19)) B.size);have oG:=KO (aF.base (aF.bV (aF.bV Vg o6 δ (.bool s16) (.slice a16 OX c16)) V3 δ (.bool Pa) (.slice QI Ou c19)) B.size);replace C:=((C.keep hB).dE hc6 (.bool s16) (.slice a16 OX c16)).dE hc7 (.bool Pa) (.slice QI Ou c19);replace R:=((R.keep hB).dE hr6 (.bool s16) (.slice a16 OX c16)).dE hr7 (.bool Pa) (.slice QI Ou c19);replace B:Below w w ((((wz.setCell ⟨g6,0,none⟩ (.bool s16)).setCell ⟨g6,1,none⟩ (.slice a16 OX c16)).setCell ⟨g7,0,none⟩ (.bool Pa)).setCell ⟨g7,1,none⟩ (.slice QI Ou c19)):=KR (KR (KR (KR (p_ B hB) VX _) VX _) hk7 _) hk7 _;have ⟨p0,p1,q0,q1,_⟩:=o6.box;have ⟨p2,p3,q2,q3,_⟩:=o7.box;unfold aU aU aU Oper.wp;go_simp
 clear p0 p1 q0 q1 p2 p3 q2 q3 V3 o6 o7 o16 Vg hB UL Q ox oz Nz Mu SP hg6w hg7w;generalize ((((wz.setCell ⟨g6,0,none⟩ (.bool s16)).setCell ⟨g6,1,none⟩ (.slice a16 OX c16)).setCell ⟨g7,0,none⟩ (.bool Pa)).setCell ⟨g7,1,none⟩ (.slice QI Ou c19))=wd at *;have f_:=C.box.c0;have j_:=C.box.c1;have Kz:=U.box.c0;have K4:=U.box.c1;have Ku:=V.box.c0;have Kv:=V.box.c1;have MP:=U.box.f0;have MQ:=U.box.f1;have Mb:=V.box.f0;have Mc:=V.box.f1;have D_:=R.aI.c0;have B_:=R.aI.f0;have F_:=R.aI.c1;have C_:=R.aI.f1;have I_:=R.aI.c2;have KV:=R.aI.f2;have J_:=R.aI.c3;have KW:=R.aI.f3;have QT:=Mw;have QV:=Mx;have RR:=aF.len oG.out
 by_cases h0:G=0
 ·have hl:Ou=0:=by rw [RR,h0];exact iL.2 rfl
  have hok:fw D F G=false:=by unfold fw;rw [h0];simp
  have hX:=eX.out;have hZ:=eZ.out;rw [hok,if_neg δ] at hX hZ;replace hX:=KO hX;replace hZ:=KO hZ;replace hok:=KO hok;clear RR h0 hd eX eZ SM PF PG PM PN M7 Pn Qk Ql QF Qm NU Of NZ Mw Mx QT QV hc6 hc7 hr6 hr7 VX hk7;subst hl;go_wp2;exact Ui
 have hlp:¬ Ou=0:=fun h=>h0 (iL.1 (by rw [←RR];exact h))
 have hlq:((Ou:Int) == 0)=false:=by rw [beq_eq_false_iff_ne];omega
 have hX:=eX.out;have hZ:=eZ.out;have hO:=SM.out h0;rw [hO] at hX hZ;clear RR h0 eX eZ SM PF PG;replace hd:=KO hd
 by_cases hneg:G<0
 ·have hsg:decide (G<0)=true:=decide_eq_true hneg
  rw [if_pos hneg,if_pos hneg] at hX hZ hO
  obtain rfl:Pa=true:=by rw [Mx.out];exact hsg
  have ON:=NZ.out;rw [hsg] at ON;clear NZ Mx QV QT;replace PM:=PM.out;rw [←Mw.out] at PM;replace PM:=KO PM;replace PN:=PN.out;rw [hsg] at PN;replace PN:=KO PN;clear M7 Qk QF NU;replace Pn:=Pn.out;replace Ql:=Ql.out;replace Qm:=Qm.out;replace Of:=Of.out;replace PN:=PN.out;replace PM:=PM.out;generalize hs5:decide (-F<0)=s5 at *;generalize hs6:decide (-G<0)=s6 at *;generalize -F % (d:Int)=rF at *;generalize -G % (d:Int)=rG at *;generalize hN:-(F / (d:Int))=N at *;generalize hE:-(G / (d:Int))=E at *;clear hN;clear hE;generalize Nh:decide (N<0)=sN at *;generalize SU:decide (E<0)=sE at *;replace Pn:=KO Pn;replace Ql:=KO Ql;replace Qm:=KO Qm;replace Of:=KO Of;replace PM:=KO PM;replace PN:=KO PN;replace Nh:=KO Nh;replace SU:=KO SU;clear ON hs5 hs6;clear hneg hsg hd
  obtain ⟨Oa,hok⟩:∃ q,ew N E=q:=⟨_,rfl⟩
  cases Oa
  all_goals
   rw [hok] at hX hZ hO
   first | rw [if_pos rfl] at hX hZ | rw [if_neg δ] at hX hZ
   have hq:=hok;replace hok:=KO hO;replace hq:=KO hq;replace hX:=KO hX;replace hZ:=KO hZ;clear hO
   go_wp2_with (first
    | ((with_reducible refine (PM.out _ _ _ oF.out).mono ?_);rintro e w4 ⟨v4,rfl,Ks,hb4⟩;have La:=B.size;replace ⟨C,R,U,V⟩:=Kl hb4 C R U V;replace oF:=kO oF hb4;replace oG:=kO oG hb4;replace B:=p_ B hb4;obtain ⟨a4,c4,rfl,K7,Ke⟩:=aF.view Ks;clear K7 Ke;have Mp:=KO (aF.base (show aF _ _ _ _ from Ks) La);clear Ks;(generalize (Wh.a_ (-F).natAbs).length=l4 at *);clear La;have pU_c0:=U.box.c0;have pU_c1:=U.box.c1;have pU_f0:=U.box.f0;have pU_f1:=U.box.f1;replace oF:=sO oF U δ (.bool s5) (.slice a4 l4 c4);replace oG:=sO oG U δ (.bool s5) (.slice a4 l4 c4);replace Mp:=sO Mp U δ (.bool s5) (.slice a4 l4 c4);replace C:=C.dE hc6 (.bool s5) (.slice a4 l4 c4);replace R:=R.dE hr6 (.bool s5) (.slice a4 l4 c4);replace V:=V.dE TM (.bool s5) (.slice a4 l4 c4);replace U:=aG.set2 U (.bool s5) (.slice a4 l4 c4);replace B:=gT B VX (.bool s5) (.slice a4 l4 c4);(replace ⟨f_,j_⟩:=C.b2);(replace ⟨D_,F_,I_,J_,B_,C_,KV,KW⟩:=R.LA);(replace ⟨Kz,K4,MP,MQ⟩:=U.L_);(replace ⟨Ku,Kv,Mb,Mc⟩:=V.L_))
    | ((with_reducible refine (PN.out _ _ _ oG.out).mono ?_);rintro e w5 ⟨v5,rfl,LZ,hb5⟩;have La:=B.size;replace ⟨C,R,U,V⟩:=Kl hb5 C R U V;replace oF:=kO oF hb5;replace oG:=kO oG hb5;replace Mp:=kO Mp hb5;replace B:=p_ B hb5;obtain ⟨a5,c5,rfl,K7,Ke⟩:=aF.view LZ;clear K7 Ke;have NK:=KO (aF.base (show aF _ _ _ _ from LZ) La);clear LZ;(generalize (Wh.a_ (-G).natAbs).length=l5 at *);clear La;have pV_c0:=V.box.c0;have pV_c1:=V.box.c1;have pV_f0:=V.box.f0;have pV_f1:=V.box.f1;replace oF:=sO oF V δ (.bool s6) (.slice a5 l5 c5);replace oG:=sO oG V δ (.bool s6) (.slice a5 l5 c5);replace Mp:=sO Mp V δ (.bool s6) (.slice a5 l5 c5);replace NK:=sO NK V δ (.bool s6) (.slice a5 l5 c5);replace C:=C.dE hc7 (.bool s6) (.slice a5 l5 c5);replace R:=R.dE hr7 (.bool s6) (.slice a5 l5 c5);replace U:=U.dE RH (.bool s6) (.slice a5 l5 c5);replace V:=aG.set2 V (.bool s6) (.slice a5 l5 c5);replace B:=gT B hk7 (.bool s6) (.slice a5 l5 c5);(replace ⟨f_,j_⟩:=C.b2);(replace ⟨D_,F_,I_,J_,B_,C_,KV,KW⟩:=R.LA);(replace ⟨Kz,K4,MP,MQ⟩:=U.L_);(replace ⟨Ku,Kv,Mb,Mc⟩:=V.L_))
    | (with_reducible refine Km (Pn.out _ _ _ _ _ Mp.out NK.out) fun w6 hb6=>?_;replace ⟨C,R,U,V⟩:=Kl hb6 C R U V;replace oF:=kO oF hb6;replace oG:=kO oG hb6;replace Mp:=kO Mp hb6;replace NK:=kO NK hb6;replace B:=p_ B hb6;(replace ⟨f_,j_⟩:=C.b2);(replace ⟨D_,F_,I_,J_,B_,C_,KV,KW⟩:=R.LA);(replace ⟨Kz,K4,MP,MQ⟩:=U.L_);(replace ⟨Ku,Kv,Mb,Mc⟩:=V.L_))
    | ((with_reducible refine (Ql.out _ _ _ Mp.out).mono ?_);rintro e w8 ⟨v8,rfl,Me,Ko⟩;have La:=B.size;replace ⟨C,R,U,V⟩:=Kl Ko C R U V;replace oF:=kO oF Ko;replace oG:=kO oG Ko;replace Mp:=kO Mp Ko;replace NK:=kO NK Ko;replace B:=p_ B Ko;obtain ⟨a8,c8,rfl,K7,Ke⟩:=aF.view Me;clear K7 Ke;have on:=KO (aF.base (show aF _ _ _ _ from Me) La);clear Me;(generalize (Wh.a_ N.natAbs).length=ln at *);clear La;have N_:=aG.new w8 #[sN,.slice a8 ln c8] 145;have b_:=bA w8 (.cells #[sN,.slice a8 ln c8] 145);replace ⟨C,R,U,V⟩:=Kl b_ C R U V;replace oF:=kO oF b_;replace oG:=kO oG b_;replace Mp:=kO Mp b_;replace NK:=kO NK b_;replace on:=kO on b_;replace B:=p_ B b_;clear b_;(replace ⟨f_,j_⟩:=C.b2);(replace ⟨D_,F_,I_,J_,B_,C_,KV,KW⟩:=R.LA);(replace ⟨Kz,K4,MP,MQ⟩:=U.L_);(replace ⟨Ku,Kv,Mb,Mc⟩:=V.L_);(replace ⟨NN,NO⟩:=N_.b2))
    | ((with_reducible refine (Qm.out _ _ _ NK.out).mono ?_);rintro e w9 ⟨v9,rfl,OS,Kr⟩;have La:=B.size;replace ⟨C,R,U,V,N_⟩:=Lp Kr C R U V N_;replace oF:=kO oF Kr;replace oG:=kO oG Kr;replace Mp:=kO Mp Kr;replace NK:=kO NK Kr;replace on:=kO on Kr;replace B:=p_ B Kr;obtain ⟨a9,c9,rfl,K7,Ke⟩:=aF.view OS;clear K7 Ke;have oe:=KO (aF.base (show aF _ _ _ _ from OS) La);clear OS;(generalize (Wh.a_ E.natAbs).length=le at *);clear La;have E_:=aG.new w9 #[sE,.slice a9 le c9] 145;have b_:=bA w9 (.cells #[sE,.slice a9 le c9] 145);replace ⟨C,R,U,V,N_⟩:=Lp b_ C R U V N_;replace oF:=kO oF b_;replace oG:=kO oG b_;replace Mp:=kO Mp b_;replace NK:=kO NK b_;replace on:=kO on b_;replace oe:=kO oe b_;replace B:=p_ B b_;clear b_;(replace ⟨f_,j_⟩:=C.b2);(replace ⟨D_,F_,I_,J_,B_,C_,KV,KW⟩:=R.LA);(replace ⟨Kz,K4,MP,MQ⟩:=U.L_);(replace ⟨Ku,Kv,Mb,Mc⟩:=V.L_);(replace ⟨NN,NO⟩:=N_.b2);(replace ⟨QD,QE⟩:=E_.b2);have O:=aG.new (w9.alloc (.cells #[sE,.slice a9 le c9] 145)) #[sN,.slice a8 ln c8,sE,.slice a9 le c9] 162;have b_:=bA (w9.alloc (.cells #[sE,.slice a9 le c9] 145)) (.cells #[sN,.slice a8 ln c8,sE,.slice a9 le c9] 162);replace ⟨C,R,U,V,N_,E_⟩:=Ps b_ C R U V N_ E_;replace oF:=kO oF b_;replace oG:=kO oG b_;replace Mp:=kO Mp b_;replace NK:=kO NK b_;replace on:=kO on b_;replace oe:=kO oe b_;replace B:=p_ B b_;clear b_;(rw [KQ] at O))
    | (with_reducible refine Km (Of.out _ _ _ _ _ on.out oe.out) fun X4 LE=>?_;(simp only [hq.out]);replace ⟨C,R,U,V,N_,E_,O⟩:=Qs LE C R U V N_ E_ O;replace oF:=kO oF LE;replace oG:=kO oG LE;replace Mp:=kO Mp LE;replace NK:=kO NK LE;replace on:=kO on LE;replace oe:=kO oe LE;replace B:=p_ B LE;(replace ⟨f_,j_⟩:=C.b2);(replace ⟨D_,F_,I_,J_,B_,C_,KV,KW⟩:=R.LA);(replace ⟨Kz,K4⟩:=U.b2);(replace ⟨Ku,Kv⟩:=V.b2);(replace ⟨NN,NO⟩:=N_.b2);(replace ⟨QD,QE⟩:=E_.b2);(replace ⟨NP,NQ,NS,NT⟩:=O.b4)))
  ·exact Ui
  have hr1:=aF.base (aF.eR on.out R δ (.bool sN) (.slice a8 ln c8) (.bool sE) (.slice a9 le c9)) (base':=w.heap.size) (KT _);have hr2:=aF.base (aF.eR oe.out R δ (.bool sN) (.slice a8 ln c8) (.bool sE) (.slice a9 le c9)) (base':=w.heap.size) (KT _);exact KU (v:=.tuple #[.agg #[sN,.slice a8 ln c8,sE,.slice a9 le c9],true]) results170 ⟨_,_,(by rw [hX.out,hZ.out,hok.out,Nh.out,SU.out]),(by rw [hX.out];exact hr1),(by rw [hZ.out];exact hr2),Lv B⟩
 have hsg:decide (G<0)=false:=decide_eq_false hneg;rw [if_neg hneg,if_neg hneg] at hX hZ hO
 obtain rfl:Pa=false:=by rw [Mx.out];exact hsg
 have ON:=NZ.out;rw [hsg] at ON;clear NZ Mx QV QT;clear PM PN Pn Ql Qm Of;replace M7:=M7.out;replace Qk:=Qk.out;replace QF:=QF.out;replace NU:=NU.out;simp only [←Mw.out,hsg] at M7 Qk;simp only [hsg] at QF;generalize F % (d:Int)=rF at *;generalize G % (d:Int)=rG at *;generalize hN:F / (d:Int)=N at *;generalize hE:G / (d:Int)=E at *;clear hN;subst hE;simp only [ON] at QF NU;generalize hE:G / (d:Int)=E at *;clear hE;generalize Nh:decide (N<0)=sN at *
 skip
 replace M7:=KO M7;replace Qk:=KO Qk;replace QF:=KO QF;replace NU:=KO NU;replace Nh:=KO Nh;replace SU:=KO ON;clear ON;clear hneg hsg hd
 obtain ⟨Oa,hok⟩:∃ q,ew N E=q:=⟨_,rfl⟩
 cases Oa
 all_goals
  rw [hok] at hX hZ hO
  first | rw [if_pos rfl] at hX hZ | rw [if_neg δ] at hX hZ
  have hq:=hok;replace hok:=KO hO;replace hq:=KO hq;replace hX:=KO hX;replace hZ:=KO hZ;clear hO
  go_wp2_with (first
   | (with_reducible refine Km (M7.out _ _ _ _ _ oF.out oG.out) fun w6 hb6=>?_;replace ⟨C,R,U,V⟩:=Kl hb6 C R U V;replace oF:=kO oF hb6;replace oG:=kO oG hb6;replace B:=p_ B hb6;(replace ⟨f_,j_⟩:=C.b2);(replace ⟨D_,F_,I_,J_,B_,C_,KV,KW⟩:=R.LA);(replace ⟨Kz,K4,MP,MQ⟩:=U.L_);(replace ⟨Ku,Kv,Mb,Mc⟩:=V.L_))
   | ((with_reducible refine (Qk.out _ _ _ oF.out).mono ?_);rintro e w8 ⟨v8,rfl,Me,Ko⟩;have La:=B.size;replace ⟨C,R,U,V⟩:=Kl Ko C R U V;replace oF:=kO oF Ko;replace oG:=kO oG Ko;replace B:=p_ B Ko;obtain ⟨a8,c8,rfl,K7,Ke⟩:=aF.view Me;clear K7 Ke;have on:=KO (aF.base (show aF _ _ _ _ from Me) La);clear Me;(generalize (Wh.a_ N.natAbs).length=ln at *);clear La;have N_:=aG.new w8 #[sN,.slice a8 ln c8] 145;have b_:=bA w8 (.cells #[sN,.slice a8 ln c8] 145);replace ⟨C,R,U,V⟩:=Kl b_ C R U V;replace oF:=kO oF b_;replace oG:=kO oG b_;replace on:=kO on b_;replace B:=p_ B b_;clear b_;(replace ⟨f_,j_⟩:=C.b2);(replace ⟨D_,F_,I_,J_,B_,C_,KV,KW⟩:=R.LA);(replace ⟨Kz,K4,MP,MQ⟩:=U.L_);(replace ⟨Ku,Kv,Mb,Mc⟩:=V.L_);(replace ⟨NN,NO⟩:=N_.b2))
   | ((with_reducible refine (QF.out _ _ _ oG.out).mono ?_);rintro e w9 ⟨v9,rfl,OS,Kr⟩;have La:=B.size;replace ⟨C,R,U,V,N_⟩:=Lp Kr C R U V N_;replace oF:=kO oF Kr;replace oG:=kO oG Kr;replace on:=kO on Kr;replace B:=p_ B Kr;obtain ⟨a9,c9,rfl,K7,Ke⟩:=aF.view OS;clear K7 Ke;have oe:=KO (aF.base (show aF _ _ _ _ from OS) La);clear OS;(generalize (Wh.a_ E.natAbs).length=le at *);clear La;have E_:=aG.new w9 #[false,.slice a9 le c9] 145;have b_:=bA w9 (.cells #[false,.slice a9 le c9] 145);replace ⟨C,R,U,V,N_⟩:=Lp b_ C R U V N_;replace oF:=kO oF b_;replace oG:=kO oG b_;replace on:=kO on b_;replace oe:=kO oe b_;replace B:=p_ B b_;clear b_;(replace ⟨f_,j_⟩:=C.b2);(replace ⟨D_,F_,I_,J_,B_,C_,KV,KW⟩:=R.LA);(replace ⟨Kz,K4,MP,MQ⟩:=U.L_);(replace ⟨Ku,Kv,Mb,Mc⟩:=V.L_);(replace ⟨NN,NO⟩:=N_.b2);(replace ⟨QD,QE⟩:=E_.b2);have O:=aG.new (w9.alloc (.cells #[false,.slice a9 le c9] 145)) #[sN,.slice a8 ln c8,false,.slice a9 le c9] 162;have b_:=bA (w9.alloc (.cells #[false,.slice a9 le c9] 145)) (.cells #[sN,.slice a8 ln c8,false,.slice a9 le c9] 162);replace ⟨C,R,U,V,N_,E_⟩:=Ps b_ C R U V N_ E_;replace oF:=kO oF b_;replace oG:=kO oG b_;replace on:=kO on b_;replace oe:=kO oe b_;replace B:=p_ B b_;clear b_;(rw [KQ] at O))
   | (with_reducible refine Km (NU.out _ _ _ _ _ on.out oe.out) fun X4 LE=>?_;(simp only [hq.out]);replace ⟨C,R,U,V,N_,E_,O⟩:=Qs LE C R U V N_ E_ O;replace oF:=kO oF LE;replace oG:=kO oG LE;replace on:=kO on LE;replace oe:=kO oe LE;replace B:=p_ B LE;(replace ⟨f_,j_⟩:=C.b2);(replace ⟨D_,F_,I_,J_,B_,C_,KV,KW⟩:=R.LA);(replace ⟨Kz,K4⟩:=U.b2);(replace ⟨Ku,Kv⟩:=V.b2);(replace ⟨NN,NO⟩:=N_.b2);(replace ⟨QD,QE⟩:=E_.b2);(replace ⟨NP,NQ,NS,NT⟩:=O.b4)))
 ·exact Ui
 have hr1:=aF.base (aF.eR on.out R δ (.bool sN) (.slice a8 ln c8) (.bool false) (.slice a9 le c9)) (base':=w.heap.size) (KT _);have hr2:=aF.base (aF.eR oe.out R δ (.bool sN) (.slice a8 ln c8) (.bool false) (.slice a9 le c9)) (base':=w.heap.size) (KT _);exact KU (v:=.tuple #[.agg #[sN,.slice a8 ln c8,false,.slice a9 le c9],true]) results170 ⟨_,_,(by rw [hX.out,hZ.out,hok.out,Nh.out,SU.out]),(by rw [hX.out];exact hr1),(by rw [hZ.out];exact hr2),Lv B⟩
namespace M
def hM (a b:Int):Int:=max (1+2*a+8*b+a*a) (4*(1+a+b))
def hK (a b d:Int):Int:=max (15+21*a+27*b) (4*d+5*a*a*b+4*a*(3*a*a*a+22*b*b)+12*b*(a*a*a+8*b*b)+(a*(5*a*a*a+32*b*b)+2*b*(13*a*a*a+96*b*b)+3*a*a*(a*a*a+8*b*b)))
def hC (a b:Int):Nat:=Wh.bl (max (hM a.natAbs b.natAbs) (hK a.natAbs b.natAbs (aN a b).natAbs)).toNat
theorem Ki {x y m n k:Int} (hx:0<=x/\x<=m) (hy:0<=y/\y<=n) (hk:m*n<=k):0<=x*y/\x*y<=k:=
 ⟨Int.mul_nonneg hx.1 hy.1,Int.le_trans (Int.mul_le_mul hx.2 hy.2 hy.1 (Int.le_trans hx.1 hx.2)) hk⟩
end M
theorem nV (a0 b0:Int) (w:World) (hin:bK a0 b0=true) :
  cB 166 #[.agg #[a0,b0]] w (.tuple #[M.hM a0.natAbs b0.natAbs,M.hK a0.natAbs b0.natAbs (aN a0 b0).natAbs]):=by
 obtain ⟨x1,x2,y1,y2⟩:=ag hin;have hdb:=gc hin
 have PC:=fun W=>tK a0 b0 W hin
 clear hin;generalize aN a0 b0=D at *
 obtain ⟨a,ha⟩:∃ a:Int,Hid (a=a0.natAbs):=⟨_,KO rfl⟩
 obtain ⟨b,hb⟩:∃ b:Int,Hid (b=b0.natAbs):=⟨_,KO rfl⟩
 obtain ⟨d,hd⟩:∃ d:Int,Hid (d=D.natAbs):=⟨_,KO rfl⟩
 rw [←ha.out,←hb.out,←hd.out]
 have a1:0<=a/\a<=1000:=by have:=ha.out;omega
 have b1:0<=b/\b<=10000:=by have:=hb.out;omega
 have d1:0<=d/\d<=6700000000:=by have:=hd.out;omega
 obtain ⟨a1,a2⟩:=a1;obtain ⟨b1,b2⟩:=b1;obtain ⟨d1,d2⟩:=d1;have bd1:0<=2*a/\2*a<=2000:=M.Ki (show (0:Int)<=2/\(2:Int)<=2 from ω) (show 0<=a/\a<=1000 from ω) ω;have bd2:0<=8*b/\8*b<=80000:=M.Ki (show (0:Int)<=8/\(8:Int)<=8 from ω) (show 0<=b/\b<=10000 from ω) ω;have WE:0<=a*a/\a*a<=1000000:=M.Ki (show 0<=a/\a<=1000 from ω) (show 0<=a/\a<=1000 from ω) ω;have bd4:0<=4*d/\4*d<=26800000000:=M.Ki (show (0:Int)<=4/\(4:Int)<=4 from ω) (show 0<=d/\d<=6700000000 from ω) ω;have WN:0<=4*a/\4*a<=4000:=M.Ki (show (0:Int)<=4/\(4:Int)<=4 from ω) (show 0<=a/\a<=1000 from ω) ω;have WT:0<=4*a*a/\4*a*a<=4000000:=M.Ki WN (show 0<=a/\a<=1000 from ω) ω;have bd7:0<=4*a*a*b/\4*a*a*b<=40000000000:=M.Ki WT (show 0<=b/\b<=10000 from ω) ω;have bd8:0<=3*a/\3*a<=3000:=M.Ki (show (0:Int)<=3/\(3:Int)<=3 from ω) (show 0<=a/\a<=1000 from ω) ω;have WU:0<=3*a*a/\3*a*a<=3000000:=M.Ki bd8 (show 0<=a/\a<=1000 from ω) ω;have Q9:0<=3*a*a*a/\3*a*a*a<=3000000000:=M.Ki WU (show 0<=a/\a<=1000 from ω) ω;have Sy:0<=22*b/\22*b<=220000:=M.Ki (show (0:Int)<=22/\(22:Int)<=22 from ω) (show 0<=b/\b<=10000 from ω) ω;have Sz:0<=22*b*b/\22*b*b<=2200000000:=M.Ki Sy (show 0<=b/\b<=10000 from ω) ω;have V6:0<=4*a*(3*a*a*a+22*b*b)/\4*a*(3*a*a*a+22*b*b)<=20800000000000:=M.Ki WN (show 0<=3*a*a*a+22*b*b/\3*a*a*a+22*b*b<=5200000000 from ω) ω;have S0:0<=12*b/\12*b<=120000:=M.Ki (show (0:Int)<=12/\(12:Int)<=12 from ω) (show 0<=b/\b<=10000 from ω) ω;have S4:0<=a*a*a/\a*a*a<=1000000000:=M.Ki WE (show 0<=a/\a<=1000 from ω) ω;have V7:0<=8*b*b/\8*b*b<=800000000:=M.Ki bd2 (show 0<=b/\b<=10000 from ω) ω;have WA:0<=12*b*(a*a*a+8*b*b)/\12*b*(a*a*a+8*b*b)<=216000000000000:=M.Ki S0 (show 0<=a*a*a+8*b*b/\a*a*a+8*b*b<=1800000000 from ω) ω;have WB:0<=a*a*b/\a*a*b<=10000000000:=M.Ki WE (show 0<=b/\b<=10000 from ω) ω;have S5:0<=5*a/\5*a<=5000:=M.Ki (show (0:Int)<=5/\(5:Int)<=5 from ω) (show 0<=a/\a<=1000 from ω) ω;have Q_:0<=5*a*a/\5*a*a<=5000000:=M.Ki S5 (show 0<=a/\a<=1000 from ω) ω;have WC:0<=5*a*a*a/\5*a*a*a<=5000000000:=M.Ki Q_ (show 0<=a/\a<=1000 from ω) ω;have S6:0<=32*b/\32*b<=320000:=M.Ki (show (0:Int)<=32/\(32:Int)<=32 from ω) (show 0<=b/\b<=10000 from ω) ω;have S7:0<=32*b*b/\32*b*b<=3200000000:=M.Ki S6 (show 0<=b/\b<=10000 from ω) ω;have S8:0<=a*(5*a*a*a+32*b*b)/\a*(5*a*a*a+32*b*b)<=8200000000000:=M.Ki (show 0<=a/\a<=1000 from ω) (show 0<=5*a*a*a+32*b*b/\5*a*a*a+32*b*b<=8200000000 from ω) ω;have RA:0<=2*b/\2*b<=20000:=M.Ki (show (0:Int)<=2/\(2:Int)<=2 from ω) (show 0<=b/\b<=10000 from ω) ω;have S_:0<=13*a/\13*a<=13000:=M.Ki (show (0:Int)<=13/\(13:Int)<=13 from ω) (show 0<=a/\a<=1000 from ω) ω;have RB:0<=13*a*a/\13*a*a<=13000000:=M.Ki S_ (show 0<=a/\a<=1000 from ω) ω;have WD:0<=13*a*a*a/\13*a*a*a<=13000000000:=M.Ki RB (show 0<=a/\a<=1000 from ω) ω;have TA:0<=96*b/\96*b<=960000:=M.Ki (show (0:Int)<=96/\(96:Int)<=96 from ω) (show 0<=b/\b<=10000 from ω) ω;have WF:0<=96*b*b/\96*b*b<=9600000000:=M.Ki TA (show 0<=b/\b<=10000 from ω) ω;have bd31:0<=2*b*(13*a*a*a+96*b*b)/\2*b*(13*a*a*a+96*b*b)<=452000000000000:=M.Ki RA (show 0<=13*a*a*a+96*b*b/\13*a*a*a+96*b*b<=22600000000 from ω) ω;have bd32:0<=3*a*a*(a*a*a+8*b*b)/\3*a*a*(a*a*a+8*b*b)<=5400000000000000:=M.Ki WU (show 0<=a*a*a+8*b*b/\a*a*a+8*b*b<=1800000000 from ω) ω;obtain ⟨bd1_1,bd1_2⟩:=bd1;obtain ⟨bd2_1,bd2_2⟩:=bd2;obtain ⟨bd3_1,bd3_2⟩:=WE;obtain ⟨bd4_1,bd4_2⟩:=bd4;obtain ⟨bd5_1,bd5_2⟩:=WN;obtain ⟨bd6_1,bd6_2⟩:=WT;obtain ⟨bd7_1,bd7_2⟩:=bd7;obtain ⟨bd8_1,bd8_2⟩:=bd8;obtain ⟨bd9_1,bd9_2⟩:=WU;obtain ⟨bd10_1,bd10_2⟩:=Q9;obtain ⟨bd11_1,bd11_2⟩:=Sy;obtain ⟨bd12_1,bd12_2⟩:=Sz;obtain ⟨bd13_1,bd13_2⟩:=V6;obtain ⟨bd14_1,bd14_2⟩:=S0;obtain ⟨bd15_1,bd15_2⟩:=S4;obtain ⟨bd16_1,bd16_2⟩:=V7;obtain ⟨bd17_1,bd17_2⟩:=WA;obtain ⟨bd18_1,bd18_2⟩:=WB;obtain ⟨bd19_1,bd19_2⟩:=S5;obtain ⟨bd20_1,bd20_2⟩:=Q_;obtain ⟨bd21_1,bd21_2⟩:=WC;obtain ⟨bd22_1,bd22_2⟩:=S6;obtain ⟨bd23_1,bd23_2⟩:=S7;obtain ⟨bd24_1,bd24_2⟩:=S8;obtain ⟨bd25_1,bd25_2⟩:=RA;obtain ⟨bd26_1,bd26_2⟩:=S_;obtain ⟨bd27_1,bd27_2⟩:=RB;obtain ⟨bd28_1,bd28_2⟩:=WD;obtain ⟨bd29_1,bd29_2⟩:=TA;obtain ⟨bd30_1,bd30_2⟩:=WF;obtain ⟨bd31_1,bd31_2⟩:=bd31;obtain ⟨bd32_1,bd32_2⟩:=bd32;have hM:Hid (M.hM a b=max (1+2*a+8*b+a*a) (4*(1+a+b))):=KO rfl;have hK:Hid (M.hK a b d=max (12+16*a+3+5*a+27*b) (4*d+4*a*a*b+4*a*(3*a*a*a+22*b*b)+12*b*(a*a*a+8*b*b)+(a*a*b+a*(5*a*a*a+32*b*b)+2*b*(13*a*a*a+96*b*b)+3*a*a*(a*a*a+8*b*b)))):=KO (by unfold M.hK;congr 1 <;> grind);have mA:=KO (show (if a0 < -a0 then -a0 else a0)=a by have:=ha.out;split <;> omega);have mB:=KO (show (if b0 < -b0 then -b0 else b0)=b by have:=hb.out;split <;> omega);have mD:=KO (show (if D < -D then -D else D)=d by have:=hd.out;split <;> omega);have nA:=KO (show max a0 (-a0)=a by have:=ha.out;omega);have nB:=KO (show max b0 (-b0)=b by have:=hb.out;omega);have nD:=KO (show max D (-D)=d by have:=hd.out;omega)
 skip
 replace PC:=KO PC;obtain ⟨wc,hw3,C,B⟩:=cJ w #[a0,b0] 24;go_enter func166,ntmps166
 go_wp2
 go_upto_region 1 with fail
 refine be 21 [.is (.pointer (some ⟨w,0,none⟩)),.is a0,.is (.pointer (some ⟨w,0,none⟩)),.is a0,.is (-a0:Int),.is a,.is (.pointer (some ⟨w,1,none⟩)),.is b0,.is (.pointer (some ⟨w,1,none⟩)),.is b0,.is (-b0:Int),.is b,.is (.agg #[a0,b0]),.is D,.is (.agg #[a0,b0]),.is D,.is (-D:Int),.is d,.is a,.is b,.is d] κ κ κ ⟨?_,?_,?_,?_,?_,?_,?_,?_,?_,?_,?_,?_,?_,?_,?_,?_,?_,?_,?_,?_,?_,trivial⟩ ?_
 all_goals try ((first | (refine Rg.b1 ?_;intro zZ w_ hB e) | (refine Rg.b2 ?_;intro zZ w_ hB e f));have kz:=aE hB C.box.c0;have kz:=aE hB C.box.c1;have kz:=aE hB C.box.c0;have kz:=aE hB C.box.c1;(first | (go_simp;done) | (go_simp;exact Rg.wo ω) | (go_simp;first | done | (rw [mA.out];done) | (rw [nA.out];done) | (simp only [mA.out];done);done) | (go_simp;first | done | (rw [mB.out];done) | (rw [nB.out];done) | (simp only [mB.out];done);done) | (go_simp;first | done | (rw [mD.out];done) | (rw [nD.out];done) | (simp only [mD.out];done);done)))
 ·exact Pi
 ·exact Pi
 intro vals wz hB1 hv hne;have v_18:vals 18=.int .i64 a:=hv 18 δ;have v_19:vals 19=.int .i64 b:=hv 19 δ;have Rq:vals 20=.int .i64 d:=hv 20 δ;simp only [bD,Rg.fill,Act.put,Nat.reduceAdd];simp only [v_18,v_19,Rq];replace B:=p_ B hB1;unfold aU;go_wp2;go_ret2;exact ⟨by rw [hM.out,hK.out];first | rfl,B⟩
theorem tW (a0 b0:Int) (w:World) (hin:bK a0 b0=true) :
  cB 172 #[.agg #[a0,b0]] w (.tuple #[M.hM a0.natAbs b0.natAbs,M.hK a0.natAbs b0.natAbs (aN a0 b0).natAbs]):=by
 obtain ⟨x1,x2,y1,y2⟩:=ag hin;have hdb:=gc hin
 have PC:=fun W=>rj a0 b0 W hin
 have PA:=fun x W (h1:-9223372036854775807<=x) (h2:x<=9223372036854775807)=>eP x W h1 h2
 have PM:=fun x y W=>ff x y W
 generalize aN a0 b0=D at *
 obtain ⟨a,ha⟩:∃ a:Int,Hid (a=a0.natAbs):=⟨_,KO rfl⟩
 obtain ⟨b,hb⟩:∃ b:Int,Hid (b=b0.natAbs):=⟨_,KO rfl⟩
 obtain ⟨d,hd⟩:∃ d:Int,Hid (d=D.natAbs):=⟨_,KO rfl⟩
 rw [←ha.out,←hb.out,←hd.out]
 have a1:0<=a/\a<=1000:=by have:=ha.out;omega
 have b1:0<=b/\b<=10000:=by have:=hb.out;omega
 have d1:0<=d/\d<=6700000000:=by have:=hd.out;omega
 obtain ⟨a1,a2⟩:=a1;obtain ⟨b1,b2⟩:=b1;obtain ⟨d1,d2⟩:=d1;have bd33:0<=2*a/\2*a<=2000:=M.Ki (show (0:Int)<=2/\(2:Int)<=2 from ω) (show 0<=a/\a<=1000 from ω) ω;have WG:0<=8*b/\8*b<=80000:=M.Ki (show (0:Int)<=8/\(8:Int)<=8 from ω) (show 0<=b/\b<=10000 from ω) ω;have WH:0<=a*a/\a*a<=1000000:=M.Ki (show 0<=a/\a<=1000 from ω) (show 0<=a/\a<=1000 from ω) ω;have bd36:0<=4*d/\4*d<=26800000000:=M.Ki (show (0:Int)<=4/\(4:Int)<=4 from ω) (show 0<=d/\d<=6700000000 from ω) ω;have WI:0<=5*a/\5*a<=5000:=M.Ki (show (0:Int)<=5/\(5:Int)<=5 from ω) (show 0<=a/\a<=1000 from ω) ω;have TB:0<=5*a*a/\5*a*a<=5000000:=M.Ki WI (show 0<=a/\a<=1000 from ω) ω;have bd39:0<=5*a*a*b/\5*a*a*b<=50000000000:=M.Ki TB (show 0<=b/\b<=10000 from ω) ω;have WJ:0<=4*a/\4*a<=4000:=M.Ki (show (0:Int)<=4/\(4:Int)<=4 from ω) (show 0<=a/\a<=1000 from ω) ω;have WK:0<=3*a/\3*a<=3000:=M.Ki (show (0:Int)<=3/\(3:Int)<=3 from ω) (show 0<=a/\a<=1000 from ω) ω;have TC:0<=3*a*a/\3*a*a<=3000000:=M.Ki WK (show 0<=a/\a<=1000 from ω) ω;have bd43:0<=3*a*a*a/\3*a*a*a<=3000000000:=M.Ki TC (show 0<=a/\a<=1000 from ω) ω;have WL:0<=22*b/\22*b<=220000:=M.Ki (show (0:Int)<=22/\(22:Int)<=22 from ω) (show 0<=b/\b<=10000 from ω) ω;have bd45:0<=22*b*b/\22*b*b<=2200000000:=M.Ki WL (show 0<=b/\b<=10000 from ω) ω;have bd46:0<=4*a*(3*a*a*a+22*b*b)/\4*a*(3*a*a*a+22*b*b)<=20800000000000:=M.Ki WJ (show 0<=3*a*a*a+22*b*b/\3*a*a*a+22*b*b<=5200000000 from ω) ω;have WM:0<=12*b/\12*b<=120000:=M.Ki (show (0:Int)<=12/\(12:Int)<=12 from ω) (show 0<=b/\b<=10000 from ω) ω;have bd48:0<=a*a*a/\a*a*a<=1000000000:=M.Ki WH (show 0<=a/\a<=1000 from ω) ω;have bd49:0<=8*b*b/\8*b*b<=800000000:=M.Ki WG (show 0<=b/\b<=10000 from ω) ω;have bd50:0<=12*b*(a*a*a+8*b*b)/\12*b*(a*a*a+8*b*b)<=216000000000000:=M.Ki WM (show 0<=a*a*a+8*b*b/\a*a*a+8*b*b<=1800000000 from ω) ω;have bd51:0<=5*a*a*a/\5*a*a*a<=5000000000:=M.Ki TB (show 0<=a/\a<=1000 from ω) ω;have WO:0<=32*b/\32*b<=320000:=M.Ki (show (0:Int)<=32/\(32:Int)<=32 from ω) (show 0<=b/\b<=10000 from ω) ω;have bd53:0<=32*b*b/\32*b*b<=3200000000:=M.Ki WO (show 0<=b/\b<=10000 from ω) ω;have bd54:0<=a*(5*a*a*a+32*b*b)/\a*(5*a*a*a+32*b*b)<=8200000000000:=M.Ki (show 0<=a/\a<=1000 from ω) (show 0<=5*a*a*a+32*b*b/\5*a*a*a+32*b*b<=8200000000 from ω) ω;have WP:0<=2*b/\2*b<=20000:=M.Ki (show (0:Int)<=2/\(2:Int)<=2 from ω) (show 0<=b/\b<=10000 from ω) ω;have WQ:0<=13*a/\13*a<=13000:=M.Ki (show (0:Int)<=13/\(13:Int)<=13 from ω) (show 0<=a/\a<=1000 from ω) ω;have WR:0<=13*a*a/\13*a*a<=13000000:=M.Ki WQ (show 0<=a/\a<=1000 from ω) ω;have bd58:0<=13*a*a*a/\13*a*a*a<=13000000000:=M.Ki WR (show 0<=a/\a<=1000 from ω) ω;have WS:0<=96*b/\96*b<=960000:=M.Ki (show (0:Int)<=96/\(96:Int)<=96 from ω) (show 0<=b/\b<=10000 from ω) ω;have bd60:0<=96*b*b/\96*b*b<=9600000000:=M.Ki WS (show 0<=b/\b<=10000 from ω) ω;have bd61:0<=2*b*(13*a*a*a+96*b*b)/\2*b*(13*a*a*a+96*b*b)<=452000000000000:=M.Ki WP (show 0<=13*a*a*a+96*b*b/\13*a*a*a+96*b*b<=22600000000 from ω) ω;have bd62:0<=3*a*a*(a*a*a+8*b*b)/\3*a*a*(a*a*a+8*b*b)<=5400000000000000:=M.Ki TC (show 0<=a*a*a+8*b*b/\a*a*a+8*b*b<=1800000000 from ω) ω;obtain ⟨bd33_1,bd33_2⟩:=bd33;obtain ⟨bd34_1,bd34_2⟩:=WG;obtain ⟨bd35_1,bd35_2⟩:=WH;obtain ⟨bd36_1,bd36_2⟩:=bd36;obtain ⟨bd37_1,bd37_2⟩:=WI;obtain ⟨bd38_1,bd38_2⟩:=TB;obtain ⟨bd39_1,bd39_2⟩:=bd39;obtain ⟨bd40_1,bd40_2⟩:=WJ;obtain ⟨bd41_1,bd41_2⟩:=WK;obtain ⟨bd42_1,bd42_2⟩:=TC;obtain ⟨bd43_1,bd43_2⟩:=bd43;obtain ⟨bd44_1,bd44_2⟩:=WL;obtain ⟨bd45_1,bd45_2⟩:=bd45;obtain ⟨bd46_1,bd46_2⟩:=bd46;obtain ⟨bd47_1,bd47_2⟩:=WM;obtain ⟨bd48_1,bd48_2⟩:=bd48;obtain ⟨bd49_1,bd49_2⟩:=bd49;obtain ⟨bd50_1,bd50_2⟩:=bd50;obtain ⟨bd51_1,bd51_2⟩:=bd51;obtain ⟨bd52_1,bd52_2⟩:=WO;obtain ⟨bd53_1,bd53_2⟩:=bd53;obtain ⟨bd54_1,bd54_2⟩:=bd54;obtain ⟨bd55_1,bd55_2⟩:=WP;obtain ⟨bd56_1,bd56_2⟩:=WQ;obtain ⟨bd57_1,bd57_2⟩:=WR;obtain ⟨bd58_1,bd58_2⟩:=bd58;obtain ⟨bd59_1,bd59_2⟩:=WS;obtain ⟨bd60_1,bd60_2⟩:=bd60;obtain ⟨bd61_1,bd61_2⟩:=bd61;obtain ⟨bd62_1,bd62_2⟩:=bd62;have hM:Hid (M.hM a b=max (1+2*a+8*b+a*a) (4*(1+a+b))):=KO rfl;have hK:Hid (M.hK a b d=max (15+21*a+27*b) (4*d+5*a*a*b+4*a*(3*a*a*a+22*b*b)+12*b*(a*a*a+8*b*b)+(a*(5*a*a*a+32*b*b)+2*b*(13*a*a*a+96*b*b)+3*a*a*(a*a*a+8*b*b)))):=KO rfl
 skip
 replace PC:=KO PC;replace PA:=KO PA;replace PM:=KO PM;obtain ⟨wc,hw3,C,B⟩:=cJ w #[a0,b0] 24;go_enter func172,ntmps172
 go_wp2
 go_upto_region 1 with fail
 refine be 12 [.is (.pointer (some ⟨w,0,none⟩)),.is a0,.is a,.is (.pointer (some ⟨w,1,none⟩)),.is b0,.is b,.is (.agg #[a0,b0]),.is D,.is d,.is a,.is b,.is d] κ κ κ ⟨?_,?_,?_,?_,?_,?_,?_,?_,?_,?_,?_,?_,trivial⟩ ?_
 all_goals try ((refine Rg.b1 ?_;intro zZ w_ hB e);have kz:=aE hB C.box.c0;have kz:=aE hB C.box.c1;have kz:=aE hB C.box.c0;have kz:=aE hB C.box.c1;(go_simp;done))
 ·refine Rg.o1 ?_;intro zZ w_ hB e
  have ef:=Rg.ef zZ;refine aj rfl τ ?_;refine (PA.out a0 _ ω ω).mono ?_;rintro e w5 ⟨rfl,rfl⟩;exact ⟨_,rfl,(by rw [ha.out];rfl),KS _ _⟩
 ·refine Rg.o1 ?_;intro zZ w_ hB e
  have ef:=Rg.ef zZ;refine aj rfl τ ?_;refine (PA.out b0 _ ω ω).mono ?_;rintro e w5 ⟨rfl,rfl⟩;exact ⟨_,rfl,(by rw [hb.out];rfl),KS _ _⟩
 ·exact Pi
 ·refine Rg.o1 ?_;intro zZ w_ hB e
  have ef:=Rg.ef zZ;refine aj rfl τ ?_;refine (PA.out D _ ω ω).mono ?_;rintro e w5 ⟨rfl,rfl⟩;exact ⟨_,rfl,(by rw [hd.out];rfl),KS _ _⟩
 intro vals wz hB1 hv hne;have MX:vals 9=.int .i64 a:=hv 9 δ;have LG:vals 10=.int .i64 b:=hv 10 δ;have MV:vals 11=.int .i64 d:=hv 11 δ;simp only [bD,Rg.fill,Act.put,Nat.reduceAdd];simp only [MX,LG,MV];replace B:=p_ B hB1;unfold aU
 go_wp2_with (with_reducible refine Kw (PM.out _ _ _) ?_)
 go_ret2;exact ⟨by rw [hM.out,hK.out];first | rfl,B⟩
theorem M.xP {a0 b0:Int} (hin:bK a0 b0=true):0<=max (M.hM a0.natAbs b0.natAbs) (M.hK a0.natAbs b0.natAbs (aN a0 b0).natAbs)/\max (M.hM a0.natAbs b0.natAbs) (M.hK a0.natAbs b0.natAbs (aN a0 b0).natAbs)<=100000000000000000:=by
 obtain ⟨x1,x2,y1,y2⟩:=ag hin;have hdb:=gc hin
 obtain ⟨a,ha⟩:∃ a:Int,(a=a0.natAbs):=⟨_,rfl⟩
 obtain ⟨b,hb⟩:∃ b:Int,(b=b0.natAbs):=⟨_,rfl⟩
 obtain ⟨d,hd⟩:∃ d:Int,(d=(aN a0 b0).natAbs):=⟨_,rfl⟩
 rw [←ha,←hb,←hd]
 have a1:0<=a/\a<=1000:=ω
 have b1:0<=b/\b<=10000:=ω
 have d1:0<=d/\d<=6700000000:=ω
 clear ha hb hd hdb x1 x2 y1 y2 hin;have bd1:0<=2*a/\2*a<=2000:=M.Ki (show (0:Int)<=2/\(2:Int)<=2 from ω) (show 0<=a/\a<=1000 from ω) ω;have bd2:0<=8*b/\8*b<=80000:=M.Ki (show (0:Int)<=8/\(8:Int)<=8 from ω) (show 0<=b/\b<=10000 from ω) ω;have WE:0<=a*a/\a*a<=1000000:=M.Ki (show 0<=a/\a<=1000 from ω) (show 0<=a/\a<=1000 from ω) ω;have bd4:0<=4*d/\4*d<=26800000000:=M.Ki (show (0:Int)<=4/\(4:Int)<=4 from ω) (show 0<=d/\d<=6700000000 from ω) ω;have WN:0<=5*a/\5*a<=5000:=M.Ki (show (0:Int)<=5/\(5:Int)<=5 from ω) (show 0<=a/\a<=1000 from ω) ω;have WT:0<=5*a*a/\5*a*a<=5000000:=M.Ki WN (show 0<=a/\a<=1000 from ω) ω;have bd7:0<=5*a*a*b/\5*a*a*b<=50000000000:=M.Ki WT (show 0<=b/\b<=10000 from ω) ω;have bd8:0<=4*a/\4*a<=4000:=M.Ki (show (0:Int)<=4/\(4:Int)<=4 from ω) (show 0<=a/\a<=1000 from ω) ω;have WU:0<=3*a/\3*a<=3000:=M.Ki (show (0:Int)<=3/\(3:Int)<=3 from ω) (show 0<=a/\a<=1000 from ω) ω;have Q9:0<=3*a*a/\3*a*a<=3000000:=M.Ki WU (show 0<=a/\a<=1000 from ω) ω;have Sy:0<=3*a*a*a/\3*a*a*a<=3000000000:=M.Ki Q9 (show 0<=a/\a<=1000 from ω) ω;have Sz:0<=22*b/\22*b<=220000:=M.Ki (show (0:Int)<=22/\(22:Int)<=22 from ω) (show 0<=b/\b<=10000 from ω) ω;have V6:0<=22*b*b/\22*b*b<=2200000000:=M.Ki Sz (show 0<=b/\b<=10000 from ω) ω;have S0:0<=4*a*(3*a*a*a+22*b*b)/\4*a*(3*a*a*a+22*b*b)<=20800000000000:=M.Ki bd8 (show 0<=3*a*a*a+22*b*b/\3*a*a*a+22*b*b<=5200000000 from ω) ω;have S4:0<=12*b/\12*b<=120000:=M.Ki (show (0:Int)<=12/\(12:Int)<=12 from ω) (show 0<=b/\b<=10000 from ω) ω;have V7:0<=a*a*a/\a*a*a<=1000000000:=M.Ki WE (show 0<=a/\a<=1000 from ω) ω;have WA:0<=8*b*b/\8*b*b<=800000000:=M.Ki bd2 (show 0<=b/\b<=10000 from ω) ω;have WB:0<=12*b*(a*a*a+8*b*b)/\12*b*(a*a*a+8*b*b)<=216000000000000:=M.Ki S4 (show 0<=a*a*a+8*b*b/\a*a*a+8*b*b<=1800000000 from ω) ω;have S5:0<=5*a*a*a/\5*a*a*a<=5000000000:=M.Ki WT (show 0<=a/\a<=1000 from ω) ω;have Q_:0<=32*b/\32*b<=320000:=M.Ki (show (0:Int)<=32/\(32:Int)<=32 from ω) (show 0<=b/\b<=10000 from ω) ω;have WC:0<=32*b*b/\32*b*b<=3200000000:=M.Ki Q_ (show 0<=b/\b<=10000 from ω) ω;have S6:0<=a*(5*a*a*a+32*b*b)/\a*(5*a*a*a+32*b*b)<=8200000000000:=M.Ki (show 0<=a/\a<=1000 from ω) (show 0<=5*a*a*a+32*b*b/\5*a*a*a+32*b*b<=8200000000 from ω) ω;have S7:0<=2*b/\2*b<=20000:=M.Ki (show (0:Int)<=2/\(2:Int)<=2 from ω) (show 0<=b/\b<=10000 from ω) ω;have S8:0<=13*a/\13*a<=13000:=M.Ki (show (0:Int)<=13/\(13:Int)<=13 from ω) (show 0<=a/\a<=1000 from ω) ω;have RA:0<=13*a*a/\13*a*a<=13000000:=M.Ki S8 (show 0<=a/\a<=1000 from ω) ω;have S_:0<=13*a*a*a/\13*a*a*a<=13000000000:=M.Ki RA (show 0<=a/\a<=1000 from ω) ω;have RB:0<=96*b/\96*b<=960000:=M.Ki (show (0:Int)<=96/\(96:Int)<=96 from ω) (show 0<=b/\b<=10000 from ω) ω;have WD:0<=96*b*b/\96*b*b<=9600000000:=M.Ki RB (show 0<=b/\b<=10000 from ω) ω;have TA:0<=2*b*(13*a*a*a+96*b*b)/\2*b*(13*a*a*a+96*b*b)<=452000000000000:=M.Ki S7 (show 0<=13*a*a*a+96*b*b/\13*a*a*a+96*b*b<=22600000000 from ω) ω;have WF:0<=3*a*a*(a*a*a+8*b*b)/\3*a*a*(a*a*a+8*b*b)<=5400000000000000:=M.Ki Q9 (show 0<=a*a*a+8*b*b/\a*a*a+8*b*b<=1800000000 from ω) ω;unfold M.hM M.hK;omega
theorem M.rq {a0 b0:Int} (hin:bK a0 b0=true):M.hC a0 b0<=60:=by
 have h:=xP hin;unfold M.hC Wh.bl;generalize max (M.hM a0.natAbs b0.natAbs) (M.hK a0.natAbs b0.natAbs (aN a0 b0).natAbs)=X at *
 split
 ·omega
 rename_i h0
 have:=(Nat.log2_lt h0 (k:=59)).2 (by
                      have:(2:Nat) ^ 59=576460752303423488:=δ
                      omega)
 omega
theorem lY (a0 b0:Int) (w:World) (hin:bK a0 b0=true) :
  cB 142 #[.agg #[a0,b0]] w (.int .i64 (M.hC a0 b0:Nat)):=by
 have hbd:=xP hin
 have PD:=fun W=>nV a0 b0 W hin
 have hc:Hid (M.hC a0 b0=Wh.bl (max (M.hM a0.natAbs b0.natAbs) (M.hK a0.natAbs b0.natAbs (aN a0 b0).natAbs)).toNat):=KO rfl;generalize M.hK a0.natAbs b0.natAbs (aN a0 b0).natAbs=k,M.hM a0.natAbs b0.natAbs=m at *
 have hx:max m k=if m<k then k else m:=by split <;> omega
 have PL:=fun W=>Tryz.bits_Len (max m k) W ω ω
 rw [Cb _ ω] at PL;obtain ⟨x1,x2⟩:=hbd;replace PD:=KO PD;replace PL:=KO PL;replace hx:=KO hx;have B:=(KS w w).alloc (KT _) (.cells #[a0,b0] 24);go_enter func142,ntmps142
 go_wp2_with (first
  | (with_reducible refine G_ PD fun w4 hb4=>?_;replace B:=p_ B hb4)
  | (go_at_call 167;(refine (PL.out _).mono ?_);rintro e w6 ⟨rfl,rfl⟩))
 go_ret;exact ⟨by rw [hc.out];rfl,B⟩
theorem tV (a0 b0:Int) (w:World) (hin:bK a0 b0=true) :
  cB 148 #[.agg #[a0,b0]] w (.int .i64 (M.hC a0 b0:Nat)):=by
 have hbd:=xP hin;have hcb:=rq hin
 have PD:=fun W=>tW a0 b0 W hin
 have hc:Hid (M.hC a0 b0=Wh.bl (max (M.hM a0.natAbs b0.natAbs) (M.hK a0.natAbs b0.natAbs (aN a0 b0).natAbs)).toNat):=KO rfl;rw [hc.out] at hcb;generalize M.hK a0.natAbs b0.natAbs (aN a0 b0).natAbs=k,M.hM a0.natAbs b0.natAbs=m at *
 have PM:=fun W=>ff m k W
 generalize max m k=X at *;obtain ⟨x1,x2⟩:=hbd
 have hxn:X.natAbs=X.toNat:=ω
 have PO:=fun W=>qA X W ω ω
 have PB:=fun v W k (h:aF W k v (Wh.a_ X.natAbs))=>pw X v W k h (Nat.le_trans (eV (k:=5) ω) δ) (by rw [hxn];omega)
 replace hxn:=KO hxn;generalize decide (X<0)=sX at *;replace PD:=KO PD;replace PM:=KO PM;replace PO:=KO PO;replace PB:=KO PB;clear hcb;have B:=(KS w w).alloc (KT _) (.cells #[a0,b0] 24);go_enter func148,ntmps148
 go_wp2_with (first
  | (with_reducible refine G_ PD fun w4 hb4=>?_;replace B:=p_ B hb4)
  | (with_reducible refine Kw (PM.out _) ?_)
  | ((with_reducible refine (PO.out _).mono ?_);rintro e w6 ⟨v6,rfl,SS,hb6⟩;have Nx:=(show aF _ _ _ _ from SS);replace B:=p_ B hb6)
  | (with_reducible refine Km (PB.out _ _ _ Nx) fun w8 Ko=>?_;replace B:=p_ B Ko))
 go_ret;exact ⟨by rw [hc.out,←hxn.out];rfl,B⟩
def M.p4 (n:Nat):Int:=3*4 ^ n
theorem M.GG (n:Nat):M.p4 (n+1)=M.p4 n*4:=by unfold M.p4;rw [Int.pow_succ];omega
theorem M.zO:∀ n:Nat,n<=5->3<=M.p4 n/\M.p4 n<=3072:=δ
theorem AY (n:Nat) (w:World) (hn:n<=5) :
  cP 149 #[.int .i64 (n:Int)] w (.int .i64 (M.p4 n)):=by
 go_enter func149,ntmps149
 go_wp2
 go_loop [0,3] (fun i o=>∃ k:Nat,k<=n/\i=.int .i64 ((n - k:Nat):Int)/\o=.int .i64 (M.p4 k)) (fun i _=>(intOf i).toNat)
 case atStart=>exact ⟨0,Nat.zero_le _,rfl,rfl⟩
 case round=>
 obtain ⟨k,hk,rfl,rfl⟩:=hrel;have hb:=zO k ω;have hs:=KO (GG k)
 by_cases hlt:k<n
 ·obtain ⟨j,hj⟩:∃ j:Nat,n - k=j+1:=⟨n - k - 1,ω⟩
  have hj2:=KO (show n - (k+1)=j by omega);rw [hj]
  have hjb:(j:Int)<=4:=ω
  clear hj;go_wp2
  go_round
  case rel=>exact ⟨k+1,ω,(by first | (rw [hj2.out];done) | (rw [hj2.out];go_num)),by rw [hs.out]⟩
  case measure=>simp [intOf] <;> omega
 obtain rfl:n=k:=ω
 rw [Nat.sub_self];go_wp2;go_ret;exact ⟨rfl,rfl⟩
theorem Us {p:Prop} (h:p:=by first | (go_simp;done) | (go_simp;rfl)):p:=h
theorem Uz {p:Prop} (h:p:=by
 refine Rg.o1 ?_;intro zZ w_ hB e
 have ef:=Rg.ef zZ;refine aj rfl τ ?_;exact aK.ret hB (P2.out _)):p:=h
namespace M
inductive Out where
 | inf
 | bad
 | val (x z:Int)
def nx (a b:Int):Out->Out
 | .val x z=>if ah a b x z=0 then .inf else if fw (aN a b) (bB a b x z) (ah a b x z)=true then .val (Wh.Oj (aN a b) (bB a b x z) (ah a b x z)) (Wh.Oi (aN a b) (bB a b x z) (ah a b x z)) else .bad
 | o=>o
def run (a b:Int):Nat->Out->Out
 | 0,o=>o
 | k+1,o=>nx a b (run a b k o)
theorem uN {a b:Int} {o:Out} {k:Nat} (h:run a b k o=.inf):∀ n,k<=n->run a b n o=.inf
 | 0,hn=>by
        obtain rfl:k=0:=ω
        exact h
 | n+1,hn=>by
  by_cases e:k=n+1
  ·exact e ▸ h
  show nx a b (run a b n o)=.inf
  rw [uN h n ω];rfl
theorem uM {a b:Int} {o:Out} {k:Nat} (h:run a b k o=.bad):∀ n,k<=n->run a b n o=.bad
 | 0,hn=>by
        obtain rfl:k=0:=ω
        exact h
 | n+1,hn=>by
  by_cases e:k=n+1
  ·exact e ▸ h
  show nx a b (run a b n o)=.bad
  rw [uM h n ω];rfl
def fa:Out->Int
 | .val x z=>max (Wh.bl x.natAbs:Nat) (Wh.bl z.natAbs:Nat)
 | _=>0
def isInf:Out->Bool
 | .inf=>true
 | _=>false
def isOk:Out->Bool
 | .bad=>false
 | _=>true
def aZ (a b X E:Int) (n:Nat):Out:=if E=0 then .inf else run a b n (.val X (E*E))
end M
namespace Wh
theorem um {n k:Nat} (h:n<2 ^ k):bl n<=k:=by
 unfold bl
 split
 ·omega
 rename_i h0
 have:=(Nat.log2_lt h0 (k:=k)).2 h;omega
theorem rD {z:Int} {n:Nat} (h:sz z n):bl z.natAbs<=14*n:=by
 refine um (Nat.lt_of_lt_of_le h ?_);rw [Nat.pow_mul];exact Nat.pow_le_pow_left δ n
theorem qz {x z:Int} (h:ew x z=true):sz x 1000/\sz z 1000:=by
 unfold ew M.ins at h;simp only [Bool.and_eq_true,decide_eq_true_eq] at h;exact ⟨aL (aR.1 h.1.1) ω,aL (aR.1 (show (a_ z.natAbs).length<=80 by omega)) ω⟩
theorem qK {D F G:Int} (h:fw D F G=true):ew (Oj D F G) (Oi D F G)=true:=by
 unfold fw at h;rw [Bool.and_eq_true] at h;exact h.2
end Wh
def ww (base:Nat) (x z:Int) (v:Value) (W:World):Prop:=∃ s1 s2,v=.agg #[decide (x<0),s1,decide (z<0),s2]/\aF W base s1 (Wh.a_ x.natAbs)/\aF W base s2 (Wh.a_ z.natAbs)
theorem ww.view {base:Nat} {x z:Int} {v:Value} {W:World} (h:ww base x z v W):∃ (s:Bool) (a:Option Addr) (l c:Nat),Hid (s=decide (x<0))/\∃ (r:Bool) (b:Option Addr) (m d:Nat),Hid (r=decide (z<0))/\v=.agg #[s,.slice a l c,r,.slice b m d]/\aF W base (.slice a l c) (Wh.a_ x.natAbs)/\aF W base (.slice b m d) (Wh.a_ z.natAbs):=by
 obtain ⟨s1,s2,rfl,h1,h2⟩:=h;obtain ⟨a,c,rfl,-,-⟩:=aF.view h1;obtain ⟨b,d,rfl,-,-⟩:=aF.view h2;exact ⟨_,a,_,c,KO rfl,_,b,_,d,KO rfl,rfl,h1,h2⟩
theorem ww.at1 {base k j:Nat} {x z:Int} {s1 s2:Value} {W:World} (h1:aF W k s1 (Wh.a_ x.natAbs)) (h2:aF W j s2 (Wh.a_ z.natAbs)) (hk:base<=k) (hj:base<=j):(Rg.Val.at (ww base x z)).ok (.agg #[decide (x<0),s1,decide (z<0),s2]) W:=fun _ hb=>⟨s1,s2,rfl,(aF.below h1 hb).base hk,(aF.below h2 hb).base hj⟩
theorem ow (q:Bool) (A:Option Addr) (L C:Nat) (W:World):Sem.run prog (Instr.field 145 (.agg #[q,.slice A L C]) 1) W=.ok (.slice A L C) W:=κ
theorem aG.aM {W:World} {g:Nat} {T:TypeId} {u v x:Value} (h:aG W g T #[u,v,x]):W.cell? ⟨g,0,none⟩=some u/\W.cell? ⟨g,1,none⟩=some v/\W.cell? ⟨g,2,none⟩=some x:=⟨h.cell 0,h.cell 1,h.cell 2⟩
theorem Ca (a b X Y E:Int) (n:Nat) (w:World) (hg:M.good a b=true) (hX1:-10000<=X) (hX2:X<=10000) (hE1:0<=E) (hE2:E<=20) (hn:n<=5) :
  cB 141 #[.agg #[a,b],.agg #[X,Y,E],.int .i64 (n:Int)] w (.tuple #[fa (aZ a b X E n),M.isInf (aZ a b X E n),M.isOk (aZ a b X E n)]):=by
 have C:=(aG.new w #[a,b] 24).alloc (.cells #[X,Y,E] 47)
 have Q:=(aG.new (w.alloc (.cells #[a,b] 24)) #[X,Y,E] 47)
 rw [KQ] at Q;have B:=((KS w w).alloc (KT _) (.cells #[a,b] 24)).alloc (by rw [KQ];omega) (.cells #[X,Y,E] 47)
 have Nz:w.heap.size+2<=((w.alloc (.cells #[a,b] 24)).alloc (.cells #[X,Y,E] 47)).heap.size:=by rw [KQ,KQ];omega
 generalize hw3:(w.alloc (.cells #[a,b] 24)).alloc (.cells #[X,Y,E] 47)=wc at *;have ⟨q0,q1,q2⟩:=Q.aM;have f_:=C.box.c0;have j_:=C.box.c1
 by_cases h0:E=0
 ·subst h0
  have hz0:aZ a b X 0 n=.inf:=rfl;rw [hz0];clear hz0;go_enter func141,ntmps141
  go_wp2;exact KU results141 ⟨rfl,B⟩
 have hE:1<=E:=ω
 have Wj:1<=E*E/\E*E<=400:=⟨by have:=Int.mul_le_mul hE hE ω ω;omega,by have:=Int.mul_le_mul hE2 hE2 ω ω;omega⟩
 have hE0:(E == 0)=false:=by rw [beq_eq_false_iff_ne];exact h0
 have hout:aZ a b X E n=M.run a b n (.val X (E*E)):=if_neg h0;rw [hout];clear hout h0;obtain ⟨e1,e2⟩:=Wj
 have P1:=KO fun W=>bw X W ω ω
 have P2:=KO fun W=>bw (E*E) W ω ω
 have zX:Wh.sz X 1000:=aL (bi ω ω) ω;have zE:Wh.sz (E*E) 1000:=aL (bi ω ω) ω;have zX:=KO zX;have zE:=KO zE
 have hb2:-10000<=b/\b<=10000:=⟨(ag (ae hg)).2.2.1,(ag (ae hg)).2.2.2⟩
 have ha2:-1000<=a/\a<=1000:=⟨(ag (ae hg)).1,(ag (ae hg)).2.1⟩
 obtain ⟨hb1,hb2⟩:=hb2;obtain ⟨ha1,ha2⟩:=ha2;have hg:=KO hg
 have PG:=KO fun (x z:Int) (s r:Bool) v v' W k k' (h1:aF W k v (Wh.a_ x.natAbs)) (h2:aF W k' v' (Wh.a_ z.natAbs)) (hx:Wh.sz x 1000) (hz:Wh.sz z 1000) (hs:s=decide (x<0)) (hr:r=decide (z<0))=>(hs ▸ hr ▸ fx a b x z v v' W k k' h1 h2 hx hz ha1 ha2 hb1 hb2:Calls prog 163 #[.agg #[a,b],.agg #[s,v,r,v']] W fun e w'=>∃ sl,e=.returned (.agg #[decide (ah a b x z<0),sl])/\af w' W sl (ah a b x z)/\Below W W w')
 have PD:=KO fun (x z:Int) (s r:Bool) v v' W k k' (h1:aF W k v (Wh.a_ x.natAbs)) (h2:aF W k' v' (Wh.a_ z.natAbs)) (hx:Wh.sz x 1000) (hz:Wh.sz z 1000) (hs:s=decide (x<0)) (hr:r=decide (z<0))=>(hs ▸ hr ▸ Ah a b x z v v' W k k' hg.out h1 h2 hx hz:Calls prog 164 #[.agg #[a,b],.agg #[s,v,r,v']] W fun e w'=>∃ v1 v2,e=.returned (.tuple #[.agg #[decide (Wh.M8 (aN a b) (bB a b x z) (ah a b x z)<0),v1,decide (Wh.M9 (aN a b) (bB a b x z) (ah a b x z)<0),v2],fw (aN a b) (bB a b x z) (ah a b x z)])/\af w' W v1 (Wh.M8 (aN a b) (bB a b x z) (ah a b x z))/\af w' W v2 (Wh.M9 (aN a b) (bB a b x z) (ah a b x z))/\Below W W w')
 have PB:=KO fun (x:Int) (s:Bool) v W k (h1:aF W k v (Wh.a_ x.natAbs)) (hx:Wh.sz x 1000) (hs:s=decide (x<0))=>(hs ▸ ul x v W k h1 (aR.2 (aL hx ω)) (Nat.le_trans (rD hx) ω):cB 165 #[.agg #[s,v]] W (.int .i64 (Wh.bl x.natAbs:Nat)))
 clear ha1 ha2 hb1 hb2
 have hfld:=fun q A L C W=>ow q A L C W
 have i2:IntKind.i64.wrap (E*E)=E*E:=IntWalk.i64_in _ ω;have i2:=KO i2;go_enter func141,ntmps141
 go_upto_region 3 with fail
 refine be 11 [.is (.pointer (some ⟨w.heap.size+1,0,none⟩)),.is X,.at (aK (wc.heap.size) (X)),.is (.pointer (some ⟨w.heap.size+1,2,none⟩)),.is E,.is (.pointer (some ⟨w.heap.size+1,2,none⟩)),.is E,.is (E*E:Int),.at (aK (wc.heap.size) (E*E)),.at (ww (wc.heap.size) (X) (E*E)),.new (wc.heap.size) 162 #[false,.slice none 0 0,false,.slice none 0 0]] κ κ κ ⟨?_,?_,?_,?_,?_,?_,?_,?_,?_,?_,?_,fun h_=>absurd h_ δ,trivial⟩ ?_
 all_goals try ((first | (refine Rg.b1 ?_;intro zZ w_ hB e) | (refine Rg.b2 ?_;intro zZ w_ hB e f));have kz:=aE hB Q.aM.1;have kz:=aE hB Q.aM.2.2;(first | (go_simp;done) | (go_simp;exact Rg.wo ω)))
 ·refine Rg.o1 ?_;intro zZ w_ hB e
  have ef:=Rg.ef zZ;refine aj rfl τ ?_;exact aK.ret hB (P1.out _)
 ·exact Uz
 ·intro _ zZ w_ hB hr
  obtain ⟨Qb,a17,Qa,c17,QU,e17,o17⟩:=aK.get (hr 17 δ);obtain ⟨s23,a23,l23,c23,Tz,e23,Xj⟩:=aK.get (hr 23 δ);obtain rfl:=QU.out;obtain rfl:=Tz.out;exact I3 rfl Us (ww.at1 o17 Xj (KT _) (KT _))
 ·exact M4
 intro vals wz hB hv hne;have n9:(Rg.Val.new (wc.heap.size) 162 #[false,.slice none 0 0,false,.slice none 0 0]).ok (vals 10) wz:=hv 10 δ;have n24:(Rg.Val.at (ww (wc.heap.size) (X) (E*E))).ok (vals 9) wz:=hv 9 δ;simp only [bD,Rg.fill,Act.put,Nat.reduceAdd];clear hv;obtain ⟨g9,VV,LG,o9⟩:=n9;replace o9:aG wz g9 162 #[false,.slice none 0 0,false,.slice none 0 0]:=o9;obtain ⟨s24,a24,Qv,c24,O6,UN,Sw,m24,TL,XD,MX,Vh,p24⟩:=(cX n24).view;simp only [LG,MX];clear LG MX;have ⟨p0,p1,p2,p3,y0,y1,y2,y3,_⟩:=o9.aI;have R:=aG.oK o9 (.bool s24) (.slice a24 Qv c24) (.bool UN) (.slice Sw m24 TL);have ox:=KO (aF.base (aF.eR Vh o9 δ (.bool s24) (.slice a24 Qv c24) (.bool UN) (.slice Sw m24 TL)) (Nat.zero_le _));have oz:=KO (aF.base (aF.eR p24 o9 δ (.bool s24) (.slice a24 Qv c24) (.bool UN) (.slice Sw m24 TL)) (Nat.zero_le _))
 have hkg:w.heap.size+2<=g9:=ω
 have B2:Below w w ((((wz.setCell ⟨g9,0,none⟩ (.bool s24)).setCell ⟨g9,1,none⟩ (.slice a24 Qv c24)).setCell ⟨g9,2,none⟩ (.bool UN)).setCell ⟨g9,3,none⟩ (.slice Sw m24 TL)):=KR (KR (KR (KR (p_ B hB) (by simp <;> omega) _) (by simp <;> omega) _) (by simp <;> omega) _) (by simp <;> omega) _;have C2:=((((C.keep hB).other (i:=0) (show w.heap.size≠g9 by omega) (.bool s24)).other (i:=1) (show w.heap.size≠g9 by omega) (.slice a24 Qv c24)).other (i:=2) (show w.heap.size≠g9 by omega) (.bool UN)).other (i:=3) (show w.heap.size≠g9 by omega) (.slice Sw m24 TL);unfold aU aU Oper.wp;go_simp
 clear p0 p1 p2 p3 y0 y1 y2 y3 o9 Vh p24 hB B Q q0 q1 q2 f_ j_ C Nz VV i2 P1 P2 hE0 hw3;generalize ((((wz.setCell ⟨g9,0,none⟩ (.bool s24)).setCell ⟨g9,1,none⟩ (.slice a24 Qv c24)).setCell ⟨g9,2,none⟩ (.bool UN)).setCell ⟨g9,3,none⟩ (.slice Sw m24 TL))=wd at *;have OQ:M.run a b 0 (.val X (E*E))=.val X (E*E):=rfl;generalize hZ:E*E=Z at *;replace hZ:=KO hZ;replace OQ:=KO OQ;go_wp2
 go_loopw [26] (fun vi wr=>∃ (k:Nat) (x z:Int) (s:Bool) (av:Option Addr) (lv cv:Nat) (r:Bool) (bv:Option Addr) (mv dv:Nat),k<=n/\vi=.int .i64 k/\Hid (M.run a b k (.val X Z)=.val x z)/\aG wr g9 162 #[s,.slice av lv cv,r,.slice bv mv dv]/\aF wr 0 (.slice av lv cv) (Wh.a_ x.natAbs)/\aF wr 0 (.slice bv mv dv) (Wh.a_ z.natAbs)/\Hid (s=decide (x<0))/\Hid (r=decide (z<0))/\Wh.sz x 1000/\Wh.sz z 1000/\aG wr w 24 #[a,b]/\Below w w wr) (fun vi _=>n - (intOf vi).toNat)
 case atStart=>exact ⟨0,X,Z,s24,a24,Qv,c24,UN,Sw,m24,TL,Nat.zero_le _,rfl,OQ,R,ox.out,oz.out,O6,XD,zX.out,zE.out,C2,B2⟩
 case round=>
 clear R ox oz C2 B2 OQ O6 XD zX zE;obtain ⟨k,x,z,s,av,lv,cv,r,bv,mv,dv,hk,rfl,hrun,R,ox,oz,hs,hr,zx,zz,C,B⟩:=hrel;have ox:=KO ox;have oz:=KO oz;have zx:=KO zx;have zz:=KO zz;have D_:=R.aI.c0;have F_:=R.aI.c1;have I_:=R.aI.c2;have J_:=R.aI.c3;have f_:=C.box.c0;have j_:=C.box.c1
 by_cases hlt:k<n
 ·have Sn:=KO fun v v' W i j h1 h2=>PG.out x z s r v v' W i j h1 h2 zx.out zz.out hs.out hr.out
  have M7:=KO fun v v' W i j h1 h2=>PD.out x z s r v v' W i j h1 h2 zx.out zz.out hs.out hr.out
  have hnx:M.run a b (k+1) (.val X Z)=M.nx a b (.val x z):=by show M.nx a b (M.run a b k (.val X Z))=_;rw [hrun.out]
  unfold M.nx at hnx
  dsimp only at hnx
  clear PG PD PB hs hr
  have NC:=fun h=>qz (qK (D:=aN a b) (F:=bB a b x z) (G:=ah a b x z) h)
  have RN:fw (aN a b) (bB a b x z) (ah a b x z)=true->Wh.M8 (aN a b) (bB a b x z) (ah a b x z)=Wh.Oj (aN a b) (bB a b x z) (ah a b x z)/\Wh.M9 (aN a b) (bB a b x z) (ah a b x z)=Wh.Oi (aN a b) (bB a b x z) (ah a b x z):=fun h=>by unfold Wh.M8 Wh.M9;rw [if_pos h,if_pos h];exact ⟨rfl,rfl⟩
  generalize fw (aN a b) (bB a b x z) (ah a b x z)=ok,Wh.Oi (aN a b) (bB a b x z) (ah a b x z)=dd,Wh.Oj (aN a b) (bB a b x z) (ah a b x z)=nn,Wh.M9 (aN a b) (bB a b x z) (ah a b x z)=z',Wh.M8 (aN a b) (bB a b x z) (ah a b x z)=x' at *;have hG0:=@iL (ah a b x z);generalize ah a b x z=G at *;generalize decide (G<0)=sg at *
  by_cases hG:G=0
  ·rw [if_pos hG] at hnx
   have hfin:=KO (uN hnx n ω);have hl0:=hG0.2 hG;clear hnx hG hG0 NC RN M7;generalize To:(Wh.a_ G.natAbs).length=lg at *;subst hl0;replace To:=KO To
   go_wp2_with ((with_reducible refine (Sn.out _ _ _ _ _ ox.out oz.out).mono ?_);rintro e w4 ⟨v4,rfl,Ks,hb4⟩;obtain ⟨a4,c4,rfl,K7,Ke⟩:=aF.view Ks;clear K7 Ke;(rw [To.out] at Ks ⊢);replace ⟨C,R,B⟩:=Ky hb4 C R B;(replace ⟨f_,j_⟩:=C.b2);(replace ⟨D_,F_,I_,J_⟩:=R.b4))
   exact KU (v:=.tuple #[(0:Int),true,true]) results141 ⟨by rw [hZ.out,hfin.out];rfl,B⟩
  rw [if_neg hG] at hnx
  have hl0:¬ (Wh.a_ G.natAbs).length=0:=fun h=>hG (hG0.1 h)
  have hlq:(((Wh.a_ G.natAbs).length:Int) == 0)=false:=by rw [beq_eq_false_iff_ne];omega
  clear hG hG0
  cases ok with
  | false=>
   have hfin:=KO (uM hnx n ω);clear hnx NC RN;generalize decide (z'<0)=r',decide (x'<0)=s' at *
   go_wp2_with (first
    | ((with_reducible refine (Sn.out _ _ _ _ _ ox.out oz.out).mono ?_);rintro e w4 ⟨v4,rfl,Ks,hb4⟩;obtain ⟨a4,c4,rfl,K7,Ke⟩:=aF.view Ks;clear K7 Ke Ks;(generalize (Wh.a_ G.natAbs).length=lg at *);replace ⟨C,R⟩:=Kt hb4 C R;replace ox:=kO ox hb4;replace oz:=kO oz hb4;replace B:=p_ B hb4;(replace ⟨f_,j_⟩:=C.b2);(replace ⟨D_,F_,I_,J_,B_,C_,KV,KW⟩:=R.LA))
    | ((with_reducible refine (M7.out _ _ _ _ _ ox.out oz.out).mono ?_);rintro e w5 ⟨v5,u5,rfl,LZ,Nf,hb5⟩;replace ⟨C,R⟩:=Kt hb5 C R;replace ox:=kO ox hb5;replace oz:=kO oz hb5;replace B:=p_ B hb5;obtain ⟨a5,c5,rfl,K7,Ke⟩:=aF.view LZ;clear K7 Ke;obtain ⟨b5,d5,rfl,K7,Ke⟩:=aF.view Nf;clear K7 Ke;have on:=KO (show aF _ _ _ _ from LZ);have om:=KO (show aF _ _ _ _ from Nf);clear LZ Nf;(generalize (Wh.a_ x'.natAbs).length=l5 at *);(generalize (Wh.a_ z'.natAbs).length=m5 at *);have N:=aG.new w5 #[s',.slice a5 l5 c5,r',.slice b5 m5 d5] 162;have b_:=bA w5 (.cells #[s',.slice a5 l5 c5,r',.slice b5 m5 d5] 162);replace ⟨C,R⟩:=Kt b_ C R;replace ox:=kO ox b_;replace oz:=kO oz b_;replace on:=kO on b_;replace om:=kO om b_;replace B:=p_ B b_;clear b_;(replace ⟨f_,j_⟩:=C.b2);(replace ⟨D_,F_,I_,J_,B_,C_,KV,KW⟩:=R.LA);(replace ⟨N9,OA,OB,OC⟩:=N.b4)))
   exact KU (v:=.tuple #[(0:Int),false,false]) results141 ⟨by rw [hZ.out,hfin.out];rfl,B⟩
  | true=>
  rw [if_pos rfl] at hnx;obtain ⟨hxn,hzn⟩:=RN rfl;obtain ⟨zn,zd⟩:=NC rfl;subst hxn hzn;clear RN NC;have zn:=KO zn;have zd:=KO zd;have hnx:=KO hnx;generalize hs5:decide (x'<0)=s' at *;generalize Tt:decide (z'<0)=r' at *;replace hs5:=KO hs5.symm;replace Tt:=KO Tt.symm;clear hrun zx zz
  go_wp2_with (first
   | ((with_reducible refine (Sn.out _ _ _ _ _ ox.out oz.out).mono ?_);rintro e w4 ⟨v4,rfl,Ks,hb4⟩;obtain ⟨a4,c4,rfl,K7,Ke⟩:=aF.view Ks;clear K7 Ke Ks;(generalize (Wh.a_ G.natAbs).length=lg at *);replace ⟨C,R⟩:=Kt hb4 C R;replace ox:=kO ox hb4;replace oz:=kO oz hb4;replace B:=p_ B hb4;(replace ⟨f_,j_⟩:=C.b2);(replace ⟨D_,F_,I_,J_,B_,C_,KV,KW⟩:=R.LA))
   | ((with_reducible refine (M7.out _ _ _ _ _ ox.out oz.out).mono ?_);rintro e w5 ⟨v5,u5,rfl,LZ,Nf,hb5⟩;replace ⟨C,R⟩:=Kt hb5 C R;replace ox:=kO ox hb5;replace oz:=kO oz hb5;replace B:=p_ B hb5;obtain ⟨a5,c5,rfl,K7,Ke⟩:=aF.view LZ;clear K7 Ke;obtain ⟨b5,d5,rfl,K7,Ke⟩:=aF.view Nf;clear K7 Ke;have on:=KO (show aF _ _ _ _ from LZ);have om:=KO (show aF _ _ _ _ from Nf);clear LZ Nf;(generalize (Wh.a_ x'.natAbs).length=l5 at *);(generalize (Wh.a_ z'.natAbs).length=m5 at *);have N:=aG.new w5 #[s',.slice a5 l5 c5,r',.slice b5 m5 d5] 162;have b_:=bA w5 (.cells #[s',.slice a5 l5 c5,r',.slice b5 m5 d5] 162);replace ⟨C,R⟩:=Kt b_ C R;replace ox:=kO ox b_;replace oz:=kO oz b_;replace on:=kO on b_;replace om:=kO om b_;replace B:=p_ B b_;clear b_;(replace ⟨f_,j_⟩:=C.b2);(replace ⟨D_,F_,I_,J_,B_,C_,KV,KW⟩:=R.LA);(replace ⟨N9,OA,OB,OC⟩:=N.b4)))
  go_roundw
  case rel=>exact ⟨k+1,_,_,s',a5,l5,c5,r',b5,m5,d5,ω,ν,hnx,aG.oK R (.bool s') (.slice a5 l5 c5) (.bool r') (.slice b5 m5 d5),aF.base (aF.eR on.out R δ (.bool s') (.slice a5 l5 c5) (.bool r') (.slice b5 m5 d5)) (Nat.zero_le _),aF.base (aF.eR om.out R δ (.bool s') (.slice a5 l5 c5) (.bool r') (.slice b5 m5 d5)) (Nat.zero_le _),hs5,Tt,zn.out,zd.out,(((C.other (show w.heap.size≠g9 by omega) _).other (show w.heap.size≠g9 by omega) _).other (show w.heap.size≠g9 by omega) _).other (show w.heap.size≠g9 by omega) _,Lv B⟩
  case measure=>simp [intOf] <;> omega
 obtain rfl:k=n:=ω
 have P1:=KO fun v W i h=>PB.out x s v W i h zx.out hs.out
 have P2:=KO fun v W i h=>PB.out z r v W i h zz.out hr.out
 have hfin:=KO (show fa (M.run a b k (.val X Z))=max ((Wh.bl x.natAbs:Nat):Int) ((Wh.bl z.natAbs:Nat):Int)/\M.isInf (M.run a b k (.val X Z))=false/\M.isOk (M.run a b k (.val X Z))=true by rw [hrun.out];exact ⟨rfl,rfl,rfl⟩)
 have hm1:(Wh.bl x.natAbs:Int)<=14000:=by have:=rD zx.out;omega
 have hm2:(Wh.bl z.natAbs:Int)<=14000:=by have:=rD zz.out;omega
 generalize Wh.bl z.natAbs=k2,Wh.bl x.natAbs=k1 at *;have hmax:=KO (show (if (k1:Int)<k2 then (k2:Int) else k1)=max (k1:Int) k2 by split <;> omega);clear PG PD PB hs hr zx zz hrun
 go_upto_region 13 with fail
 refine be 10 [.is (.pointer (some ⟨g9,0,none⟩)),.is (.agg #[s,.slice av lv cv]),.is (.int .i64 (k1:Nat)),.is (.pointer (some ⟨g9,2,none⟩)),.is (.agg #[r,.slice bv mv dv]),.is (.int .i64 (k2:Nat)),.is (max (k1:Int) k2:Int),.is (max (k1:Int) k2:Int),.is false,.is true] κ κ κ ⟨?_,?_,?_,?_,?_,?_,?_,?_,?_,?_,trivial⟩ ?_
 all_goals try ((first | (refine Rg.b0 ?_;intro zZ w_ hB) | (refine Rg.b1 ?_;intro zZ w_ hB e) | (refine Rg.b2 ?_;intro zZ w_ hB e f));have kz:=aE hB R.aI.c0;have kz:=aE hB R.aI.c1;have kz:=aE hB R.aI.c2;have kz:=aE hB R.aI.c3;have ec:=Rg.ec zZ;(first | (go_simp;done) | (go_simp;first | done | (rw [hmax.out];done) | (simp only [hmax.out];done);done)))
 ·refine Rg.o1 ?_;intro zZ w_ hB e
  have ef:=Rg.ef zZ;exact bO rfl γ (P1.out _ _ _ (aF.below ox.out hB))
 ·refine Rg.o1 ?_;intro zZ w_ hB e
  have ef:=Rg.ef zZ;exact bO rfl γ (P2.out _ _ _ (aF.below oz.out hB))
 intro vals wy hB9 hv hne;have Mi:vals 7=.int .i64 (max (k1:Int) k2):=hv 7 δ;have Od:vals 8=.bool false:=hv 8 δ;have MX:vals 9=.bool true:=hv 9 δ;simp only [bD,Rg.fill,Act.put,Nat.reduceAdd];clear hv;simp only [Mi,Od,MX];clear Mi Od MX;unfold aU;go_wp2;exact KU (v:=.tuple #[(max (k1:Int) k2:Int),false,true]) results141 ⟨by rw [hZ.out,hfin.out.1,hfin.out.2.1,hfin.out.2.2],p_ B hB9⟩
end
section
open Gr M Rg Rw Wh
namespace M
def Ab (x n:Int):Prop:=-n<=x/\x<=n
theorem Ab.of (x:Int):Ab x x.natAbs:=by unfold Ab;omega
theorem Ab.nn {x n:Int} (h:Ab x n):0<=n:=by unfold Ab at h;omega
theorem Ab.mul {x y m n:Int} (h:Ab x m) (k:Ab y n):Ab (x*y) (m*n):=aH h.1 h.2 k.1 k.2
theorem Ab.add {x y m n:Int} (h:Ab x m) (k:Ab y n):Ab (x+y) (m+n):=by unfold Ab at *;omega
theorem Ab.sub {x y m n:Int} (h:Ab x m) (k:Ab y n):Ab (x - y) (m+n):=by unfold Ab at *;omega
theorem Ab.neg {x n:Int} (h:Ab x n):Ab (-x) n:=by unfold Ab at *;omega
theorem Ab.le {x m n:Int} (h:Ab x m) (k:m<=n):Ab x n:=by unfold Ab at *;omega
theorem Ab.to {x n:Int} (h:Ab x n):x.natAbs<=n.toNat:=by unfold Ab at h;omega
theorem Ab.num {n:Int} (h:0<=n):Ab n n:=by unfold Ab;omega
theorem Cc {n:Nat} (h:n≠0):2 ^ (Wh.bl n - 1)<=n:=by
 unfold Wh.bl;rw [if_neg h,Nat.add_sub_cancel];exact Nat.log2_self_le h
theorem qC (n:Nat):n<2 ^ Wh.bl n:=by
 unfold Wh.bl
 split
 ·rename_i h;subst h;decide
 exact Nat.lt_log2_self
theorem tC {n:Nat} (h:n≠0):1<=Wh.bl n:=by
 unfold Wh.bl;rw [if_neg h];omega
theorem yV {m n:Nat} (h:m<=n):Wh.bl m<=Wh.bl n:=um (Nat.lt_of_le_of_lt h (qC n))
theorem II (m n:Nat):max (Wh.bl m) (Wh.bl n)=Wh.bl (max m n):=by
 rcases Nat.le_total m n with h | h
 ·rw [Nat.max_eq_right h,Nat.max_eq_right (yV h)]
 rw [Nat.max_eq_left h,Nat.max_eq_left (yV h)]
def hh (x z:Int):Nat:=max x.natAbs z.natAbs
def hb (x z:Int):Nat:=Wh.bl (hh x z)
theorem vN (x z:Int):Ab x (hh x z)/\Ab z (hh x z):=by unfold Ab hh;omega
theorem Jp {x z n:Int} (h:Ab x n) (k:Ab z n):((hh x z:Nat):Int)<=n:=by unfold Ab at *;unfold hh;omega
theorem Gu {a b x z h:Int} (hx:Ab x h) (hz:Ab z h):Ab (bB a b x z) ((1+2*a.natAbs+8*b.natAbs+a.natAbs*a.natAbs)*(h*h*h*h)):=by
 have ha:=Ab.of a;have hb:=Ab.of b;unfold bB
 have:=((((hx.mul hx).mul hx).mul hx).sub ((((((Ab.num (n:=2) δ).mul ha).mul hx).mul hx).mul hz).mul hz)).sub ((((((Ab.num (n:=8) δ).mul hb).mul hx).mul hz).mul hz).mul hz) |>.add ((((((ha.mul ha).mul hz).mul hz).mul hz).mul hz))
 refine this.le (Int.le_of_eq ?_)
 grind
theorem FN {a b x z h:Int} (hx:Ab x h) (hz:Ab z h):Ab (ah a b x z) (4*(1+a.natAbs+b.natAbs)*(h*h*h*h)):=by
 have ha:=Ab.of a;have hb:=Ab.of b;unfold ah;have:=((Ab.num (n:=4) δ).mul hz).mul ((((hx.mul hx).mul hx).add (((ha.mul hx).mul hz).mul hz)).add (((hb.mul hz).mul hz).mul hz));refine this.le (Int.le_of_eq ?_)
 grind
def r1 (a x z:Int):Int:=12*x*x*z+16*a*z*z*z
def r2 (a b x z:Int):Int:=3*x*x*x - 5*a*x*z*z - 27*b*z*z*z
def r3 (a b x z:Int):Int:=4*aN a b*x*x*x - 4*a*a*b*x*x*z+4*a*(3*a*a*a+22*b*b)*x*z*z+12*b*(a*a*a+8*b*b)*z*z*z
def r4 (a b x z:Int):Int:=a*a*b*x*x*x+a*(5*a*a*a+32*b*b)*x*x*z+2*b*(13*a*a*a+96*b*b)*x*z*z - 3*a*a*(a*a*a+8*b*b)*z*z*z
theorem Hh (a b x z:Int):r1 a x z*bB a b x z - r2 a b x z*ah a b x z=4*aN a b*(z*z*z*z*z*z*z):=by
 unfold r1 r2 bB ah aN
 grind
theorem Hf (a b x z:Int):r3 a b x z*bB a b x z+r4 a b x z*ah a b x z=4*aN a b*(x*x*x*x*x*x*x):=by
 unfold r3 r4 bB ah aN
 grind
theorem J7 {a x z h:Int} (hx:Ab x h) (hz:Ab z h):Ab (r1 a x z) ((12+16*a.natAbs)*(h*h*h)):=by
 have ha:=Ab.of a;unfold r1;have:=((((Ab.num (n:=12) δ).mul hx).mul hx).mul hz).add (((((Ab.num (n:=16) δ).mul ha).mul hz).mul hz).mul hz);exact this.le (Int.le_of_eq φ)
theorem J8 {a b x z h:Int} (hx:Ab x h) (hz:Ab z h):Ab (r2 a b x z) ((3+5*a.natAbs+27*b.natAbs)*(h*h*h)):=by
 have ha:=Ab.of a;have hb:=Ab.of b;unfold r2;have:=(((((Ab.num (n:=3) δ).mul hx).mul hx).mul hx).sub (((((Ab.num (n:=5) δ).mul ha).mul hx).mul hz).mul hz)).sub (((((Ab.num (n:=27) δ).mul hb).mul hz).mul hz).mul hz);exact this.le (Int.le_of_eq φ)
theorem J9 {a b x z h:Int} (hx:Ab x h) (hz:Ab z h):Ab (r3 a b x z) ((4*(aN a b).natAbs+4*a.natAbs*a.natAbs*b.natAbs+4*a.natAbs*(3*a.natAbs*a.natAbs*a.natAbs+22*b.natAbs*b.natAbs)+12*b.natAbs*(a.natAbs*a.natAbs*a.natAbs+8*b.natAbs*b.natAbs))*(h*h*h)):=by
 have ha:=Ab.of a;have hb:=Ab.of b;have hd:=Ab.of (aN a b);unfold r3;have t1:=((((Ab.num (n:=4) δ).mul hd).mul hx).mul hx).mul hx;have t2:=((((((Ab.num (n:=4) δ).mul ha).mul ha).mul hb).mul hx).mul hx).mul hz;have t3:=(((((Ab.num (n:=4) δ).mul ha).mul (((((Ab.num (n:=3) δ).mul ha).mul ha).mul ha).add (((Ab.num (n:=22) δ).mul hb).mul hb))).mul hx).mul hz).mul hz;have t4:=(((((Ab.num (n:=12) δ).mul hb).mul (((ha.mul ha).mul ha).add (((Ab.num (n:=8) δ).mul hb).mul hb))).mul hz).mul hz).mul hz;exact (((t1.sub t2).add t3).add t4).le (Int.le_of_eq φ)
theorem KA {a b x z h:Int} (hx:Ab x h) (hz:Ab z h):Ab (r4 a b x z) ((a.natAbs*a.natAbs*b.natAbs+a.natAbs*(5*a.natAbs*a.natAbs*a.natAbs+32*b.natAbs*b.natAbs)+2*b.natAbs*(13*a.natAbs*a.natAbs*a.natAbs+96*b.natAbs*b.natAbs)+3*a.natAbs*a.natAbs*(a.natAbs*a.natAbs*a.natAbs+8*b.natAbs*b.natAbs))*(h*h*h)):=by
 have ha:=Ab.of a;have hb:=Ab.of b;unfold r4;have t1:=((((ha.mul ha).mul hb).mul hx).mul hx).mul hx
 have t2:=((((ha.mul (((((Ab.num (n:=5) δ).mul ha).mul ha).mul ha).add (((Ab.num (n:=32) δ).mul hb).mul hb))).mul hx).mul hx).mul hz)
 have t3:=(((((Ab.num (n:=2) δ).mul hb).mul (((((Ab.num (n:=13) δ).mul ha).mul ha).mul ha).add (((Ab.num (n:=96) δ).mul hb).mul hb))).mul hx).mul hz).mul hz;have t4:=((((((Ab.num (n:=3) δ).mul ha).mul ha).mul (((ha.mul ha).mul ha).add (((Ab.num (n:=8) δ).mul hb).mul hb))).mul hz).mul hz).mul hz;exact (((t1.add t2).add t3).sub t4).le (Int.le_of_eq φ)
theorem Cu {a b x z:Int} (h0:hh x z≠0) :
  4*((aN a b).natAbs:Int)*((hh x z:Int)*hh x z*hh x z*hh x z)<=hK a.natAbs b.natAbs (aN a b).natAbs*hh (bB a b x z) (ah a b x z):=by
 obtain ⟨hx,hz⟩:=vN x z;obtain ⟨hF,hG⟩:=vN (bB a b x z) (ah a b x z);have e1:=Hh a b x z;have e2:=Hf a b x z;have k1:=((J7 (a:=a) hx hz).mul hF).sub ((J8 (a:=a) (b:=b) hx hz).mul hG);have k2:=((J9 (a:=a) (b:=b) hx hz).mul hF).add ((KA (a:=a) (b:=b) hx hz).mul hG);rw [e1] at k1;rw [e2] at k2
 have hpos:(1:Int)<=hh x z:=ω
 have hN:(0:Int)<=hh (bB a b x z) (ah a b x z):=ω
 have hor:(hh x z:Int)=x.natAbs∨(hh x z:Int)=z.natAbs:=by unfold hh;omega
 generalize hh (bB a b x z) (ah a b x z)=N at *
 have ap:∀ u:Int,(4*aN a b*(u*u*u*u*u*u*u)).natAbs=4*(aN a b).natAbs*(u.natAbs*u.natAbs*u.natAbs*u.natAbs*u.natAbs*u.natAbs*u.natAbs):=fun u=>by simp [Int.natAbs_mul]
 have fin:∀ (u c:Int),(hh x z:Int)=u.natAbs->Ab (4*aN a b*(u*u*u*u*u*u*u)) (c*((hh x z:Int)*hh x z*hh x z)*N)->4*((aN a b).natAbs:Int)*((hh x z:Int)*hh x z*hh x z*hh x z)<=c*N:=fun u c hu hab=>by
  have h1:(((4*aN a b*(u*u*u*u*u*u*u)).natAbs:Nat):Int)<=c*((hh x z:Int)*hh x z*hh x z)*N:=by unfold Ab at hab;omega
  rw [ap] at h1
  push_cast at h1
  rw [←hu] at h1;have hq:(0:Int)<(hh x z:Int)*hh x z*hh x z:=Int.mul_pos (Int.mul_pos ω ω) ω;generalize (hh x z:Int)=h at *;refine Int.le_of_mul_le_mul_left (a:=h*h*h) ?_ hq
  calc h*h*h*(4*((aN a b).natAbs:Int)*(h*h*h*h))=4*((aN a b).natAbs:Int)*(h*h*h*h*h*h*h):=φ
   _<=_:=h1
   _=_:=φ
 unfold hK
 rcases hor with ho | ho
 ·refine Int.le_trans (fin x _ ho (k2.le (Int.le_of_eq ?_))) (Int.mul_le_mul_of_nonneg_right (Int.le_max_right _ _) hN)
  grind
 refine Int.le_trans (fin z _ ho (k1.le (Int.le_of_eq ?_))) (Int.mul_le_mul_of_nonneg_right (Int.le_max_left _ _) hN)
 grind
theorem IR (a b x z:Int):(hh (bB a b x z) (ah a b x z):Int)<=hM a.natAbs b.natAbs*((hh x z:Int)*hh x z*hh x z*hh x z):=by
 obtain ⟨hx,hz⟩:=vN x z;have hp:(0:Int)<=(hh x z:Int)*hh x z*hh x z*hh x z:=Int.mul_nonneg (Int.mul_nonneg (Int.mul_nonneg ω ω) ω) ω;refine Jp ((Gu (a:=a) (b:=b) hx hz).le ?_) ((FN (a:=a) (b:=b) hx hz).le ?_)
 ·exact Int.mul_le_mul_of_nonneg_right (by unfold hM;exact Int.le_max_left _ _) hp
 exact Int.mul_le_mul_of_nonneg_right (by unfold hM;exact Int.le_max_right _ _) hp
theorem FC {a b x z f g:Int} {d:Nat} (h0:hh x z≠0) (hd:d≠0) (hdD:d<=4*(aN a b).natAbs) (hF:bB a b x z=d*f) (hG:ah a b x z=d*g) :
  4*hb x z<=hb f g+hC a b+3/\hb f g<=4*hb x z+hC a b:=by
 have h1:=Cu (a:=a) (b:=b) h0;have h2:=IR a b x z
 have e:hh (bB a b x z) (ah a b x z)=d*hh f g:=by
  rw [hF,hG];unfold hh;simp only [Int.natAbs_mul,Int.natAbs_natCast];exact (Nat.mul_max_mul_left _ _ _)
 rw [e] at h1 h2;unfold hb hC
 have hKn:(0:Int)<=hK a.natAbs b.natAbs (aN a b).natAbs:=by
  unfold hK
  have:(0:Int)<=15+21*(a.natAbs:Int)+27*(b.natAbs:Int):=ω
  exact Int.le_trans this (Int.le_max_left _ _)
 have hMn:(0:Int)<=hM a.natAbs b.natAbs:=by
  unfold hM
  have:(0:Int)<=4*(1+(a.natAbs:Int)+(b.natAbs:Int)):=ω
  exact Int.le_trans this (Int.le_max_right _ _)
 obtain ⟨K,hK⟩:=Int.eq_ofNat_of_zero_le hKn;obtain ⟨M,hM⟩:=Int.eq_ofNat_of_zero_le hMn;rw [hK] at h1 ⊢;rw [hM] at h2 ⊢;generalize (aN a b).natAbs=D,hh f g=h',hh x z=h at *
 have eQ:(max (M:Int) (K:Int)).toNat=max M K:=ω
 rw [eQ]
 have h1:4*D*(h*h*h*h)<=K*(d*h'):=by exact_mod_cast h1
 have h2:d*h'<=M*(h*h*h*h):=by exact_mod_cast h2
 have hC:=qC (max M K);generalize Wh.bl (max M K)=C at *
 have hMC:M<2 ^ C:=ω
 have hKC:K<2 ^ C:=ω
 have hb1:=Cc h0;have hb2:=qC h;have hb3:=tC h0;generalize Wh.bl h=B at *
 obtain ⟨B,rfl⟩:∃ c,B=c+1:=⟨B - 1,ω⟩
 rw [Nat.add_sub_cancel] at hb1
 have h3:h*h*h*h<=K*h':=by
  have hD:0<4*D:=ω
  refine Nat.le_of_mul_le_mul_left (c:=4*D) ?_ hD;refine Nat.le_trans h1 ?_
  calc K*(d*h')=d*(K*h'):=φ
   _<=4*D*(K*h'):=Nat.mul_le_mul_right _ hdD
 have h4:h'<=M*(h*h*h*h):=Nat.le_trans (Nat.le_mul_of_pos_left _ ω) h2
 have p1:2 ^ (4*B)<=h*h*h*h:=by
  calc 2 ^ (4*B)=2 ^ B*2 ^ B*2 ^ B*2 ^ B:=by rw [←Nat.pow_add,←Nat.pow_add,←Nat.pow_add];congr 1;omega
   _<=_:=Nat.mul_le_mul (Nat.mul_le_mul (Nat.mul_le_mul hb1 hb1) hb1) hb1
 have p2:h*h*h*h<2 ^ (4*(B+1)):=by
  calc h*h*h*h<2 ^ (B+1)*2 ^ (B+1)*2 ^ (B+1)*2 ^ (B+1):=Nat.mul_lt_mul'' (Nat.mul_lt_mul'' (Nat.mul_lt_mul'' hb2 hb2) hb2) hb2
   _=_:=by rw [←Nat.pow_add,←Nat.pow_add,←Nat.pow_add];congr 1;omega
 have p3:=qC h'
 constructor
 ·have:2 ^ (4*B)<2 ^ (C+Wh.bl h'):=by
   rw [Nat.pow_add 2 C]
   calc 2 ^ (4*B)<=K*h':=Nat.le_trans p1 h3
    _<_:=Nat.mul_lt_mul'' hKC p3
  have:=(Nat.pow_lt_pow_iff_right δ).1 this;omega
 refine um (Nat.lt_of_le_of_lt h4 ?_);rw [Nat.pow_add,Nat.mul_comm];exact Nat.mul_lt_mul'' p2 hMC
end M
theorem ZL {p:Prop} (h:p:=by
 rcases key y1 h1 with ⟨e,rfl⟩ | ⟨u,v,e,hu⟩
 ·rw [e]
  unfold Pr rx rz q1;refine ⟨?_,?_,?_⟩ <;> grind
 rw [e];unfold Pr rx rz;refine ⟨?_,?_,?_⟩ <;> grind):p:=h
namespace M
theorem uJ (x:Rat):x*((x.den:Int):Rat)=((x.num:Int):Rat):=by
 have h1:=Rat.num_divInt_den x;rw [Rat.divInt_eq_div] at h1
 have h:((x.den:Int):Rat)≠0:=by
  have:=x.den_nz
  exact_mod_cast this
 have h2:=Rat.div_mul_cancel (a:=(x.num:Rat)) h;rw [h1] at h2;exact h2
theorem GU {x:Rat} {m n:Int} (hn:0<n) (hc:Int.gcd m n=1) (h:x*(n:Rat)=(m:Rat)):x.num=m/\(x.den:Int)=n:=by
 have hz:(n:Rat)≠0:=by
  have:n≠0:=ω
  exact_mod_cast this
 have h1:x=Rat.divInt m n:=by
  rw [Rat.divInt_eq_div,←h,Rat.mul_div_cancel hz]
 obtain ⟨k,rfl⟩:=Int.eq_ofNat_of_zero_le (Int.le_of_lt hn)
 have hr:m.natAbs.Coprime k:=by simpa [Int.gcd] using hc
 have h2:x=⟨m,k,ω,hr⟩:=by
  rw [h1];exact (Rat.mk_eq_divInt (nz:=by omega) (c:=hr)).symm
 rw [h2];exact ⟨rfl,rfl⟩
namespace r_
def px:r_->Int
 | O=>1
 | .fin x _=>x.num
def pz:r_->Int
 | O=>0
 | .fin x _=>x.den
def hp (P:r_):Nat:=hb (px P) (pz P)
theorem cop (P:r_):Int.gcd (px P) (pz P)=1:=by
 cases P with
 | O=>rfl
 | fin x y=>exact x.reduced
theorem EJ (P:r_):0<=pz P:=by
 cases P with
 | O=>exact Int.le_refl _
 | fin x y=>exact Int.natCast_nonneg _
theorem I4 (P:r_):px (neg P)=px P:=by cases P <;> rfl
theorem I5 (P:r_):pz (neg P)=pz P:=by cases P <;> rfl
theorem jq {x z:Int} (h:Int.gcd x z=1):hh x z≠0:=by
 unfold hh;intro h0
 have h1:x=0:=ω
 have h2:z=0:=ω
 subst h1 h2;cases h
theorem Ic (P:r_):1<=hp P:=tC (jq (cop P))
def rx:r_->Rat
 | O=>1
 | .fin x _=>x
def rz:r_->Rat
 | O=>0
 | .fin _ _=>1
def rs:r_->Rat
 | O=>1
 | .fin x _=>((x.den:Int):Rat)
theorem J5 (P:r_):((px P:Int):Rat)=rs P*rx P:=by
 cases P with
 | O=>unfold px rs rx;rw [Rat.mul_one];rfl
 | fin x y=>unfold px rs rx;rw [←uJ,Rat.mul_comm]
theorem J6 (P:r_):((pz P:Int):Rat)=rs P*rz P:=by
 cases P with
 | O=>unfold pz rs rz;rw [Rat.mul_zero];rfl
 | fin x y=>unfold pz rs rz;rw [Rat.mul_one]
def q0 (x1 z1 x2 z2:Rat):Rat:=(x1*z2 - x2*z1)*(x1*z2 - x2*z1)
def q1 (a b x1 z1 x2 z2:Rat):Rat:=2*((x1*z2+x2*z1)*(a*z1*z2+x1*x2)+2*b*z1*z1*z2*z2)
def q2 (a b x1 z1 x2 z2:Rat):Rat:=(x1*x2 - a*z1*z2)*(x1*x2 - a*z1*z2) - 4*b*z1*z2*(x1*z2+x2*z1)
def Pr (q0 q1 q2 t0 t1 t2:Rat):Prop:=q0*t1=q1*t0/\q0*t2=q2*t0/\q1*t2=q2*t1
theorem GL {a b x1 y1 x2 y2:Rat} (h1:y1*y1=x1*x1*x1+a*x1+b) (h2:y2*y2=x2*x2*x2+a*x2+b) :
  ((y1 - y2)*(y1 - y2) - (x1+x2)*(x1 - x2)*(x1 - x2))*((y1+y2)*(y1+y2) - (x1+x2)*(x1 - x2)*(x1 - x2)) =
   (x1 - x2)*(x1 - x2)*(((x1*x2 - a*1*1)*(x1*x2 - a*1*1) - 4*b*1*1*(x1*1+x2*1))*(1*1)):=by
 have e:((y1 - y2)*(y1 - y2) - (x1+x2)*(x1 - x2)*(x1 - x2))*((y1+y2)*(y1+y2) - (x1+x2)*(x1 - x2)*(x1 - x2)) =
   (y1*y1 - y2*y2)*(y1*y1 - y2*y2) - 2*(y1*y1+y2*y2)*((x1+x2)*(x1 - x2)*(x1 - x2))+((x1+x2)*(x1 - x2)*(x1 - x2))*((x1+x2)*(x1 - x2)*(x1 - x2)):=by
  clear h1 h2
  grind
 rw [e,h1,h2];clear e h1 h2
 grind
theorem GH {a b:Rat} {P Q:r_} (h1:On a b P) (h2:On a b Q) :
  Pr (q0 (rx P) (rz P) (rx Q) (rz Q)) (q1 a b (rx P) (rz P) (rx Q) (rz Q)) (q2 a b (rx P) (rz P) (rx Q) (rz Q))
   (rz (add a P Q)*rz (add a P (neg Q))) (rx (add a P Q)*rz (add a P (neg Q))+rx (add a P (neg Q))*rz (add a P Q)) (rx (add a P Q)*rx (add a P (neg Q))):=by
 cases P with
 | O=>
  show Pr (q0 1 0 _ _) (q1 a b 1 0 _ _) (q2 a b 1 0 _ _) (rz Q*rz (neg Q)) (rx Q*rz (neg Q)+rx (neg Q)*rz Q) (rx Q*rx (neg Q))
  have e1:rx (neg Q)=rx Q:=by cases Q <;> rfl
  have e2:rz (neg Q)=rz Q:=by cases Q <;> rfl
  rw [e1,e2];unfold Pr q0 q1 q2;refine ⟨?_,?_,?_⟩ <;> grind
 | fin x1 y1=>
 cases Q with
 | O=>
  show Pr (q0 x1 1 1 0) (q1 a b x1 1 1 0) (q2 a b x1 1 1 0) (1*1) (x1*1+x1*1) (x1*x1)
  unfold Pr q0 q1 q2;refine ⟨?_,?_,?_⟩ <;> grind
 | fin x2 y2=>
 show Pr (q0 x1 1 x2 1) (q1 a b x1 1 x2 1) (q2 a b x1 1 x2 1) _ _ _
 unfold On at h1 h2
 by_cases hx:x1=x2
 ·subst hx
  have h3:(y1 - y2)*(y1+y2)=0:=φ
  have key:∀ y:Rat,y*y=x1*x1*x1+a*x1+b->add a (.fin x1 y) (.fin x1 y)=O/\y=0∨∃ u v,add a (.fin x1 y) (.fin x1 y)=.fin u v/\q1 a b x1 1 x1 1*u=q2 a b x1 1 x1 1:=fun y hy=>by
   by_cases h0:y=0
   ·left
    refine ⟨ce ⟨rfl,φ⟩,h0⟩
   right
   have hv:¬ (x1=x1/\y=-y):=fun h=>h0 φ
   have hs:=iE (a:=a) (b:=b) (x1:=x1) (y1:=y) (x2:=x1) (y2:=y) hy hy hv;have e:add a (.fin x1 y) (.fin x1 y)=thd x1 y x1 (lam a x1 y x1 y):=if_neg hv;rw [e];refine ⟨_,_,rfl,?_⟩;obtain ⟨-,e2⟩:=hs;generalize lam a x1 y x1 y=l at *;unfold q1 q2
   grind
  have hq0:q0 x1 1 x1 1=0:=by unfold q0;grind
  rw [hq0]
  rcases Rat.mul_eq_zero.1 h3 with h4 | h4
  ·obtain rfl:y1=y2:=φ
   have ev:add a (.fin x1 y1) (neg (.fin x1 y1))=O:=ce ⟨rfl,φ⟩;rw [ev]
   exact ZL
  obtain rfl:y2=-y1:=φ
  have ev:add a (.fin x1 y1) (.fin x1 (-y1))=O:=ce ⟨rfl,φ⟩
  have en:neg (.fin x1 (-y1))=.fin x1 y1:=by
   show r_.fin x1 (- -y1)=_
   rw [Rat.neg_neg]
  rw [ev,en]
  exact ZL
 have hd:x1 - x2≠0:=φ
 have e1:add a (.fin x1 y1) (.fin x2 y2)=thd x1 y1 x2 ((y1 - y2) / (x1 - x2)):=by
  show (if x1=x2/\y1=-y2 then O else thd x1 y1 x2 (lam a x1 y1 x2 y2))=_
  rw [if_neg fun h=>hx h.1];unfold lam;rw [if_neg hx]
 have e2:add a (.fin x1 y1) (neg (.fin x2 y2))=thd x1 y1 x2 ((y1+y2) / (x1 - x2)):=by
  show (if x1=x2/\y1=- -y2 then O else thd x1 y1 x2 (lam a x1 y1 x2 (-y2)))=_
  rw [if_neg fun h=>hx h.1];unfold lam;rw [if_neg hx]
  congr 2
  grind
 rw [e1,e2];have g1:=Rat.div_mul_cancel (a:=y1 - y2) hd;have g2:=Rat.div_mul_cancel (a:=y1+y2) hd;generalize (y1+y2) / (x1 - x2)=m,(y1 - y2) / (x1 - x2)=l at *
 show Pr _ _ _ (1*1) ((l*l - x1 - x2)*1+(m*m - x1 - x2)*1) ((l*l - x1 - x2)*(m*m - x1 - x2))
 have k1:q0 x1 1 x2 1*((l*l - x1 - x2)*1+(m*m - x1 - x2)*1)=q1 a b x1 1 x2 1*(1*1):=by
  unfold q0 q1
  grind
 have k2:q0 x1 1 x2 1*((l*l - x1 - x2)*(m*m - x1 - x2))=q2 a b x1 1 x2 1*(1*1):=by
  have:(x1 - x2)*(x1 - x2)*(q0 x1 1 x2 1*((l*l - x1 - x2)*(m*m - x1 - x2)))=(x1 - x2)*(x1 - x2)*(q2 a b x1 1 x2 1*(1*1)):=by
   unfold q0 q2
   have f1:(x1 - x2)*(x1 - x2)*(l*l - x1 - x2)=(y1 - y2)*(y1 - y2) - (x1+x2)*(x1 - x2)*(x1 - x2):=φ
   have f2:(x1 - x2)*(x1 - x2)*(m*m - x1 - x2)=(y1+y2)*(y1+y2) - (x1+x2)*(x1 - x2)*(x1 - x2):=φ
   generalize m*m - x1 - x2=v,l*l - x1 - x2=u at *
   have f3:(x1 - x2)*(x1 - x2)*((x1*1 - x2*1)*(x1*1 - x2*1)*(u*v))=((x1 - x2)*(x1 - x2)*u)*((x1 - x2)*(x1 - x2)*v):=φ
   rw [f3,f1,f2];exact GL h1 h2
  grind
 refine ⟨k1,k2,?_⟩
 have:q0 x1 1 x2 1≠0:=by
  unfold q0;intro h
  rcases Rat.mul_eq_zero.1 h with h | h <;> grind
 generalize m*m - x1 - x2=v,l*l - x1 - x2=u,q2 a b x1 1 x2 1=c2,q1 a b x1 1 x2 1=c1,q0 x1 1 x2 1=c0 at *
 have k3:c0*(c1*(u*v))=c0*(c2*(u*1+v*1)):=φ
 grind
end r_
end M
namespace M
theorem Ib {u1 w1 u2 w2 t:Int} (h0:Ab (w1*w2) t) (h1:Ab (u1*w2+u2*w1) t) (h2:Ab (u1*u2) t):((hh u1 w1*hh u2 w2:Nat):Int)<=2*t:=by
 have ht:=h0.nn
 have hab:∀ x y:Int,((x.natAbs*y.natAbs:Nat):Int)=((x*y).natAbs:Nat):=fun x y=>by rw [Int.natAbs_mul]
 have big:∀ x y:Int,2*t<x->t<y->t*t<x*y:=fun x y hx hy=>by
  have h1:(2*t+1)*(t+1)<=x*y:=Int.mul_le_mul ω ω ω ω
  have h2:(2*t+1)*(t+1)=2*(t*t)+3*t+1:=φ
  have h3:=Int.mul_nonneg ht ht;omega
 have mix:∀ u1 w1 u2 w2:Int,Ab (w1*w2) t->Ab (u1*w2+u2*w1) t->Ab (u1*u2) t->((u1*w2).natAbs:Int)<=2*t:=by
  intro u1 w1 u2 w2 h0 h1 h2
  by_cases hc:((u1*w2).natAbs:Int)<=2*t
  ·exact hc
  exfalso
  have e:(u1*w2)*(u2*w1)=(w1*w2)*(u1*u2):=φ
  have e2:=(h0.mul h2)
  rw [←e] at e2;unfold Ab at h1 e2;generalize u2*w1=q,u1*w2=p at *
  rcases Int.le_total 0 p with hp | hp
  ·have a1:2*t<p:=ω
   have a2:q<0:=ω
   have a3:t < -q:=ω
   have:t*t<p*(-q):=big _ _ a1 a3
   have e4:p*(-q)=-(p*q):=φ
   omega
  have a1:2*t < -p:=ω
  have a3:t<q:=ω
  have:t*t<(-p)*q:=big _ _ a1 a3
  have e4:(-p)*q=-(p*q):=φ
  omega
 have m1:=mix u1 w1 u2 w2 h0 h1 h2;have m2:=mix u2 w2 u1 w1 (by rw [Int.mul_comm];exact h0) (by rw [Int.add_comm];exact h1) (by rw [Int.mul_comm];exact h2);unfold Ab at h0 h2
 have c1:hh u1 w1=u1.natAbs∨hh u1 w1=w1.natAbs:=by unfold hh;omega
 have c2:hh u2 w2=u2.natAbs∨hh u2 w2=w2.natAbs:=by unfold hh;omega
 rcases c1 with c1 | c1 <;> rcases c2 with c2 | c2 <;> rw [c1,c2,hab]
 ·omega
 ·exact m1
 ·rw [Int.mul_comm];exact m2
 omega
theorem Al {u1 w1 u2 w2:Int} (h1:Int.gcd u1 w1=1) (h2:Int.gcd u2 w2=1) {g:Nat} (d0:(g:Int) ∣ w1*w2) (d1:(g:Int) ∣ u1*w2+u2*w1) (d2:(g:Int) ∣ u1*u2):g=1:=by
 have cop:∀ (k:Nat) (x y:Int),Int.gcd x y=1->(k:Int) ∣ x->(k:Int) ∣ y->k=1:=fun k x y h hx hy=>by
  have:=Int.dvd_gcd hx hy;rw [h] at this;exact Nat.dvd_one.1 this
 have gd:∀ (x:Int),(Nat.gcd g x.natAbs=1)->∀ y:Int,(g:Int) ∣ x*y->(g:Int) ∣ y:=fun x hx y hd=>by
  have:g ∣ x.natAbs*y.natAbs:=by
   rw [←Int.natAbs_mul];exact Int.ofNat_dvd_left.1 hd
  exact Int.ofNat_dvd_left.2 (Nat.Coprime.dvd_of_dvd_mul_left hx this)
 have sub:∀ x:Int,((Nat.gcd g x.natAbs:Nat):Int) ∣ g/\((Nat.gcd g x.natAbs:Nat):Int) ∣ x:=fun x=>⟨Int.natCast_dvd_natCast.2 (Nat.gcd_dvd_left _ _),Int.ofNat_dvd_left.2 (Nat.gcd_dvd_right _ _)⟩
 have k1:Nat.gcd g w1.natAbs=1:=by
  obtain ⟨a1,a2⟩:=sub w1;generalize hk:Nat.gcd g w1.natAbs=k at *
  have cu:Nat.gcd k u1.natAbs=1:=by
   refine cop _ u1 w1 h1 (Int.ofNat_dvd_left.2 (Nat.gcd_dvd_right _ _)) (Int.dvd_trans (Int.natCast_dvd_natCast.2 (Nat.gcd_dvd_left _ _)) a2)
  have gk:∀ y:Int,(k:Int) ∣ u1*y->(k:Int) ∣ y:=fun y hd=>by
   have:k ∣ u1.natAbs*y.natAbs:=by
    rw [←Int.natAbs_mul];exact Int.ofNat_dvd_left.1 hd
   exact Int.ofNat_dvd_left.2 (Nat.Coprime.dvd_of_dvd_mul_left cu this)
  have b2:=gk u2 (Int.dvd_trans a1 d2)
  have b1:(k:Int) ∣ u1*w2:=by
   have h:=Int.dvd_sub (Int.dvd_trans a1 d1) (Int.dvd_trans a2 (Int.dvd_mul_left u2 w1))
   rwa [Int.add_sub_cancel] at h
  exact cop k u2 w2 h2 b2 (gk w2 b1)
 have b:=gd w1 k1 w2 d0;have k2:Nat.gcd g u2.natAbs=1:=cop _ u2 w2 h2 (sub u2).2 (Int.dvd_trans (sub u2).1 b);have c:=gd u2 k2 u1 (by rw [Int.mul_comm];exact d2)
 have e:(g:Int) ∣ u2*w1:=by
  have h:=Int.dvd_sub d1 (Int.dvd_trans b (Int.dvd_mul_left u1 w2))
  rwa [show u1*w2+u2*w1 - u1*w2=u2*w1 by omega] at h
 exact cop g u1 w1 h1 c (gd u2 k2 w1 e)
theorem GM {q0 q1 q2 t0 t1 t2 m:Int} (hq:¬ (q0=0/\q1=0/\q2=0)) (ht:∀ g:Nat,(g:Int) ∣ t0->(g:Int) ∣ t1->(g:Int) ∣ t2->g=1)
  (e1:q0*t1=q1*t0) (e2:q0*t2=q2*t0) (e3:q1*t2=q2*t1) (a0:Ab q0 m) (a1:Ab q1 m) (a2:Ab q2 m):Ab t0 m/\Ab t1 m/\Ab t2 m:=by
 have key:∀ q:Int,∀ t:Int,t ∣ q*t0->t ∣ q*t1->t ∣ q*t2->t ∣ q:=fun q t d0 d1 d2=>by
  have g1:t ∣ ((Int.gcd (q*t0) (Int.gcd (q*t1) (q*t2)):Nat):Int):=Int.dvd_coe_gcd d0 (Int.dvd_coe_gcd d1 d2)
  have e:Int.gcd (q*t0) (Int.gcd (q*t1) (q*t2))=q.natAbs:=by
   rw [Int.gcd_mul_left]
   have:((q.natAbs*Int.gcd t1 t2:Nat):Int)=(q.natAbs:Int)*(Int.gcd t1 t2:Nat):=by push_cast;rfl
   rw [this]
   have e3:Int.gcd (q*t0) ((q.natAbs:Int)*((Int.gcd t1 t2:Nat):Int))=Int.gcd ((q.natAbs:Int)*t0) ((q.natAbs:Int)*((Int.gcd t1 t2:Nat):Int)):=by
    unfold Int.gcd;simp [Int.natAbs_mul]
   rw [e3,Int.gcd_mul_left]
   have h1:Int.gcd t0 ((Int.gcd t1 t2:Nat):Int)=1:=by
    refine ht _ (Int.gcd_dvd_left ..) ?_ ?_
    ·exact Int.dvd_trans (Int.gcd_dvd_right ..) (Int.gcd_dvd_left ..)
    exact Int.dvd_trans (Int.gcd_dvd_right ..) (Int.gcd_dvd_right ..)
   rw [h1];simp
  rw [e] at g1;exact Int.dvd_natAbs.1 g1
 have fin:∀ l:Int,q0=l*t0->q1=l*t1->q2=l*t2->Ab t0 m/\Ab t1 m/\Ab t2 m:=fun l f0 f1 f2=>by
  have hl:l≠0:=fun h=>hq ⟨by rw [f0,h];simp,by rw [f1,h];simp,by rw [f2,h];simp⟩
  have sm:∀ t:Int,Ab (l*t) m->Ab t m:=fun t h=>by
   have h1:(l*t).natAbs=l.natAbs*t.natAbs:=Int.natAbs_mul _ _;have h2:1*t.natAbs<=l.natAbs*t.natAbs:=Nat.mul_le_mul_right _ ω;unfold Ab at *;omega
  exact ⟨sm _ (f0 ▸ a0),sm _ (f1 ▸ a1),sm _ (f2 ▸ a2)⟩
 by_cases h0:t0=0
 ·subst h0
  by_cases h1:t1=0
  ·subst h1
   have h2:t2≠0:=fun h=>by
    subst h;have:=ht 2 σ σ σ;cases this
   have z0:q0=0:=by
    have:q0*t2=0:=by rw [e2];simp
    rcases Int.mul_eq_zero.1 this with h | h
    ·exact h
    exact absurd h h2
   have z1:q1=0:=by
    have:q1*t2=0:=by rw [e3];simp
    rcases Int.mul_eq_zero.1 this with h | h
    ·exact h
    exact absurd h h2
   obtain ⟨l,hl⟩:=key q2 t2 σ σ (Int.dvd_mul_left _ _);exact fin l (by rw [z0];simp) (by rw [z1];simp) (by rw [hl,Int.mul_comm])
  have z0:q0=0:=by
   have:q0*t1=0:=by rw [e1];simp
   rcases Int.mul_eq_zero.1 this with h | h
   ·exact h
   exact absurd h h1
  obtain ⟨l,hl⟩:=key q1 t1 σ (Int.dvd_mul_left _ _) (by rw [e3];exact Int.dvd_mul_left _ _);refine fin l (by rw [z0];simp) (by rw [hl,Int.mul_comm]) ?_
  have:t1*q2=t1*(l*t2):=by rw [Int.mul_comm,←e3,hl];grind
  exact Int.eq_of_mul_eq_mul_left h1 this
 obtain ⟨l,hl⟩:=key q0 t0 (Int.dvd_mul_left _ _) (by rw [e1];exact Int.dvd_mul_left _ _) (by rw [e2];exact Int.dvd_mul_left _ _);refine fin l (by rw [hl,Int.mul_comm]) ?_ ?_
 ·have:t0*q1=t0*(l*t1):=by rw [Int.mul_comm,←e1,hl];grind
  exact Int.eq_of_mul_eq_mul_left h0 this
 have:t0*q2=t0*(l*t2):=by rw [Int.mul_comm,←e2,hl];grind
 exact Int.eq_of_mul_eq_mul_left h0 this
end M
namespace M
namespace r_
def i0 (x1 z1 x2 z2:Int):Int:=(x1*z2 - x2*z1)*(x1*z2 - x2*z1)
def i1 (a b x1 z1 x2 z2:Int):Int:=2*((x1*z2+x2*z1)*(a*z1*z2+x1*x2)+2*b*z1*z1*z2*z2)
def i2 (a b x1 z1 x2 z2:Int):Int:=(x1*x2 - a*z1*z2)*(x1*x2 - a*z1*z2) - 4*b*z1*z2*(x1*z2+x2*z1)
def cT (a b:Int):Int:=4*(1+a.natAbs+b.natAbs)+(1+a.natAbs)*(1+a.natAbs)+8*b.natAbs
theorem i_ab {a b x1 z1 x2 z2 h k:Int} (hx1:Ab x1 h) (hz1:Ab z1 h) (hx2:Ab x2 k) (hz2:Ab z2 k) :
  Ab (i0 x1 z1 x2 z2) (cT a b*(h*h*k*k))/\Ab (i1 a b x1 z1 x2 z2) (cT a b*(h*h*k*k))/\Ab (i2 a b x1 z1 x2 z2) (cT a b*(h*h*k*k)):=by
 have ha:=Ab.of a;have hb:=Ab.of b;have hp:0<=h*h*k*k:=Int.mul_nonneg (Int.mul_nonneg (Int.mul_nonneg hx1.nn hx1.nn) hx2.nn) hx2.nn;have hA:(0:Int)<=(a.natAbs:Int)*a.natAbs:=Int.mul_nonneg ω ω
 have le:∀ c:Int,c<=cT a b->c*(h*h*k*k)<=cT a b*(h*h*k*k):=fun c hc=>Int.mul_le_mul_of_nonneg_right hc hp
 have eT:cT a b=5+6*a.natAbs+12*b.natAbs+(a.natAbs:Int)*a.natAbs:=by unfold cT;grind
 refine ⟨?_,?_,?_⟩
 ·have t:=(hx1.mul hz2).sub (hx2.mul hz1)
  refine (t.mul t).le (Int.le_trans (Int.le_of_eq ?_) (le 4 ω))
  grind
 ·have t1:=(hx1.mul hz2).add (hx2.mul hz1)
  have t2:=((ha.mul hz1).mul hz2).add (hx1.mul hx2);have t3:=(((((Ab.num (n:=2) δ).mul hb).mul hz1).mul hz1).mul hz2).mul hz2;refine ((Ab.num (n:=2) δ).mul ((t1.mul t2).add t3)).le (Int.le_trans (Int.le_of_eq ?_) (le (4*(1+a.natAbs+b.natAbs)) ω))
  grind
 have t1:=(hx1.mul hx2).sub ((ha.mul hz1).mul hz2);have t2:=(hx1.mul hz2).add (hx2.mul hz1);have t3:=((((Ab.num (n:=4) δ).mul hb).mul hz1).mul hz2).mul t2;refine ((t1.mul t1).sub t3).le (Int.le_trans (Int.le_of_eq ?_) (le ((1+a.natAbs)*(1+a.natAbs)+8*b.natAbs) (by rw [eT];grind)))
 grind
theorem JA {P Q:r_} (h:px P*pz Q=px Q*pz P):px P=px Q/\pz P=pz Q:=by
 cases P with
 | O=>
  cases Q with
  | O=>exact ⟨rfl,rfl⟩
  | fin x y=>
  have h:(1:Int)*(x.den:Int)=x.num*0:=h;have:=x.den_nz;omega
 | fin x1 y1=>
 cases Q with
 | O=>
  have h:x1.num*0=1*(x1.den:Int):=h;have:=x1.den_nz;omega
 | fin x2 y2=>
 have:x1=x2:=Rat.eq_iff_mul_eq_mul.2 h;subst this;exact ⟨rfl,rfl⟩
theorem Jr {a b:Int} (hd:aN a b≠0) (P Q:r_):¬ (i0 (px P) (pz P) (px Q) (pz Q)=0/\i1 a b (px P) (pz P) (px Q) (pz Q)=0/\i2 a b (px P) (pz P) (px Q) (pz Q)=0):=by
 rintro ⟨h0,h1,h2⟩
 have hx:px P*pz Q=px Q*pz P:=by
  unfold i0 at h0
  rcases Int.mul_eq_zero.1 h0 with h | h <;> omega
 obtain ⟨e1,e2⟩:=JA hx;rw [←e1,←e2] at h1 h2
 have eG:ah a b (px P) (pz P)=0:=by rw [←h1];unfold ah i1;grind
 have eF:bB a b (px P) (pz P)=0:=by rw [←h2];unfold bB i2;grind
 have hp:=jq (cop P);have:=Cu (a:=a) (b:=b) hp;rw [eG,eF] at this;have e0:hh 0 0=0:=rfl;rw [e0] at this;have hpos:(0:Int)<(hh (px P) (pz P):Int)*hh (px P) (pz P)*hh (px P) (pz P)*hh (px P) (pz P):=Int.mul_pos (Int.mul_pos (Int.mul_pos ω ω) ω) ω
 have hD:(0:Int)<4*((aN a b).natAbs:Int):=ω
 have:=Int.mul_pos hD hpos;simp at *
 omega
theorem zP {a b:Int} {P Q:r_} (h1:On a b P) (h2:On a b Q) (S D:r_) (hS:add a P Q=S) (hD:add a P (neg Q)=D) :
  (i0 (px P) (pz P) (px Q) (pz Q)*(px S*pz D+px D*pz S)=i1 a b (px P) (pz P) (px Q) (pz Q)*(pz S*pz D))/\
  (i0 (px P) (pz P) (px Q) (pz Q)*(px S*px D)=i2 a b (px P) (pz P) (px Q) (pz Q)*(pz S*pz D))/\
  (i1 a b (px P) (pz P) (px Q) (pz Q)*(px S*px D)=i2 a b (px P) (pz P) (px Q) (pz Q)*(px S*pz D+px D*pz S)):=by
 obtain ⟨e1,e2,e3⟩:=GH h1 h2;rw [hS,hD] at e1 e2 e3;unfold q0 q1 at e1;unfold q0 q2 at e2;unfold q1 q2 at e3;unfold i0 i1 i2;refine ⟨?_,?_,?_⟩ <;> apply Rat.intCast_inj.1 <;> push_cast <;> simp only [J5,J6]
 all_goals
  clear h1 h2 hS hD;generalize rs D=s4,rz D=z4,rx D=x4,rs S=s3,rz S=z3,rx S=x3,rs Q=s2,rz Q=z2,rx Q=x2,rs P=s1,rz P=z1,rx P=x1 at *;generalize (a:Rat)=a at *;generalize (b:Rat)=b at *
 ·clear e2 e3
  have:=congrArg (fun t=>s1*s1*s2*s2*s3*s4*t) e1
  grind
 ·clear e1 e3
  have:=congrArg (fun t=>s1*s1*s2*s2*s3*s4*t) e2
  grind
 clear e1 e2;have:=congrArg (fun t=>s1*s1*s2*s2*s3*s4*t) e3
 grind
def cU (a b:Int):Nat:=Wh.bl (2*cT a b).toNat+2
theorem D5 {a b:Int} (hd:aN a b≠0) {P Q:r_} (h1:On a b P) (h2:On a b Q):hp (add a P Q)+hp (add a P (neg Q))<=2*hp P+2*hp Q+cU a b:=by
 have hp:=zP h1 h2 _ _ rfl rfl;generalize add (a:Rat) P Q=S at *;generalize add (a:Rat) P (neg Q)=D at *;obtain ⟨e1,e2,e3⟩:=hp;obtain ⟨x1,z1⟩:=vN (px P) (pz P);obtain ⟨x2,z2⟩:=vN (px Q) (pz Q);obtain ⟨a0,a1,a2⟩:=i_ab (a:=a) (b:=b) x1 z1 x2 z2;obtain ⟨b0,b1,b2⟩:=GM (Jr hd P Q) (fun g=>Al (cop S) (cop D)) e1 e2 e3 a0 a1 a2;have hm:=Ib b0 b1 b2;have n1:=jq (cop P);have n2:=jq (cop Q);have n3:=jq (cop S);have n4:=jq (cop D)
 have hcT:0<=cT a b:=by
  have hA:(0:Int)<=(1+(a.natAbs:Int))*(1+a.natAbs):=Int.mul_nonneg ω ω;unfold cT;omega
 unfold r_.hp hb cU;obtain ⟨c,hc⟩:=Int.eq_ofNat_of_zero_le hcT;rw [hc] at hm ⊢;clear e1 e2 e3 x1 z1 x2 z2 a0 a1 a2 b0 b1 b2 hc hcT;generalize hh (px D) (pz D)=d,hh (px S) (pz S)=s,hh (px Q) (pz Q)=q,hh (px P) (pz P)=p at *
 have e:(2*(c:Int)).toNat=2*c:=ω
 rw [e]
 have hm:s*d<=2*(c*(p*p*q*q)):=by exact_mod_cast hm
 have p1:=qC p;have q1:=qC q;have s1:=Cc n3;have d1:=Cc n4;have s2:=tC n3;have d2:=tC n4;have c1:=qC (2*c);generalize Wh.bl (2*c)=C,Wh.bl d=D,Wh.bl s=S,Wh.bl q=Q,Wh.bl p=P at *
 have:2 ^ (S - 1+(D - 1))<2 ^ (C+(P+P+Q+Q)):=by
  rw [Nat.pow_add,Nat.pow_add 2 C,Nat.pow_add,Nat.pow_add,Nat.pow_add];have h1:2 ^ (S - 1)*2 ^ (D - 1)<=s*d:=Nat.mul_le_mul s1 d1;have h2:p*p*q*q<2 ^ P*2 ^ P*2 ^ Q*2 ^ Q:=Nat.mul_lt_mul'' (Nat.mul_lt_mul'' (Nat.mul_lt_mul'' p1 p1) q1) q1;have h3:=Nat.mul_lt_mul'' c1 h2
  have h4:2*(c*(p*p*q*q))=2*c*(p*p*q*q):=φ
  omega
 have:=(Nat.pow_lt_pow_iff_right δ).1 this;omega
end r_
end M
namespace M
theorem DF {a b x z d:Int} (hc:Int.gcd x z=1) (h1:d ∣ bB a b x z) (h2:d ∣ ah a b x z):d ∣ 4*aN a b:=by
 have e1:d ∣ 4*aN a b*(z*z*z*z*z*z*z):=by
  rw [←Hh];exact Int.dvd_sub (Int.dvd_trans h1 (Int.dvd_mul_left _ _)) (Int.dvd_trans h2 (Int.dvd_mul_left _ _))
 have e2:d ∣ 4*aN a b*(x*x*x*x*x*x*x):=by
  rw [←Hf];exact Int.dvd_add (Int.dvd_trans h1 (Int.dvd_mul_left _ _)) (Int.dvd_trans h2 (Int.dvd_mul_left _ _))
 have e3:=Int.dvd_coe_gcd e2 e1;rw [Int.gcd_mul_left] at e3
 have e4:Int.gcd (x*x*x*x*x*x*x) (z*z*z*z*z*z*z)=1:=by
  unfold Int.gcd at *
  have:∀ u:Int,(u*u*u*u*u*u*u).natAbs=u.natAbs ^ 7:=fun u=>by simp [Int.natAbs_mul];grind
  rw [this,this];exact Nat.Coprime.pow 7 7 hc
 rw [e4,Nat.mul_one] at e3;exact Int.dvd_natAbs.1 e3
namespace r_
theorem dP {a b:Int} (hd:aN a b≠0):4*(a:Rat)*a*a+27*(b:Rat)*b≠0:=by
 intro h
 apply hd
 unfold aN
 exact_mod_cast h
theorem uz {a b:Int} (hd:aN a b≠0) {P:r_} (h:On a b P):∃ d:Int,d≠0/\d ∣ 4*aN a b/\bB a b (px P) (pz P)=d*px (add a P P)/\ah a b (px P) (pz P)=d*pz (add a P P):=by
 have hO:add (a:Rat) P (neg P)=O:=by
  rw [add_comm (dP hd) h (dD h)];exact dw _ _
 obtain ⟨-,-,e3⟩:=zP h h _ _ rfl hO
 have eG:i1 a b (px P) (pz P) (px P) (pz P)=ah a b (px P) (pz P):=by unfold ah i1;grind
 have eF:i2 a b (px P) (pz P) (px P) (pz P)=bB a b (px P) (pz P):=by unfold bB i2;grind
 have hne:=Jr hd P P
 have h0:i0 (px P) (pz P) (px P) (pz P)=0:=by unfold i0;grind
 rw [eG,eF] at e3 hne;have hO1:px O=1:=rfl;have hO2:pz O=0:=rfl;rw [hO1,hO2,Int.mul_one,Int.mul_zero,Int.zero_add,Int.one_mul] at e3;have hc:=cop (add a P P);generalize add (a:Rat) P P=S at *
 have dv:=fun d=>DF (a:=a) (b:=b) (d:=d) (cop P)
 generalize ah a b (px P) (pz P)=G,bB a b (px P) (pz P)=F at *
 have fin:∀ d:Int,F=d*px S->G=d*pz S->∃ d:Int,d≠0/\d ∣ 4*aN a b/\F=d*px S/\G=d*pz S:=fun d f g=>
  ⟨d,fun h=>hne ⟨h0,by rw [g,h];simp,by rw [f,h];simp⟩,dv d ⟨_,f⟩ ⟨_,g⟩,f,g⟩
 have cd:∀ x y k:Int,Int.gcd x y=1->x ∣ y*k->x ∣ k:=fun x y k hxy hk=>by
  have h1:x.natAbs ∣ y.natAbs*k.natAbs:=by
   rw [←Int.natAbs_mul];exact Int.natAbs_dvd_natAbs.2 hk
  exact Int.natAbs_dvd_natAbs.1 (Nat.Coprime.dvd_of_dvd_mul_left hxy h1)
 by_cases hz:pz S=0
 ·rw [hz] at e3 hc
  have hx:px S≠0:=fun h=>by rw [h] at hc;cases hc
  have hG:G=0:=by
   rw [Int.mul_zero] at e3
   rcases Int.mul_eq_zero.1 e3 with h | h
   ·exact h
   exact absurd h hx
  obtain ⟨d,hd⟩:=cd (px S) 0 F hc (by
   have:px S ∣ 1:=by
    unfold Int.gcd at hc;simp at hc
    exact Int.natAbs_dvd_natAbs.1 (by rw [hc];exact Nat.dvd_refl 1)
   exact Int.dvd_trans this (Int.one_dvd _))
  exact fin d (by rw [hd,Int.mul_comm]) (by rw [hG,hz];simp)
 obtain ⟨d,hd⟩:=cd (pz S) (px S) G (by rw [Int.gcd_comm];exact hc) ⟨F,by rw [Int.mul_comm,e3,Int.mul_comm]⟩;refine fin d ?_ (by rw [hd,Int.mul_comm])
 have:pz S*F=pz S*(d*px S):=by rw [Int.mul_comm,←e3,hd];grind
 exact Int.eq_of_mul_eq_mul_left hz this
theorem tL {a b:Int} (hd:aN a b≠0) {P:r_} (h:On a b P):4*hp P<=hp (add a P P)+hC a b+3/\hp (add a P P)<=4*hp P+hC a b:=by
 obtain ⟨d,h1,h2,h3,h4⟩:=uz hd h
 have hle:d.natAbs<=4*(aN a b).natAbs:=by
  have:=Int.natAbs_dvd_natAbs.2 h2;rw [Int.natAbs_mul] at this;exact Nat.le_of_dvd ω this
 rcases Int.le_total 0 d with hs | hs
 ·have e:((d.natAbs:Nat):Int)=d:=ω
  exact FC (d:=d.natAbs) (jq (cop P)) ω hle (by rw [e];exact h3) (by rw [e];exact h4)
 have e:((d.natAbs:Nat):Int)=-d:=ω
 have w:=FC (f:=-px (add a P P)) (g:=-pz (add a P P)) (d:=d.natAbs) (jq (cop P)) ω hle (by rw [e,h3];grind) (by rw [e,h4];grind)
 have eh:hb (-px (add a P P)) (-pz (add a P P))=hp (add a P P):=by unfold hp hb hh;simp
 rw [eh] at w;exact w
def K6 (a:Rat):Nat->r_->r_
 | 0,P=>P
 | n+1,P=>add a (K6 a n P) (K6 a n P)
theorem fS {a b:Rat} (hd:4*a*a*a+27*b*b≠0) {P:r_} (h:On a b P):∀ n,On a b (K6 a n P)
 | 0=>h
 | n+1=>eS hd (fS hd h n) (fS hd h n)
theorem H9 {a b:Rat} (hd:4*a*a*a+27*b*b≠0) {P Q R S:r_} (h1:On a b P) (h2:On a b Q) (h3:On a b R) (h4:On a b S):add a (add a P Q) (add a R S)=add a (add a P R) (add a Q S):=by
 rw [add_assoc hd h1 h2 (eS hd h3 h4),←add_assoc hd h2 h3 h4,add_comm hd h2 h3,add_assoc hd h3 h2 h4,←add_assoc hd h1 h3 (eS hd h2 h4)]
theorem tM {a b:Rat} (hd:4*a*a*a+27*b*b≠0) {P Q:r_} (h1:On a b P) (h2:On a b Q):∀ n,K6 a n (add a P Q)=add a (K6 a n P) (K6 a n Q)
 | 0=>rfl
 | n+1=>by
  show add a (K6 a n (add a P Q)) (K6 a n (add a P Q))=add a (add a _ _) (add a _ _)
  rw [tM hd h1 h2 n,H9 hd (fS hd h1 n) (fS hd h2 n) (fS hd h1 n) (fS hd h2 n)]
theorem yk {a b:Rat} (hd:4*a*a*a+27*b*b≠0) {P:r_} (h1:On a b P):∀ n,K6 a n (neg P)=neg (K6 a n P)
 | 0=>rfl
 | n+1=>by
  show add a (K6 a n (neg P)) (K6 a n (neg P))=neg (add a _ _)
  rw [yk hd h1 n,tt hd (fS hd h1 n) (fS hd h1 n)]
theorem DE (a:Rat):∀ n,K6 a n O=O
 | 0=>rfl
 | n+1=>by
  show add a (K6 a n O) (K6 a n O)=O
  rw [DE a n];rfl
def hs (a:Int) (P:r_) (n:Nat):Int:=(hp (K6 a n P):Nat)
def Cl (f g:Nat->Int):Prop:=∃ c:Int,∀ n,-c<=f n - g n/\f n - g n<=c
theorem Cl.refl (f:Nat->Int):Cl f f:=⟨0,fun n=>ω⟩
theorem Cl.symm {f g:Nat->Int} (h:Cl f g):Cl g f:=by
 obtain ⟨c,h⟩:=h;exact ⟨c,fun n=>by have:=h n;omega⟩
theorem Cl.trans {f g k:Nat->Int} (h:Cl f g) (h':Cl g k):Cl f k:=by
 obtain ⟨c,h⟩:=h;obtain ⟨d,h'⟩:=h';exact ⟨c+d,fun n=>by have:=h n;have:=h' n;omega⟩
theorem Cl.add {f g k l:Nat->Int} (h:Cl f g) (h':Cl k l):Cl (fun n=>f n+k n) (fun n=>g n+l n):=by
 obtain ⟨c,h⟩:=h;obtain ⟨d,h'⟩:=h';exact ⟨c+d,fun n=>by have:=h n;have:=h' n;show _<=f n+k n - (g n+l n)/\f n+k n - (g n+l n)<=_;omega⟩
theorem Cl.sub {f g k l:Nat->Int} (h:Cl f g) (h':Cl k l):Cl (fun n=>f n - k n) (fun n=>g n - l n):=by
 obtain ⟨c,h⟩:=h;obtain ⟨d,h'⟩:=h';exact ⟨c+d,fun n=>by have:=h n;have:=h' n;show _<=f n - k n - (g n - l n)/\f n - k n - (g n - l n)<=_;omega⟩
theorem Cl.mul {f g:Nat->Int} (k:Int) (h:Cl f g):Cl (fun n=>k*f n) (fun n=>k*g n):=by
 obtain ⟨c,h⟩:=h;refine ⟨k.natAbs*c,fun n=>?_⟩;have h1:=h n;have:=(Ab.of k).mul (show Ab (f n - g n) c from h1);rw [Int.mul_sub] at this;exact this
theorem Cl.of {f g:Nat->Int} (h:∀ n,f n=g n):Cl f g:=⟨0,fun n=>by rw [h n];omega⟩
theorem Jq (a:Int) (n:Nat):hs a O n=1:=by
 unfold hs;rw [DE]
 decide
theorem Ig (a:Int) (P:r_) (n:Nat):1<=hs a P n:=by
 have:=Ic (K6 a n P);unfold hs;omega
theorem DZ {a b:Int} (hd:aN a b≠0) {P:r_} (h:On a b P) (n:Nat):4*hs a P n<=hs a P (n+1)+hC a b+3/\hs a P (n+1)<=4*hs a P n+hC a b:=by
 have:=tL hd (fS (dP hd) h n);unfold hs
 show 4*((hp (K6 a n P):Nat):Int)<=((hp (add a (K6 a n P) (K6 a n P)):Nat):Int)+_+3/\((hp (add a (K6 a n P) (K6 a n P)):Nat):Int)<=_
 omega
theorem par {a b:Int} (hd:aN a b≠0) {P Q:r_} (h1:On a b P) (h2:On a b Q):Cl (fun n=>hs a (add a P Q) n+hs a (add a P (neg Q)) n) (fun n=>2*hs a P n+2*hs a Q n):=by
 refine ⟨cU a b+hC a b+3,fun n=>?_⟩;have rd:=dP hd;have o1:=fS rd h1 n;have o2:=fS rd h2 n;have k1:=D5 hd o1 o2;have k2:=D5 hd (eS rd o1 o2) (eS rd o1 (dD o2))
 have e1:add (a:Rat) (add a (K6 a n P) (K6 a n Q)) (add a (K6 a n P) (neg (K6 a n Q)))=add a (K6 a n P) (K6 a n P):=by
  rw [H9 rd o1 o2 o1 (dD o2),add_comm rd o2 (dD o2),dw,oZ]
 have e2:add (a:Rat) (add a (K6 a n P) (K6 a n Q)) (neg (add a (K6 a n P) (neg (K6 a n Q))))=add a (K6 a n Q) (K6 a n Q):=by
  rw [tt rd o1 (dD o2),neg_neg,H9 rd o1 o2 (dD o1) o2,add_comm rd o1 (dD o1),dw,JV]
 rw [e1,e2] at k2;have w1:=tL hd o1;have w2:=tL hd o2;have e3:K6 (a:Rat) n (add a P Q)=_:=tM rd h1 h2 n;have e4:K6 (a:Rat) n (add a P (neg Q))=_:=tM rd h1 (dD h2) n;rw [yk rd h2] at e4;unfold hs;simp only;rw [e3,e4];omega
end r_
end M
namespace M
namespace r_
theorem Cl.div {f g:Nat->Int} {k:Int} (hk:k≠0) (h:Cl (fun n=>k*f n) (fun n=>k*g n)):Cl f g:=by
 obtain ⟨c,h⟩:=h;refine ⟨c,fun n=>?_⟩;have h1:=h n;simp only at h1;rw [←Int.mul_sub] at h1;generalize f n - g n=x at *;have h2:(k*x).natAbs=k.natAbs*x.natAbs:=Int.natAbs_mul _ _;have h3:1*x.natAbs<=k.natAbs*x.natAbs:=Nat.mul_le_mul_right _ ω;omega
def pr (a:Int) (P Q:r_) (n:Nat):Int:=hs a (add a P Q) n - hs a P n - hs a Q n
theorem zT {a b:Int} (hd:aN a b≠0) {P Q:r_} (h1:On a b P) (h2:On a b Q) (n:Nat):pr a P Q n=pr a Q P n:=by
 unfold pr;rw [add_comm (dP hd) h1 h2];omega
theorem GJ (a:Int) (Q:r_) (n:Nat):pr a O Q n=-1:=by
 unfold pr;rw [Jq]
 show hs a Q n - 1 - hs a Q n=-1
 omega
theorem xp {a b:Int} (hd:aN a b≠0) {P Q R:r_} (h1:On a b P) (h2:On a b Q) (h3:On a b R):Cl (pr a (add a P Q) R) (fun n=>pr a P R n+pr a Q R n):=by
 have rd:=dP hd;have q1:=par hd (eS rd h1 h2) h3;have q2:=par hd h1 (eS rd h2 (dD h3));have q3:=par hd (eS rd h1 h3) h2;have q4:=par hd h2 h3;have e1:add (a:Rat) (add a P Q) (neg R)=add a P (add a Q (neg R)):=add_assoc rd h1 h2 (dD h3)
 have e2:add (a:Rat) (add a P R) Q=add a (add a P Q) R:=by rw [add_assoc rd h1 h3 h2,add_comm rd h3 h2,add_assoc rd h1 h2 h3]
 have e3:add (a:Rat) P (neg (add a Q (neg R)))=add a (add a P R) (neg Q):=by
  rw [tt rd h2 (dD h3),neg_neg,add_comm rd (dD h2) h3,add_assoc rd h1 h3 (dD h2)]
 rw [e1] at q1;rw [e3] at q2;rw [e2] at q3;obtain ⟨c1,q1⟩:=q1;obtain ⟨c2,q2⟩:=q2;obtain ⟨c3,q3⟩:=q3;obtain ⟨c4,q4⟩:=q4;refine ⟨c1+c2+c3+2*c4,fun n=>?_⟩;have q1:=q1 n;have q2:=q2 n;have q3:=q3 n;have q4:=q4 n;unfold pr;simp only at *;omega
theorem Id {a b:Int} (hd:aN a b≠0) {P:r_} (h:On a b P):Cl (hs a (add a P P)) (fun n=>4*hs a P n):=by
 have q:=par hd h h;rw [add_comm (dP hd) h (dD h),dw] at q;obtain ⟨c,q⟩:=q;refine ⟨c+1,fun n=>?_⟩;have:=q n;simp only at this;rw [Jq] at this
 show _<=hs a (add a P P) n - 4*hs a P n/\hs a (add a P P) n - 4*hs a P n<=_
 omega
theorem zU {a b:Int} (hd:aN a b≠0) {P:r_} (h:On a b P):Cl (pr a P P) (fun n=>2*hs a P n):=by
 obtain ⟨c,q⟩:=Id hd h;refine ⟨c,fun n=>?_⟩;have:=q n;unfold pr;simp only at *;omega
theorem Iy {a b:Int} (hd:aN a b≠0) {P Q:r_} (h1:On a b P) (h2:On a b Q):Cl (pr a (neg P) Q) (fun n=>-1*pr a P Q n):=by
 have q:=xp hd h1 (dD h1) h2;rw [add_comm (dP hd) h1 (dD h1),dw] at q;obtain ⟨c,q⟩:=q;refine ⟨c+1,fun n=>?_⟩;have:=q n;simp only at this;rw [GJ] at this;simp only;omega
def mul (a:Rat):Nat->r_->r_
 | 0,_=>O
 | n+1,P=>add a (mul a n P) P
def ws (a:Rat) (z:Int) (P:r_):r_:=if z<0 then mul a z.natAbs (neg P) else mul a z.natAbs P
theorem lk {a b:Rat} (hd:4*a*a*a+27*b*b≠0) {P:r_} (h:On a b P):∀ n,On a b (mul a n P)
 | 0=>trivial
 | n+1=>eS hd (lk hd h n) h
theorem AN {a b:Rat} (hd:4*a*a*a+27*b*b≠0) {P:r_} (h:On a b P) (z:Int):On a b (ws a z P):=by
 unfold ws
 split
 ·exact lk hd (dD h) _
 exact lk hd h _
theorem uD {a b:Int} (hd:aN a b≠0) {P Q:r_} (h1:On a b P) (h2:On a b Q):∀ k:Nat,Cl (pr a (mul a k P) Q) (fun n=>(k:Int)*pr a P Q n)
 | 0
   => ⟨1,fun n=>by
   show _<=pr a O Q n - _/\pr a O Q n - _<=_
   rw [GJ]
   simp⟩
 | k+1=>by
  have ih:=uD hd h1 h2 k;have:=(xp hd (lk (dP hd) h1 k) h1 h2).trans (ih.add (Cl.refl (pr a P Q)));refine this.trans (Cl.of fun n=>?_)
  push_cast
  grind
theorem GK {a b:Int} (hd:aN a b≠0) {P Q:r_} (h1:On a b P) (h2:On a b Q) (z:Int):Cl (pr a (ws a z P) Q) (fun n=>z*pr a P Q n):=by
 unfold ws
 split
 ·refine ((uD hd (dD h1) h2 _).trans ((Iy hd h1 h2).mul _)).trans (Cl.of fun n=>?_)
  have e:(z.natAbs:Int)=-z:=ω
  rw [e]
  grind
 refine (uD hd h1 h2 _).trans (Cl.of fun n=>?_)
 have e:(z.natAbs:Int)=z:=ω
 rw [e]
theorem D7 {a b:Int} (hd:aN a b≠0) {P Q:r_} (h1:On a b P) (h2:On a b Q) {f:Nat->Int} (h:Cl (pr a P Q) f):Cl (pr a Q P) f:=
 (Cl.of fun n=>zT hd h2 h1 n).trans h
theorem Iz {a b:Int} (hd:aN a b≠0) {P Q:r_} (h:On a b P) (h2:On a b Q) {k:Nat} (hk:k≠0) (hm:mul a k P=O):Cl (pr a P Q) (fun _=>0):=by
 have q:=uD hd h h2 k;rw [hm] at q;refine Cl.div (k:=(k:Int)) ω (q.symm.trans ⟨1,fun n=>?_⟩);rw [GJ];simp
end r_
end M
namespace Dt
def sm:Nat->(Nat->Int)->Int
 | 0,_=>0
 | n+1,f=>sm n f+f n
def sg (c:Nat):Int:=if c % 2=0 then 1 else -1
def skip (c j:Nat):Nat:=if j<c then j else j+1
def un (c j:Nat):Nat:=if j<c then j else j - 1
def mn (m:Nat->Nat->Int) (c:Nat):Nat->Nat->Int:=fun i j=>m (i+1) (skip c j)
def LP:Nat->(Nat->Nat->Int)->Int
 | 0,_=>1
 | k+1,m=>sm (k+1) fun c=>sg c*(m 0 c*LP k (mn m c))
def col (m:Nat->Nat->Int) (j:Nat) (b:Nat->Int):Nat->Nat->Int:=fun i q=>if q=j then b i else m i q
theorem wS {f g:Nat->Int}:∀ n,(∀ c,c<n->f c=g c)->sm n f=sm n g
 | 0,_=>rfl
 | n+1,h=>by
  show sm n f+f n=sm n g+g n
  rw [wS n fun c hc=>h c ω,h n ω]
theorem AC {f:Nat->Int}:∀ n,(∀ c,c<n->f c=0)->sm n f=0
 | 0,_=>rfl
 | n+1,h=>by
  show sm n f+f n=0
  rw [AC n fun c hc=>h c ω,h n ω];rfl
theorem yE {f g h:Nat->Int} {x y:Int}:∀ n,(∀ c,c<n->f c=x*g c+y*h c)->sm n f=x*sm n g+y*sm n h
 | 0,_=>by simp [sm]
 | n+1,e=>by
  show sm n f+f n=x*(sm n g+g n)+y*(sm n h+h n)
  rw [yE n fun c hc=>e c ω,e n ω]
  grind
theorem uR {f:Nat->Int} {j:Nat}:∀ n,j<n->(∀ c,c<n->c≠j->f c=0)->sm n f=f j
 | n+1,hj,h=>by
  show sm n f+f n=f j
  by_cases e:j=n
  ·subst e
   rw [AC j fun c hc=>h c ω ω];omega
  rw [uR n ω fun c hc hn=>h c ω hn,h n ω (Ne.symm e)];omega
theorem Eh {f:Nat->Int} {p:Nat} (h2:f p+f (p+1)=0):∀ n,p+1<n->(∀ c,c<n->c≠p->c≠p+1->f c=0)->sm n f=0
 | n+1,hp,h=>by
  show sm n f+f n=0
  by_cases e:p+1=n
  ·subst e
   rw [uR (f:=f) (j:=p) (p+1) ω fun c hc hn=>h c ω hn ω];exact h2
  rw [Eh h2 n ω fun c hc=>h c ω,h n ω ω ω];rfl
theorem th (m:Nat->Nat->Int) (j:Nat) (b:Nat->Int):mn (col m j b) j=mn m j:=by
 funext i q
 unfold mn col;rw [if_neg];unfold skip
 split <;> omega
theorem xj (m:Nat->Nat->Int) {j c:Nat} (b:Nat->Int) (h:c≠j):mn (col m j b) c=col (mn m c) (un c j) (fun i=>b (i+1)):=by
 funext i q
 unfold mn col
 have e:skip c q=j ↔ q=un c j:=by
  unfold skip un
  split <;> split <;> omega
 by_cases hq:q=un c j
 ·rw [if_pos (e.2 hq),if_pos hq]
 rw [if_neg (fun x=>hq (e.1 x)),if_neg hq]
theorem Hm {c j k:Nat} (hc:c<k+1) (hj:j<k+1) (h:c≠j):un c j<k:=by
 unfold un
 split <;> omega
theorem mK:∀ (k:Nat) (m:Nat->Nat->Int) (j:Nat) (x y:Int) (u v:Nat->Int),j<k->LP k (col m j fun i=>x*u i+y*v i)=x*LP k (col m j u)+y*LP k (col m j v)
 | k+1,m,j,x,y,u,v,hj=>by
  refine yE (k+1) fun c hc=>?_
  by_cases e:c=j
  ·subst e
   rw [th,th,th];simp only [col,if_true]
   grind
  rw [xj m _ e,xj m _ e,xj m _ e,mK k (mn m c) (un c j) x y _ _ (Hm hc hj e)];simp only [col,if_neg e]
  grind
theorem Gi (p:Nat):sg (p+1)=-sg p:=by
 unfold sg
 split <;> split <;> omega
theorem pG:∀ (k:Nat) (m:Nat->Nat->Int) (p:Nat),p+1<k->(∀ i,m i p=m i (p+1))->LP k m=0
 | k+1,m,p,hp,h=>by
  refine Eh (p:=p) ?_ (k+1) hp fun c hc h1 h2=>?_
  ·have e:mn m p=mn m (p+1):=by
    funext i q
    unfold mn skip
    by_cases h1:q<p
    ·rw [if_pos h1,if_pos ω]
    by_cases h2:q=p
    ·subst h2
     rw [if_neg ω,if_pos ω,h]
    rw [if_neg h1,if_neg ω]
   rw [e,Gi,h 0]
   grind
  have e:LP k (mn m c)=0:=by
   by_cases hcp:p<c
   ·refine pG k (mn m c) p ω fun i=>?_
    unfold mn skip;rw [if_pos hcp,if_pos ω,h]
   refine pG k (mn m c) (p - 1) ω fun i=>?_
   unfold mn skip;rw [if_neg ω,if_neg ω,show p - 1+1=p by omega,h]
  rw [e,Int.mul_zero,Int.mul_zero]
theorem qH (m:Nat->Nat->Int) (j:Nat):col m j (fun i=>m i j)=m:=by
 funext i q
 unfold col
 split
 ·rename_i h;rw [h]
 rfl
theorem qG (m:Nat->Nat->Int) {p q:Nat} (h:p≠q) (u v:Nat->Int):col (col m p u) q v=col (col m q v) p u:=by
 funext i j
 unfold col
 by_cases h1:j=p
 ·subst h1
  rw [if_neg h,if_pos rfl,if_pos rfl]
 by_cases h2:j=q
 ·subst h2;rw [if_pos rfl,if_neg h1,if_pos rfl]
 simp only [if_neg h1,if_neg h2]
theorem C7 (k:Nat) (m:Nat->Nat->Int) (p:Nat) (hp:p+1<k) (u v:Nat->Int):LP k (col (col m p u) (p+1) v)=-LP k (col (col m p v) (p+1) u):=by
 have ne:p≠p+1:=ω
 have z:∀ t:Nat->Int,LP k (col (col m p t) (p+1) t)=0:=fun t=>pG k _ p hp fun i=>by
  simp [col]
 have L1:∀ t:Nat->Int,LP k (col (col m p fun i=>1*u i+1*v i) (p+1) t)=1*LP k (col (col m p u) (p+1) t)+1*LP k (col (col m p v) (p+1) t):=fun t=>by
  rw [qG m ne,qG m ne,qG m ne];exact mK k (col m (p+1) t) p 1 1 u v ω
 have L2:=fun t:Nat->Int=>mK k (col m p t) (p+1) 1 1 u v hp
 have h0:=z fun i=>1*u i+1*v i
 rw [L1,L2,L2,z u,z v] at h0;omega
theorem xL:∀ (d k:Nat) (m:Nat->Nat->Int) (p:Nat),p+d+1<k->(∀ i,m i p=m i (p+d+1))->LP k m=0
 | 0,k,m,p,hp,h=>pG k m p hp h
 | d+1,k,m,p,hp,h=>by
  have e:=C7 k m (p+d+1) ω (fun i=>m i (p+d+1)) (fun i=>m i (p+d+1+1));rw [qH,qH] at e;rw [e,xL d k _ p ω fun i=>?_]
  ·rfl
  unfold col;rw [if_neg ω,if_neg ω,if_neg ω,if_pos rfl];exact h i
theorem iv (k:Nat) (m:Nat->Nat->Int) (j:Nat) (hj:j<k) (v:Nat->Int) (w:Nat->Nat->Int):∀ n,LP k (col m j fun i=>sm n fun q=>v q*w i q)=sm n fun q=>v q*LP k (col m j fun i=>w i q)
 | 0=>by
  have:=mK k m j 0 0 (fun _=>0) (fun _=>0) hj;simp only [Int.zero_mul,Int.add_zero] at this;exact this
 | n+1=>by
  have:=mK k m j 1 (v n) (fun i=>sm n fun q=>v q*w i q) (fun i=>w i n) hj;simp only [Int.one_mul] at this
  show LP k (col m j fun i=>sm n (fun q=>v q*w i q)+v n*w i n)=sm n (fun q=>v q*LP k (col m j fun i=>w i q))+v n*LP k (col m j fun i=>w i n)
  rw [this,iv k m j hj v w n]
theorem IP (k:Nat) (m:Nat->Nat->Int) (j:Nat) (hj:j<k) (v:Nat->Int):v j*LP k m=LP k (col m j fun i=>sm k fun q=>v q*m i q):=by
 rw [iv k m j hj v m k,uR (j:=j) k hj fun q hq hn=>?_]
 ·rw [qH]
 have e:LP k (col m j fun i=>m i q)=0:=by
  by_cases h:q<j
  ·exact xL (j - q - 1) k _ q ω fun i=>by
    unfold col;rw [if_neg ω,if_pos ω]
  exact xL (q - j - 1) k _ j ω fun i=>by
   unfold col;rw [if_pos rfl,if_neg ω,show j+(q - j - 1)+1=q by omega]
 rw [e,Int.mul_zero]
end Dt
end
section
open Go.RowKit open Gr M Rg Rw Wh
theorem SF {p:Prop} (h:p:=by simp [results,results145,go_sem, *]):p:=h
abbrev nH:=Bool × (Option Addr × Nat × Nat) × Bool × (Option Addr × Nat × Nat)
def nH.val (q:nH):Value:=.agg #[q.1,.slice q.2.1.1 q.2.1.2.1 q.2.1.2.2,q.2.2.1,.slice q.2.2.2.1 q.2.2.2.2.1 q.2.2.2.2.2]
def ER:Rw.Enc nH where
 t:=162
 k:=4
 cells:=fun q=>[.bool q.1,.slice q.2.1.1 q.2.1.2.1 q.2.1.2.2,.bool q.2.2.1,.slice q.2.2.2.1 q.2.2.2.2.1 q.2.2.2.2.2]
 len:=fun _=>rfl
 one:=fun x u hu=>by simp only [List.mem_cons,List.not_mem_nil,or_false] at hu;rcases hu with rfl | rfl | rfl | rfl <;> rfl
 pos:=δ
theorem Jt:(prog.info? 162).map (fun i=>(i.zero,i.size,i.bytes))=some (some (.agg #[false,.slice none 0 0,false,.slice none 0 0]),4,64):=κ
theorem Jk:Rw.Fits prog ER 156:=⟨Tryz.underlying156,by
 obtain ⟨i0,hi,hz0,hz1,hz2⟩:=info_parts Jt
 exact ⟨i0,_,hi,hz0,hz1,ω,rfl⟩⟩
theorem aF.yT {W W':World} {b1 b2:Nat} {v sl:Value} {xs:List nH} {ys:List Int} (h:aF W b1 sl ys) (hv:Rw.Own ER W b2 v xs) (hg:W.grownBy W' v.ownBlock):aF W' b1 sl ys:=by
 refine World.ownsRow.kept h hg ?_
 cases hs:sl.ownBlock with
 | none=>exact Or.inl rfl
 | some k=>exact Or.inr fun e=>gL h hv δ k e.symm hs
theorem aG.grown {W W':World} {g:Nat} {T:TypeId} {xs:Array Value} {r:Option Nat} (h:aG W g T xs) (hg:W.grownBy W' r) (hr:r≠some g):aG W' g T xs:=(hg.block g h.lt (fun e=>hr e.symm)).trans h
def H4 (W:World) (n:Nat) (o:M.Out) (v:Value) (en:Bool):Prop:=match o with
 | .inf=>en=true/\∃ A l c,v=.slice A l c
 | .bad=>en=false/\∃ A l c,v=.slice A l c/\l<=n
 | .val x z=>en=false/\Wh.sz x 1000/\Wh.sz z 1000/\∃ (g cap:Nat) (s:Bool) (av:Option Addr) (lv cv:Nat) (r:Bool) (bv:Option Addr) (mv dv:Nat),v=.slice (some ⟨g,0,none⟩) (n+1) cap/\
   W.cell? ⟨g,n*4,none⟩=some (.bool s)/\W.cell? ⟨g,n*4+1,none⟩=some (.slice av lv cv)/\W.cell? ⟨g,n*4+2,none⟩=some (.bool r)/\W.cell? ⟨g,n*4+3,none⟩=some (.slice bv mv dv)/\
   Hid (s=decide (x<0))/\Hid (r=decide (z<0))/\aF W 0 (.slice av lv cv) (Wh.a_ x.natAbs)/\aF W 0 (.slice bv mv dv) (Wh.a_ z.natAbs)
theorem xI (a b X Y E:Int) (n:Nat) (w:World) (hg:M.good a b=true) (hX1:-10000<=X) (hX2:X<=10000) (hE1:0<=E) (hE2:E<=20) (hn:n<=5) :
  Calls prog 145 #[.agg #[a,b],.agg #[X,Y,E],.int .i64 (n:Int)] w fun e w'=>∃ v,∃ en:Bool,e=.returned (.tuple #[v,en])/\H4 w' n (aZ a b X E n) v en/\Below w w w':=by
 have C:=(aG.new w #[a,b] 24).alloc (.cells #[X,Y,E] 47)
 have Q:=(aG.new (w.alloc (.cells #[a,b] 24)) #[X,Y,E] 47)
 rw [KQ] at Q;have B:=((KS w w).alloc (KT _) (.cells #[a,b] 24)).alloc (by rw [KQ];omega) (.cells #[X,Y,E] 47)
 have Nz:w.heap.size+2<=((w.alloc (.cells #[a,b] 24)).alloc (.cells #[X,Y,E] 47)).heap.size:=by rw [KQ,KQ];omega
 generalize hw3:(w.alloc (.cells #[a,b] 24)).alloc (.cells #[X,Y,E] 47)=wc at *;have ⟨q0,q1,q2⟩:=Q.aM;have f_:=C.box.c0;have j_:=C.box.c1
 by_cases h0:E=0
 ·subst h0
  have hz0:=KO (show aZ a b X 0 n=.inf from rfl);go_enter func145,ntmps145
  go_wp2;exact bodyPost_ret (v:=.tuple #[.slice none 0 0,true]) SF rfl (⟨_,_,rfl,(by rw [hz0.out];exact ⟨rfl,_,_,_,rfl⟩),B⟩)
 have hE:1<=E:=ω
 have Wj:1<=E*E/\E*E<=400:=⟨by have:=Int.mul_le_mul hE hE ω ω;omega,by have:=Int.mul_le_mul hE2 hE2 ω ω;omega⟩
 have hE0:(E == 0)=false:=by rw [beq_eq_false_iff_ne];exact h0
 have hout:=KO (show aZ a b X E n=M.run a b n (.val X (E*E)) from if_neg h0);clear h0;obtain ⟨e1,e2⟩:=Wj
 have P1:=fun W=>JG X (E*E) W ω ω ω ω
 have zX:Wh.sz X 1000:=aL (bi ω ω) ω;have zE:Wh.sz (E*E) 1000:=aL (bi ω ω) ω;have zX:=KO zX;have zE:=KO zE
 have hb2:-10000<=b/\b<=10000:=⟨(ag (ae hg)).2.2.1,(ag (ae hg)).2.2.2⟩
 have ha2:-1000<=a/\a<=1000:=⟨(ag (ae hg)).1,(ag (ae hg)).2.1⟩
 obtain ⟨hb1,hb2⟩:=hb2;obtain ⟨ha1,ha2⟩:=ha2;have hg:=KO hg
 have PG:=KO fun (x z:Int) (s r:Bool) v v' W k k' (h1:aF W k v (Wh.a_ x.natAbs)) (h2:aF W k' v' (Wh.a_ z.natAbs)) (hx:Wh.sz x 1000) (hz:Wh.sz z 1000) (hs:s=decide (x<0)) (hr:r=decide (z<0))=>(hs ▸ hr ▸ rK a b x z v v' W k k' h1 h2 hx hz ha1 ha2 hb1 hb2:Calls prog 169 #[.agg #[a,b],.agg #[s,v,r,v']] W fun e w'=>∃ sl,e=.returned (.agg #[decide (ah a b x z<0),sl])/\af w' W sl (ah a b x z)/\Below W W w')
 have PD:=KO fun (x z:Int) (s r:Bool) v v' W k k' (h1:aF W k v (Wh.a_ x.natAbs)) (h2:aF W k' v' (Wh.a_ z.natAbs)) (hx:Wh.sz x 1000) (hz:Wh.sz z 1000) (hs:s=decide (x<0)) (hr:r=decide (z<0))=>(hs ▸ hr ▸ yM a b x z v v' W k k' hg.out h1 h2 hx hz:Calls prog 170 #[.agg #[a,b],.agg #[s,v,r,v']] W fun e w'=>∃ v1 v2,e=.returned (.tuple #[.agg #[decide (Wh.M8 (aN a b) (bB a b x z) (ah a b x z)<0),v1,decide (Wh.M9 (aN a b) (bB a b x z) (ah a b x z)<0),v2],fw (aN a b) (bB a b x z) (ah a b x z)])/\af w' W v1 (Wh.M8 (aN a b) (bB a b x z) (ah a b x z))/\af w' W v2 (Wh.M9 (aN a b) (bB a b x z) (ah a b x z))/\Below W W w')
 clear ha1 ha2 hb1 hb2
 have hfld:=fun q A L C W=>ow q A L C W
 have OQ:=KO (show M.run a b 0 (.val X (E*E))=.val X (E*E) from rfl);generalize hZ:E*E=Z at *;replace hZ:=KO hZ;generalize hs1:decide (X<0)=s1 at *;generalize hs2:decide (Z<0)=s2 at *;replace hs1:=KO hs1.symm;replace hs2:=KO hs2.symm;have P1:=KO P1;have hQ:=KO Q;have hZE:=hZ.out;go_enter func145,ntmps145
 go_wp2_with ((with_reducible refine (P1.out _).mono ?_);rintro e w4 ⟨v4,u4,rfl,Ks,Qq,hb4⟩;obtain ⟨a4,c4,rfl,K7,Ke⟩:=aF.view Ks;clear K7 Ke;obtain ⟨b4,d4,rfl,K7,Ke⟩:=aF.view Qq;clear K7 Ke;(generalize (Wh.a_ X.natAbs).length=l4 at *);(generalize (Wh.a_ Z.natAbs).length=m4 at *);replace ⟨C,B⟩:=Kt hb4 C B;(replace ⟨f_,j_⟩:=C.b2))
 have MG:w.heap.size+2<=w4.heap.size:=Nat.le_trans Nz hb4.size;have L:=Rw.Own.Ju ER ((s1,(a4,l4,c4),s2,(b4,m4,d4)):nH) w4 (w.heap.size+2) MG;have ox:=aF.base (aF.alloc (show aF _ _ _ _ from Ks) (.cells #[s1,.slice a4 l4 c4,s2,.slice b4 m4 d4] 162)) (Nat.zero_le _);have oz:=aF.base (aF.alloc (show aF _ _ _ _ from Qq) (.cells #[s1,.slice a4 l4 c4,s2,.slice b4 m4 d4] 162)) (Nat.zero_le _);have C2:=C.alloc (.cells #[s1,.slice a4 l4 c4,s2,.slice b4 m4 d4] 162);have B2:=B.alloc B.size (.cells #[s1,.slice a4 l4 c4,s2,.slice b4 m4 d4] 162);have L:=KO L;have ox:=KO ox;have oz:=KO oz;clear Ks Qq C B f_ j_ q0 q1 q2 Q hQ hb4 P1 Nz hZE
 go_loopw [2,8] (fun vi vl wr=>∃ (k:Nat) (x z:Int) (xs:List nH) (q:nH),k<=n/\vi=.int .i64 ((n - k:Nat):Int)/\Hid (M.run a b k (.val X Z)=.val x z)/\Rw.Own ER wr (w.heap.size+2) vl xs/\Hid (xs.length=k+1)/\Hid (xs[k]?=some q)/\aF wr 0 (.slice q.2.1.1 q.2.1.2.1 q.2.1.2.2) (Wh.a_ x.natAbs)/\aF wr 0 (.slice q.2.2.2.1 q.2.2.2.2.1 q.2.2.2.2.2) (Wh.a_ z.natAbs)/\Hid (q.1=decide (x<0))/\Hid (q.2.2.1=decide (z<0))/\Wh.sz x 1000/\Wh.sz z 1000/\aG wr w 24 #[a,b]/\Below w w wr/\w.heap.size+2<=wr.heap.size) (fun vi _ _=>(intOf vi).toNat)
 case atStart=>exact ⟨0,X,Z,[((s1,(a4,l4,c4),s2,(b4,m4,d4)):nH)],((s1,(a4,l4,c4),s2,(b4,m4,d4)):nH),Nat.zero_le _,rfl,OQ,L.out,KO rfl,KO rfl,ox.out,oz.out,hs1,hs2,zX.out,zE.out,C2,B2,by rw [KQ];omega⟩
 case round=>
 clear L ox oz C2 B2 OQ hs1 hs2 zX zE MG;obtain ⟨k,x,z,xs,q,hk,rfl,hrun,L,hlen,hq,ox,oz,hs,hr,zx,zz,C,B,hz⟩:=hrel;obtain ⟨s,⟨av,lv,cv⟩,r,⟨bv,mv,dv⟩⟩:=q
 dsimp only at ox oz hs hr
 rcases L.forms with ⟨rfl,rfl⟩ | ⟨g,cap,rfl,hg1,hg2,hcp1,hcp2⟩
 ·exact absurd hlen.out σ
 have hcl:=fun i u (hu:(ER.cells (s,(av,lv,cv),r,(bv,mv,dv)))[i]?=some u) (hi:i<4)=>Rw.Own.cellAt rfl L (k*4+i) u ((Rw.flat_get ER xs k i _ hq.out hi).trans hu)
 have TV:wr.cell? ⟨g,k*4,none⟩=some (.bool s):=(hcl 0 _ rfl ω).1;have TX:wr.cell? ⟨g,k*4+1,none⟩=some (.slice av lv cv):=(hcl 1 _ rfl ω).1;have TY:wr.cell? ⟨g,k*4+2,none⟩=some (.bool r):=(hcl 2 _ rfl ω).1;have TZ:wr.cell? ⟨g,k*4+3,none⟩=some (.slice bv mv dv):=(hcl 3 _ rfl ω).1;clear hcl;have hlen1:=hlen.out;rw [hlen1] at hcp1 L ⊢;have ox:=KO ox;have oz:=KO oz;have zx:=KO zx;have zz:=KO zz;have L:=KO L;have f_:=C.box.c0;have j_:=C.box.c1;clear hlen1
 by_cases hlt:k<n
 ·obtain ⟨j,hj⟩:∃ j:Nat,n - k=j+1:=⟨n - k - 1,ω⟩
  have hj2:=KO (show n - (k+1)=j by omega)
  have hjb:(j:Int)<=4:=ω
  rw [hj];clear hj
  have Sn:=KO fun v v' W i j h1 h2=>PG.out x z s r v v' W i j h1 h2 zx.out zz.out hs.out hr.out
  have M7:=KO fun v v' W i j h1 h2=>PD.out x z s r v v' W i j h1 h2 zx.out zz.out hs.out hr.out
  have hnx:M.run a b (k+1) (.val X Z)=M.nx a b (.val x z):=by show M.nx a b (M.run a b k (.val X Z))=_;rw [hrun.out]
  unfold M.nx at hnx
  dsimp only at hnx
  clear PG PD hs hr
  have NC:=fun h=>qz (qK (D:=aN a b) (F:=bB a b x z) (G:=ah a b x z) h)
  have RN:fw (aN a b) (bB a b x z) (ah a b x z)=true->Wh.M8 (aN a b) (bB a b x z) (ah a b x z)=Wh.Oj (aN a b) (bB a b x z) (ah a b x z)/\Wh.M9 (aN a b) (bB a b x z) (ah a b x z)=Wh.Oi (aN a b) (bB a b x z) (ah a b x z):=fun h=>by unfold Wh.M8 Wh.M9;rw [if_pos h,if_pos h];exact ⟨rfl,rfl⟩
  generalize fw (aN a b) (bB a b x z) (ah a b x z)=ok,Wh.Oi (aN a b) (bB a b x z) (ah a b x z)=dd,Wh.Oj (aN a b) (bB a b x z) (ah a b x z)=nn,Wh.M9 (aN a b) (bB a b x z) (ah a b x z)=z',Wh.M8 (aN a b) (bB a b x z) (ah a b x z)=x' at *;have hG0:=@iL (ah a b x z);generalize ah a b x z=G at *;generalize decide (G<0)=sg at *;have N:=aG.new wr #[s,.slice av lv cv,r,.slice bv mv dv] 162;have C3:=C.alloc (.cells #[s,.slice av lv cv,r,.slice bv mv dv] 162);have Nj:=KO (aF.alloc ox.out (.cells #[s,.slice av lv cv,r,.slice bv mv dv] 162));have Nk:=KO (aF.alloc oz.out (.cells #[s,.slice av lv cv,r,.slice bv mv dv] 162));have L3:=KO (Rw.Own.alloc L.out (.cells #[s,.slice av lv cv,r,.slice bv mv dv] 162));have B3:=B.alloc B.size (.cells #[s,.slice av lv cv,r,.slice bv mv dv] 162);have NL:=C3.box.c0;have NM:=C3.box.c1;have N9:=N.aI.c0;have OA:=N.aI.c1;have OB:=N.aI.c2;have OC:=N.aI.c3
  by_cases hG:G=0
  ·rw [if_pos hG] at hnx
   have hfin:=KO (uN hnx n ω);have hl0:=hG0.2 hG;clear hnx hG hG0 NC RN M7;generalize To:(Wh.a_ G.natAbs).length=lg at *;subst hl0;replace To:=KO To
   go_wp2_with ((with_reducible refine (Sn.out _ _ _ _ _ Nj.out Nk.out).mono ?_);rintro e w4 ⟨v4,rfl,Ks,hb4⟩;obtain ⟨a4,c4,rfl,K7,Ke⟩:=aF.view Ks;clear K7 Ke;(rw [To.out] at Ks ⊢);replace ⟨C3,N,B3⟩:=Ky hb4 C3 N B3;(replace ⟨NL,NM⟩:=C3.b2);(replace ⟨N9,OA,OB,OC⟩:=N.b4))
   exact bodyPost_ret (v:=.tuple #[.slice (some ⟨g,0,none⟩) (k+1) cap,true]) SF rfl (⟨_,_,rfl,(by rw [hout.out,hfin.out];exact ⟨rfl,_,_,_,rfl⟩),B3⟩)
  rw [if_neg hG] at hnx
  have hl0:¬ (Wh.a_ G.natAbs).length=0:=fun h=>hG (hG0.1 h)
  have hlq:(((Wh.a_ G.natAbs).length:Int) == 0)=false:=by rw [beq_eq_false_iff_ne];omega
  clear hG hG0
  cases ok with
  | false=>
   have hfin:=KO (uM hnx n ω);clear hnx NC RN;generalize decide (z'<0)=r',decide (x'<0)=s' at *
   go_wp2_with (first
    | ((with_reducible refine (Sn.out _ _ _ _ _ Nj.out Nk.out).mono ?_);rintro e w4 ⟨v4,rfl,Ks,hb4⟩;obtain ⟨a4,c4,rfl,K7,Ke⟩:=aF.view Ks;clear K7 Ke Ks;(generalize (Wh.a_ G.natAbs).length=lg at *);replace L3:=KO (Rw.Own.below L3.out hb4);replace ⟨C3,N⟩:=Kt hb4 C3 N;replace Nj:=kO Nj hb4;replace Nk:=kO Nk hb4;replace B3:=p_ B3 hb4;(replace ⟨NL,NM⟩:=C3.b2);(replace ⟨N9,OA,OB,OC⟩:=N.b4))
    | ((with_reducible refine (M7.out _ _ _ _ _ Nj.out Nk.out).mono ?_);rintro e w5 ⟨v5,u5,rfl,LZ,Nf,hb5⟩;replace ⟨C3,N⟩:=Kt hb5 C3 N;replace Nj:=kO Nj hb5;replace Nk:=kO Nk hb5;replace B3:=p_ B3 hb5;replace L3:=KO (Rw.Own.below L3.out hb5);obtain ⟨a5,c5,rfl,K7,Ke⟩:=aF.view LZ;clear K7 Ke;obtain ⟨b5,d5,rfl,K7,Ke⟩:=aF.view Nf;clear K7 Ke;have on:=KO (aF.alloc (show aF _ _ _ _ from LZ) (.cells #[s',.slice a5 (Wh.a_ x'.natAbs).length c5,r',.slice b5 (Wh.a_ z'.natAbs).length d5] 162));have om:=KO (aF.alloc (show aF _ _ _ _ from Nf) (.cells #[s',.slice a5 (Wh.a_ x'.natAbs).length c5,r',.slice b5 (Wh.a_ z'.natAbs).length d5] 162));clear LZ Nf;(generalize (Wh.a_ x'.natAbs).length=l5 at *);(generalize (Wh.a_ z'.natAbs).length=m5 at *);replace L3:=KO (Rw.Own.alloc L3.out (.cells #[s',.slice a5 l5 c5,r',.slice b5 m5 d5] 162));have M_:=aG.new w5 #[s',.slice a5 l5 c5,r',.slice b5 m5 d5] 162;have b_:=bA w5 (.cells #[s',.slice a5 l5 c5,r',.slice b5 m5 d5] 162);replace ⟨C3,N⟩:=Kt b_ C3 N;replace Nj:=kO Nj b_;replace Nk:=kO Nk b_;replace B3:=p_ B3 b_;clear b_;(replace ⟨NL,NM⟩:=C3.b2);(replace ⟨N9,OA,OB,OC⟩:=N.b4);(replace ⟨Vv,Vw,Vx,Vy⟩:=M_.b4)))
   exact bodyPost_ret (v:=.tuple #[.slice (some ⟨g,0,none⟩) (k+1) cap,false]) SF rfl (⟨_,_,rfl,(by rw [hout.out,hfin.out];exact ⟨rfl,_,_,_,rfl,ω⟩),B3⟩)
  | true=>
  rw [if_pos rfl] at hnx;obtain ⟨hxn,hzn⟩:=RN rfl;obtain ⟨zn,zd⟩:=NC rfl;subst hxn hzn;clear RN NC;have zn:=KO zn;have zd:=KO zd;have hnx:=KO hnx;generalize hs5:decide (x'<0)=s' at *;generalize Tt:decide (z'<0)=r' at *;replace hs5:=KO hs5.symm;replace Tt:=KO Tt.symm;clear hrun zx zz
  go_wp2_with (first
   | ((with_reducible refine (Sn.out _ _ _ _ _ Nj.out Nk.out).mono ?_);rintro e w4 ⟨v4,rfl,Ks,hb4⟩;obtain ⟨a4,c4,rfl,K7,Ke⟩:=aF.view Ks;clear K7 Ke Ks;(generalize (Wh.a_ G.natAbs).length=lg at *);replace L3:=KO (Rw.Own.below L3.out hb4);replace ⟨C3,N⟩:=Kt hb4 C3 N;replace Nj:=kO Nj hb4;replace Nk:=kO Nk hb4;replace B3:=p_ B3 hb4;(replace ⟨NL,NM⟩:=C3.b2);(replace ⟨N9,OA,OB,OC⟩:=N.b4))
   | ((with_reducible refine (M7.out _ _ _ _ _ Nj.out Nk.out).mono ?_);rintro e w5 ⟨v5,u5,rfl,LZ,Nf,hb5⟩;replace ⟨C3,N⟩:=Kt hb5 C3 N;replace Nj:=kO Nj hb5;replace Nk:=kO Nk hb5;replace B3:=p_ B3 hb5;replace L3:=KO (Rw.Own.below L3.out hb5);obtain ⟨a5,c5,rfl,K7,Ke⟩:=aF.view LZ;clear K7 Ke;obtain ⟨b5,d5,rfl,K7,Ke⟩:=aF.view Nf;clear K7 Ke;have on:=KO (aF.alloc (show aF _ _ _ _ from LZ) (.cells #[s',.slice a5 (Wh.a_ x'.natAbs).length c5,r',.slice b5 (Wh.a_ z'.natAbs).length d5] 162));have om:=KO (aF.alloc (show aF _ _ _ _ from Nf) (.cells #[s',.slice a5 (Wh.a_ x'.natAbs).length c5,r',.slice b5 (Wh.a_ z'.natAbs).length d5] 162));clear LZ Nf;(generalize (Wh.a_ x'.natAbs).length=l5 at *);(generalize (Wh.a_ z'.natAbs).length=m5 at *);replace L3:=KO (Rw.Own.alloc L3.out (.cells #[s',.slice a5 l5 c5,r',.slice b5 m5 d5] 162));have M_:=aG.new w5 #[s',.slice a5 l5 c5,r',.slice b5 m5 d5] 162;have b_:=bA w5 (.cells #[s',.slice a5 l5 c5,r',.slice b5 m5 d5] 162);replace ⟨C3,N⟩:=Kt b_ C3 N;replace Nj:=kO Nj b_;replace Nk:=kO Nk b_;replace B3:=p_ B3 b_;clear b_;(replace ⟨NL,NM⟩:=C3.b2);(replace ⟨N9,OA,OB,OC⟩:=N.b4);(replace ⟨Vv,Vw,Vx,Vy⟩:=M_.b4))
   | (at_builtin;refine sZ Jk (w.heap.size+2) [((s',(a5,l5,c5),r',(b5,m5,d5)):nH)] xs _ ⟨w5.heap.size+1,0,none⟩ 1 1 (by rfl) (by rfl) (.tmp 50) (.tmp 52) (by rfl) (by rfl) (by rfl) (Rw.From.lit ER _ ((s',(a5,l5,c5),r',(b5,m5,d5)):nH) (w5.heap.size+1) (KQ _ _)) (by have:=Rw.Own.alloc L3.out (.cells #[s',.slice a5 l5 c5,r',.slice b5 m5 d5] 162);exact this) (by have TP:=hb4.size;have We:=hb5.size;(try simp only [KQ] at TP We ⊢);omega) (by rw [hlen.out];simp;omega) ?_;intro v6 w6 hown6 Mu RP;have C6:=aG.grown (C3.alloc (.cells #[s',.slice a5 l5 c5,r',.slice b5 m5 d5] 162)) Mu (fun e=>by have e2:g=w.heap.size:=Option.some.inj e;omega);have on6:=KO (aF.yT (aF.alloc on.out (.cells #[s',.slice a5 l5 c5,r',.slice b5 m5 d5] 162)) (Rw.Own.alloc L3.out (.cells #[s',.slice a5 l5 c5,r',.slice b5 m5 d5] 162)) Mu);have om6:=KO (aF.yT (aF.alloc om.out (.cells #[s',.slice a5 l5 c5,r',.slice b5 m5 d5] 162)) (Rw.Own.alloc L3.out (.cells #[s',.slice a5 l5 c5,r',.slice b5 m5 d5] 162)) Mu);have B6:=Below.grown (B3.alloc B3.size (.cells #[s',.slice a5 l5 c5,r',.slice b5 m5 d5] 162)) Mu (B3.alloc B3.size (.cells #[s',.slice a5 l5 c5,r',.slice b5 m5 d5] 162)).size (fun k_ hk_=>by have e2:g=k_:=Option.some.inj hk_;omega);have hown6:=KO hown6;have Vc:=Mu.size;have XM:=hb4.size;have SV:=hb5.size))
  go_roundw
  case rel=>exact ⟨k+1,x',z',xs ++ [((s',(a5,l5,c5),r',(b5,m5,d5)):nH)],((s',(a5,l5,c5),r',(b5,m5,d5)):nH),ω,(by first | (rw [hj2.out];done) | (rw [hj2.out];go_num)),hnx,hown6.out,KO (by rw [List.length_append,hlen.out];rfl),KO (by rw [List.getElem?_append_right (by rw [hlen.out];omega),hlen.out,Nat.sub_self];rfl),aF.base on6.out (Nat.zero_le _),aF.base om6.out (Nat.zero_le _),hs5,Tt,zn.out,zd.out,C6,B6,by (try simp only [KQ] at Vc XM SV);omega⟩
  case measure=>simp [intOf] <;> omega
 obtain rfl:k=n:=ω
 rw [Nat.sub_self];go_wp2;exact bodyPost_ret (v:=.tuple #[.slice (some ⟨g,0,none⟩) (k+1) cap,false]) SF rfl (⟨_,_,rfl,(by rw [hout.out,hrun.out];exact ⟨rfl,zx.out,zz.out,g,cap,s,av,lv,cv,r,bv,mv,dv,rfl,TV,TX,TY,TZ,hs,hr,ox.out,oz.out⟩),B⟩)
end
section
open Go.RowKit open M
theorem L0 {p:Prop} (h:p:=by (try simp only [KQ,bE,World.heap_drewN,aW]);omega):p:=h
noncomputable def Ol (n d:Int):Bool:=iw (cM n d) (bW n d)
theorem lM (a b:Int) (w:World) (h1:-4000000000000000000<=a) (h2:a<=4000000000000000000) (h3:-4000000000000000000<=b) (h4:b<=4000000000000000000) :
  cP 136 #[.int .i64 (a.natAbs:Int),.int .i64 (b.natAbs:Int)] w (.int .i64 (M.gcd a b)):=by
 rw [show M.gcd a b=M.gcd a.natAbs b.natAbs from by simp [M.gcd,Int.gcd]];exact eU _ _ _ ω ω ω ω
theorem qi (n d:Int) (w:World) (h1:-4000000000000000000<=n) (h2:n<=4000000000000000000) (h3:-4000000000000000000<=d) (h4:d<=4000000000000000000) (h0:d≠0) :
  cB 68 #[n,d] w (.tuple #[.agg #[M.pick (Ol (n) (d)) (cM (n) (d)),M.pick (Ol (n) (d)) (bW (n) (d))],Ol (n) (d)]:Value):=by
 have g1:=pK (a:=n) h0;have g2:=xO (a:=n) h0;have t1:=fY (a:=n) (d:=M.gcd n d) h1 h2 ω;have t2:=fY (a:=d) (d:=M.gcd n d) h3 h4 ω
 have E:=fun w=>jE (cM n d) (bW n d) w
 unfold Ol
 by_cases hn:d<0
 ·rw [gN hn,gM hn] at E ⊢
  cases hok:iw (-n.tdiv (M.gcd n d)) (-d.tdiv (M.gcd n d)) <;> simp only [hok] at E <;> have E:=KO E
  all_goals
   have w1:=IntWalk.i64_in (-n.tdiv (M.gcd n d)) ω;have w2:=IntWalk.i64_in (-d.tdiv (M.gcd n d)) ω
   have hg0:¬ -M.gcd n d=0:=ω
   go_enter func68,ntmps68
   go_wp2_with (go_at_call 97;refine (qR _ _ _ ω ω ω ω).mono ?_;rintro e w' ⟨rfl,mq,rfl⟩)
   go_region
   all_goals
    clear w1 w2
    go_wp2_with (go_at_call 104;refine (E.out _).mono ?_;rintro e w' ⟨rfl,hb⟩;have O8:=hb.size;(try simp only [KQ,bE,World.heap_drewN,aW] at O8);have RY:w.heap.size<w'.heap.size:=ω;have Tj:=fun o=>(fO hb).1 (w.heap.size) o L0;have Tl:=fun o=>(fO hb).2.1 (w.heap.size) o L0;have Tx:w.heap.size+1<w'.heap.size:=ω;have Tk:=fun o=>(fO hb).1 (w.heap.size+1) o L0;have Tm:=fun o=>(fO hb).2.1 (w.heap.size+1) o L0)
    first
     | (refine bodyPost_ret (v:=.tuple #[.agg #[(0:Int),(0:Int)],false]) ?_ rfl ?_;(· (simp [results,results68,go_sem, *];done));(· (refine ⟨?_,LV⟩;(simp [kM];done))))
     | (refine bodyPost_ret (v:=.tuple #[.agg #[(-n.tdiv (M.gcd n d):Int),(-d.tdiv (M.gcd n d):Int)],true]) ?_ rfl ?_;(· (simp [results,results68,go_sem, *];done));(· (refine ⟨?_,LV⟩;(simp [fH];done))))
 rw [eA ω,dz ω] at E ⊢
 cases hok:iw (n.tdiv (M.gcd n d)) (d.tdiv (M.gcd n d)) <;> simp only [hok] at E <;> have E:=KO E
 all_goals
  have w1:=IntWalk.i64_in (n.tdiv (M.gcd n d)) ω;have w2:=IntWalk.i64_in (d.tdiv (M.gcd n d)) ω
  have hg0:¬ M.gcd n d=0:=ω
  go_enter func68,ntmps68
  go_wp2_with (go_at_call 97;refine (qR _ _ _ ω ω ω ω).mono ?_;rintro e w' ⟨rfl,mq,rfl⟩)
  go_region
  all_goals
   clear w1 w2
   go_wp2_with (go_at_call 104;refine (E.out _).mono ?_;rintro e w' ⟨rfl,hb⟩;have O8:=hb.size;(try simp only [KQ,bE,World.heap_drewN,aW] at O8);have RY:w.heap.size<w'.heap.size:=ω;have Tj:=fun o=>(fO hb).1 (w.heap.size) o L0;have Tl:=fun o=>(fO hb).2.1 (w.heap.size) o L0;have Tx:w.heap.size+1<w'.heap.size:=ω;have Tk:=fun o=>(fO hb).1 (w.heap.size+1) o L0;have Tm:=fun o=>(fO hb).2.1 (w.heap.size+1) o L0)
   first
    | (refine bodyPost_ret (v:=.tuple #[.agg #[(0:Int),(0:Int)],false]) ?_ rfl ?_;(· (simp [results,results68,go_sem, *];done));(· (refine ⟨?_,LV⟩;(simp [kM];done))))
    | (refine bodyPost_ret (v:=.tuple #[.agg #[n.tdiv (M.gcd n d),d.tdiv (M.gcd n d)],true]) ?_ rfl ?_;(· (simp [results,results68,go_sem, *];done));(· (refine ⟨?_,LV⟩;(simp [fH];done))))
theorem DP (n d:Int) (w:World) (h1:-4000000000000000000<=n) (h2:n<=4000000000000000000) (h3:-4000000000000000000<=d) (h4:d<=4000000000000000000) (h0:d≠0) :
  cB 139 #[n,d] w (.tuple #[.agg #[M.pick (Ol (n) (d)) (cM (n) (d)),M.pick (Ol (n) (d)) (bW (n) (d))],Ol (n) (d)]:Value):=by
 have g1:=pK (a:=n) h0;have g2:=xO (a:=n) h0;have t1:=fY (a:=n) (d:=M.gcd n d) h1 h2 ω;have t2:=fY (a:=d) (d:=M.gcd n d) h3 h4 ω
 have E:=fun w=>vH (cM n d) (bW n d) w
 unfold Ol
 by_cases hn:d<0
 ·rw [gN hn,gM hn] at E ⊢
  cases hok:iw (-n.tdiv (M.gcd n d)) (-d.tdiv (M.gcd n d)) <;> simp only [hok] at E <;> have E:=KO E
  all_goals
   have w1:=IntWalk.i64_in (-n.tdiv (M.gcd n d)) ω;have w2:=IntWalk.i64_in (-d.tdiv (M.gcd n d)) ω
   have hg0:¬ -M.gcd n d=0:=ω
   go_enter func139,ntmps139
   go_wp2_with (first | (go_at_call 85;refine (eP _ _ ω ω).mono ?_;rintro e w' ⟨rfl,rfl⟩) | (go_at_call 136;refine (lM n d _ h1 h2 h3 h4).mono ?_;rintro e w' ⟨rfl,rfl⟩))
   go_region
   all_goals
    clear w1 w2
    go_wp2_with (go_at_call 162;refine (E.out _).mono ?_;rintro e w' ⟨rfl,hb⟩;have O8:=hb.size;(try simp only [KQ,bE,World.heap_drewN,aW] at O8);have RY:w.heap.size<w'.heap.size:=ω;have Tj:=fun o=>(fO hb).1 (w.heap.size) o L0;have Tl:=fun o=>(fO hb).2.1 (w.heap.size) o L0;have Tx:w.heap.size+1<w'.heap.size:=ω;have Tk:=fun o=>(fO hb).1 (w.heap.size+1) o L0;have Tm:=fun o=>(fO hb).2.1 (w.heap.size+1) o L0)
    first
     | (refine bodyPost_ret (v:=.tuple #[.agg #[(0:Int),(0:Int)],false]) ?_ rfl ?_;(· (simp [results,results139,go_sem, *];done));(· (refine ⟨?_,LV⟩;(simp [kM];done))))
     | (refine bodyPost_ret (v:=.tuple #[.agg #[(-n.tdiv (M.gcd n d):Int),(-d.tdiv (M.gcd n d):Int)],true]) ?_ rfl ?_;(· (simp [results,results139,go_sem, *];done));(· (refine ⟨?_,LV⟩;(simp [fH];done))))
 rw [eA ω,dz ω] at E ⊢
 cases hok:iw (n.tdiv (M.gcd n d)) (d.tdiv (M.gcd n d)) <;> simp only [hok] at E <;> have E:=KO E
 all_goals
  have w1:=IntWalk.i64_in (n.tdiv (M.gcd n d)) ω;have w2:=IntWalk.i64_in (d.tdiv (M.gcd n d)) ω
  have hg0:¬ M.gcd n d=0:=ω
  go_enter func139,ntmps139
  go_wp2_with (first | (go_at_call 85;refine (eP _ _ ω ω).mono ?_;rintro e w' ⟨rfl,rfl⟩) | (go_at_call 136;refine (lM n d _ h1 h2 h3 h4).mono ?_;rintro e w' ⟨rfl,rfl⟩))
  go_region
  all_goals
   clear w1 w2
   go_wp2_with (go_at_call 162;refine (E.out _).mono ?_;rintro e w' ⟨rfl,hb⟩;have O8:=hb.size;(try simp only [KQ,bE,World.heap_drewN,aW] at O8);have RY:w.heap.size<w'.heap.size:=ω;have Tj:=fun o=>(fO hb).1 (w.heap.size) o L0;have Tl:=fun o=>(fO hb).2.1 (w.heap.size) o L0;have Tx:w.heap.size+1<w'.heap.size:=ω;have Tk:=fun o=>(fO hb).1 (w.heap.size+1) o L0;have Tm:=fun o=>(fO hb).2.1 (w.heap.size+1) o L0)
   first
    | (refine bodyPost_ret (v:=.tuple #[.agg #[(0:Int),(0:Int)],false]) ?_ rfl ?_;(· (simp [results,results139,go_sem, *];done));(· (refine ⟨?_,LV⟩;(simp [kM];done))))
    | (refine bodyPost_ret (v:=.tuple #[.agg #[n.tdiv (M.gcd n d),d.tdiv (M.gcd n d)],true]) ?_ rfl ?_;(· (simp [results,results139,go_sem, *];done));(· (refine ⟨?_,LV⟩;(simp [fH];done))))
namespace M
noncomputable def LX (n d:Int):Option (Int × Int):=if Ol n d then some (cM n d,bW n d) else none
def fN (r:Option (Int × Int)):Int:=(r.getD (0,0)).1
def fD (r:Option (Int × Int)):Int:=(r.getD (0,0)).2
theorem DO (n d:Int):(.tuple #[.agg #[M.pick (Ol (n) (d)) (cM (n) (d)),M.pick (Ol (n) (d)) (bW (n) (d))],Ol (n) (d)]:Value)=.tuple #[.agg #[fN (LX n d),fD (LX n d)],.bool (LX n d).isSome]:=by
 unfold LX
 cases h:Ol n d <;> simp [kM,fH,fN,fD]
theorem Fb {n d:Int} (h:iw n d=true):-1000000000<=n/\n<=1000000000/\1<=d/\d<=1000000000:=by
 unfold iw at h;simp only [Bool.and_eq_true] at h;have h1:=jR h.1.1;have h2:=jR h.1.2;omega
end M
theorem vI (n d:Int) (w:World) (h1:-4000000000000000000<=n) (h2:n<=4000000000000000000) (h3:-4000000000000000000<=d) (h4:d<=4000000000000000000) (h0:d≠0) :
  cB 139 #[n,d] w (.tuple #[.agg #[M.fN (M.LX n d),M.fD (M.LX n d)],.bool (M.LX n d).isSome]):=by
 rw [←DO];exact DP n d w h1 h2 h3 h4 h0
theorem kD (n d:Int) (w:World) (h1:-4000000000000000000<=n) (h2:n<=4000000000000000000) (h3:-4000000000000000000<=d) (h4:d<=4000000000000000000) (h0:d≠0) :
  cB 68 #[n,d] w (.tuple #[.agg #[M.fN (M.LX n d),M.fD (M.LX n d)],.bool (M.LX n d).isSome]):=by
 rw [←DO];exact qi n d w h1 h2 h3 h4 h0
theorem tR (n:Int) (w:World) :
  cB 46 #[n] w (.agg #[n,(1:Int)]):=by
 go_enter func46,ntmps46
 go_wp2;exact KU results46 ⟨rfl,LV⟩
end
section
open Go.RowKit open Gr M Rg Rw Wh
namespace M
noncomputable def pn (a:Int):Int:=fN (LX a 4096)
noncomputable def pd (a:Int):Int:=fD (LX a 4096)
def aJ (lo hi:Int):Bool:=decide (lo<=hi) && decide (-409600000<=lo) && decide (hi<=409600000)
theorem bM {lo hi:Int} (h:aJ lo hi=true):lo<=hi/\-409600000<=lo/\hi<=409600000:=by
 unfold aJ at h;simp only [Bool.and_eq_true,decide_eq_true_eq] at h;exact ⟨h.1.1,h.1.2,h.2⟩
theorem yp (a:Int):∃ g q n:Int,M.gcd a 4096=g/\1<=g/\g<=4096/\4096=g*q/\1<=q/\q<=4096/\a=n*g:=by
 have h1:(M.gcd a 4096) ∣ 4096:=Int.gcd_dvd_right ..;have h2:(M.gcd a 4096) ∣ a:=Int.gcd_dvd_left ..;have h3:=pK (a:=a) (b:=4096) δ;obtain ⟨q,hq⟩:=h1;obtain ⟨n,hn⟩:=h2;generalize M.gcd a 4096=g at *
 have hq1:1<=q:=by
  rcases Int.lt_or_le q 1 with h | h
  ·have:=Int.mul_nonpos_of_nonneg_of_nonpos (a:=g) (b:=q) ω ω
   omega
  exact h
 have hg:g<=4096:=Int.le_of_dvd δ ⟨q,hq⟩;have hq2:q<=4096:=Int.le_of_dvd δ ⟨g,by rw [Int.mul_comm];exact hq⟩;exact ⟨g,q,n,rfl,ω,hg,hq,hq1,hq2,by rw [hn,Int.mul_comm]⟩
theorem pJ {a g q n:Int} (hg:M.gcd a 4096=g) (h1:1<=g) (hq:4096=g*q) (hn:a=n*g):LX a 4096=if iw n q then some (n,q) else none:=by
 have e1:cM a 4096=n:=by rw [eA ω,hg,hn,Int.mul_tdiv_cancel _ ω]
 have e2:bW a 4096=q:=by rw [dz ω,hg,hq,Int.mul_tdiv_cancel_left _ ω]
 unfold LX Ol;rw [e1,e2]
theorem iF {a:Int} (h:(LX a 4096).isSome=true):iw (pn a) (pd a)=true/\1<=pd a/\pd a<=4096/\(4096:Int) % pd a=0/\pn a*(4096 / pd a)=a/\1<=4096 / pd a/\4096 / pd a<=4096/\-1000000000<=pn a/\pn a<=1000000000:=by
 obtain ⟨g,q,n,hg,h1,h2,hq,h3,h4,hn⟩:=yp a;have hf:=pJ hg h1 hq hn;unfold pn pd;rw [hf] at h ⊢
 split at h
 ·rename_i hok
  have hb:=Fb hok;rw [if_pos hok]
  show iw n q=true/\_
  have hdiv:(4096:Int) / q=g:=by rw [hq];exact Int.mul_ediv_cancel _ ω
  refine ⟨hok,h3,h4,?_,?_,?_,?_,hb.1,hb.2.1⟩
  ·show (4096:Int) % q=0
   rw [hq];exact Int.mul_emod_left _ _
  ·show n*(4096 / q)=a
   rw [hdiv,hn]
  ·show 1<=(4096:Int) / q
   omega
  show (4096:Int) / q<=4096
  omega
 cases h
theorem bC {a:Int} (h1:-409600000<=a) (h2:a<=409600000):(LX a 4096).isSome=true:=by
 obtain ⟨g,q,n,hg,hg1,hg2,hq,h3,h4,hn⟩:=yp a;rw [pJ hg hg1 hq hn]
 have hnb:-1000000000<=n/\n<=1000000000:=by
  constructor
  ·rcases Int.lt_or_le n (-1000000000) with h | h
   ·have:n*g<=n*1:=Int.mul_le_mul_of_nonpos_left ω hg1
    omega
   exact h
  rcases Int.lt_or_le 1000000000 n with h | h
  ·have:n*1<=n*g:=Int.mul_le_mul_of_nonneg_left hg1 ω
   omega
  exact h
 have hgcd:M.gcd n q=1:=by
  have e1:M.gcd (n*g) (q*g)=M.gcd n q*g:=by
   unfold M.gcd;rw [Int.gcd_mul_right]
   have:(g.natAbs:Int)=g:=ω
   rw [Int.natCast_mul,this]
  rw [←hn,Int.mul_comm q g,←hq,hg] at e1;have:=Int.eq_of_mul_eq_mul_right (a:=g) (b:=1) (c:=M.gcd n q) ω ω;exact this.symm
 have hok:iw n q=true:=by
  unfold iw M.ins;rw [hgcd];simp only [Bool.and_eq_true,decide_eq_true_eq];exact ⟨⟨ω,hnb⟩,rfl⟩
 rw [if_pos hok];rfl
theorem IX {a:Int} (h:(LX a 4096).isSome=true):-4096000000000<=a/\a<=4096000000000:=by
 obtain ⟨-,-,-,-,h5,h6,h7,h8,h9⟩:=iF h;generalize 4096 / pd a=g at *;have:=aH (x:=pn a) (y:=g) (m:=1000000000) (n:=4096) ω ω ω ω;omega
theorem yn {a b:Int} (hb:0<b) (h:a.tmod b<0):a.tdiv b - 1=a / b:=by
 have h1:=Int.mul_tdiv_add_tmod a b;have h2:=Int.lt_tmod_of_pos a hb;exact ((Int.ediv_emod_unique (r:=a.tmod b+b) hb).2 ⟨by rw [Int.mul_sub];omega,ω,ω⟩ |>.1).symm
theorem ym {a b:Int} (hb:0<b) (h:¬ a.tmod b<0):a.tdiv b=a / b:=by
 have h1:=Int.mul_tdiv_add_tmod a b;have h2:=Int.tmod_lt_of_pos a hb;exact ((Int.ediv_emod_unique hb).2 ⟨ω,ω,h2⟩ |>.1).symm
end M
theorem iN (a b:Int) (w:World) (h1:-4000000000000000000<=a) (h2:a<=4000000000000000000) (hb:0<b) (hb2:b<=4000000000000000000) :
  cP 137 #[a,b] w (.int .i64 (a / b)):=by
 have t1:=fY (a:=a) (d:=b) h1 h2 ω;have m1:=Int.tmod_lt_of_pos a hb;have m2:=Int.lt_tmod_of_pos a hb;have hf:=ym (a:=a) hb;have ht:=yn (a:=a) hb
 have hb0:¬ b=0:=ω
 by_cases h:a.tmod b<0
 ·have ht2:=KO (ht h)
  clear hf ht;go_enter func137,ntmps137
  go_wp2;go_ret;exact ⟨by first | rfl | (rw [←ht2.out];rfl),rfl⟩
 have hf2:=KO (hf h);clear ht hf;go_enter func137,ntmps137
 go_wp2;go_ret;exact ⟨by first | rfl | (rw [←hf2.out];rfl),rfl⟩
theorem qP (a b:Int) (w:World) (h1:-4000000000000000000<=a) (h2:a<=4000000000000000000) (hb:0<b) (hb2:b<=4000000000000000000) :
  cP 95 #[a,b] w (.int .i64 (a / b)):=by
 have t1:=fY (a:=a) (d:=b) h1 h2 ω;have m1:=Int.tmod_lt_of_pos a hb;have m2:=Int.lt_tmod_of_pos a hb;have hf:=ym (a:=a) hb;have ht:=yn (a:=a) hb
 have hb0:¬ b=0:=ω
 have hb1:(b == 0)=false:=by rw [beq_eq_false_iff_ne];exact hb0
 by_cases h:a.tmod b<0
 ·have ht2:=KO (ht h)
  clear hf ht;go_enter func95,ntmps95
  go_wp2;go_ret;exact ⟨by first | rfl | (rw [←ht2.out];rfl),rfl⟩
 have hf2:=KO (hf h);clear ht hf;go_enter func95,ntmps95
 go_wp2;go_ret;exact ⟨by first | rfl | (rw [←hf2.out];rfl),rfl⟩
theorem fE {a b k:Int} (h1:-k<=a) (h2:a<=k) (hb:0<b) (hk:0<=k):-k<=a / b/\a / b<=k:=by
 have e1:=Int.mul_ediv_add_emod a b;have e2:=Int.emod_nonneg a (by omega:b≠0);have e3:=Int.emod_lt_of_pos a hb
 constructor
 ·rcases Int.lt_or_le (a / b) (-k) with h | h
  ·have:b*(a / b)<=b*(-k - 1):=Int.mul_le_mul_of_nonneg_left ω ω
   have h4:b*(-k - 1)<=1*(-k - 1):=Int.mul_le_mul_of_nonpos_right ω ω
   have h5:b*(-k - 1)=b*(-k) - b:=by rw [Int.mul_sub,Int.mul_one]
   have h6:b*(-k)<=1*(-k):=Int.mul_le_mul_of_nonpos_right ω ω;omega
  exact h
 rcases Int.lt_or_le k (a / b) with h | h
 ·have h4:b*(k+1)<=b*(a / b):=Int.mul_le_mul_of_nonneg_left ω ω
  have h5:1*(k+1)<=b*(k+1):=Int.mul_le_mul_of_nonneg_right ω ω;omega
 exact h
theorem Dh (a b:Int) (w:World) (h1:-4000000000000000000<=a) (h2:a<=4000000000000000000) (hb:0<b) (hb2:b<=4000000000000000000) :
  cP 96 #[a,b] w (.int .i64 (-(-a / b))):=by
 have P:=fun W=>qP (-a) b W ω ω hb hb2
 have hq:=fE (a:=-a) (b:=b) (k:=4000000000000000000) ω ω hb ω;obtain ⟨q1,q2⟩:=hq;generalize -a / b=q at *;replace P:=KO P;go_enter func96,ntmps96
 go_wp2_with (with_reducible refine Kw (P.out _) ?_)
 go_ret;exact ⟨rfl,rfl⟩
end
end Go.Proofs.YtlnjcilaflfnlaaGreatDoor
