/-
  Joined texts: contracts and plain lemmas.
-/
import Derived.Test.YtkalaljcbmkbmaaGreatB1
import Derived.Test.YtkalaljcbmkbmaaGreatB5
set_option linter.unusedSimpArgs false
set_option linter.unusedVariables false
set_option maxRecDepth 100000
set_option maxHeartbeats 8000000
namespace Go.Proofs.YtkalaljcbmkbmaaGreat
section
open Go.RowKit
theorem AM (a b x z:Int) (vx vz:Value) (w:World) (bx bz:Nat) (hox:ae w bx vx x) (Dl:ae w bz vz z) (hx:Wh.sz x 1000) (hz:Wh.sz z 1000) (ha1:-1000<=a) (ha2:a<=1000) (hb1:-10000<=b) (hb2:b<=10000) :
  Calls Tryz.prog 191 #[.agg #[a,b],.agg #[decide (x<0),vx,decide (z<0),vz]] w fun e w'=>∃ sl,e=.returned (.agg #[decide (Wh.am a b x z<0),sl])/\ae w' w.heap.size sl (Wh.am a b x z)/\Below w.heap.size w w':=by
 obtain ⟨ax,cx,rfl,-,-⟩:=aF.view hox;obtain ⟨az,cz,rfl,-,-⟩:=aF.view Dl;have haa:-1000000<=a*a/\a*a<=1000000:=M.aH (x:=a) (y:=a) (m:=1000) (n:=1000);have mx:=Wh.ak hx hx;have mz:=Wh.ak hz hz;have Q6:=Wh.ak mx mx;have Q7:=Wh.ak mx mz;have mt:=Wh.ak Q7 (Wh.bP (n:=2*a) (by omega) (by omega));have m1:=Wh.pF (Wh.aM Q6 (show 1000+1000+(1000+1000)<=4100 by omega)) (Wh.aM mt (show _<=4100 by omega));have n1:=Wh.ak hx hz;have n2:=Wh.ak n1 mz;have n3:=Wh.ak n2 (Wh.bP (n:=8*b) (by omega) (by omega));have m2:=Wh.pF (Wh.aM m1 (show 4100+1<=4200 by omega)) (Wh.aM n3 (show _<=4200 by omega));have Q8:=Wh.ak mz mz;have n4:=Wh.ak Q8 (Wh.bP (n:=a*a) (by omega) (by omega))
 have P0:=fun v W k (h:aF W k v (Wh.a_ (x).natAbs))=>dp (x) v W k h (Wh.aU.2 (Wh.aM hx (by omega)))
 have P1:=fun v W k (h:aF W k v (Wh.a_ (z).natAbs))=>dp (z) v W k h (Wh.aU.2 (Wh.aM hz (by omega)))
 have P2:=fun v W k (h:aF W k v (Wh.a_ (x*x).natAbs))=>dp (x*x) v W k h (Wh.aU.2 (Wh.aM mx (by omega)))
 have P3:=fun v v' W k k' (h:aF W k v (Wh.a_ (x*x).natAbs)) (h':aF W k' v' (Wh.a_ (z*z).natAbs))=>eJ (x*x) (z*z) v v' W k k' h h' (Wh.aU.2 (Wh.aM mx (by omega))) (Wh.aU.2 (Wh.aM mz (by omega)))
 have P4:=fun v W k (h:aF W k v (Wh.a_ (x*x*(z*z)).natAbs))=>eS (x*x*(z*z)) (2*a) v W k h (Wh.aU.2 (Wh.aM Q7 (by omega))) (by omega) (by omega)
 have P5:=fun v v' W k k' (h:aF W k v (Wh.a_ (x*x*(x*x)).natAbs)) (h':aF W k' v' (Wh.a_ (x*x*(z*z)*(2*a)).natAbs))=>nL (x*x*(x*x)) (x*x*(z*z)*(2*a)) v v' W k k' h h' (Wh.aU.2 (Wh.aM Q6 (by omega))) (Wh.aU.2 (Wh.aM mt (by omega)))
 have P6:=fun v v' W k k' (h:aF W k v (Wh.a_ (x).natAbs)) (h':aF W k' v' (Wh.a_ (z).natAbs))=>eJ (x) (z) v v' W k k' h h' (Wh.aU.2 (Wh.aM hx (by omega))) (Wh.aU.2 (Wh.aM hz (by omega)))
 have P7:=fun v v' W k k' (h:aF W k v (Wh.a_ (x*z).natAbs)) (h':aF W k' v' (Wh.a_ (z*z).natAbs))=>eJ (x*z) (z*z) v v' W k k' h h' (Wh.aU.2 (Wh.aM n1 (by omega))) (Wh.aU.2 (Wh.aM mz (by omega)))
 have P8:=fun v W k (h:aF W k v (Wh.a_ (x*z*(z*z)).natAbs))=>eS (x*z*(z*z)) (8*b) v W k h (Wh.aU.2 (Wh.aM n2 (by omega))) (by omega) (by omega)
 have P9:=fun v v' W k k' (h:aF W k v (Wh.a_ (x*x*(x*x) - x*x*(z*z)*(2*a)).natAbs)) (h':aF W k' v' (Wh.a_ (x*z*(z*z)*(8*b)).natAbs))=>nL (x*x*(x*x) - x*x*(z*z)*(2*a)) (x*z*(z*z)*(8*b)) v v' W k k' h h' (Wh.aU.2 (Wh.aM m1 (by omega))) (Wh.aU.2 (Wh.aM n3 (by omega)))
 have PA:=fun v W k (h:aF W k v (Wh.a_ (z*z).natAbs))=>dp (z*z) v W k h (Wh.aU.2 (Wh.aM mz (by omega)))
 have PB:=fun v W k (h:aF W k v (Wh.a_ (z*z*(z*z)).natAbs))=>eS (z*z*(z*z)) (a*a) v W k h (Wh.aU.2 (Wh.aM Q8 (by omega))) (by omega) (by omega)
 have PC:=fun v v' W k k' (h:aF W k v (Wh.a_ (x*x*(x*x) - x*x*(z*z)*(2*a) - x*z*(z*z)*(8*b)).natAbs)) (h':aF W k' v' (Wh.a_ (z*z*(z*z)*(a*a)).natAbs))=>kF (x*x*(x*x) - x*x*(z*z)*(2*a) - x*z*(z*z)*(8*b)) (z*z*(z*z)*(a*a)) v v' W k k' h h' (Wh.aU.2 (Wh.aM m2 (by omega))) (Wh.aU.2 (Wh.aM n4 (by omega)))
 have hT:=Wh.qf a b x z;rw [hT] at PC;clear hT mx mz Q6 Q7 mt m1 n1 n2 n3 m2 Q8 n4;generalize Wh.am a b x z=F at *;generalize JA:x*x*(x*x) - x*x*(z*z)*(2*a) - x*z*(z*z)*(8*b)=S2 at *;generalize I_:x*x*(x*x) - x*x*(z*z)*(2*a)=S1 at *;generalize Pe:x*z*(z*z)*(8*b)=yb at *;generalize Pf:z*z*(z*z)*(a*a)=za at *;generalize Pa:x*x*(z*z)*(2*a)=xt at *;generalize Pd:x*z*(z*z)=y2 at *;generalize Ky:z*z*(z*z)=zzz at *;generalize Kx:x*x*(z*z)=xz2 at *;generalize Kw:x*x*(x*x)=xxx at *;generalize Pc:x*z=y1 at *;generalize JB:x*x=xq at *;generalize JC:z*z=zq at *;clear JA I_ Pe Pf Pa Pd Ky Kx Kw Pc JB JC;replace P0:=DB P0;replace P1:=DB P1;replace P2:=DB P2;replace P3:=DB P3;replace P4:=DB P4;replace P5:=DB P5;replace P6:=DB P6;replace P7:=DB P7;replace P8:=DB P8;replace P9:=DB P9;replace PA:=DB PA;replace PB:=DB PB;replace PC:=DB PC;generalize hs1:decide (x<0)=s1 at *;replace hs1:=DB hs1.symm;generalize hs2:decide (z<0)=s2 at *;replace hs2:=DB hs2.symm;replace hox:=DB (show aF _ _ _ _ from hox);replace Dl:=DB (show aF _ _ _ _ from Dl);generalize (Wh.a_ z.natAbs).length=lz,(Wh.a_ x.natAbs).length=lx at *;obtain ⟨w3,hw3,b1,b2,b3,hB⟩:=cZ w #[a,b] 25 #[s1,.slice ax lx cx,s2,.slice az lz cz] 174 #[false,.slice none 0 0] 116;have En:=DB (aF.below hox.out hB);have Eo:=DB (aF.below Dl.out hB)
 have hz3:w3.heap.size=w.heap.size+3:=by rw [←hw3,DC,fm]
 clear hox Dl;have e0:=b2.aL.c0;have e1:=b2.aL.c1;have e2:=b2.aL.c2;have e3:=b2.aL.c3;go_enter Tryz.func191,Tryz.ntmps191
 go_wp2
 go_upto_region 1 with fail
 go_cut [5,6] (fun p q wx=>∃ gx gz,w.heap.size+3<=gx/\w.heap.size+3<=gz/\p=.pointer (some ⟨gx,0,none⟩)/\q=.pointer (some ⟨gz,0,none⟩)/\aG wx gx 116 #[s1,.slice ax lx cx]/\aG wx gz 116 #[s2,.slice az lz cz]/\Below (w.heap.size+3) w3 wx)
 case first=>
  go_region
  all_goals
   go_wp2_with fail
   go_meet
   first
   | exact (qk _ _ hz3 _ _ _ _ _).1
   | exact (qk _ _ hz3 _ _ _ _ _).2
 case rest=>
 obtain ⟨gx,gz,hgx,hgz,rfl,rfl,X,Z,hbx⟩:=hcut;rw [←hz3] at hbx;have ox:=DB (aF.below En.out hbx);have oz:=DB (aF.below Eo.out hbx);have C:=b1.keep hbx;have R:=b3.keep hbx;have hw:=d_ hB hbx
 have Fm:w.heap.size+3<=wc.heap.size:=by have:=hbx.size;omega
 clear hz3;clear b1 b2 b3 e0 e1 e2 e3 hB hbx En Eo
 go_upto_region 2 with fail
 refine Rg.bg 6 [.is (.agg #[s1,.slice ax lx cx]),.at (aI (wc.heap.size) (xq)),.is (.agg #[s2,.slice az lz cz]),.at (aI (wc.heap.size) (zq)),.new (wc.heap.size) 116 #[false,.slice none 0 0],.new (wc.heap.size) 116 #[false,.slice none 0 0]] (by kernel_rfl) (by kernel_rfl) (by kernel_rfl) ⟨?_,?_,?_,?_,?_,?_,fun h_=>absurd h_ (by decide),fun h_=>absurd h_ (by decide),trivial⟩ ?_
 all_goals try ((refine Rg.b1 ?_;intro zZ w_ hB e);have kz:=aE hB X.box.c0;have kz:=aE hB X.box.c1;have kz:=aE hB Z.box.c0;have kz:=aE hB Z.box.c1;(go_simp;done))
 ·refine Rg.o1 ?_;intro zZ w_ hB e
  have ef:=Rg.ef zZ;refine Rg.ah rfl (by go_simp;exact ⟨rfl,rfl⟩) ?_;exact aI.ret hB (P0.out _ _ _ (aF.below ox.out hB))
 ·refine Rg.o1 ?_;intro zZ w_ hB e
  have ef:=Rg.ef zZ;refine Rg.ah rfl (by go_simp;exact ⟨rfl,rfl⟩) ?_;exact aI.ret hB (P1.out _ _ _ (aF.below oz.out hB))
 ·intro _ zZ w_ hB hr
  exact ⟨by have:=hB.size;omega,rfl,by first | (go_simp;done) | (go_simp;rfl)⟩
 ·intro _ zZ w_ hB hr
  exact ⟨by have:=hB.size;omega,rfl,by first | (go_simp;done) | (go_simp;rfl)⟩
 intro vals wz hB hv hne;have n7:(Rg.Val.new (wc.heap.size) 116 #[false,.slice none 0 0]).ok (vals 4) wz:=hv 4 (by decide);have n8:(Rg.Val.new (wc.heap.size) 116 #[false,.slice none 0 0]).ok (vals 5) wz:=hv 5 (by decide);have n15:(Rg.Val.at (aI (wc.heap.size) (xq))).ok (vals 1) wz:=hv 1 (by decide);have n17:(Rg.Val.at (aI (wc.heap.size) (zq))).ok (vals 3) wz:=hv 3 (by decide);simp only [Rg.bF,Rg.fill,Act.put,Nat.reduceAdd];clear hv;have Jq:=hne 4 5 (by decide) (by decide) (by decide) rfl rfl;obtain ⟨g7,IW,Gm,o7⟩:=n7;replace o7:aG wz g7 116 #[false,.slice none 0 0]:=o7;obtain ⟨g8,JL,Gp,o8⟩:=n8;replace o8:aG wz g8 116 #[false,.slice none 0 0]:=o8;obtain ⟨s15,Gz,HR,c15,H_,v_1,Ie⟩:=(Rg.bs n15).view;obtain ⟨HU,a17,HS,c17,HD,Ly,MY⟩:=(Rg.bs n17).view;rw [Gm,Gp] at Jq
 have Hy:g7≠g8:=fun e=>Jq (by rw [e])
 simp only [Gm,Gp,v_1,Ly];clear Gm Gp v_1 Ly;have I8:=Hy.symm;have hB2:Below wc.heap.size wc ((((wz.setCell ⟨g7,0,none⟩ (.bool s15)).setCell ⟨g7,1,none⟩ (.slice Gz HR c15)).setCell ⟨g8,0,none⟩ (.bool HU)).setCell ⟨g8,1,none⟩ (.slice a17 HS c17)):=DD (DD (DD (DD hB IW _) IW _) JL _) JL _;have V8:aG ((wz.setCell ⟨g7,0,none⟩ (.bool s15)).setCell ⟨g7,1,none⟩ (.slice Gz HR c15)) g8 116 #[false,.slice none 0 0]:=(o8.other I8 _).other I8 _;have U8:=aG.set2 V8 (.bool HU) (.slice a17 HS c17);have U7:aG ((((wz.setCell ⟨g7,0,none⟩ (.bool s15)).setCell ⟨g7,1,none⟩ (.slice Gz HR c15)).setCell ⟨g8,0,none⟩ (.bool HU)).setCell ⟨g8,1,none⟩ (.slice a17 HS c17)) g7 116 #[s15,.slice Gz HR c15]:=((aG.set2 o7 (.bool s15) (.slice Gz HR c15)).other Hy _).other Hy _;have oq:=DB (aF.bG (aF.bG Ie o7 (by decide) (.bool s15) (.slice Gz HR c15)) V8 (by decide) (.bool HU) (.slice a17 HS c17));have or:=DB (aF.bG (aF.bG MY o7 (by decide) (.bool s15) (.slice Gz HR c15)) V8 (by decide) (.bool HU) (.slice a17 HS c17));have ⟨c0,c1,f0,f1,_⟩:=o7.box;have ⟨c2,c3,f2,f3,_⟩:=o8.box;unfold Rg.aX Rg.aX Rg.aX Oper.wp;go_simp
 clear c0 c1 f0 f1 c2 c3 f2 f3 o7 o8 Ie MY V8 Hy I8 Jq;generalize ((((wz.setCell ⟨g7,0,none⟩ (.bool s15)).setCell ⟨g7,1,none⟩ (.slice Gz HR c15)).setCell ⟨g8,0,none⟩ (.bool HU)).setCell ⟨g8,1,none⟩ (.slice a17 HS c17))=wd at *;replace X:=X.keep hB2;replace Z:=Z.keep hB2;replace C:=C.keep hB2;replace R:=R.keep hB2;replace ox:=DB (aF.below ox.out hB2);replace oz:=DB (aF.below oz.out hB2);have hgd:g8<wd.heap.size:=U8.lt;replace hw:=d_ hw hB2;have GZ:wc.heap.size<=wd.heap.size:=hB2.size;clear hB2 hB
 go_upto_region 3 with fail
 refine Rg.bg 11 [.is (.agg #[s15,.slice Gz HR c15]),.at (aI (wd.heap.size) (xxx)),.is (.agg #[s15,.slice Gz HR c15]),.is (.agg #[HU,.slice a17 HS c17]),.at (aI (wd.heap.size) (xz2)),.is (.pointer (some ⟨w.heap.size,0,none⟩)),.is a,.is (2*a:Int),.at (aI (wd.heap.size) (xt)),.at (aI (wd.heap.size) (S1)),.new (wd.heap.size) 116 #[false,.slice none 0 0]] (by kernel_rfl) (by kernel_rfl) (by kernel_rfl) ⟨?_,?_,?_,?_,?_,?_,?_,?_,?_,?_,?_,fun h_=>absurd h_ (by decide),trivial⟩ ?_
 all_goals try ((refine Rg.b1 ?_;intro zZ w_ hB e);have kz:=aE hB U7.box.c0;have kz:=aE hB U7.box.c1;have kz:=aE hB U8.box.c0;have kz:=aE hB U8.box.c1;have kz:=aE hB C.box.c0;have ec:=Rg.ec zZ;(first | (go_simp;done) | (go_simp;exact Rg.wo (by omega))))
 ·refine Rg.o1 ?_;intro zZ w_ hB e
  have ef:=Rg.ef zZ;refine Rg.ah rfl (by go_simp;exact ⟨rfl,rfl⟩) ?_;rw [H_.out];exact aI.ret hB (P2.out _ _ _ (aF.below oq.out hB))
 ·intro _ zZ w_ hB hr
  have e20:=Rg.l_ (hr 20 (by decide));have e21:=Rg.l_ (hr 21 (by decide));have ef:=Rg.ef zZ;refine Rg.ah rfl (by go_simp;exact ⟨rfl,rfl⟩) ?_;rw [H_.out];rw [HD.out];exact aI.ret hB (P3.out _ _ _ _ _ (aF.below oq.out hB) (aF.below or.out hB))
 ·intro _ zZ w_ hB hr
  obtain ⟨s22,a22,l22,c22,QU,e22,o22⟩:=aI.get (hr 22 (by decide));have e25:=Rg.l_ (hr 25 (by decide));have ef:=Rg.ef zZ;refine Rg.ah rfl (by go_simp;exact ⟨rfl,rfl⟩) ?_;obtain rfl:=QU.out;exact aI.ret hB (P4.out _ _ _ o22)
 ·intro _ zZ w_ hB hr
  obtain ⟨Gc,G0,GO,c19,Ez,e19,KI⟩:=aI.get (hr 19 (by decide));obtain ⟨s26,a26,l26,c26,JW,e26,RB⟩:=aI.get (hr 26 (by decide));have ef:=Rg.ef zZ;refine Rg.ah rfl (by go_simp;exact ⟨rfl,rfl⟩) ?_;obtain rfl:=Ez.out;obtain rfl:=JW.out;exact aI.ret hB (P5.out _ _ _ _ _ KI RB)
 ·intro _ zZ w_ hB hr
  exact ⟨by have:=hB.size;omega,rfl,by first | (go_simp;done) | (go_simp;rfl)⟩
 intro vals wz hB hv hne;have n9:(Rg.Val.new (wd.heap.size) 116 #[false,.slice none 0 0]).ok (vals 10) wz:=hv 10 (by decide);have n27:(Rg.Val.at (aI (wd.heap.size) (S1))).ok (vals 9) wz:=hv 9 (by decide);simp only [Rg.bF,Rg.fill,Act.put,Nat.reduceAdd];clear hv;obtain ⟨g9,KB,Dj,o9⟩:=n9;replace o9:aG wz g9 116 #[false,.slice none 0 0]:=o9;obtain ⟨Js,a27,Jg,I3,JX,EM,Ma⟩:=(Rg.bs n27).view;simp only [Dj,EM];clear Dj EM;have hB2:Below wd.heap.size wd ((wz.setCell ⟨g9,0,none⟩ (.bool Js)).setCell ⟨g9,1,none⟩ (.slice a27 Jg I3)):=DD (DD hB KB _) KB _;have U:=aG.set2 o9 (.bool Js) (.slice a27 Jg I3);have oU:=DB (aF.bG Ma o9 (by decide) (.bool Js) (.slice a27 Jg I3));have ⟨c0,c1,f0,f1,_⟩:=o9.box;unfold Rg.aX Rg.aX Oper.wp;go_simp
 clear c0 c1 f0 f1 o9 Ma;generalize ((wz.setCell ⟨g9,0,none⟩ (.bool Js)).setCell ⟨g9,1,none⟩ (.slice a27 Jg I3))=we at *;replace X:=X.keep hB2;replace Z:=Z.keep hB2;replace C:=C.keep hB2;replace R:=R.keep hB2;replace U8:=U8.keep hB2;replace ox:=DB (aF.below ox.out hB2);replace oz:=DB (aF.below oz.out hB2);replace or:=DB (aF.below or.out hB2);replace hw:=d_ hw hB2;have GZ:wd.heap.size<=we.heap.size:=hB2.size
 go_upto_region 4 with fail
 clear hB2 hB;refine Rg.bg 11 [.is (.agg #[Js,.slice a27 Jg I3]),.is (.agg #[s1,.slice ax lx cx]),.is (.agg #[s2,.slice az lz cz]),.at (aI (we.heap.size) (y1)),.is (.agg #[HU,.slice a17 HS c17]),.at (aI (we.heap.size) (y2)),.is (.pointer (some ⟨w.heap.size,1,none⟩)),.is b,.is (8*b:Int),.at (aI (we.heap.size) (yb)),.at (aI (we.heap.size) (S2))] (by kernel_rfl) (by kernel_rfl) (by kernel_rfl) ⟨?_,?_,?_,?_,?_,?_,?_,?_,?_,?_,?_,fun h_=>absurd h_ (by decide),trivial⟩ ?_
 all_goals try ((refine Rg.b1 ?_;intro zZ w_ hB e);have kz:=aE hB U.box.c0;have kz:=aE hB U.box.c1;have kz:=aE hB X.box.c0;have kz:=aE hB X.box.c1;have kz:=aE hB Z.box.c0;have kz:=aE hB Z.box.c1;have kz:=aE hB U8.box.c0;have kz:=aE hB U8.box.c1;have kz:=aE hB C.box.c1;have ec:=Rg.ec zZ;(first | (go_simp;done) | (go_simp;exact Rg.wo (by omega))))
 ·intro _ zZ w_ hB hr
  have e29:=Rg.l_ (hr 29 (by decide));have e30:=Rg.l_ (hr 30 (by decide));have ef:=Rg.ef zZ;refine Rg.ah rfl (by go_simp;exact ⟨rfl,rfl⟩) ?_;exact aI.ret hB (P6.out _ _ _ _ _ (aF.below ox.out hB) (aF.below oz.out hB))
 ·intro _ zZ w_ hB hr
  obtain ⟨s31,a31,l31,c31,QY,e31,RC⟩:=aI.get (hr 31 (by decide));have e32:=Rg.l_ (hr 32 (by decide));have ef:=Rg.ef zZ;refine Rg.ah rfl (by go_simp;exact ⟨rfl,rfl⟩) ?_;obtain rfl:=QY.out;rw [HD.out];exact aI.ret hB (P7.out _ _ _ _ _ RC (aF.below or.out hB))
 ·intro _ zZ w_ hB hr
  obtain ⟨ID,a33,IB,Ht,HG,e33,Jj⟩:=aI.get (hr 33 (by decide));have e36:=Rg.l_ (hr 36 (by decide));have ef:=Rg.ef zZ;refine Rg.ah rfl (by go_simp;exact ⟨rfl,rfl⟩) ?_;obtain rfl:=HG.out;exact aI.ret hB (P8.out _ _ _ Jj)
 ·intro _ zZ w_ hB hr
  have e28:=Rg.l_ (hr 28 (by decide));obtain ⟨s37,a37,l37,c37,Qc,e37,o37⟩:=aI.get (hr 37 (by decide));have ef:=Rg.ef zZ;refine Rg.ah rfl (by go_simp;exact ⟨rfl,rfl⟩) ?_;obtain rfl:=Qc.out;rw [JX.out];exact aI.ret hB (P9.out _ _ _ _ _ (aF.below oU.out hB) o37)
 intro vals wy hB hv hne;have n38:(Rg.Val.at (aI (we.heap.size) (S2))).ok (vals 10) wy:=hv 10 (by decide);simp only [Rg.bF,Rg.fill,Act.put,Nat.reduceAdd];clear hv;obtain ⟨IE,a38,IC,Hu,Qd,Dj,RE⟩:=(Rg.bs n38).view;simp only [Dj];clear Dj;have U2:=U.keep hB;have hB2:Below wd.heap.size we ((wy.setCell ⟨g9,0,none⟩ (.bool IE)).setCell ⟨g9,1,none⟩ (.slice a38 IC Hu)):=DD (DD (hB.mono GZ) KB _) KB _;have oS:=DB (aF.bG RE U2 (by decide) (.bool IE) (.slice a38 IC Hu));have U3:=aG.set2 U2 (.bool IE) (.slice a38 IC Hu)
 have hq8:g8<wd.heap.size/\w.heap.size+1+1<wd.heap.size:=⟨hgd,by omega⟩
 have hC9:w.heap.size<wd.heap.size:=by omega
 have C5:aG ((wy.setCell ⟨g9,0,none⟩ (.bool IE)).setCell ⟨g9,1,none⟩ (.slice a38 IC Hu)) w.heap.size 25 #[a,b]:=((C.keep hB).other (by omega) _).other (by omega) _;have R5:aG ((wy.setCell ⟨g9,0,none⟩ (.bool IE)).setCell ⟨g9,1,none⟩ (.slice a38 IC Hu)) (w.heap.size+1+1) 116 #[false,.slice none 0 0]:=((R.keep hB).other (by omega) _).other (by omega) _;have Q5:aG ((wy.setCell ⟨g9,0,none⟩ (.bool IE)).setCell ⟨g9,1,none⟩ (.slice a38 IC Hu)) g8 116 #[HU,.slice a17 HS c17]:=((U8.keep hB).other (by omega) _).other (by omega) _;have oq5:=DB (aF.bG (aF.below or.out hB) U2 (by decide) (.bool IE) (.slice a38 IC Hu));have KF:=hw.trans (hB2.mono (show w.heap.size<=wd.heap.size by omega));have ⟨c0,c1,f0,f1,_⟩:=U2.box;unfold Rg.aX Rg.aX Oper.wp;go_simp
 clear c0 c1 f0 f1 U2 hB2 hB;generalize ((wy.setCell ⟨g9,0,none⟩ (.bool IE)).setCell ⟨g9,1,none⟩ (.slice a38 IC Hu))=wf at *
 go_upto_region 5 with fail
 refine Rg.bg 10 [.is (.agg #[IE,.slice a38 IC Hu]),.is (.agg #[HU,.slice a17 HS c17]),.at (aI (wf.heap.size) (zzz)),.is (.pointer (some ⟨w.heap.size,0,none⟩)),.is a,.is (.pointer (some ⟨w.heap.size,0,none⟩)),.is a,.is (a*a:Int),.at (aI (wf.heap.size) (za)),.at (aI (wf.heap.size) (F))] (by kernel_rfl) (by kernel_rfl) (by kernel_rfl) ⟨?_,?_,?_,?_,?_,?_,?_,?_,?_,?_,fun h_=>absurd h_ (by decide),trivial⟩ ?_
 all_goals try ((first | (refine Rg.b1 ?_;intro zZ w_ hB e) | (refine Rg.b2 ?_;intro zZ w_ hB e f));have kz:=aE hB U3.box.c0;have kz:=aE hB U3.box.c1;have kz:=aE hB Q5.box.c0;have kz:=aE hB Q5.box.c1;have kz:=aE hB C5.box.c0;(first | (go_simp;done) | (go_simp;exact Rg.wo (by omega))))
 ·refine Rg.o1 ?_;intro zZ w_ hB e
  have ef:=Rg.ef zZ;refine Rg.ah rfl (by go_simp;exact ⟨rfl,rfl⟩) ?_;rw [HD.out];exact aI.ret hB (PA.out _ _ _ (aF.below oq5.out hB))
 ·intro _ zZ w_ hB hr
  obtain ⟨GF,a41,GD,F5,IA,e41,Mb⟩:=aI.get (hr 41 (by decide));have e46:=Rg.l_ (hr 46 (by decide));have ef:=Rg.ef zZ;refine Rg.ah rfl (by go_simp;exact ⟨rfl,rfl⟩) ?_;obtain rfl:=IA.out;exact aI.ret hB (PB.out _ _ _ Mb)
 ·intro _ zZ w_ hB hr
  have e39:=Rg.l_ (hr 39 (by decide));obtain ⟨s47,a47,l47,c47,Qg,e47,RF⟩:=aI.get (hr 47 (by decide));have ef:=Rg.ef zZ;refine Rg.ah rfl (by go_simp;exact ⟨rfl,rfl⟩) ?_;obtain rfl:=Qg.out;rw [Qd.out];exact aI.ret hB (PC.out _ _ _ _ _ (aF.below oS.out hB) RF)
 intro vals wv Ku hv hne;have n48:(Rg.Val.at (aI (wf.heap.size) (F))).ok (vals 9) wv:=hv 9 (by decide);simp only [Rg.bF,Rg.fill,Act.put,Nat.reduceAdd];clear hv;obtain ⟨Ll,a48,Le,Kt,JZ,EM,RH⟩:=(Rg.bs n48).view;simp only [EM];clear EM;replace R:=R5;replace hw:=KF;have R2:=R.keep Ku;have ⟨c0,c1,f0,f1,_⟩:=R2.box;have hr1:=aF.base (aF.bG RH R2 (by decide) (.bool Ll) (.slice a48 Le Kt)) (show w.heap.size<=wf.heap.size from hw.size);have hr2:Below w.heap.size w ((wv.setCell ⟨w.heap.size+1+1,0,none⟩ (.bool Ll)).setCell ⟨w.heap.size+1+1,1,none⟩ (.slice a48 Le Kt)):=DD (DD (d_ hw Ku) (by simp <;> omega) _) (by simp <;> omega) _;unfold Rg.aX Rg.aX Oper.wp;go_simp
 go_wp2;exact bodyPost_ret (v:=.agg #[Ll,.slice a48 Le Kt]) (by simp [results,Tryz.results191,go_sem, *]) rfl (⟨_,by rw [JZ.out],hr1,hr2⟩)
namespace Wh
theorem pH {a b x z:Int} (hx:sz x 1000) (hz:sz z 1000) (ha1:-1000<=a) (ha2:a<=1000) (hb1:-10000<=b) (hb2:b<=10000):sz (am a b x z) 5000:=by
 have haa:-1000000<=a*a/\a*a<=1000000:=M.aH (x:=a) (y:=a) (m:=1000) (n:=1000);rw [←qf];have mx:=ak hx hx;have mz:=ak hz hz;have m1:=pF (aM (ak mx mx) (show 1000+1000+(1000+1000)<=4100 by omega)) (aM (ak (ak mx mz) (bP (n:=2*a) (by omega) (by omega))) (show _<=4100 by omega));have m2:=pF (aM m1 (show 4100+1<=4200 by omega)) (aM (ak (ak (ak hx hz) mz) (bP (n:=8*b) (by omega) (by omega))) (show _<=4200 by omega));exact aM (gp (aM m2 (show 4200+1<=4300 by omega)) (aM (ak (ak mz mz) (bP (n:=a*a) (by omega) (by omega))) (show _<=4300 by omega))) (by omega)
theorem pC {a b x z:Int} (hx:sz x 1000) (hz:sz z 1000) (ha1:-1000<=a) (ha2:a<=1000) (hb1:-10000<=b) (hb2:b<=10000):sz (af a b x z) 6000:=by
 rw [←pU];have m1:=ak hx hx;have m0:=ak hz hz;have m2:=ak m1 hx;have m4:=ak (ak hx m0) (bP (n:=a) (by omega) (by omega));have m5:=gp (aM m2 (show 1000+1000+1000<=4000 by omega)) (aM m4 (show _<=4000 by omega));have m7:=ak (ak hz m0) (bP (n:=b) (by omega) (by omega));have m8:=gp (aM m5 (show 4000+1<=4100 by omega)) (aM m7 (show _<=4100 by omega));exact aM (ak (ak hz m8) (bP (n:=4) (by omega) (by omega))) (by omega)
def Eu (D F G:Int):Nat:=Nat.gcd (Nat.gcd (4*D.natAbs) F.natAbs) G.natAbs
theorem wK (D F G:Int):Nat.gcd (G.natAbs % Nat.gcd (F.natAbs % (4*D.natAbs)) (4*D.natAbs)) (Nat.gcd (F.natAbs % (4*D.natAbs)) (4*D.natAbs))=Eu D F G:=by
 unfold Eu;rw [←Nat.gcd_rec,←Nat.gcd_rec]
theorem qD (n:Nat) (y:Int):M.gcd (n:Int) (y % (n:Int))=(Nat.gcd n y.natAbs:Nat):=by
 unfold M.gcd Int.gcd;rw [Int.natAbs_natCast]
 by_cases hn:n=0
 ·subst hn
  simp
 congr 1
 apply Nat.dvd_antisymm
 ·refine Nat.dvd_gcd (Nat.gcd_dvd_left _ _) ?_
  have h1:(Nat.gcd n (y % (n:Int)).natAbs:Int) ∣ y % (n:Int):=Int.ofNat_dvd_left.2 (Nat.gcd_dvd_right _ _);have h2:(Nat.gcd n (y % (n:Int)).natAbs:Int) ∣ (n:Int):=Int.ofNat_dvd.2 (Nat.gcd_dvd_left _ _)
  have h3:(Nat.gcd n (y % (n:Int)).natAbs:Int) ∣ y:=by
   have h4:=Int.dvd_add h1 (Int.dvd_mul_of_dvd_left (c:=y / (n:Int)) h2)
   rwa [Int.emod_add_mul_ediv] at h4
  exact Int.ofNat_dvd_left.1 h3
 refine Nat.dvd_gcd (Nat.gcd_dvd_left _ _) ?_;have h1:(Nat.gcd n y.natAbs:Int) ∣ y:=Int.ofNat_dvd_left.2 (Nat.gcd_dvd_right _ _);have h2:(Nat.gcd n y.natAbs:Int) ∣ (n:Int):=Int.ofNat_dvd.2 (Nat.gcd_dvd_left _ _)
 have h3:(Nat.gcd n y.natAbs:Int) ∣ y % (n:Int):=by
  rw [Int.emod_def];exact Int.dvd_sub h1 (Int.dvd_mul_of_dvd_left h2)
 exact Int.ofNat_dvd_left.1 h3
theorem yh (D F G:Int):M.gcd (M.gcd (4*(D.natAbs:Int)) (F % (4*(D.natAbs:Int)))) (G % (4*(D.natAbs:Int)))=(Eu D F G:Nat):=by
 have e:(4*(D.natAbs:Int))=((4*D.natAbs:Nat):Int):=by omega
 rw [e,qD];unfold Eu;have h:Nat.gcd F.natAbs F.natAbs=F.natAbs:=Nat.gcd_self _;have h1:=qD (4*D.natAbs) G;unfold M.gcd Int.gcd at h1 ⊢;rw [Int.natAbs_natCast] at h1 ⊢
 have h2:Nat.gcd (4*D.natAbs) (G % ((4*D.natAbs:Nat):Int)).natAbs=Nat.gcd (4*D.natAbs) G.natAbs:=by omega
 rw [Nat.gcd_comm (4*D.natAbs) F.natAbs,Nat.gcd_assoc,Nat.gcd_assoc,h2]
theorem yg (D F G:Int):Eu D (-F) (-G)=Eu D F G:=by unfold Eu;rw [Int.natAbs_neg,Int.natAbs_neg]
theorem wJ {D:Int} (F G:Int) (h:D≠0):1<=Eu D F G/\Eu D F G<=4*D.natAbs:=by
 unfold Eu
 have h0:0<4*D.natAbs:=by omega
 have h1:0<Nat.gcd (4*D.natAbs) F.natAbs:=Nat.gcd_pos_of_pos_left _ h0;exact ⟨Nat.gcd_pos_of_pos_left _ h1,Nat.le_trans (Nat.gcd_le_left _ h1) (Nat.gcd_le_left _ h0)⟩
end Wh
theorem lE (a b x z:Int) (vx vz:Value) (w:World) (bx bz:Nat) (hg:M.good a b=true) (hox:ae w bx vx x) (Dl:ae w bz vz z) (hx:Wh.sz x 1000) (hz:Wh.sz z 1000) :
  Calls Tryz.prog 180 #[.agg #[a,b],.agg #[decide (x<0),vx,decide (z<0),vz]] w fun e w'=>e=.returned (.int .i64 (Wh.Eu (M.aS a b) (Wh.am a b x z) (Wh.af a b x z):Nat))/\Below w.heap.size w w':=by
 obtain ⟨ax,cx,rfl,-,-⟩:=aF.view hox;obtain ⟨az,cz,rfl,-,-⟩:=aF.view Dl;have hin:=M.aj hg;obtain ⟨ha1,ha2,hb1,hb2⟩:=M.ag hin;have hdb:=ew hin;have hdn:=gB hg
 have PC:=fun W=>nY a b W hin
 have PF:=fun v v' W k k' (h1:aF W k v (Wh.a_ x.natAbs)) (h2:aF W k' v' (Wh.a_ z.natAbs))=>iO a b x z v v' W k k' h1 h2 hx hz ha1 ha2 hb1 hb2
 have PG:=fun v v' W k k' (h1:aF W k v (Wh.a_ x.natAbs)) (h2:aF W k' v' (Wh.a_ z.natAbs))=>eC a b x z v v' W k k' h1 h2 hx hz ha1 ha2 hb1 hb2
 have sF:=Wh.aU.2 (Wh.aM (Wh.pH hx hz ha1 ha2 hb1 hb2) (show 5000<=9000 by omega));have sG:=Wh.aU.2 (Wh.aM (Wh.pC hx hz ha1 ha2 hb1 hb2) (show 6000<=9000 by omega));have hres:=Wh.wK (M.aS a b) (Wh.am a b x z) (Wh.af a b x z);generalize Wh.af a b x z=G,Wh.am a b x z=F,M.aS a b=D,Wh.Eu (M.aS a b) (Wh.am a b x z) (Wh.af a b x z)=RES at *
 have hn1:1<=4*D.natAbs:=by omega
 have hn2:4*D.natAbs<=1000000000000:=by omega
 have PV:=fun v W k (h:aF W k v (Wh.a_ F.natAbs))=>iN F (4*D.natAbs) v W k h sF hn1 hn2
 have hm1:1<=Nat.gcd (F.natAbs % (4*D.natAbs)) (4*D.natAbs):=Nat.gcd_pos_of_pos_right _ hn1;have hm2:Nat.gcd (F.natAbs % (4*D.natAbs)) (4*D.natAbs)<=1000000000000:=Nat.le_trans (Nat.gcd_le_right _ hn1) hn2
 have PW:=fun v W k (h:aF W k v (Wh.a_ G.natAbs))=>iN G (Nat.gcd (F.natAbs % (4*D.natAbs)) (4*D.natAbs)) v W k h sG hm1 hm2
 rw [hres] at PW
 have hmax:(if 4*D < -4*D then -4*D else 4*D)=((4*D.natAbs:Nat):Int):=by split <;> omega
 have G9:max (4*D) (-4*D)=((4*D.natAbs:Nat):Int):=by omega
 clear hn1 hn2 hm1 hm2 hres sF sG ha1 ha2 hb1 hb2 hdn
 have hD1:-6700000000<=D:=by omega
 have hD2:D<=6700000000:=by omega
 clear hdb;generalize hN:4*D.natAbs=N at *;replace hN:=DB hN;generalize Nat.gcd (F.natAbs % N) N=N2 at *;replace hmax:=DB hmax;replace G9:=DB G9;replace PC:=DB PC;replace PF:=DB PF;replace PG:=DB PG;replace PV:=DB PV;replace PW:=DB PW;generalize hs1:decide (x<0)=s1 at *;generalize hs2:decide (z<0)=s2 at *;clear hs1 hs2;replace hox:=DB (show aF _ _ _ _ from hox);replace Dl:=DB (show aF _ _ _ _ from Dl);generalize (Wh.a_ z.natAbs).length=lz,(Wh.a_ x.natAbs).length=lx at *;obtain ⟨wc,hw3,b1,b2,hB⟩:=fR w #[a,b] 25 #[s1,.slice ax lx cx,s2,.slice az lz cz] 174;have ox:=DB (aF.below hox.out hB);have oz:=DB (aF.below Dl.out hB);clear hox Dl;go_enter Tryz.func180,Tryz.ntmps180
 go_wp2
 go_upto_region 1 with fail
 refine Rg.bg 8 [.is (.agg #[a,b]),.is D,.is (4*D:Int),.is (.agg #[a,b]),.is D,.is ((-4)*D:Int),.is (.int .i64 ((N:Nat):Int)),.is (.int .i64 ((N:Nat):Int))] (by kernel_rfl) (by kernel_rfl) (by kernel_rfl) ⟨?_,?_,?_,?_,?_,?_,?_,?_,trivial⟩ ?_
 all_goals try ((first | (refine Rg.b1 ?_;intro zZ w_ hB e) | (refine Rg.b2 ?_;intro zZ w_ hB e f));have kz:=aE hB b1.box.c0;have kz:=aE hB b1.box.c1;have ec:=Rg.ec zZ;(first | (go_simp;done) | (go_simp;exact Rg.wo (by omega)) | (go_simp;first | done | (rw [hmax.out];done) | (rw [G9.out];done) | (simp only [hmax.out];done);done)))
 ·refine Rg.o1 ?_;intro zZ w_ hB e
  have ef:=Rg.ef zZ;exact Rg.bV rfl (by go_simp) (PC.out _)
 ·refine Rg.o1 ?_;intro zZ w_ hB e
  have ef:=Rg.ef zZ;exact Rg.bV rfl (by go_simp) (PC.out _)
 intro vals wz hB1 hv hne;have E0:vals 7=.int .i64 ((N:Nat):Int):=hv 7 (by decide);simp only [Rg.bF,Rg.fill,Act.put,Nat.reduceAdd];clear hv;simp only [E0];clear E0;replace b1:=b1.keep hB1;replace b2:=b2.keep hB1;replace ox:=DB (aF.below ox.out hB1);replace oz:=DB (aF.below oz.out hB1);have hBw:=d_ hB hB1;unfold Rg.aX
 go_upto_region 2 with fail
 clear hB1;refine Rg.bg 10 [.is (.agg #[a,b]),.is (.agg #[s1,.slice ax lx cx,s2,.slice az lz cz]),.at (aI (wz.heap.size) (G)),.is (.agg #[a,b]),.is (.agg #[s1,.slice ax lx cx,s2,.slice az lz cz]),.at (aI (wz.heap.size) (F)),.is (.int .i64 ((N:Nat):Int)),.is (.int .i64 ((N2:Nat):Int)),.is (.int .i64 ((RES:Nat):Int)),.is (.int .i64 ((RES:Nat):Int))] (by kernel_rfl) (by kernel_rfl) (by kernel_rfl) ⟨?_,?_,?_,?_,?_,?_,?_,?_,?_,?_,trivial⟩ ?_
 all_goals try ((refine Rg.b1 ?_;intro zZ w_ hB e);have kz:=aE hB b1.box.c0;have kz:=aE hB b1.box.c1;have kz:=aE hB b2.aL.c0;have kz:=aE hB b2.aL.c1;have kz:=aE hB b2.aL.c2;have kz:=aE hB b2.aL.c3;(go_simp;done))
 ·intro _ zZ w_ hB hr
  have e13:=Rg.l_ (hr 13 (by decide));have e14:=Rg.l_ (hr 14 (by decide));have ef:=Rg.ef zZ;refine Rg.ah rfl (by go_simp;exact ⟨rfl,rfl⟩) ?_;exact aI.ret hB (PG.out _ _ _ _ _ (aF.below ox.out hB) (aF.below oz.out hB))
 ·intro _ zZ w_ hB hr
  have e16:=Rg.l_ (hr 16 (by decide));have e17:=Rg.l_ (hr 17 (by decide));have ef:=Rg.ef zZ;refine Rg.ah rfl (by go_simp;exact ⟨rfl,rfl⟩) ?_;exact aI.ret hB (PF.out _ _ _ _ _ (aF.below ox.out hB) (aF.below oz.out hB))
 ·intro _ zZ w_ hB hr
  obtain ⟨s18,a18,l18,c18,JV,e18,RA⟩:=aI.get (hr 18 (by decide));have e19:=Rg.l_ (hr 19 (by decide));have ef:=Rg.ef zZ;obtain rfl:=JV.out;exact Rg.bV rfl (by go_simp) (PV.out _ _ _ RA)
 ·intro _ zZ w_ hB hr
  obtain ⟨s15,Gz,HR,c15,H_,e15,Ie⟩:=aI.get (hr 15 (by decide));have e20:=Rg.l_ (hr 20 (by decide));have ef:=Rg.ef zZ;obtain rfl:=H_.out;exact Rg.bV rfl (by go_simp) (PW.out _ _ _ Ie)
 intro vals wy hB2 hv hne;have EM:vals 9=.int .i64 ((RES:Nat):Int):=hv 9 (by decide);simp only [Rg.bF,Rg.fill,Act.put,Nat.reduceAdd];clear hv;simp only [EM];clear EM;unfold Rg.aX;go_wp2;go_ret;exact ⟨rfl,d_ hBw hB2⟩
namespace Wh
def GL (D F G:Int):Int:=if G<0 then -(F / (Eu D F G:Nat)) else F / (Eu D F G:Nat)
def GK (D F G:Int):Int:=if G<0 then -(G / (Eu D F G:Nat)) else G / (Eu D F G:Nat)
def eB (D F G:Int):Bool:=decide (G≠0) && dQ (GL D F G) (GK D F G)
def E5 (D F G:Int):Int:=if eB D F G=true then GL D F G else 0
def E6 (D F G:Int):Int:=if eB D F G=true then GK D F G else 0
theorem pD {z:Int} {n:Nat} (h:sz z n) (d:Nat):sz (z / (d:Int)) (n+1):=by
 unfold sz at *;rw [Nat.pow_succ]
 have h1:(z / (d:Int)).natAbs<=z.natAbs+1:=by
  rcases Nat.eq_zero_or_pos d with rfl | hd
  ·simp
  have:=Int.natAbs_ediv_le_natAbs z (d:Int);omega
 have hp:0<10000 ^ n:=Nat.pow_pos (by decide);omega
theorem fX {z:Int}:(a_ z.natAbs).length=0 ↔ z=0:=by
 rw [List.length_eq_zero_iff,gv];omega
theorem sW {z:Int} {d:Nat} (hd:1<=d):decide (z / (d:Int)<0)=decide (z<0):=by
 rw [decide_eq_decide]
 constructor
 ·intro h
  rcases Int.lt_or_le z 0 with q | q
  ·exact q
  have:=Int.ediv_nonneg (b:=(d:Int)) q (by omega);omega
 intro h;exact Int.ediv_neg_of_neg_of_pos h (by omega)
end Wh
theorem gL (w:World) (k:Nat):ae w k (.slice none 0 0) 0:=by
 unfold ae;rw [show Wh.a_ (0:Int).natAbs=[] from Wh.gv.2 rfl];exact aF.nil _ _
theorem t8 (a b x z:Int) (vx vz:Value) (w:World) (bx bz:Nat) (hg:M.good a b=true) (hox:ae w bx vx x) (Dl:ae w bz vz z) (hx:Wh.sz x 1000) (hz:Wh.sz z 1000) :
  Calls Tryz.prog 168 #[.agg #[a,b],.agg #[decide (x<0),vx,decide (z<0),vz]] w fun e w'=>∃ v1 v2,e=.returned (.tuple #[.agg #[decide (Wh.E5 (M.aS a b) (Wh.am a b x z) (Wh.af a b x z)<0),v1,decide (Wh.E6 (M.aS a b) (Wh.am a b x z) (Wh.af a b x z)<0),v2],Wh.eB (M.aS a b) (Wh.am a b x z) (Wh.af a b x z)])/\ae w' w.heap.size v1 (Wh.E5 (M.aS a b) (Wh.am a b x z) (Wh.af a b x z))/\ae w' w.heap.size v2 (Wh.E6 (M.aS a b) (Wh.am a b x z) (Wh.af a b x z))/\Below w.heap.size w w':=by
 obtain ⟨ax,cx,rfl,-,-⟩:=aF.view hox;obtain ⟨az,cz,rfl,-,-⟩:=aF.view Dl;have hin:=M.aj hg;obtain ⟨ha1,ha2,hb1,hb2⟩:=M.ag hin;have hdb:=ew hin;have hdn:=gB hg
 have PF:=fun v v' W k k' (h1:aF W k v (Wh.a_ x.natAbs)) (h2:aF W k' v' (Wh.a_ z.natAbs))=>iO a b x z v v' W k k' h1 h2 hx hz ha1 ha2 hb1 hb2
 have PG:=fun v v' W k k' (h1:aF W k v (Wh.a_ x.natAbs)) (h2:aF W k' v' (Wh.a_ z.natAbs))=>eC a b x z v v' W k k' h1 h2 hx hz ha1 ha2 hb1 hb2
 have PD:=fun v v' W k k' (h1:aF W k v (Wh.a_ x.natAbs)) (h2:aF W k' v' (Wh.a_ z.natAbs))=>lE a b x z v v' W k k' hg h1 h2 hx hz
 have zF:=Wh.pH hx hz ha1 ha2 hb1 hb2;have zG:=Wh.pC hx hz ha1 ha2 hb1 hb2;have hdv:=Wh.wJ (Wh.am a b x z) (Wh.af a b x z) hdn;generalize Wh.af a b x z=G,Wh.am a b x z=F,M.aS a b=D at *;clear hin hg ha1 ha2 hb1 hb2 hdn hx hz
 obtain ⟨d,hd⟩:∃ d,Hid (Wh.Eu D F G=d):=⟨_,DB rfl⟩
 rw [hd.out] at hdv PD;have hd1:1<=d:=hdv.1
 have hd2:d<=1000000000000:=by omega
 clear hdv hdb;have sF:=Wh.aU.2 (Wh.aM zF (show 5000<=9000 by omega));have sG:=Wh.aU.2 (Wh.aM zG (show 6000<=9000 by omega));have zN:=Wh.pD zF d;have zE:=Wh.pD zG d;have sN:=Wh.aU.2 (Wh.aM zN (show 5000+1<=9000 by omega));have sE:=Wh.aU.2 (Wh.aM zE (show 6000+1<=9000 by omega))
 have PQ:=fun v W k (h:aF W k v (Wh.a_ F.natAbs))=>iS F (d:Int) v W k h sF (by omega) (by omega)
 have PR:=fun v W k (h:aF W k v (Wh.a_ G.natAbs))=>iS G (d:Int) v W k h sG (by omega) (by omega)
 generalize hs1:decide (x<0)=s1 at *;generalize hs2:decide (z<0)=s2 at *;clear hs1 hs2;replace hox:=DB (show aF _ _ _ _ from hox);replace Dl:=DB (show aF _ _ _ _ from Dl);generalize (Wh.a_ z.natAbs).length=lz,(Wh.a_ x.natAbs).length=lx at *;obtain ⟨wc,hw3,C,Q,R,B⟩:=cZ w #[a,b] 25 #[s1,.slice ax lx cx,s2,.slice az lz cz] 174 #[false,.slice none 0 0,false,.slice none 0 0] 174;have ox:=DB (aF.below hox.out B);have oz:=DB (aF.below Dl.out B);clear hox Dl;have e_:=C.box.c0;have f_:=C.box.c1;have EQ:=Q.aL.c0;have ES:=Q.aL.c1;have ET:=Q.aL.c2;have EU:=Q.aL.c3;have p_:=R.aL.c0;have r_:=R.aL.c1;have y_:=R.aL.c2;have A_:=R.aL.c3;have s_:=R.aL.f0;have t_:=R.aL.f1;have C_:=R.aL.f2;have DG:=R.aL.f3
 by_cases h0:G=0
 ·subst h0
  have hok:Wh.eB D F 0=false:=by unfold Wh.eB;simp
  have hX:Wh.E5 D F 0=0:=by unfold Wh.E5;rw [hok];rfl
  have hZ:Wh.E6 D F 0=0:=by unfold Wh.E6;rw [hok];rfl
  rw [hok,hX,hZ];have hl0:(Wh.a_ (0:Int).natAbs).length=0:=Wh.fX.2 rfl;have hs0:decide ((0:Int)<0)=false:=rfl;rw [hs0] at PG ⊢;clear hok hX hZ hs0 PF PD PQ PR sF sG zN zE sN sE zF zG hd hd1 hd2;replace PG:=DB PG;go_enter Tryz.func168,Tryz.ntmps168
  go_wp2_with (go_at_call 167;(with_reducible refine (PG.out _ _ _ _ _ ox.out oz.out).mono ?_);rintro e w4 ⟨v4,rfl,DS,hb4⟩;have Dx:=B.size;replace C:=C.keep hb4;replace Q:=Q.keep hb4;replace R:=R.keep hb4;replace ox:=kO ox hb4;replace oz:=kO oz hb4;replace B:=d_ B hb4;obtain ⟨a4,c4,rfl,Db,DR⟩:=aF.view DS;clear Db DR;have og:=DB (aF.base (show aF _ _ _ _ from DS) Dx);clear DS;clear Dx;(rw [hl0] at og ⊢);have T:=aG.new w4 #[false,.slice a4 0 c4] 116;have b_:=bA w4 (.cells #[false,.slice a4 0 c4] 116);replace C:=C.keep b_;replace Q:=Q.keep b_;replace R:=R.keep b_;replace ox:=kO ox b_;replace oz:=kO oz b_;replace og:=kO og b_;replace B:=d_ B b_;clear b_;(replace ⟨e_,f_⟩:=C.b2);(replace ⟨EQ,ES,ET,EU⟩:=Q.b4);(replace ⟨p_,r_,y_,A_,s_,t_,C_,DG⟩:=R.Da);(replace ⟨Dn,Do⟩:=T.b2))
  exact bodyPost_ret (v:=.tuple #[.agg #[false,.slice none 0 0,false,.slice none 0 0],false]) (by simp [results,Tryz.results168,go_sem, *]) rfl (⟨_,_,rfl,gL _ _,gL _ _,D9 B⟩)
 have hlp:¬ (Wh.a_ G.natAbs).length=0:=fun h=>h0 (Wh.fX.1 h)
 have hlq:(((Wh.a_ G.natAbs).length:Int) == 0)=false:=by rw [beq_eq_false_iff_ne];omega
 have hne:decide (G≠0)=true:=decide_eq_true h0;have FQ:=Wh.sW (z:=G) hd1
 have PN:=fun v W k (h:aF W k v (Wh.a_ (F / (d:Int)).natAbs))=>jX (F / (d:Int)) v W k h (by omega)
 have PE:=fun v W k (h:aF W k v (Wh.a_ (G / (d:Int)).natAbs))=>jX (G / (d:Int)) v W k h (by omega)
 have Fa:(Wh.a_ (-(F / (d:Int))).natAbs).length<=100000:=by rw [Int.natAbs_neg];omega
 have IZ:(Wh.a_ (-(G / (d:Int))).natAbs).length<=100000:=by rw [Int.natAbs_neg];omega
 have FL:=fun v v' W k k' (h:aF W k v (Wh.a_ (F / (d:Int)).natAbs)) (h':aF W k' v' (Wh.a_ (G / (d:Int)).natAbs))=>mV (F / (d:Int)) (G / (d:Int)) v v' W k k' h h' (by omega) (by omega)
 have GH:=fun v v' W k k' (h:aF W k v (Wh.a_ (-(F / (d:Int))).natAbs)) (h':aF W k' v' (Wh.a_ (-(G / (d:Int))).natAbs))=>mV (-(F / (d:Int))) (-(G / (d:Int))) v v' W k k' h h' Fa IZ
 have IU:Wh.eB D F G=Wh.dQ (if G<0 then -(F / (d:Int)) else F / (d:Int)) (if G<0 then -(G / (d:Int)) else G / (d:Int)):=by unfold Wh.eB Wh.GL Wh.GK;rw [hd.out,hne];rfl
 have eX:Wh.E5 D F G=if Wh.eB D F G=true then (if G<0 then -(F / (d:Int)) else F / (d:Int)) else 0:=by unfold Wh.E5 Wh.GL;rw [hd.out]
 have eZ:Wh.E6 D F G=if Wh.eB D F G=true then (if G<0 then -(G / (d:Int)) else G / (d:Int)) else 0:=by unfold Wh.E6 Wh.GK;rw [hd.out]
 rw [eX,eZ,IU];clear eX eZ IU Fa IZ hne h0 sF sG zN zE sN sE zF zG;generalize F / (d:Int)=N at *;generalize G / (d:Int)=E at *;generalize F % (d:Int)=rF at *;generalize G % (d:Int)=rG at *;generalize decide (F<0)=sF at *;clear hd
 by_cases hneg:G<0
 ·have hsg:decide (G<0)=true:=decide_eq_true hneg
  rw [hsg] at FQ PG;rw [if_pos hneg,if_pos hneg];simp only [hsg,FQ] at PR PE FL;clear FL;generalize Fa:decide (N<0)=sN at *;replace PG:=DB PG;replace PF:=DB PF;replace PD:=DB PD;replace PQ:=DB PQ;replace PR:=DB PR;replace PN:=DB PN;replace PE:=DB PE;replace GH:=DB GH;replace Fa:=DB Fa;replace FQ:=DB FQ;clear hneg hsg hd1 hd2
  obtain ⟨GE,hok⟩:∃ q,Wh.dQ (-N) (-E)=q:=⟨_,rfl⟩
  cases GE
  all_goals
   rw [hok];replace hok:=DB hok
   first | rw [if_pos rfl,if_pos rfl] | rw [if_neg (by decide),if_neg (by decide)]
   go_enter Tryz.func168,Tryz.ntmps168
   go_upto_region 8 with (first
    | (go_at_call 167;(with_reducible refine (PG.out _ _ _ _ _ ox.out oz.out).mono ?_);rintro e w4 ⟨v4,rfl,DS,hb4⟩;have Dx:=B.size;replace C:=C.keep hb4;replace Q:=Q.keep hb4;replace R:=R.keep hb4;replace ox:=kO ox hb4;replace oz:=kO oz hb4;replace B:=d_ B hb4;obtain ⟨a4,c4,rfl,Db,DR⟩:=aF.view DS;clear Db DR;have og:=DB (aF.base (show aF _ _ _ _ from DS) Dx);clear DS;(generalize (Wh.a_ G.natAbs).length=lg at *);clear Dx;have T:=aG.new w4 #[true,.slice a4 lg c4] 116;have b_:=bA w4 (.cells #[true,.slice a4 lg c4] 116);replace C:=C.keep b_;replace Q:=Q.keep b_;replace R:=R.keep b_;replace ox:=kO ox b_;replace oz:=kO oz b_;replace og:=kO og b_;replace B:=d_ B b_;clear b_;(replace ⟨e_,f_⟩:=C.b2);(replace ⟨EQ,ES,ET,EU⟩:=Q.b4);(replace ⟨p_,r_,y_,A_,s_,t_,C_,DG⟩:=R.Da);(replace ⟨Dn,Do⟩:=T.b2))
    | (go_at_call 180;(with_reducible refine (PD.out _ _ _ _ _ ox.out oz.out).mono ?_);rintro e w6 ⟨rfl,hb6⟩;replace C:=C.keep hb6;replace Q:=Q.keep hb6;replace R:=R.keep hb6;replace T:=T.keep hb6;replace ox:=kO ox hb6;replace oz:=kO oz hb6;replace og:=kO og hb6;replace B:=d_ B hb6;(replace ⟨e_,f_⟩:=C.b2);(replace ⟨EQ,ES,ET,EU⟩:=Q.b4);(replace ⟨p_,r_,y_,A_,s_,t_,C_,DG⟩:=R.Da);(replace ⟨Dn,Do⟩:=T.b2))
    | (go_at_call 182;(with_reducible refine (PF.out _ _ _ _ _ ox.out oz.out).mono ?_);rintro e w7 ⟨v7,rfl,Fk,DL⟩;have Dx:=B.size;replace C:=C.keep DL;replace Q:=Q.keep DL;replace R:=R.keep DL;replace T:=T.keep DL;replace ox:=kO ox DL;replace oz:=kO oz DL;replace og:=kO og DL;replace B:=d_ B DL;obtain ⟨a7,c7,rfl,Db,DR⟩:=aF.view Fk;clear Db DR;have of:=DB (aF.base (show aF _ _ _ _ from Fk) Dx);clear Fk;(generalize (Wh.a_ F.natAbs).length=lf at *);clear Dx;(replace ⟨e_,f_⟩:=C.b2);(replace ⟨EQ,ES,ET,EU⟩:=Q.b4);(replace ⟨p_,r_,y_,A_,s_,t_,C_,DG⟩:=R.Da);(replace ⟨Dn,Do⟩:=T.b2))
    | (go_at_call 181;(with_reducible refine (PQ.out _ _ _ of.out).mono ?_);rintro e w8 ⟨v8,rfl,Em,DN⟩;have Dx:=B.size;replace C:=C.keep DN;replace Q:=Q.keep DN;replace R:=R.keep DN;replace T:=T.keep DN;replace ox:=kO ox DN;replace oz:=kO oz DN;replace og:=kO og DN;replace of:=kO of DN;replace B:=d_ B DN;obtain ⟨a8,c8,rfl,Db,DR⟩:=aF.view Em;clear Db DR;have on:=DB (aF.base (show aF _ _ _ _ from Em) Dx);clear Em;(generalize (Wh.a_ N.natAbs).length=ln at *);clear Dx;have KA:=DB R.lt;have U:=aG.new w8 #[sN,.slice a8 ln c8] 116;have b_:=bA w8 (.cells #[sN,.slice a8 ln c8] 116);replace C:=C.keep b_;replace Q:=Q.keep b_;replace R:=R.keep b_;replace T:=T.keep b_;replace ox:=kO ox b_;replace oz:=kO oz b_;replace og:=kO og b_;replace of:=kO of b_;replace on:=kO on b_;replace B:=d_ B b_;clear b_;(replace ⟨e_,f_⟩:=C.b2);(replace ⟨EQ,ES,ET,EU⟩:=Q.b4);(replace ⟨p_,r_,y_,A_,s_,t_,C_,DG⟩:=R.Da);(replace ⟨Dn,Do⟩:=T.b2);(replace ⟨DW,DX⟩:=U.b2))
    | (go_at_call 181;(with_reducible refine (PR.out _ _ _ og.out).mono ?_);rintro e w9 ⟨v9,rfl,GB,DP⟩;have Dx:=B.size;replace C:=C.keep DP;replace Q:=Q.keep DP;replace R:=R.keep DP;replace T:=T.keep DP;replace U:=U.keep DP;replace ox:=kO ox DP;replace oz:=kO oz DP;replace og:=kO og DP;replace of:=kO of DP;replace on:=kO on DP;replace B:=d_ B DP;obtain ⟨a9,c9,rfl,Db,DR⟩:=aF.view GB;clear Db DR;have oe:=DB (aF.base (show aF _ _ _ _ from GB) Dx);clear GB;(generalize (Wh.a_ E.natAbs).length=le at *);clear Dx;have V:=aG.new w9 #[true,.slice a9 le c9] 116;have b_:=bA w9 (.cells #[true,.slice a9 le c9] 116);replace C:=C.keep b_;replace Q:=Q.keep b_;replace R:=R.keep b_;replace T:=T.keep b_;replace U:=U.keep b_;replace ox:=kO ox b_;replace oz:=kO oz b_;replace og:=kO og b_;replace of:=kO of b_;replace on:=kO on b_;replace oe:=kO oe b_;replace B:=d_ B b_;clear b_;(replace ⟨e_,f_⟩:=C.b2);(replace ⟨EQ,ES,ET,EU⟩:=Q.b4);(replace ⟨p_,r_,y_,A_,s_,t_,C_,DG⟩:=R.Da);(replace ⟨Dn,Do⟩:=T.b2);(replace ⟨DW,DX,Eh,Ei⟩:=U.EK);(replace ⟨DU,DV,Ej,Ek⟩:=V.EK)))
   have hUV:w8.heap.size<w9.heap.size:=Nat.lt_of_lt_of_le (by rw [DC];exact Nat.lt_succ_self _) DP.size;generalize w9.alloc (.cells #[true,.slice a9 le c9] 116)=wd at *;refine Rg.bg 4 [.is (.agg #[sN,.slice a8 ln c8]),.at (aI (wd.heap.size) (-N)),.is (.agg #[true,.slice a9 le c9]),.at (aI (wd.heap.size) (-E))] (by kernel_rfl) (by kernel_rfl) (by kernel_rfl) ⟨?_,?_,?_,?_,fun h_=>absurd h_ (by decide),fun h_=>absurd h_ (by decide),trivial⟩ ?_
   all_goals try ((refine Rg.b1 ?_;intro zZ w_ hB e);have kz:=aE hB U.box.c0;have kz:=aE hB U.box.c1;have kz:=aE hB V.box.c0;have kz:=aE hB V.box.c1;(go_simp;done))
   ·refine Rg.o1 ?_;intro zZ w_ hB e
    have ef:=Rg.ef zZ;refine Rg.ah rfl (by go_simp;exact ⟨rfl,rfl⟩) ?_;exact aI.ret hB (PN.out _ _ _ (aF.below on.out hB))
   ·refine Rg.o1 ?_;intro zZ w_ hB e
    have ef:=Rg.ef zZ;refine Rg.ah rfl (by go_simp;exact ⟨rfl,rfl⟩) ?_;exact aI.ret hB (PE.out _ _ _ (aF.below oe.out hB))
   intro vals wz hB hv hne;have n41:(Rg.Val.at (aI (wd.heap.size) (-N))).ok (vals 1) wz:=hv 1 (by decide);have n43:(Rg.Val.at (aI (wd.heap.size) (-E))).ok (vals 3) wz:=hv 3 (by decide);simp only [Rg.bF,Rg.fill,Act.put,Nat.reduceAdd];clear hv;obtain ⟨GF,a41,GD,F5,IA,v_1,Mb⟩:=(Rg.bs n41).view;obtain ⟨s43,a43,Gl,Gk,LM,Ly,o43⟩:=(Rg.bs n43).view;simp only [v_1,Ly];clear v_1 Ly;have U2:=U.keep hB;have V2:=V.keep hB;have R2:=R.keep hB
   have MH:w8.heap.size≠w9.heap.size:=by omega
   have O6:=MH.symm;have V3:aG ((wz.setCell ⟨w8.heap.size,0,none⟩ (.bool GF)).setCell ⟨w8.heap.size,1,none⟩ (.slice a41 GD F5)) w9.heap.size 116 #[true,.slice a9 le c9]:=(V2.other O6 _).other O6 _;have V4:=aG.set2 V3 (.bool s43) (.slice a43 Gl Gk);have U4:aG ((((wz.setCell ⟨w8.heap.size,0,none⟩ (.bool GF)).setCell ⟨w8.heap.size,1,none⟩ (.slice a41 GD F5)).setCell ⟨w9.heap.size,0,none⟩ (.bool s43)).setCell ⟨w9.heap.size,1,none⟩ (.slice a43 Gl Gk)) w8.heap.size 116 #[GF,.slice a41 GD F5]:=((aG.set2 U2 (.bool GF) (.slice a41 GD F5)).other MH _).other MH _;have oN:=DB (aF.bG (aF.bG (aF.base Mb B.size) U2 (by decide) (.bool GF) (.slice a41 GD F5)) V3 (by decide) (.bool s43) (.slice a43 Gl Gk));have oE:=DB (aF.bG (aF.bG (aF.base o43 B.size) U2 (by decide) (.bool GF) (.slice a41 GD F5)) V3 (by decide) (.bool s43) (.slice a43 Gl Gk));have hw8:w.heap.size+1+1<w8.heap.size:=KA.out
   have Pp:w.heap.size+1+1≠w9.heap.size:=by omega
   have ML:w.heap.size+1+1≠w8.heap.size:=by omega
   have R4:aG ((((wz.setCell ⟨w8.heap.size,0,none⟩ (.bool GF)).setCell ⟨w8.heap.size,1,none⟩ (.slice a41 GD F5)).setCell ⟨w9.heap.size,0,none⟩ (.bool s43)).setCell ⟨w9.heap.size,1,none⟩ (.slice a43 Gl Gk)) (w.heap.size+1+1) 174 #[false,.slice none 0 0,false,.slice none 0 0]:=(((R2.other ML _).other ML _).other Pp _).other Pp _;have B4:Below w.heap.size w ((((wz.setCell ⟨w8.heap.size,0,none⟩ (.bool GF)).setCell ⟨w8.heap.size,1,none⟩ (.slice a41 GD F5)).setCell ⟨w9.heap.size,0,none⟩ (.bool s43)).setCell ⟨w9.heap.size,1,none⟩ (.slice a43 Gl Gk)):=DD (DD (DD (DD (d_ B hB) (by simp <;> omega) _) (by simp <;> omega) _) (by simp <;> omega) _) (by simp <;> omega) _;have ⟨p0,p1,q0,q1,_⟩:=U2.box;have ⟨p2,p3,q2,q3,_⟩:=V2.box;unfold Rg.aX Rg.aX Rg.aX Oper.wp;go_simp
   clear p0 p1 q0 q1 p2 p3 q2 q3 U2 V2 V3 R2 Mb o43 hB U V R C Q T B ox oz og of on oe ML Pp MH O6 hUV e_ f_ EQ ES ET EU p_ r_ y_ A_ s_ t_ C_ DG DW DX DU DV Eh Ei Ej Ek;generalize ((((wz.setCell ⟨w8.heap.size,0,none⟩ (.bool GF)).setCell ⟨w8.heap.size,1,none⟩ (.slice a41 GD F5)).setCell ⟨w9.heap.size,0,none⟩ (.bool s43)).setCell ⟨w9.heap.size,1,none⟩ (.slice a43 Gl Gk))=wf at *;have L9:=GH.out;rw [←IA.out,←LM.out] at L9;replace L9:=DB L9
   rename aG _ w8.heap.size _ _=>U
   rename aG _ w9.heap.size _ _=>V
   rename aG _ (w.heap.size+1+1) _ _=>R
   rename Below _ _ wf=>B
   have DW:=U.box.c0;have DX:=U.box.c1;have DU:=V.box.c0;have DV:=V.box.c1
   go_wp2_with (go_at_call 183;have O:=aG.new wf #[GF,.slice a41 GD F5,s43,.slice a43 Gl Gk] 174;have b_:=bA wf (.cells #[GF,.slice a41 GD F5,s43,.slice a43 Gl Gk] 174);replace R:=R.keep b_;replace oN:=kO oN b_;replace oE:=kO oE b_;replace B:=d_ B b_;clear b_;(with_reducible refine (L9.out _ _ _ _ _ oN.out oE.out).mono ?_);rintro e Mm ⟨rfl,DH⟩;(simp only [hok.out]);replace R:=R.keep DH;replace O:=O.keep DH;replace oN:=kO oN DH;replace oE:=kO oE DH;replace B:=d_ B DH;(replace ⟨p_,r_,y_,A_,s_,t_,C_,DG⟩:=R.Da);(replace ⟨Ed,Ee,Ef,Eg⟩:=O.b4))
  ·exact bodyPost_ret (v:=.tuple #[.agg #[false,.slice none 0 0,false,.slice none 0 0],false]) (by simp [results,Tryz.results168,go_sem, *]) rfl (⟨_,_,rfl,gL _ _,gL _ _,D9 B⟩)
  have hr1:=aF.base (aF.dI oN.out R (by decide) (.bool GF) (.slice a41 GD F5) (.bool s43) (.slice a43 Gl Gk)) (base':=w.heap.size) (by first | exact DF _ | omega);have hr2:=aF.base (aF.dI oE.out R (by decide) (.bool GF) (.slice a41 GD F5) (.bool s43) (.slice a43 Gl Gk)) (base':=w.heap.size) (by first | exact DF _ | omega);exact bodyPost_ret (v:=.tuple #[.agg #[GF,.slice a41 GD F5,s43,.slice a43 Gl Gk],true]) (by simp [results,Tryz.results168,go_sem, *]) rfl (⟨_,_,(by rw [IA.out,LM.out]),hr1,hr2,D9 B⟩)
 have hsg:decide (G<0)=false:=decide_eq_false hneg;rw [hsg] at FQ PG;rw [if_neg hneg,if_neg hneg];simp only [hsg,FQ] at PR PE FL;clear GH PN PE;generalize Fa:decide (N<0)=sN at *;replace PG:=DB PG;replace PF:=DB PF;replace PD:=DB PD;replace PQ:=DB PQ;replace PR:=DB PR;replace FL:=DB FL;replace Fa:=DB Fa;replace FQ:=DB FQ;clear hneg hsg hd1 hd2
 obtain ⟨GE,hok⟩:∃ q,Wh.dQ (N) (E)=q:=⟨_,rfl⟩
 cases GE
 all_goals
  rw [hok];replace hok:=DB hok
  first | rw [if_pos rfl,if_pos rfl] | rw [if_neg (by decide),if_neg (by decide)]
  go_enter Tryz.func168,Tryz.ntmps168
  go_wp2_with (first
   | (go_at_call 167;(with_reducible refine (PG.out _ _ _ _ _ ox.out oz.out).mono ?_);rintro e w4 ⟨v4,rfl,DS,hb4⟩;have Dx:=B.size;replace C:=C.keep hb4;replace Q:=Q.keep hb4;replace R:=R.keep hb4;replace ox:=kO ox hb4;replace oz:=kO oz hb4;replace B:=d_ B hb4;obtain ⟨a4,c4,rfl,Db,DR⟩:=aF.view DS;clear Db DR;have og:=DB (aF.base (show aF _ _ _ _ from DS) Dx);clear DS;(generalize (Wh.a_ G.natAbs).length=lg at *);clear Dx;have T:=aG.new w4 #[false,.slice a4 lg c4] 116;have b_:=bA w4 (.cells #[false,.slice a4 lg c4] 116);replace C:=C.keep b_;replace Q:=Q.keep b_;replace R:=R.keep b_;replace ox:=kO ox b_;replace oz:=kO oz b_;replace og:=kO og b_;replace B:=d_ B b_;clear b_;(replace ⟨e_,f_⟩:=C.b2);(replace ⟨EQ,ES,ET,EU⟩:=Q.b4);(replace ⟨p_,r_,y_,A_,s_,t_,C_,DG⟩:=R.Da);(replace ⟨Dn,Do⟩:=T.b2))
   | (go_at_call 180;(with_reducible refine (PD.out _ _ _ _ _ ox.out oz.out).mono ?_);rintro e w6 ⟨rfl,hb6⟩;replace C:=C.keep hb6;replace Q:=Q.keep hb6;replace R:=R.keep hb6;replace T:=T.keep hb6;replace ox:=kO ox hb6;replace oz:=kO oz hb6;replace og:=kO og hb6;replace B:=d_ B hb6;(replace ⟨e_,f_⟩:=C.b2);(replace ⟨EQ,ES,ET,EU⟩:=Q.b4);(replace ⟨p_,r_,y_,A_,s_,t_,C_,DG⟩:=R.Da);(replace ⟨Dn,Do⟩:=T.b2))
   | (go_at_call 182;(with_reducible refine (PF.out _ _ _ _ _ ox.out oz.out).mono ?_);rintro e w7 ⟨v7,rfl,Fk,DL⟩;have Dx:=B.size;replace C:=C.keep DL;replace Q:=Q.keep DL;replace R:=R.keep DL;replace T:=T.keep DL;replace ox:=kO ox DL;replace oz:=kO oz DL;replace og:=kO og DL;replace B:=d_ B DL;obtain ⟨a7,c7,rfl,Db,DR⟩:=aF.view Fk;clear Db DR;have of:=DB (aF.base (show aF _ _ _ _ from Fk) Dx);clear Fk;(generalize (Wh.a_ F.natAbs).length=lf at *);clear Dx;(replace ⟨e_,f_⟩:=C.b2);(replace ⟨EQ,ES,ET,EU⟩:=Q.b4);(replace ⟨p_,r_,y_,A_,s_,t_,C_,DG⟩:=R.Da);(replace ⟨Dn,Do⟩:=T.b2))
   | (go_at_call 181;(with_reducible refine (PQ.out _ _ _ of.out).mono ?_);rintro e w8 ⟨v8,rfl,Em,DN⟩;have Dx:=B.size;replace C:=C.keep DN;replace Q:=Q.keep DN;replace R:=R.keep DN;replace T:=T.keep DN;replace ox:=kO ox DN;replace oz:=kO oz DN;replace og:=kO og DN;replace of:=kO of DN;replace B:=d_ B DN;obtain ⟨a8,c8,rfl,Db,DR⟩:=aF.view Em;clear Db DR;have on:=DB (aF.base (show aF _ _ _ _ from Em) Dx);clear Em;(generalize (Wh.a_ N.natAbs).length=ln at *);clear Dx;have KA:=DB R.lt;have U:=aG.new w8 #[sN,.slice a8 ln c8] 116;have b_:=bA w8 (.cells #[sN,.slice a8 ln c8] 116);replace C:=C.keep b_;replace Q:=Q.keep b_;replace R:=R.keep b_;replace T:=T.keep b_;replace ox:=kO ox b_;replace oz:=kO oz b_;replace og:=kO og b_;replace of:=kO of b_;replace on:=kO on b_;replace B:=d_ B b_;clear b_;(replace ⟨e_,f_⟩:=C.b2);(replace ⟨EQ,ES,ET,EU⟩:=Q.b4);(replace ⟨p_,r_,y_,A_,s_,t_,C_,DG⟩:=R.Da);(replace ⟨Dn,Do⟩:=T.b2);(replace ⟨DW,DX⟩:=U.b2))
   | (go_at_call 181;(with_reducible refine (PR.out _ _ _ og.out).mono ?_);rintro e w9 ⟨v9,rfl,GB,DP⟩;have Dx:=B.size;replace C:=C.keep DP;replace Q:=Q.keep DP;replace R:=R.keep DP;replace T:=T.keep DP;replace U:=U.keep DP;replace ox:=kO ox DP;replace oz:=kO oz DP;replace og:=kO og DP;replace of:=kO of DP;replace on:=kO on DP;replace B:=d_ B DP;obtain ⟨a9,c9,rfl,Db,DR⟩:=aF.view GB;clear Db DR;have oe:=DB (aF.base (show aF _ _ _ _ from GB) Dx);clear GB;(generalize (Wh.a_ E.natAbs).length=le at *);clear Dx;have V:=aG.new w9 #[false,.slice a9 le c9] 116;have b_:=bA w9 (.cells #[false,.slice a9 le c9] 116);replace C:=C.keep b_;replace Q:=Q.keep b_;replace R:=R.keep b_;replace T:=T.keep b_;replace U:=U.keep b_;replace ox:=kO ox b_;replace oz:=kO oz b_;replace og:=kO og b_;replace of:=kO of b_;replace on:=kO on b_;replace oe:=kO oe b_;replace B:=d_ B b_;clear b_;(replace ⟨e_,f_⟩:=C.b2);(replace ⟨EQ,ES,ET,EU⟩:=Q.b4);(replace ⟨p_,r_,y_,A_,s_,t_,C_,DG⟩:=R.Da);(replace ⟨Dn,Do⟩:=T.b2);(replace ⟨DW,DX,Eh,Ei⟩:=U.EK);(replace ⟨DU,DV,Ej,Ek⟩:=V.EK);have O:=aG.new (w9.alloc (.cells #[false,.slice a9 le c9] 116)) #[sN,.slice a8 ln c8,false,.slice a9 le c9] 174;have b_:=bA (w9.alloc (.cells #[false,.slice a9 le c9] 116)) (.cells #[sN,.slice a8 ln c8,false,.slice a9 le c9] 174);replace C:=C.keep b_;replace Q:=Q.keep b_;replace R:=R.keep b_;replace T:=T.keep b_;replace U:=U.keep b_;replace V:=V.keep b_;replace ox:=kO ox b_;replace oz:=kO oz b_;replace og:=kO og b_;replace of:=kO of b_;replace on:=kO on b_;replace oe:=kO oe b_;replace B:=d_ B b_;clear b_;(rw [DC] at O))
   | (go_at_call 183;(with_reducible refine (FL.out _ _ _ _ _ on.out oe.out).mono ?_);rintro e Mm ⟨rfl,DH⟩;(simp only [hok.out]);replace C:=C.keep DH;replace Q:=Q.keep DH;replace R:=R.keep DH;replace T:=T.keep DH;replace U:=U.keep DH;replace V:=V.keep DH;replace O:=O.keep DH;replace ox:=kO ox DH;replace oz:=kO oz DH;replace og:=kO og DH;replace of:=kO of DH;replace on:=kO on DH;replace oe:=kO oe DH;replace B:=d_ B DH;(replace ⟨e_,f_⟩:=C.b2);(replace ⟨EQ,ES,ET,EU⟩:=Q.b4);(replace ⟨p_,r_,y_,A_,s_,t_,C_,DG⟩:=R.Da);(replace ⟨Dn,Do⟩:=T.b2);(replace ⟨DW,DX⟩:=U.b2);(replace ⟨DU,DV⟩:=V.b2);(replace ⟨Ed,Ee,Ef,Eg⟩:=O.b4)))
 ·exact bodyPost_ret (v:=.tuple #[.agg #[false,.slice none 0 0,false,.slice none 0 0],false]) (by simp [results,Tryz.results168,go_sem, *]) rfl (⟨_,_,rfl,gL _ _,gL _ _,D9 B⟩)
 have hr1:=aF.base (aF.dI on.out R (by decide) (.bool sN) (.slice a8 ln c8) (.bool false) (.slice a9 le c9)) (base':=w.heap.size) (by first | exact DF _ | omega);have hr2:=aF.base (aF.dI oe.out R (by decide) (.bool sN) (.slice a8 ln c8) (.bool false) (.slice a9 le c9)) (base':=w.heap.size) (by first | exact DF _ | omega);exact bodyPost_ret (v:=.tuple #[.agg #[sN,.slice a8 ln c8,false,.slice a9 le c9],true]) (by simp [results,Tryz.results168,go_sem, *]) rfl (⟨_,_,(by rw [Fa.out,FQ.out]),hr1,hr2,D9 B⟩)
theorem aG.cK {W:World} {g k:Nat} {T:TypeId} {xs:Array Value} (h:aG W g T xs) (hk:g≠k) (x y:Value):aG ((W.setCell ⟨k,0,none⟩ x).setCell ⟨k,1,none⟩ y) g T xs:=(h.other hk x).other hk y
theorem ej {B:Nat} {w W:World} {k:Nat} (h:Below B w W) (hk:B<=k) (x y:Value):Below B w ((W.setCell ⟨k,0,none⟩ x).setCell ⟨k,1,none⟩ y):=(h.setCell hk x).setCell hk y
theorem aF.len {W:World} {base l c:Nat} {a:Option Addr} {xs:List Int} (h:aF W base (.slice a l c) xs):l=xs.length:=by
 obtain ⟨a',c',e,-,-⟩:=aF.view h;injection e
namespace Wh
theorem CZ (D F G:Int):((Eu D F G:Nat):Int) ∣ F:=Int.ofNat_dvd_left.2 (Nat.dvd_trans (Nat.gcd_dvd_left _ _) (Nat.gcd_dvd_right _ _))
theorem Ca (D F G:Int):((Eu D F G:Nat):Int) ∣ G:=Int.ofNat_dvd_left.2 (Nat.gcd_dvd_right _ _)
end Wh
theorem rv (a b x z:Int) (vx vz:Value) (w:World) (bx bz:Nat) (hg:M.good a b=true) (hox:ae w bx vx x) (Dl:ae w bz vz z) (hx:Wh.sz x 1000) (hz:Wh.sz z 1000) :
  Calls Tryz.prog 174 #[.agg #[a,b],.agg #[decide (x<0),vx,decide (z<0),vz]] w fun e w'=>∃ v1 v2,e=.returned (.tuple #[.agg #[decide (Wh.E5 (M.aS a b) (Wh.am a b x z) (Wh.af a b x z)<0),v1,decide (Wh.E6 (M.aS a b) (Wh.am a b x z) (Wh.af a b x z)<0),v2],Wh.eB (M.aS a b) (Wh.am a b x z) (Wh.af a b x z)])/\ae w' w.heap.size v1 (Wh.E5 (M.aS a b) (Wh.am a b x z) (Wh.af a b x z))/\ae w' w.heap.size v2 (Wh.E6 (M.aS a b) (Wh.am a b x z) (Wh.af a b x z))/\Below w.heap.size w w':=by
 obtain ⟨ax,cx,rfl,-,-⟩:=aF.view hox;obtain ⟨az,cz,rfl,-,-⟩:=aF.view Dl;have hin:=M.aj hg;obtain ⟨ha1,ha2,hb1,hb2⟩:=M.ag hin;have hdn:=gB hg;have hdb:=ew hin
 have PF:=fun v v' W k k' (h1:aF W k v (Wh.a_ x.natAbs)) (h2:aF W k' v' (Wh.a_ z.natAbs))=>AM a b x z v v' W k k' h1 h2 hx hz ha1 ha2 hb1 hb2
 have PG:=fun v v' W k k' (h1:aF W k v (Wh.a_ x.natAbs)) (h2:aF W k' v' (Wh.a_ z.natAbs))=>lw a b x z v v' W k k' h1 h2 hx hz ha1 ha2 hb1 hb2
 have zF:=Wh.pH hx hz ha1 ha2 hb1 hb2;have zG:=Wh.pC hx hz ha1 ha2 hb1 hb2;have hdv:=Wh.wJ (Wh.am a b x z) (Wh.af a b x z) hdn;have hdF:=Wh.CZ (M.aS a b) (Wh.am a b x z) (Wh.af a b x z);have Pq:=Wh.Ca (M.aS a b) (Wh.am a b x z) (Wh.af a b x z);generalize Wh.af a b x z=G,Wh.am a b x z=F at *;have sF:=Wh.aU.2 (Wh.aM zF (show 5000<=9000 by omega));have sG:=Wh.aU.2 (Wh.aM zG (show 6000<=9000 by omega));have zF':=Wh.jh zF;have zG':=Wh.jh zG;have RL:=Wh.aU.2 (Wh.aM zF' (show 5000<=9000 by omega));have RM:=Wh.aU.2 (Wh.aM zG' (show 6000<=9000 by omega))
 have PM:=fun v W k (h:aF W k v (Wh.a_ F.natAbs))=>jM F v W k h (by omega)
 have PN:=fun v W k (h:aF W k v (Wh.a_ G.natAbs))=>jM G v W k h (by omega)
 have E4:=fun v v' W k k' (h1:aF W k v (Wh.a_ F.natAbs)) (h2:aF W k' v' (Wh.a_ G.natAbs))=>jz a b F G v v' W k k' hg h1 h2 sF sG
 have Gj:=fun v v' W k k' (h1:aF W k v (Wh.a_ (-F).natAbs)) (h2:aF W k' v' (Wh.a_ (-G).natAbs))=>jz a b (-F) (-G) v v' W k k' hg h1 h2 RL RM
 simp only [Wh.yh] at E4 Gj;rw [Wh.yg] at Gj;generalize M.aS a b=D at *;clear hin hg ha1 ha2 hb1 hb2 hdn hx hz
 obtain ⟨d,hd⟩:∃ d,Hid (Wh.Eu D F G=d):=⟨_,DB rfl⟩
 rw [hd.out] at hdv E4 Gj hdF Pq;have hd1:1<=d:=hdv.1
 have hd2:d<=1000000000000:=by omega
 clear hdv hdb;have zN:=Wh.pD zF d;have zE:=Wh.pD zG d;have zN':=Wh.jh zN;have zE':=Wh.jh zE;have sN:=Wh.aU.2 (Wh.aM zN (show 5000+1<=9000 by omega));have sE:=Wh.aU.2 (Wh.aM zE (show 6000+1<=9000 by omega));have sN':=Wh.aU.2 (Wh.aM zN' (show 5000+1<=9000 by omega));have sE':=Wh.aU.2 (Wh.aM zE' (show 6000+1<=9000 by omega))
 have HZ:=fun v W k (h:aF W k v (Wh.a_ F.natAbs))=>eo F (d:Int) v W k h sF (by omega) (by omega)
 have Gy:=fun v W k (h:aF W k v (Wh.a_ G.natAbs))=>eo G (d:Int) v W k h sG (by omega) (by omega)
 have Ha:=fun v W k (h:aF W k v (Wh.a_ (-F).natAbs))=>eo (-F) (d:Int) v W k h RL (by omega) (by omega)
 have Hb:=fun v W k (h:aF W k v (Wh.a_ (-G).natAbs))=>eo (-G) (d:Int) v W k h RM (by omega) (by omega)
 rw [Int.neg_ediv_of_dvd hdF] at Ha;rw [Int.neg_ediv_of_dvd Pq] at Hb
 have FL:=fun v v' W k k' (h:aF W k v (Wh.a_ (F / (d:Int)).natAbs)) (h':aF W k' v' (Wh.a_ (G / (d:Int)).natAbs))=>qr (F / (d:Int)) (G / (d:Int)) v v' W k k' h h' (by omega) (by omega)
 have GH:=fun v v' W k k' (h:aF W k v (Wh.a_ (-(F / (d:Int))).natAbs)) (h':aF W k' v' (Wh.a_ (-(G / (d:Int))).natAbs))=>qr (-(F / (d:Int))) (-(G / (d:Int))) v v' W k k' h h' (by omega) (by omega)
 clear hdF Pq sF sG RL RM zF zG zF' zG' zN zE zN' zE' sN sE sN' sE'
 have IU:G≠0->Wh.eB D F G=Wh.dQ (if G<0 then -(F / (d:Int)) else F / (d:Int)) (if G<0 then -(G / (d:Int)) else G / (d:Int)):=fun hne=>by unfold Wh.eB Wh.GL Wh.GK;rw [hd.out,decide_eq_true hne];rfl
 have eX:Wh.E5 D F G=if Wh.eB D F G=true then (if G<0 then -(F / (d:Int)) else F / (d:Int)) else 0:=by unfold Wh.E5 Wh.GL;rw [hd.out]
 have eZ:Wh.E6 D F G=if Wh.eB D F G=true then (if G<0 then -(G / (d:Int)) else G / (d:Int)) else 0:=by unfold Wh.E6 Wh.GK;rw [hd.out]
 have FQ:=Wh.sW (z:=G) hd1;generalize hs1:decide (x<0)=s1 at *;generalize hs2:decide (z<0)=s2 at *;clear hs1 hs2;replace hox:=DB (show aF _ _ _ _ from hox);replace Dl:=DB (show aF _ _ _ _ from Dl);generalize (Wh.a_ z.natAbs).length=lz,(Wh.a_ x.natAbs).length=lx at *;have C:=((aG.new w #[a,b] 25).alloc (.cells #[s1,.slice ax lx cx,s2,.slice az lz cz] 174)).alloc (.cells #[false,.slice none 0 0,false,.slice none 0 0] 174);have Q:=(aG.new (w.alloc (.cells #[a,b] 25)) #[s1,.slice ax lx cx,s2,.slice az lz cz] 174).alloc (.cells #[false,.slice none 0 0,false,.slice none 0 0] 174);rw [DC] at Q;have R:=aG.new ((w.alloc (.cells #[a,b] 25)).alloc (.cells #[s1,.slice ax lx cx,s2,.slice az lz cz] 174)) #[false,.slice none 0 0,false,.slice none 0 0] 174;rw [fm] at R;have B:=(((DE w.heap.size w).alloc (DF _) (.cells #[a,b] 25)).alloc (by rw [DC];omega) (.cells #[s1,.slice ax lx cx,s2,.slice az lz cz] 174)).alloc (by rw [fm];omega) (.cells #[false,.slice none 0 0,false,.slice none 0 0] 174);have ox:=DB (aF.alloc (aF.alloc (aF.alloc hox.out (.cells #[a,b] 25)) (.cells #[s1,.slice ax lx cx,s2,.slice az lz cz] 174)) (.cells #[false,.slice none 0 0,false,.slice none 0 0] 174));have oz:=DB (aF.alloc (aF.alloc (aF.alloc Dl.out (.cells #[a,b] 25)) (.cells #[s1,.slice ax lx cx,s2,.slice az lz cz] 174)) (.cells #[false,.slice none 0 0,false,.slice none 0 0] 174))
 have Fm:w.heap.size+3<=(((w.alloc (.cells #[a,b] 25)).alloc (.cells #[s1,.slice ax lx cx,s2,.slice az lz cz] 174)).alloc (.cells #[false,.slice none 0 0,false,.slice none 0 0] 174)).heap.size:=by rw [DC,fm];omega
 clear hox Dl;generalize hw3:((w.alloc (.cells #[a,b] 25)).alloc (.cells #[s1,.slice ax lx cx,s2,.slice az lz cz] 174)).alloc (.cells #[false,.slice none 0 0,false,.slice none 0 0] 174)=wc at *;replace PF:=DB PF;replace PG:=DB PG;replace PM:=DB PM;replace PN:=DB PN;replace E4:=DB E4;replace Gj:=DB Gj;replace HZ:=DB HZ;replace Ha:=DB Ha;replace Gy:=DB Gy;replace Hb:=DB Hb;replace FL:=DB FL;replace GH:=DB GH;replace IU:=DB IU;replace eX:=DB eX;replace eZ:=DB eZ;replace FQ:=DB FQ;clear hd1 hd2;go_enter Tryz.func174,Tryz.ntmps174
 go_wp2
 go_upto_region 1 with fail
 refine Rg.bg 8 [.is (.agg #[a,b]),.is (.agg #[s1,.slice ax lx cx,s2,.slice az lz cz]),.at (aI (wc.heap.size) (F)),.is (.agg #[a,b]),.is (.agg #[s1,.slice ax lx cx,s2,.slice az lz cz]),.at (aI (wc.heap.size) (G)),.new (wc.heap.size) 116 #[false,.slice none 0 0],.new (wc.heap.size) 116 #[false,.slice none 0 0]] (by kernel_rfl) (by kernel_rfl) (by kernel_rfl) ⟨?_,?_,?_,?_,?_,?_,?_,?_,fun h_=>absurd h_ (by decide),fun h_=>absurd h_ (by decide),trivial⟩ ?_
 all_goals try ((refine Rg.b1 ?_;intro zZ w_ hB e);have kz:=aE hB C.box.c0;have kz:=aE hB C.box.c1;have kz:=aE hB Q.aL.c0;have kz:=aE hB Q.aL.c1;have kz:=aE hB Q.aL.c2;have kz:=aE hB Q.aL.c3;(go_simp;done))
 ·intro _ zZ w_ hB hr
  have e14:=Rg.l_ (hr 14 (by decide));have e15:=Rg.l_ (hr 15 (by decide));have ef:=Rg.ef zZ;refine Rg.ah rfl (by go_simp;exact ⟨rfl,rfl⟩) ?_;exact aI.ret hB (PF.out _ _ _ _ _ (aF.below ox.out hB) (aF.below oz.out hB))
 ·intro _ zZ w_ hB hr
  have e17:=Rg.l_ (hr 17 (by decide));have e18:=Rg.l_ (hr 18 (by decide));have ef:=Rg.ef zZ;refine Rg.ah rfl (by go_simp;exact ⟨rfl,rfl⟩) ?_;exact aI.ret hB (PG.out _ _ _ _ _ (aF.below ox.out hB) (aF.below oz.out hB))
 ·intro _ zZ w_ hB hr
  exact ⟨by have:=hB.size;omega,rfl,by first | (go_simp;done) | (go_simp;rfl)⟩
 ·intro _ zZ w_ hB hr
  exact ⟨by have:=hB.size;omega,rfl,by first | (go_simp;done) | (go_simp;rfl)⟩
 intro vals wz hB hv hne;have n6:(Rg.Val.new (wc.heap.size) 116 #[false,.slice none 0 0]).ok (vals 6) wz:=hv 6 (by decide);have n7:(Rg.Val.new (wc.heap.size) 116 #[false,.slice none 0 0]).ok (vals 7) wz:=hv 7 (by decide);have n16:(Rg.Val.at (aI (wc.heap.size) (F))).ok (vals 2) wz:=hv 2 (by decide);have n19:(Rg.Val.at (aI (wc.heap.size) (G))).ok (vals 5) wz:=hv 5 (by decide);simp only [Rg.bF,Rg.fill,Act.put,Nat.reduceAdd];clear hv;have Jp:=hne 6 7 (by decide) (by decide) (by decide) rfl rfl;obtain ⟨g6,FF,Gq,o6⟩:=n6;replace o6:aG wz g6 116 #[false,.slice none 0 0]:=o6;obtain ⟨g7,IW,E0,o7⟩:=n7;replace o7:aG wz g7 116 #[false,.slice none 0 0]:=o7;obtain ⟨s16,a16,GC,c16,Ey,v_2,o16⟩:=(Rg.bs n16).view;obtain ⟨Gc,G0,GO,c19,Ez,Gp,KI⟩:=(Rg.bs n19).view;rw [Gq,E0] at Jp
 have Hx:g6≠g7:=fun e=>Jp (by rw [e])
 simp only [Gq,E0,v_2,Gp];clear Gq E0 v_2 Gp;have I7:=Hx.symm
 have Pu:w.heap.size+3<=g6:=by omega
 have Pv:w.heap.size+3<=g7:=by omega
 have KC:w.heap.size<=g6:=by omega
 have MN:w.heap.size<=g7:=by omega
 have hc6:w.heap.size≠g6:=by omega
 have Pm:w.heap.size≠g7:=by omega
 have QO:w.heap.size+1+1≠g6:=by omega
 have QP:w.heap.size+1+1≠g7:=by omega
 have V3:aG ((wz.setCell ⟨g6,0,none⟩ (.bool s16)).setCell ⟨g6,1,none⟩ (.slice a16 GC c16)) g7 116 #[false,.slice none 0 0]:=(o7.other I7 _).other I7 _;have V:=aG.set2 V3 (.bool Gc) (.slice G0 GO c19);have U:aG ((((wz.setCell ⟨g6,0,none⟩ (.bool s16)).setCell ⟨g6,1,none⟩ (.slice a16 GC c16)).setCell ⟨g7,0,none⟩ (.bool Gc)).setCell ⟨g7,1,none⟩ (.slice G0 GO c19)) g6 116 #[s16,.slice a16 GC c16]:=((aG.set2 o6 (.bool s16) (.slice a16 GC c16)).other Hx _).other Hx _;have oF:=DB (aF.base (aF.bG (aF.bG o16 o6 (by decide) (.bool s16) (.slice a16 GC c16)) V3 (by decide) (.bool Gc) (.slice G0 GO c19)) B.size);have oG:=DB (aF.base (aF.bG (aF.bG KI o6 (by decide) (.bool s16) (.slice a16 GC c16)) V3 (by decide) (.bool Gc) (.slice G0 GO c19)) B.size);replace C:=((C.keep hB).cK hc6 (.bool s16) (.slice a16 GC c16)).cK Pm (.bool Gc) (.slice G0 GO c19);replace R:=((R.keep hB).cK QO (.bool s16) (.slice a16 GC c16)).cK QP (.bool Gc) (.slice G0 GO c19);replace B:Below w.heap.size w ((((wz.setCell ⟨g6,0,none⟩ (.bool s16)).setCell ⟨g6,1,none⟩ (.slice a16 GC c16)).setCell ⟨g7,0,none⟩ (.bool Gc)).setCell ⟨g7,1,none⟩ (.slice G0 GO c19)):=DD (DD (DD (DD (d_ B hB) KC _) KC _) MN _) MN _;have ⟨p0,p1,q0,q1,_⟩:=o6.box;have ⟨p2,p3,q2,q3,_⟩:=o7.box;unfold Rg.aX Rg.aX Rg.aX Oper.wp;go_simp
 clear p0 p1 q0 q1 p2 p3 q2 q3 V3 o6 o7 o16 KI hB Jp Q ox oz Fm FF IW Pu Pv;generalize ((((wz.setCell ⟨g6,0,none⟩ (.bool s16)).setCell ⟨g6,1,none⟩ (.slice a16 GC c16)).setCell ⟨g7,0,none⟩ (.bool Gc)).setCell ⟨g7,1,none⟩ (.slice G0 GO c19))=wd at *;have e_:=C.box.c0;have f_:=C.box.c1;have DW:=U.box.c0;have DX:=U.box.c1;have DU:=V.box.c0;have DV:=V.box.c1;have Eh:=U.box.f0;have Ei:=U.box.f1;have Ej:=V.box.f0;have Ek:=V.box.f1;have p_:=R.aL.c0;have s_:=R.aL.f0;have r_:=R.aL.c1;have t_:=R.aL.f1;have y_:=R.aL.c2;have C_:=R.aL.f2;have A_:=R.aL.c3;have DG:=R.aL.f3;have HC:=Ey;have HE:=Ez;have H5:=aF.len oG.out
 by_cases h0:G=0
 ·have hl:GO=0:=by rw [H5,h0];exact Wh.fX.2 rfl
  have hok:Wh.eB D F G=false:=by unfold Wh.eB;rw [h0];simp
  have hX:=eX.out;have hZ:=eZ.out;rw [hok,if_neg (by decide)] at hX hZ;replace hX:=DB hX;replace hZ:=DB hZ;replace hok:=DB hok;clear H5 h0 hd eX eZ IU PF PG PM PN E4 Gj HZ Ha Gy Hb FL GH FQ Ey Ez HC HE hc6 Pm QO QP KC MN;subst hl;go_wp2;exact bodyPost_ret (v:=.tuple #[.agg #[false,.slice none 0 0,false,.slice none 0 0],false]) (by simp [results,Tryz.results174,go_sem, *]) rfl (⟨_,_,(by rw [hX.out,hZ.out,hok.out];rfl),(by rw [hX.out];exact gL _ _),(by rw [hZ.out];exact gL _ _),D9 B⟩)
 have hlp:¬ GO=0:=fun h=>h0 (Wh.fX.1 (by rw [←H5];exact h))
 have hlq:((GO:Int) == 0)=false:=by rw [beq_eq_false_iff_ne];omega
 have hX:=eX.out;have hZ:=eZ.out;have hO:=IU.out h0;rw [hO] at hX hZ;clear H5 h0 eX eZ IU PF PG;replace hd:=DB hd
 by_cases hneg:G<0
 ·have hsg:decide (G<0)=true:=decide_eq_true hneg
  rw [if_pos hneg,if_pos hneg] at hX hZ hO
  obtain rfl:Gc=true:=by rw [Ez.out];exact hsg
  have F8:=FQ.out;rw [hsg] at F8;clear FQ Ez HE HC;replace PM:=PM.out;rw [←Ey.out] at PM;replace PM:=DB PM;replace PN:=PN.out;rw [hsg] at PN;replace PN:=DB PN;clear E4 HZ Gy FL;replace Gj:=Gj.out;replace Ha:=Ha.out;replace Hb:=Hb.out;replace GH:=GH.out;replace PN:=PN.out;replace PM:=PM.out;generalize hs5:decide (-F<0)=s5 at *;generalize hs6:decide (-G<0)=s6 at *;generalize -F % (d:Int)=rF at *;generalize -G % (d:Int)=rG at *;generalize hN:-(F / (d:Int))=N at *;generalize hE:-(G / (d:Int))=E at *;clear hN;clear hE;generalize Fa:decide (N<0)=sN at *;generalize IZ:decide (E<0)=sE at *;replace Gj:=DB Gj;replace Ha:=DB Ha;replace Hb:=DB Hb;replace GH:=DB GH;replace PM:=DB PM;replace PN:=DB PN;replace Fa:=DB Fa;replace IZ:=DB IZ;clear F8 hs5 hs6;clear hneg hsg hd
  obtain ⟨GE,hok⟩:∃ q,Wh.dQ N E=q:=⟨_,rfl⟩
  cases GE
  all_goals
   rw [hok] at hX hZ hO
   first | rw [if_pos rfl] at hX hZ | rw [if_neg (by decide)] at hX hZ
   have hq:=hok;replace hok:=DB hO;replace hq:=DB hq;replace hX:=DB hX;replace hZ:=DB hZ;clear hO
   go_wp2_with (first
    | (go_at_call 192;(with_reducible refine (PM.out _ _ _ oF.out).mono ?_);rintro e w4 ⟨v4,rfl,DS,hb4⟩;have Dx:=B.size;replace C:=C.keep hb4;replace R:=R.keep hb4;replace U:=U.keep hb4;replace V:=V.keep hb4;replace oF:=kO oF hb4;replace oG:=kO oG hb4;replace B:=d_ B hb4;obtain ⟨a4,c4,rfl,Db,DR⟩:=aF.view DS;clear Db DR;have Ew:=DB (aF.base (show aF _ _ _ _ from DS) Dx);clear DS;(generalize (Wh.a_ (-F).natAbs).length=l4 at *);clear Dx;have pU_c0:=U.box.c0;have pU_c1:=U.box.c1;have pU_f0:=U.box.f0;have pU_f1:=U.box.f1;replace oF:=sO oF U (by decide) (.bool s5) (.slice a4 l4 c4);replace oG:=sO oG U (by decide) (.bool s5) (.slice a4 l4 c4);replace Ew:=sO Ew U (by decide) (.bool s5) (.slice a4 l4 c4);replace C:=C.cK hc6 (.bool s5) (.slice a4 l4 c4);replace R:=R.cK QO (.bool s5) (.slice a4 l4 c4);replace V:=V.cK I7 (.bool s5) (.slice a4 l4 c4);replace U:=aG.set2 U (.bool s5) (.slice a4 l4 c4);replace B:=ej B KC (.bool s5) (.slice a4 l4 c4);(replace ⟨e_,f_⟩:=C.b2);(replace ⟨p_,r_,y_,A_,s_,t_,C_,DG⟩:=R.Da);(replace ⟨DW,DX,Eh,Ei⟩:=U.EK);(replace ⟨DU,DV,Ej,Ek⟩:=V.EK))
    | (go_at_call 192;(with_reducible refine (PN.out _ _ _ oG.out).mono ?_);rintro e w5 ⟨v5,rfl,Dw,hb5⟩;have Dx:=B.size;replace C:=C.keep hb5;replace R:=R.keep hb5;replace U:=U.keep hb5;replace V:=V.keep hb5;replace oF:=kO oF hb5;replace oG:=kO oG hb5;replace Ew:=kO Ew hb5;replace B:=d_ B hb5;obtain ⟨a5,c5,rfl,Db,DR⟩:=aF.view Dw;clear Db DR;have FG:=DB (aF.base (show aF _ _ _ _ from Dw) Dx);clear Dw;(generalize (Wh.a_ (-G).natAbs).length=l5 at *);clear Dx;have pV_c0:=V.box.c0;have pV_c1:=V.box.c1;have pV_f0:=V.box.f0;have pV_f1:=V.box.f1;replace oF:=sO oF V (by decide) (.bool s6) (.slice a5 l5 c5);replace oG:=sO oG V (by decide) (.bool s6) (.slice a5 l5 c5);replace Ew:=sO Ew V (by decide) (.bool s6) (.slice a5 l5 c5);replace FG:=sO FG V (by decide) (.bool s6) (.slice a5 l5 c5);replace C:=C.cK Pm (.bool s6) (.slice a5 l5 c5);replace R:=R.cK QP (.bool s6) (.slice a5 l5 c5);replace U:=U.cK Hx (.bool s6) (.slice a5 l5 c5);replace V:=aG.set2 V (.bool s6) (.slice a5 l5 c5);replace B:=ej B MN (.bool s6) (.slice a5 l5 c5);(replace ⟨e_,f_⟩:=C.b2);(replace ⟨p_,r_,y_,A_,s_,t_,C_,DG⟩:=R.Da);(replace ⟨DW,DX,Eh,Ei⟩:=U.EK);(replace ⟨DU,DV,Ej,Ek⟩:=V.EK))
    | (go_at_call 193;(with_reducible refine (Gj.out _ _ _ _ _ Ew.out FG.out).mono ?_);rintro e w6 ⟨rfl,hb6⟩;replace C:=C.keep hb6;replace R:=R.keep hb6;replace U:=U.keep hb6;replace V:=V.keep hb6;replace oF:=kO oF hb6;replace oG:=kO oG hb6;replace Ew:=kO Ew hb6;replace FG:=kO FG hb6;replace B:=d_ B hb6;(replace ⟨e_,f_⟩:=C.b2);(replace ⟨p_,r_,y_,A_,s_,t_,C_,DG⟩:=R.Da);(replace ⟨DW,DX,Eh,Ei⟩:=U.EK);(replace ⟨DU,DV,Ej,Ek⟩:=V.EK))
    | (go_at_call 194;(with_reducible refine (Ha.out _ _ _ Ew.out).mono ?_);rintro e w8 ⟨v8,rfl,Em,DN⟩;have Dx:=B.size;replace C:=C.keep DN;replace R:=R.keep DN;replace U:=U.keep DN;replace V:=V.keep DN;replace oF:=kO oF DN;replace oG:=kO oG DN;replace Ew:=kO Ew DN;replace FG:=kO FG DN;replace B:=d_ B DN;obtain ⟨a8,c8,rfl,Db,DR⟩:=aF.view Em;clear Db DR;have on:=DB (aF.base (show aF _ _ _ _ from Em) Dx);clear Em;(generalize (Wh.a_ N.natAbs).length=ln at *);clear Dx;have N_:=aG.new w8 #[sN,.slice a8 ln c8] 116;have b_:=bA w8 (.cells #[sN,.slice a8 ln c8] 116);replace C:=C.keep b_;replace R:=R.keep b_;replace U:=U.keep b_;replace V:=V.keep b_;replace oF:=kO oF b_;replace oG:=kO oG b_;replace Ew:=kO Ew b_;replace FG:=kO FG b_;replace on:=kO on b_;replace B:=d_ B b_;clear b_;(replace ⟨e_,f_⟩:=C.b2);(replace ⟨p_,r_,y_,A_,s_,t_,C_,DG⟩:=R.Da);(replace ⟨DW,DX,Eh,Ei⟩:=U.EK);(replace ⟨DU,DV,Ej,Ek⟩:=V.EK);(replace ⟨FJ,FK⟩:=N_.b2))
    | (go_at_call 194;(with_reducible refine (Hb.out _ _ _ FG.out).mono ?_);rintro e w9 ⟨v9,rfl,GB,DP⟩;have Dx:=B.size;replace C:=C.keep DP;replace R:=R.keep DP;replace U:=U.keep DP;replace V:=V.keep DP;replace N_:=N_.keep DP;replace oF:=kO oF DP;replace oG:=kO oG DP;replace Ew:=kO Ew DP;replace FG:=kO FG DP;replace on:=kO on DP;replace B:=d_ B DP;obtain ⟨a9,c9,rfl,Db,DR⟩:=aF.view GB;clear Db DR;have oe:=DB (aF.base (show aF _ _ _ _ from GB) Dx);clear GB;(generalize (Wh.a_ E.natAbs).length=le at *);clear Dx;have E_:=aG.new w9 #[sE,.slice a9 le c9] 116;have b_:=bA w9 (.cells #[sE,.slice a9 le c9] 116);replace C:=C.keep b_;replace R:=R.keep b_;replace U:=U.keep b_;replace V:=V.keep b_;replace N_:=N_.keep b_;replace oF:=kO oF b_;replace oG:=kO oG b_;replace Ew:=kO Ew b_;replace FG:=kO FG b_;replace on:=kO on b_;replace oe:=kO oe b_;replace B:=d_ B b_;clear b_;(replace ⟨e_,f_⟩:=C.b2);(replace ⟨p_,r_,y_,A_,s_,t_,C_,DG⟩:=R.Da);(replace ⟨DW,DX,Eh,Ei⟩:=U.EK);(replace ⟨DU,DV,Ej,Ek⟩:=V.EK);(replace ⟨FJ,FK⟩:=N_.b2);(replace ⟨Gt,Gu⟩:=E_.b2);have O:=aG.new (w9.alloc (.cells #[sE,.slice a9 le c9] 116)) #[sN,.slice a8 ln c8,sE,.slice a9 le c9] 174;have b_:=bA (w9.alloc (.cells #[sE,.slice a9 le c9] 116)) (.cells #[sN,.slice a8 ln c8,sE,.slice a9 le c9] 174);replace C:=C.keep b_;replace R:=R.keep b_;replace U:=U.keep b_;replace V:=V.keep b_;replace N_:=N_.keep b_;replace E_:=E_.keep b_;replace oF:=kO oF b_;replace oG:=kO oG b_;replace Ew:=kO Ew b_;replace FG:=kO FG b_;replace on:=kO on b_;replace oe:=kO oe b_;replace B:=d_ B b_;clear b_;(rw [DC] at O))
    | (go_at_call 195;(with_reducible refine (GH.out _ _ _ _ _ on.out oe.out).mono ?_);rintro e Mm ⟨rfl,DH⟩;(simp only [hq.out]);replace C:=C.keep DH;replace R:=R.keep DH;replace U:=U.keep DH;replace V:=V.keep DH;replace N_:=N_.keep DH;replace E_:=E_.keep DH;replace O:=O.keep DH;replace oF:=kO oF DH;replace oG:=kO oG DH;replace Ew:=kO Ew DH;replace FG:=kO FG DH;replace on:=kO on DH;replace oe:=kO oe DH;replace B:=d_ B DH;(replace ⟨e_,f_⟩:=C.b2);(replace ⟨p_,r_,y_,A_,s_,t_,C_,DG⟩:=R.Da);(replace ⟨DW,DX⟩:=U.b2);(replace ⟨DU,DV⟩:=V.b2);(replace ⟨FJ,FK⟩:=N_.b2);(replace ⟨Gt,Gu⟩:=E_.b2);(replace ⟨Ed,Ee,Ef,Eg⟩:=O.b4)))
  ·exact bodyPost_ret (v:=.tuple #[.agg #[false,.slice none 0 0,false,.slice none 0 0],false]) (by simp [results,Tryz.results174,go_sem, *]) rfl (⟨_,_,(by rw [hX.out,hZ.out,hok.out];rfl),(by rw [hX.out];exact gL _ _),(by rw [hZ.out];exact gL _ _),D9 B⟩)
  have hr1:=aF.base (aF.dI on.out R (by decide) (.bool sN) (.slice a8 ln c8) (.bool sE) (.slice a9 le c9)) (base':=w.heap.size) (DF _);have hr2:=aF.base (aF.dI oe.out R (by decide) (.bool sN) (.slice a8 ln c8) (.bool sE) (.slice a9 le c9)) (base':=w.heap.size) (DF _);exact bodyPost_ret (v:=.tuple #[.agg #[sN,.slice a8 ln c8,sE,.slice a9 le c9],true]) (by simp [results,Tryz.results174,go_sem, *]) rfl (⟨_,_,(by rw [hX.out,hZ.out,hok.out,Fa.out,IZ.out]),(by rw [hX.out];exact hr1),(by rw [hZ.out];exact hr2),D9 B⟩)
 have hsg:decide (G<0)=false:=decide_eq_false hneg;rw [if_neg hneg,if_neg hneg] at hX hZ hO
 obtain rfl:Gc=false:=by rw [Ez.out];exact hsg
 have F8:=FQ.out;rw [hsg] at F8;clear FQ Ez HE HC;clear PM PN Gj Ha Hb GH;replace E4:=E4.out;replace HZ:=HZ.out;replace Gy:=Gy.out;replace FL:=FL.out;simp only [←Ey.out,hsg] at E4 HZ;simp only [hsg] at Gy;generalize F % (d:Int)=rF at *;generalize G % (d:Int)=rG at *;generalize hN:F / (d:Int)=N at *;generalize hE:G / (d:Int)=E at *;clear hN;subst hE;simp only [F8] at Gy FL;generalize hE:G / (d:Int)=E at *;clear hE;generalize Fa:decide (N<0)=sN at *
 skip
 replace E4:=DB E4;replace HZ:=DB HZ;replace Gy:=DB Gy;replace FL:=DB FL;replace Fa:=DB Fa;replace IZ:=DB F8;clear F8;clear hneg hsg hd
 obtain ⟨GE,hok⟩:∃ q,Wh.dQ N E=q:=⟨_,rfl⟩
 cases GE
 all_goals
  rw [hok] at hX hZ hO
  first | rw [if_pos rfl] at hX hZ | rw [if_neg (by decide)] at hX hZ
  have hq:=hok;replace hok:=DB hO;replace hq:=DB hq;replace hX:=DB hX;replace hZ:=DB hZ;clear hO
  go_wp2_with (first
   | (go_at_call 193;(with_reducible refine (E4.out _ _ _ _ _ oF.out oG.out).mono ?_);rintro e w6 ⟨rfl,hb6⟩;replace C:=C.keep hb6;replace R:=R.keep hb6;replace U:=U.keep hb6;replace V:=V.keep hb6;replace oF:=kO oF hb6;replace oG:=kO oG hb6;replace B:=d_ B hb6;(replace ⟨e_,f_⟩:=C.b2);(replace ⟨p_,r_,y_,A_,s_,t_,C_,DG⟩:=R.Da);(replace ⟨DW,DX,Eh,Ei⟩:=U.EK);(replace ⟨DU,DV,Ej,Ek⟩:=V.EK))
   | (go_at_call 194;(with_reducible refine (HZ.out _ _ _ oF.out).mono ?_);rintro e w8 ⟨v8,rfl,Em,DN⟩;have Dx:=B.size;replace C:=C.keep DN;replace R:=R.keep DN;replace U:=U.keep DN;replace V:=V.keep DN;replace oF:=kO oF DN;replace oG:=kO oG DN;replace B:=d_ B DN;obtain ⟨a8,c8,rfl,Db,DR⟩:=aF.view Em;clear Db DR;have on:=DB (aF.base (show aF _ _ _ _ from Em) Dx);clear Em;(generalize (Wh.a_ N.natAbs).length=ln at *);clear Dx;have N_:=aG.new w8 #[sN,.slice a8 ln c8] 116;have b_:=bA w8 (.cells #[sN,.slice a8 ln c8] 116);replace C:=C.keep b_;replace R:=R.keep b_;replace U:=U.keep b_;replace V:=V.keep b_;replace oF:=kO oF b_;replace oG:=kO oG b_;replace on:=kO on b_;replace B:=d_ B b_;clear b_;(replace ⟨e_,f_⟩:=C.b2);(replace ⟨p_,r_,y_,A_,s_,t_,C_,DG⟩:=R.Da);(replace ⟨DW,DX,Eh,Ei⟩:=U.EK);(replace ⟨DU,DV,Ej,Ek⟩:=V.EK);(replace ⟨FJ,FK⟩:=N_.b2))
   | (go_at_call 194;(with_reducible refine (Gy.out _ _ _ oG.out).mono ?_);rintro e w9 ⟨v9,rfl,GB,DP⟩;have Dx:=B.size;replace C:=C.keep DP;replace R:=R.keep DP;replace U:=U.keep DP;replace V:=V.keep DP;replace N_:=N_.keep DP;replace oF:=kO oF DP;replace oG:=kO oG DP;replace on:=kO on DP;replace B:=d_ B DP;obtain ⟨a9,c9,rfl,Db,DR⟩:=aF.view GB;clear Db DR;have oe:=DB (aF.base (show aF _ _ _ _ from GB) Dx);clear GB;(generalize (Wh.a_ E.natAbs).length=le at *);clear Dx;have E_:=aG.new w9 #[false,.slice a9 le c9] 116;have b_:=bA w9 (.cells #[false,.slice a9 le c9] 116);replace C:=C.keep b_;replace R:=R.keep b_;replace U:=U.keep b_;replace V:=V.keep b_;replace N_:=N_.keep b_;replace oF:=kO oF b_;replace oG:=kO oG b_;replace on:=kO on b_;replace oe:=kO oe b_;replace B:=d_ B b_;clear b_;(replace ⟨e_,f_⟩:=C.b2);(replace ⟨p_,r_,y_,A_,s_,t_,C_,DG⟩:=R.Da);(replace ⟨DW,DX,Eh,Ei⟩:=U.EK);(replace ⟨DU,DV,Ej,Ek⟩:=V.EK);(replace ⟨FJ,FK⟩:=N_.b2);(replace ⟨Gt,Gu⟩:=E_.b2);have O:=aG.new (w9.alloc (.cells #[false,.slice a9 le c9] 116)) #[sN,.slice a8 ln c8,false,.slice a9 le c9] 174;have b_:=bA (w9.alloc (.cells #[false,.slice a9 le c9] 116)) (.cells #[sN,.slice a8 ln c8,false,.slice a9 le c9] 174);replace C:=C.keep b_;replace R:=R.keep b_;replace U:=U.keep b_;replace V:=V.keep b_;replace N_:=N_.keep b_;replace E_:=E_.keep b_;replace oF:=kO oF b_;replace oG:=kO oG b_;replace on:=kO on b_;replace oe:=kO oe b_;replace B:=d_ B b_;clear b_;(rw [DC] at O))
   | (go_at_call 195;(with_reducible refine (FL.out _ _ _ _ _ on.out oe.out).mono ?_);rintro e Mm ⟨rfl,DH⟩;(simp only [hq.out]);replace C:=C.keep DH;replace R:=R.keep DH;replace U:=U.keep DH;replace V:=V.keep DH;replace N_:=N_.keep DH;replace E_:=E_.keep DH;replace O:=O.keep DH;replace oF:=kO oF DH;replace oG:=kO oG DH;replace on:=kO on DH;replace oe:=kO oe DH;replace B:=d_ B DH;(replace ⟨e_,f_⟩:=C.b2);(replace ⟨p_,r_,y_,A_,s_,t_,C_,DG⟩:=R.Da);(replace ⟨DW,DX⟩:=U.b2);(replace ⟨DU,DV⟩:=V.b2);(replace ⟨FJ,FK⟩:=N_.b2);(replace ⟨Gt,Gu⟩:=E_.b2);(replace ⟨Ed,Ee,Ef,Eg⟩:=O.b4)))
 ·exact bodyPost_ret (v:=.tuple #[.agg #[false,.slice none 0 0,false,.slice none 0 0],false]) (by simp [results,Tryz.results174,go_sem, *]) rfl (⟨_,_,(by rw [hX.out,hZ.out,hok.out];rfl),(by rw [hX.out];exact gL _ _),(by rw [hZ.out];exact gL _ _),D9 B⟩)
 have hr1:=aF.base (aF.dI on.out R (by decide) (.bool sN) (.slice a8 ln c8) (.bool false) (.slice a9 le c9)) (base':=w.heap.size) (DF _);have hr2:=aF.base (aF.dI oe.out R (by decide) (.bool sN) (.slice a8 ln c8) (.bool false) (.slice a9 le c9)) (base':=w.heap.size) (DF _);exact bodyPost_ret (v:=.tuple #[.agg #[sN,.slice a8 ln c8,false,.slice a9 le c9],true]) (by simp [results,Tryz.results174,go_sem, *]) rfl (⟨_,_,(by rw [hX.out,hZ.out,hok.out,Fa.out,IZ.out]),(by rw [hX.out];exact hr1),(by rw [hZ.out];exact hr2),D9 B⟩)
end
end Go.Proofs.YtkalaljcbmkbmaaGreat
