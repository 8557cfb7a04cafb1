/-
  Joined texts: contracts and plain lemmas.
-/
import Derived.Test.YtgfkcoablfjbcaaGreatV1
import Derived.Test.YtgfkcoablfjbcaaGreatV5
set_option linter.unusedSimpArgs false
set_option linter.unusedVariables false
set_option maxRecDepth 100000
set_option maxHeartbeats 8000000
namespace Go.Proofs.YtgfkcoablfjbcaaGreat
section
open Go.RowKit
theorem wC (a b x z:Int) (vx vz:Value) (w:World) (bx bz:Nat) (hox:ag w bx vx x) (zO:ag w bz vz z) (hx:Wh.sz x 1000) (hz:Wh.sz z 1000) (ha1:-1000≤a) (ha2:a≤1000) (hb1:-10000≤b) (hb2:b≤10000) :
  Calls Tryz.prog 158 #[.agg #[.int .i64 a,.int .i64 b],.agg #[.bool (decide (x<0)),vx,.bool (decide (z<0)),vz]] w fun e w'=>∃ sl,e=.returned (.agg #[.bool (decide (Wh.bR a b x z<0)),sl])∧ag w' w.heap.size sl (Wh.bR a b x z)∧Below w.heap.size w w':=by
 obtain ⟨ax,cx,rfl,-,-⟩:=aF.view hox;obtain ⟨az,cz,rfl,-,-⟩:=aF.view zO;have haa:-1000000≤a*a∧a*a≤1000000:=M.aK (x:=a) (y:=a) (m:=1000) (n:=1000) (by omega) (by omega) (by omega) (by omega);have mx:=Wh.am hx hx;have mz:=Wh.am hz hz;have NX:=Wh.am mx mx;have NY:=Wh.am mx mz;have mt:=Wh.am NY (Wh.bW (n:=2*a) (by omega) (by omega));have m1:=Wh.mn (Wh.aP NX (show 1000+1000+(1000+1000)≤4100 by omega)) (Wh.aP mt (show _≤4100 by omega));have n1:=Wh.am hx hz;have n2:=Wh.am n1 mz;have n3:=Wh.am n2 (Wh.bW (n:=8*b) (by omega) (by omega));have m2:=Wh.mn (Wh.aP m1 (show 4100+1≤4200 by omega)) (Wh.aP n3 (show _≤4200 by omega));have NZ:=Wh.am mz mz;have n4:=Wh.am NZ (Wh.bW (n:=a*a) (by omega) (by omega))
 have P0:=fun v W k (h:aF W k v (Wh.d_ (x).natAbs))=>dk (x) v W k h (Wh.aV.2 (Wh.aP hx (by omega)))
 have P1:=fun v W k (h:aF W k v (Wh.d_ (z).natAbs))=>dk (z) v W k h (Wh.aV.2 (Wh.aP hz (by omega)))
 have P2:=fun v W k (h:aF W k v (Wh.d_ (x*x).natAbs))=>dk (x*x) v W k h (Wh.aV.2 (Wh.aP mx (by omega)))
 have P3:=fun v v' W k k' (h:aF W k v (Wh.d_ (x*x).natAbs)) (h':aF W k' v' (Wh.d_ (z*z).natAbs))=>d6 (x*x) (z*z) v v' W k k' h h' (Wh.aV.2 (Wh.aP mx (by omega))) (Wh.aV.2 (Wh.aP mz (by omega)))
 have P4:=fun v W k (h:aF W k v (Wh.d_ (x*x*(z*z)).natAbs))=>eA (x*x*(z*z)) (2*a) v W k h (Wh.aV.2 (Wh.aP NY (by omega))) (by omega) (by omega)
 have P5:=fun v v' W k k' (h:aF W k v (Wh.d_ (x*x*(x*x)).natAbs)) (h':aF W k' v' (Wh.d_ (x*x*(z*z)*(2*a)).natAbs))=>l8 (x*x*(x*x)) (x*x*(z*z)*(2*a)) v v' W k k' h h' (Wh.aV.2 (Wh.aP NX (by omega))) (Wh.aV.2 (Wh.aP mt (by omega)))
 have P6:=fun v v' W k k' (h:aF W k v (Wh.d_ (x).natAbs)) (h':aF W k' v' (Wh.d_ (z).natAbs))=>d6 (x) (z) v v' W k k' h h' (Wh.aV.2 (Wh.aP hx (by omega))) (Wh.aV.2 (Wh.aP hz (by omega)))
 have P7:=fun v v' W k k' (h:aF W k v (Wh.d_ (x*z).natAbs)) (h':aF W k' v' (Wh.d_ (z*z).natAbs))=>d6 (x*z) (z*z) v v' W k k' h h' (Wh.aV.2 (Wh.aP n1 (by omega))) (Wh.aV.2 (Wh.aP mz (by omega)))
 have P8:=fun v W k (h:aF W k v (Wh.d_ (x*z*(z*z)).natAbs))=>eA (x*z*(z*z)) (8*b) v W k h (Wh.aV.2 (Wh.aP n2 (by omega))) (by omega) (by omega)
 have P9:=fun v v' W k k' (h:aF W k v (Wh.d_ (x*x*(x*x) - x*x*(z*z)*(2*a)).natAbs)) (h':aF W k' v' (Wh.d_ (x*z*(z*z)*(8*b)).natAbs))=>l8 (x*x*(x*x) - x*x*(z*z)*(2*a)) (x*z*(z*z)*(8*b)) v v' W k k' h h' (Wh.aV.2 (Wh.aP m1 (by omega))) (Wh.aV.2 (Wh.aP n3 (by omega)))
 have PA:=fun v W k (h:aF W k v (Wh.d_ (z*z).natAbs))=>dk (z*z) v W k h (Wh.aV.2 (Wh.aP mz (by omega)))
 have PB:=fun v W k (h:aF W k v (Wh.d_ (z*z*(z*z)).natAbs))=>eA (z*z*(z*z)) (a*a) v W k h (Wh.aV.2 (Wh.aP NZ (by omega))) (by omega) (by omega)
 have PC:=fun v v' W k k' (h:aF W k v (Wh.d_ (x*x*(x*x) - x*x*(z*z)*(2*a) - x*z*(z*z)*(8*b)).natAbs)) (h':aF W k' v' (Wh.d_ (z*z*(z*z)*(a*a)).natAbs))=>jI (x*x*(x*x) - x*x*(z*z)*(2*a) - x*z*(z*z)*(8*b)) (z*z*(z*z)*(a*a)) v v' W k k' h h' (Wh.aV.2 (Wh.aP m2 (by omega))) (Wh.aV.2 (Wh.aP n4 (by omega)))
 have hT:=Wh.oc a b x z;rw [hT] at PC;clear hT mx mz NX NY mt m1 n1 n2 n3 m2 NZ n4;generalize Wh.bR a b x z=F at *;generalize Fy:x*x*(x*x) - x*x*(z*z)*(2*a) - x*z*(z*z)*(8*b)=S2 at *;generalize Fx:x*x*(x*x) - x*x*(z*z)*(2*a)=S1 at *;generalize MQ:x*z*(z*z)*(8*b)=yb at *;generalize MR:z*z*(z*z)*(a*a)=za at *;generalize MM:x*x*(z*z)*(2*a)=xt at *;generalize MP:x*z*(z*z)=y2 at *;generalize H6:z*z*(z*z)=zzz at *;generalize H5:x*x*(z*z)=xz2 at *;generalize H4:x*x*(x*x)=xxx at *;generalize MO:x*z=y1 at *;generalize Fz:x*x=xq at *;generalize F0:z*z=zq at *;clear Fy Fx MQ MR MM MP H6 H5 H4 MO Fz F0;replace P0:=yJ P0;replace P1:=yJ P1;replace P2:=yJ P2;replace P3:=yJ P3;replace P4:=yJ P4;replace P5:=yJ P5;replace P6:=yJ P6;replace P7:=yJ P7;replace P8:=yJ P8;replace P9:=yJ P9;replace PA:=yJ PA;replace PB:=yJ PB;replace PC:=yJ PC;generalize hs1:decide (x<0)=s1 at *;replace hs1:=yJ hs1.symm;generalize hs2:decide (z<0)=s2 at *;replace hs2:=yJ hs2.symm;replace hox:=yJ (show aF _ _ _ _ from hox);replace zO:=yJ (show aF _ _ _ _ from zO);generalize (Wh.d_ z.natAbs).length=lz,(Wh.d_ x.natAbs).length=lx at *;have b1:=((aH.new w #[.int .i64 a,.int .i64 b] 29).alloc (.cells #[.bool s1,.slice ax lx cx,.bool s2,.slice az lz cz] 157)).alloc (.cells #[.bool false,.slice none 0 0] 136);have b2:=(aH.new (w.alloc (.cells #[.int .i64 a,.int .i64 b] 29)) #[.bool s1,.slice ax lx cx,.bool s2,.slice az lz cz] 157).alloc (.cells #[.bool false,.slice none 0 0] 136);rw [yK] at b2;have b3:=aH.new ((w.alloc (.cells #[.int .i64 a,.int .i64 b] 29)).alloc (.cells #[.bool s1,.slice ax lx cx,.bool s2,.slice az lz cz] 157)) #[.bool false,.slice none 0 0] 136;rw [cU] at b3;have hB:=(((yM w.heap.size w).alloc (yN _) (.cells #[.int .i64 a,.int .i64 b] 29)).alloc (by rw [yK];omega) (.cells #[.bool s1,.slice ax lx cx,.bool s2,.slice az lz cz] 157)).alloc (by rw [cU];omega) (.cells #[.bool false,.slice none 0 0] 136)
 have hz3:(((w.alloc (.cells #[.int .i64 a,.int .i64 b] 29)).alloc (.cells #[.bool s1,.slice ax lx cx,.bool s2,.slice az lz cz] 157)).alloc (.cells #[.bool false,.slice none 0 0] 136)).heap.size=w.heap.size+3:=by rw [yK,cU]
 have BA:=yJ (aF.alloc (aF.alloc (aF.alloc hox.out (.cells #[.int .i64 a,.int .i64 b] 29)) (.cells #[.bool s1,.slice ax lx cx,.bool s2,.slice az lz cz] 157)) (.cells #[.bool false,.slice none 0 0] 136));have BC:=yJ (aF.alloc (aF.alloc (aF.alloc zO.out (.cells #[.int .i64 a,.int .i64 b] 29)) (.cells #[.bool s1,.slice ax lx cx,.bool s2,.slice az lz cz] 157)) (.cells #[.bool false,.slice none 0 0] 136));clear hox zO;generalize hw3:((w.alloc (.cells #[.int .i64 a,.int .i64 b] 29)).alloc (.cells #[.bool s1,.slice ax lx cx,.bool s2,.slice az lz cz] 157)).alloc (.cells #[.bool false,.slice none 0 0] 136)=w3 at *;have e0:=b2.aM.c0;have e1:=b2.aM.c1;have e2:=b2.aM.c2;have e3:=b2.aM.c3;go_enter Tryz.func158,Tryz.ntmps158
 go_wp2
 go_upto_region 1 with fail
 go_cut [5,6] (fun p q wx=>∃ gx gz,w.heap.size+3≤gx∧w.heap.size+3≤gz∧p=.pointer (some ⟨gx,0,none⟩)∧q=.pointer (some ⟨gz,0,none⟩)∧aH wx gx 136 #[.bool s1,.slice ax lx cx]∧aH wx gz 136 #[.bool s2,.slice az lz cz]∧Below (w.heap.size+3) w3 wx)
 case first=>
  go_region
  all_goals
   go_wp2_with fail
   go_meet
   first
   | exact (oj _ _ hz3 _ _ _ _ _).1
   | exact (oj _ _ hz3 _ _ _ _ _).2
 case rest=>
 obtain ⟨gx,gz,hgx,hgz,rfl,rfl,X,Z,hbx⟩:=hcut;rw [←hz3] at hbx;have ox:=yJ (aF.below BA.out hbx);have oz:=yJ (aF.below BC.out hbx);have C:=b1.keep hbx;have R:=b3.keep hbx;have hw:=i_ hB hbx
 have DK:w.heap.size+3≤wc.heap.size:=by have:=hbx.size;omega
 clear hz3;clear b1 b2 b3 e0 e1 e2 e3 hB hbx BA BC
 go_upto_region 2 with fail
 refine Rg.bK 6 [.is (.agg #[.bool s1,.slice ax lx cx]),.at (aJ (wc.heap.size) (xq)),.is (.agg #[.bool s2,.slice az lz cz]),.at (aJ (wc.heap.size) (zq)),.new (wc.heap.size) 136 #[.bool false,.slice none 0 0],.new (wc.heap.size) 136 #[.bool false,.slice none 0 0]] (by kernel_rfl) (by kernel_rfl) (by kernel_rfl) ⟨?_,?_,?_,?_,?_,?_,fun h_=>absurd h_ (by decide),fun h_=>absurd h_ (by decide),trivial⟩ ?_
 ·intro _ zZ w_ hB hr
  have e5:zZ.tmps[5]?=some (.pointer (some ⟨gx,0,none⟩)):=hr 5 (by decide);have k0:=aE hB X.box.c0;have k1:=aE hB X.box.c1;exact Rg.aG rfl (by go_simp)
 ·intro _ zZ w_ hB hr
  have e14:=Rg.a_ (hr 14 (by decide));have ef:=Rg.ef zZ;refine Rg.aY rfl (by go_simp;exact ⟨rfl,rfl⟩) ?_;refine (P0.out _ _ _ (aF.below ox.out hB)).mono ?_;rintro e w5 ⟨zD,rfl,yV,hb5⟩;exact ⟨_,rfl,aJ.at yV (by have:=hB.size;omega),hb5⟩
 ·intro _ zZ w_ hB hr
  have e6:zZ.tmps[6]?=some (.pointer (some ⟨gz,0,none⟩)):=hr 6 (by decide);have k0:=aE hB Z.box.c0;have k1:=aE hB Z.box.c1;exact Rg.aG rfl (by go_simp)
 ·intro _ zZ w_ hB hr
  have e16:=Rg.a_ (hr 16 (by decide));have ef:=Rg.ef zZ;refine Rg.aY rfl (by go_simp;exact ⟨rfl,rfl⟩) ?_;refine (P1.out _ _ _ (aF.below oz.out hB)).mono ?_;rintro e w5 ⟨zD,rfl,yV,hb5⟩;exact ⟨_,rfl,aJ.at yV (by have:=hB.size;omega),hb5⟩
 ·intro _ zZ w_ hB hr
  exact ⟨by have:=hB.size;omega,rfl,by first | (go_simp;done) | (go_simp;rfl)⟩
 ·intro _ zZ w_ hB hr
  exact ⟨by have:=hB.size;omega,rfl,by first | (go_simp;done) | (go_simp;rfl)⟩
 intro vals wz hB hv hne;have n7:(Rg.Val.new (wc.heap.size) 136 #[.bool false,.slice none 0 0]).ok (vals 4) wz:=hv 4 (by decide);have n8:(Rg.Val.new (wc.heap.size) 136 #[.bool false,.slice none 0 0]).ok (vals 5) wz:=hv 5 (by decide);have n15:(Rg.Val.at (aJ (wc.heap.size) (xq))).ok (vals 1) wz:=hv 1 (by decide);have n17:(Rg.Val.at (aJ (wc.heap.size) (zq))).ok (vals 3) wz:=hv 3 (by decide);simp only [Rg.ak,Rg.fill,Act.put,Nat.reduceAdd];clear hv;have Gq:=hne 4 5 (by decide) (by decide) (by decide) rfl rfl;obtain ⟨g7,Et,Cy,o7⟩:=n7;replace o7:aH wz g7 136 #[.bool false,.slice none 0 0]:=o7;obtain ⟨g8,GE,DW,o8⟩:=n8;replace o8:aH wz g8 136 #[.bool false,.slice none 0 0]:=o8;obtain ⟨s15,Dd,EA,c15,E0,v_1,FV⟩:=(Rg.af n15).view;obtain ⟨EE,a17,EB,c17,Dx,FW,Jf⟩:=(Rg.af n17).view;rw [Cy,DW] at Gq
 have Em:g7≠g8:=fun e=>Gq (by rw [e])
 simp only [Cy,DW,v_1,FW];clear Cy DW v_1 FW;have Fv:=Em.symm;have hB2:Below wc.heap.size wc ((((wz.setCell ⟨g7,0,none⟩ (.bool s15)).setCell ⟨g7,1,none⟩ (.slice Dd EA c15)).setCell ⟨g8,0,none⟩ (.bool EE)).setCell ⟨g8,1,none⟩ (.slice a17 EB c17)):=yL (yL (yL (yL hB Et _) Et _) GE _) GE _;have V8:aH ((wz.setCell ⟨g7,0,none⟩ (.bool s15)).setCell ⟨g7,1,none⟩ (.slice Dd EA c15)) g8 136 #[.bool false,.slice none 0 0]:=(o8.other Fv _).other Fv _;have U8:=aH.set2 V8 (.bool EE) (.slice a17 EB c17);have U7:aH ((((wz.setCell ⟨g7,0,none⟩ (.bool s15)).setCell ⟨g7,1,none⟩ (.slice Dd EA c15)).setCell ⟨g8,0,none⟩ (.bool EE)).setCell ⟨g8,1,none⟩ (.slice a17 EB c17)) g7 136 #[.bool s15,.slice Dd EA c15]:=((aH.set2 o7 (.bool s15) (.slice Dd EA c15)).other Em _).other Em _;have oq:=yJ (aF.bF (aF.bF FV o7 (by decide) (.bool s15) (.slice Dd EA c15)) V8 (by decide) (.bool EE) (.slice a17 EB c17));have or:=yJ (aF.bF (aF.bF Jf o7 (by decide) (.bool s15) (.slice Dd EA c15)) V8 (by decide) (.bool EE) (.slice a17 EB c17));have ⟨c0,c1,f0,f1,_⟩:=o7.box;have ⟨c2,c3,f2,f3,_⟩:=o8.box;unfold Rg.aW Rg.aW Rg.aW Oper.wp
 go_simp
 clear c0 c1 f0 f1 c2 c3 f2 f3 o7 o8 FV Jf V8 Em Fv Gq;generalize ((((wz.setCell ⟨g7,0,none⟩ (.bool s15)).setCell ⟨g7,1,none⟩ (.slice Dd EA c15)).setCell ⟨g8,0,none⟩ (.bool EE)).setCell ⟨g8,1,none⟩ (.slice a17 EB c17))=wd at *;replace X:=X.keep hB2;replace Z:=Z.keep hB2;replace C:=C.keep hB2;replace R:=R.keep hB2;replace ox:=yJ (aF.below ox.out hB2);replace oz:=yJ (aF.below oz.out hB2);have hgd:g8<wd.heap.size:=U8.lt;replace hw:=i_ hw hB2;have DL:wc.heap.size≤wd.heap.size:=hB2.size;clear hB2 hB
 go_upto_region 3 with fail
 refine Rg.bK 11 [.is (.agg #[.bool s15,.slice Dd EA c15]),.at (aJ (wd.heap.size) (xxx)),.is (.agg #[.bool s15,.slice Dd EA c15]),.is (.agg #[.bool EE,.slice a17 EB c17]),.at (aJ (wd.heap.size) (xz2)),.is (.pointer (some ⟨w.heap.size,0,none⟩)),.is (.int .i64 a),.is (.int .i64 (2*a)),.at (aJ (wd.heap.size) (xt)),.at (aJ (wd.heap.size) (S1)),.new (wd.heap.size) 136 #[.bool false,.slice none 0 0]] (by kernel_rfl) (by kernel_rfl) (by kernel_rfl) ⟨?_,?_,?_,?_,?_,?_,?_,?_,?_,?_,?_,fun h_=>absurd h_ (by decide),trivial⟩ ?_
 ·intro _ zZ w_ hB hr
  have e7:zZ.tmps[7]?=some (.pointer (some ⟨g7,0,none⟩)):=hr 7 (by decide);have k0:=aE hB U7.box.c0;have k1:=aE hB U7.box.c1;exact Rg.aG rfl (by go_simp)
 ·intro _ zZ w_ hB hr
  have e18:=Rg.a_ (hr 18 (by decide));have ef:=Rg.ef zZ;refine Rg.aY rfl (by go_simp;exact ⟨rfl,rfl⟩) ?_;rw [E0.out];refine (P2.out _ _ _ (aF.below oq.out hB)).mono ?_;rintro e w5 ⟨zD,rfl,yV,hb5⟩;exact ⟨_,rfl,aJ.at yV (by have:=hB.size;omega),hb5⟩
 ·intro _ zZ w_ hB hr
  have e7:zZ.tmps[7]?=some (.pointer (some ⟨g7,0,none⟩)):=hr 7 (by decide);have k0:=aE hB U7.box.c0;have k1:=aE hB U7.box.c1;exact Rg.aG rfl (by go_simp)
 ·intro _ zZ w_ hB hr
  have e8:zZ.tmps[8]?=some (.pointer (some ⟨g8,0,none⟩)):=hr 8 (by decide);have k0:=aE hB U8.box.c0;have k1:=aE hB U8.box.c1;exact Rg.aG rfl (by go_simp)
 ·intro _ zZ w_ hB hr
  have e20:=Rg.a_ (hr 20 (by decide));have e21:=Rg.a_ (hr 21 (by decide));have ef:=Rg.ef zZ;refine Rg.aY rfl (by go_simp;exact ⟨rfl,rfl⟩) ?_;rw [E0.out];rw [Dx.out];refine (P3.out _ _ _ _ _ (aF.below oq.out hB) (aF.below or.out hB)).mono ?_;rintro e w5 ⟨zD,rfl,yV,hb5⟩;exact ⟨_,rfl,aJ.at yV (by have:=hB.size;omega),hb5⟩
 ·intro _ zZ w_ hB hr
  have e2:zZ.tmps[2]?=some (.pointer (some ⟨w.heap.size,0,none⟩)):=hr 2 (by decide);exact Rg.aG rfl (by go_simp)
 ·intro _ zZ w_ hB hr
  have e23:=Rg.a_ (hr 23 (by decide));have k0:=aE hB C.box.c0;exact Rg.aG rfl (by go_simp)
 ·intro _ zZ w_ hB hr
  have e24:=Rg.a_ (hr 24 (by decide));have ec:=Rg.ec zZ;exact Rg.aG rfl (by go_simp <;> exact Rg.wo (by omega))
 ·intro _ zZ w_ hB hr
  obtain ⟨v22,e22,n22⟩:∃ v,zZ.tmps[22]?=some v∧(Rg.Val.at (aJ (wd.heap.size) (xz2))).ok v w_:=hr 22 (by decide);obtain ⟨s22,a22,l22,c22,Mw,rfl,o22⟩:=(Rg.af n22).view;have e25:=Rg.a_ (hr 25 (by decide));have ef:=Rg.ef zZ;refine Rg.aY rfl (by go_simp;exact ⟨rfl,rfl⟩) ?_;obtain rfl:=Mw.out;refine (P4.out _ _ _ o22).mono ?_;rintro e w5 ⟨zD,rfl,yV,hb5⟩;exact ⟨_,rfl,aJ.at yV (by have:=hB.size;omega),hb5⟩
 ·intro _ zZ w_ hB hr
  obtain ⟨v19,e19,n19⟩:∃ v,zZ.tmps[19]?=some v∧(Rg.Val.at (aJ (wd.heap.size) (xxx))).ok v w_:=hr 19 (by decide);obtain ⟨DM,De,DA,c19,BQ,rfl,HF⟩:=(Rg.af n19).view;obtain ⟨v26,e26,n26⟩:∃ v,zZ.tmps[26]?=some v∧(Rg.Val.at (aJ (wd.heap.size) (xt))).ok v w_:=hr 26 (by decide);obtain ⟨s26,a26,l26,c26,GV,rfl,Nc⟩:=(Rg.af n26).view;have ef:=Rg.ef zZ;refine Rg.aY rfl (by go_simp;exact ⟨rfl,rfl⟩) ?_;obtain rfl:=BQ.out;obtain rfl:=GV.out;refine (P5.out _ _ _ _ _ HF Nc).mono ?_;rintro e w5 ⟨zD,rfl,yV,hb5⟩;exact ⟨_,rfl,aJ.at yV (by have:=hB.size;omega),hb5⟩
 ·intro _ zZ w_ hB hr
  exact ⟨by have:=hB.size;omega,rfl,by first | (go_simp;done) | (go_simp;rfl)⟩
 intro vals wz hB hv hne;have n9:(Rg.Val.new (wd.heap.size) 136 #[.bool false,.slice none 0 0]).ok (vals 10) wz:=hv 10 (by decide);have n27:(Rg.Val.at (aJ (wd.heap.size) (S1))).ok (vals 9) wz:=hv 9 (by decide);simp only [Rg.ak,Rg.fill,Act.put,Nat.reduceAdd];clear hv;obtain ⟨g9,G_,yn,o9⟩:=n9;replace o9:aH wz g9 136 #[.bool false,.slice none 0 0]:=o9;obtain ⟨Gt,a27,Ge,Fs,GW,AX,Jh⟩:=(Rg.af n27).view;simp only [yn,AX];clear yn AX;have hB2:Below wd.heap.size wd ((wz.setCell ⟨g9,0,none⟩ (.bool Gt)).setCell ⟨g9,1,none⟩ (.slice a27 Ge Fs)):=yL (yL hB G_ _) G_ _;have U:=aH.set2 o9 (.bool Gt) (.slice a27 Ge Fs);have oU:=yJ (aF.bF Jh o9 (by decide) (.bool Gt) (.slice a27 Ge Fs));have ⟨c0,c1,f0,f1,_⟩:=o9.box;unfold Rg.aW Rg.aW Oper.wp
 go_simp
 clear c0 c1 f0 f1 o9 Jh;generalize ((wz.setCell ⟨g9,0,none⟩ (.bool Gt)).setCell ⟨g9,1,none⟩ (.slice a27 Ge Fs))=we at *;replace X:=X.keep hB2;replace Z:=Z.keep hB2;replace C:=C.keep hB2;replace R:=R.keep hB2;replace U8:=U8.keep hB2;replace ox:=yJ (aF.below ox.out hB2);replace oz:=yJ (aF.below oz.out hB2);replace or:=yJ (aF.below or.out hB2);replace hw:=i_ hw hB2;have DL:wd.heap.size≤we.heap.size:=hB2.size
 go_upto_region 4 with fail
 clear hB2 hB;refine Rg.bK 11 [.is (.agg #[.bool Gt,.slice a27 Ge Fs]),.is (.agg #[.bool s1,.slice ax lx cx]),.is (.agg #[.bool s2,.slice az lz cz]),.at (aJ (we.heap.size) (y1)),.is (.agg #[.bool EE,.slice a17 EB c17]),.at (aJ (we.heap.size) (y2)),.is (.pointer (some ⟨w.heap.size,1,none⟩)),.is (.int .i64 b),.is (.int .i64 (8*b)),.at (aJ (we.heap.size) (yb)),.at (aJ (we.heap.size) (S2))] (by kernel_rfl) (by kernel_rfl) (by kernel_rfl) ⟨?_,?_,?_,?_,?_,?_,?_,?_,?_,?_,?_,fun h_=>absurd h_ (by decide),trivial⟩ ?_
 ·intro _ zZ w_ hB hr
  have e9:zZ.tmps[9]?=some (.pointer (some ⟨g9,0,none⟩)):=hr 9 (by decide);have k0:=aE hB U.box.c0;have k1:=aE hB U.box.c1;exact Rg.aG rfl (by go_simp)
 ·intro _ zZ w_ hB hr
  have e5:zZ.tmps[5]?=some (.pointer (some ⟨gx,0,none⟩)):=hr 5 (by decide);have k0:=aE hB X.box.c0;have k1:=aE hB X.box.c1;exact Rg.aG rfl (by go_simp)
 ·intro _ zZ w_ hB hr
  have e6:zZ.tmps[6]?=some (.pointer (some ⟨gz,0,none⟩)):=hr 6 (by decide);have k0:=aE hB Z.box.c0;have k1:=aE hB Z.box.c1;exact Rg.aG rfl (by go_simp)
 ·intro _ zZ w_ hB hr
  have e29:=Rg.a_ (hr 29 (by decide));have e30:=Rg.a_ (hr 30 (by decide));have ef:=Rg.ef zZ;refine Rg.aY rfl (by go_simp;exact ⟨rfl,rfl⟩) ?_;refine (P6.out _ _ _ _ _ (aF.below ox.out hB) (aF.below oz.out hB)).mono ?_;rintro e w5 ⟨zD,rfl,yV,hb5⟩;exact ⟨_,rfl,aJ.at yV (by have:=hB.size;omega),hb5⟩
 ·intro _ zZ w_ hB hr
  have e8:zZ.tmps[8]?=some (.pointer (some ⟨g8,0,none⟩)):=hr 8 (by decide);have k0:=aE hB U8.box.c0;have k1:=aE hB U8.box.c1;exact Rg.aG rfl (by go_simp)
 ·intro _ zZ w_ hB hr
  obtain ⟨v31,e31,n31⟩:∃ v,zZ.tmps[31]?=some v∧(Rg.Val.at (aJ (we.heap.size) (y1))).ok v w_:=hr 31 (by decide);obtain ⟨s31,a31,l31,c31,M2,rfl,Nd⟩:=(Rg.af n31).view;have e32:=Rg.a_ (hr 32 (by decide));have ef:=Rg.ef zZ;refine Rg.aY rfl (by go_simp;exact ⟨rfl,rfl⟩) ?_;obtain rfl:=M2.out;rw [Dx.out];refine (P7.out _ _ _ _ _ Nd (aF.below or.out hB)).mono ?_;rintro e w5 ⟨zD,rfl,yV,hb5⟩;exact ⟨_,rfl,aJ.at yV (by have:=hB.size;omega),hb5⟩
 ·intro _ zZ w_ hB hr
  have e2:zZ.tmps[2]?=some (.pointer (some ⟨w.heap.size,0,none⟩)):=hr 2 (by decide);exact Rg.aG rfl (by go_simp)
 ·intro _ zZ w_ hB hr
  have e34:=Rg.a_ (hr 34 (by decide));have k1:=aE hB C.box.c1;exact Rg.aG rfl (by go_simp)
 ·intro _ zZ w_ hB hr
  have e35:=Rg.a_ (hr 35 (by decide));have ec:=Rg.ec zZ;exact Rg.aG rfl (by go_simp <;> exact Rg.wo (by omega))
 ·intro _ zZ w_ hB hr
  obtain ⟨v33,e33,n33⟩:∃ v,zZ.tmps[33]?=some v∧(Rg.Val.at (aJ (we.heap.size) (y2))).ok v w_:=hr 33 (by decide);obtain ⟨E7,a33,E5,Eg,D1,rfl,Gi⟩:=(Rg.af n33).view;have e36:=Rg.a_ (hr 36 (by decide));have ef:=Rg.ef zZ;refine Rg.aY rfl (by go_simp;exact ⟨rfl,rfl⟩) ?_;obtain rfl:=D1.out;refine (P8.out _ _ _ Gi).mono ?_;rintro e w5 ⟨zD,rfl,yV,hb5⟩;exact ⟨_,rfl,aJ.at yV (by have:=hB.size;omega),hb5⟩
 ·intro _ zZ w_ hB hr
  have e28:=Rg.a_ (hr 28 (by decide));obtain ⟨v37,e37,n37⟩:∃ v,zZ.tmps[37]?=some v∧(Rg.Val.at (aJ (we.heap.size) (yb))).ok v w_:=hr 37 (by decide);obtain ⟨s37,a37,l37,c37,M6,rfl,o37⟩:=(Rg.af n37).view;have ef:=Rg.ef zZ;refine Rg.aY rfl (by go_simp;exact ⟨rfl,rfl⟩) ?_;obtain rfl:=M6.out;rw [GW.out];refine (P9.out _ _ _ _ _ (aF.below oU.out hB) o37).mono ?_;rintro e w5 ⟨zD,rfl,yV,hb5⟩;exact ⟨_,rfl,aJ.at yV (by have:=hB.size;omega),hb5⟩
 intro vals wy hB hv hne;have n38:(Rg.Val.at (aJ (we.heap.size) (S2))).ok (vals 10) wy:=hv 10 (by decide);simp only [Rg.ak,Rg.fill,Act.put,Nat.reduceAdd];clear hv;obtain ⟨E8,a38,E6,Eh,M7,yn,Ng⟩:=(Rg.af n38).view;simp only [yn];clear yn;have U2:=U.keep hB;have hB2:Below wd.heap.size we ((wy.setCell ⟨g9,0,none⟩ (.bool E8)).setCell ⟨g9,1,none⟩ (.slice a38 E6 Eh)):=yL (yL (hB.mono DL) G_ _) G_ _;have oS:=yJ (aF.bF Ng U2 (by decide) (.bool E8) (.slice a38 E6 Eh));have U3:=aH.set2 U2 (.bool E8) (.slice a38 E6 Eh)
 have hq8:g8<wd.heap.size∧w.heap.size+1+1<wd.heap.size:=⟨hgd,by omega⟩
 have hC9:w.heap.size<wd.heap.size:=by omega
 have C5:aH ((wy.setCell ⟨g9,0,none⟩ (.bool E8)).setCell ⟨g9,1,none⟩ (.slice a38 E6 Eh)) w.heap.size 29 #[.int .i64 a,.int .i64 b]:=((C.keep hB).other (by omega) _).other (by omega) _;have R5:aH ((wy.setCell ⟨g9,0,none⟩ (.bool E8)).setCell ⟨g9,1,none⟩ (.slice a38 E6 Eh)) (w.heap.size+1+1) 136 #[.bool false,.slice none 0 0]:=((R.keep hB).other (by omega) _).other (by omega) _;have Q5:aH ((wy.setCell ⟨g9,0,none⟩ (.bool E8)).setCell ⟨g9,1,none⟩ (.slice a38 E6 Eh)) g8 136 #[.bool EE,.slice a17 EB c17]:=((U8.keep hB).other (by omega) _).other (by omega) _;have oq5:=yJ (aF.bF (aF.below or.out hB) U2 (by decide) (.bool E8) (.slice a38 E6 Eh));have HB:=hw.trans (hB2.mono (show w.heap.size≤wd.heap.size by omega));have ⟨c0,c1,f0,f1,_⟩:=U2.box;unfold Rg.aW Rg.aW Oper.wp
 go_simp
 clear c0 c1 f0 f1 U2 hB2 hB;generalize ((wy.setCell ⟨g9,0,none⟩ (.bool E8)).setCell ⟨g9,1,none⟩ (.slice a38 E6 Eh))=wf at *
 go_upto_region 5 with fail
 refine Rg.bK 10 [.is (.agg #[.bool E8,.slice a38 E6 Eh]),.is (.agg #[.bool EE,.slice a17 EB c17]),.at (aJ (wf.heap.size) (zzz)),.is (.pointer (some ⟨w.heap.size,0,none⟩)),.is (.int .i64 a),.is (.pointer (some ⟨w.heap.size,0,none⟩)),.is (.int .i64 a),.is (.int .i64 (a*a)),.at (aJ (wf.heap.size) (za)),.at (aJ (wf.heap.size) (F))] (by kernel_rfl) (by kernel_rfl) (by kernel_rfl) ⟨?_,?_,?_,?_,?_,?_,?_,?_,?_,?_,fun h_=>absurd h_ (by decide),trivial⟩ ?_
 ·intro _ zZ w_ hB hr
  have e9:zZ.tmps[9]?=some (.pointer (some ⟨g9,0,none⟩)):=hr 9 (by decide);have k0:=aE hB U3.box.c0;have k1:=aE hB U3.box.c1;exact Rg.aG rfl (by go_simp)
 ·intro _ zZ w_ hB hr
  have e8:zZ.tmps[8]?=some (.pointer (some ⟨g8,0,none⟩)):=hr 8 (by decide);have k0:=aE hB Q5.box.c0;have k1:=aE hB Q5.box.c1;exact Rg.aG rfl (by go_simp)
 ·intro _ zZ w_ hB hr
  have e40:=Rg.a_ (hr 40 (by decide));have ef:=Rg.ef zZ;refine Rg.aY rfl (by go_simp;exact ⟨rfl,rfl⟩) ?_;rw [Dx.out];refine (PA.out _ _ _ (aF.below oq5.out hB)).mono ?_;rintro e w5 ⟨zD,rfl,yV,hb5⟩;exact ⟨_,rfl,aJ.at yV (by have:=hB.size;omega),hb5⟩
 ·intro _ zZ w_ hB hr
  have e2:zZ.tmps[2]?=some (.pointer (some ⟨w.heap.size,0,none⟩)):=hr 2 (by decide);exact Rg.aG rfl (by go_simp)
 ·intro _ zZ w_ hB hr
  have e42:=Rg.a_ (hr 42 (by decide));have k0:=aE hB C5.box.c0;exact Rg.aG rfl (by go_simp)
 ·intro _ zZ w_ hB hr
  have e2:zZ.tmps[2]?=some (.pointer (some ⟨w.heap.size,0,none⟩)):=hr 2 (by decide);exact Rg.aG rfl (by go_simp)
 ·intro _ zZ w_ hB hr
  have e44:=Rg.a_ (hr 44 (by decide));have k0:=aE hB C5.box.c0;exact Rg.aG rfl (by go_simp)
 ·intro _ zZ w_ hB hr
  have e43:=Rg.a_ (hr 43 (by decide));have e45:=Rg.a_ (hr 45 (by decide));exact Rg.aG rfl (by go_simp <;> exact Rg.wo (by omega))
 ·intro _ zZ w_ hB hr
  obtain ⟨v41,e41,n41⟩:∃ v,zZ.tmps[41]?=some v∧(Rg.Val.at (aJ (wf.heap.size) (zzz))).ok v w_:=hr 41 (by decide);obtain ⟨Al,a41,Aj,Ai,DJ,rfl,Gj⟩:=(Rg.af n41).view;have e46:=Rg.a_ (hr 46 (by decide));have ef:=Rg.ef zZ;refine Rg.aY rfl (by go_simp;exact ⟨rfl,rfl⟩) ?_;obtain rfl:=DJ.out;refine (PB.out _ _ _ Gj).mono ?_;rintro e w5 ⟨zD,rfl,yV,hb5⟩;exact ⟨_,rfl,aJ.at yV (by have:=hB.size;omega),hb5⟩
 ·intro _ zZ w_ hB hr
  have e39:=Rg.a_ (hr 39 (by decide));obtain ⟨v47,e47,n47⟩:∃ v,zZ.tmps[47]?=some v∧(Rg.Val.at (aJ (wf.heap.size) (za))).ok v w_:=hr 47 (by decide);obtain ⟨s47,a47,l47,c47,NA,rfl,Nh⟩:=(Rg.af n47).view;have ef:=Rg.ef zZ;refine Rg.aY rfl (by go_simp;exact ⟨rfl,rfl⟩) ?_;obtain rfl:=NA.out;rw [M7.out];refine (PC.out _ _ _ _ _ (aF.below oS.out hB) Nh).mono ?_;rintro e w5 ⟨zD,rfl,yV,hb5⟩;exact ⟨_,rfl,aJ.at yV (by have:=hB.size;omega),hb5⟩
 intro vals wv H3 hv hne;have n48:(Rg.Val.at (aJ (wf.heap.size) (F))).ok (vals 9) wv:=hv 9 (by decide);simp only [Rg.ak,Rg.fill,Act.put,Nat.reduceAdd];clear hv;obtain ⟨I2,a48,Il,Hu,GY,AX,Ni⟩:=(Rg.af n48).view;simp only [AX];clear AX;replace R:=R5;replace hw:=HB;have R2:=R.keep H3;have ⟨c0,c1,f0,f1,_⟩:=R2.box;have hr1:=aF.base (aF.bF Ni R2 (by decide) (.bool I2) (.slice a48 Il Hu)) (show w.heap.size≤wf.heap.size from hw.size);have hr2:Below w.heap.size w ((wv.setCell ⟨w.heap.size+1+1,0,none⟩ (.bool I2)).setCell ⟨w.heap.size+1+1,1,none⟩ (.slice a48 Il Hu)):=yL (yL (i_ hw H3) (by simp <;> omega) _) (by simp <;> omega) _;unfold Rg.aW Rg.aW Oper.wp
 go_simp
 go_wp2;exact bodyPost_ret (v:=.agg #[.bool I2,.slice a48 Il Hu]) (by simp [results,Tryz.results158,go_sem, *]) rfl (⟨_,by rw [GY.out],hr1,hr2⟩)
namespace Wh
theorem mr {a b x z:Int} (hx:sz x 1000) (hz:sz z 1000) (ha1:-1000≤a) (ha2:a≤1000) (hb1:-10000≤b) (hb2:b≤10000):sz (bR a b x z) 5000:=by
 have haa:-1000000≤a*a∧a*a≤1000000:=M.aK (x:=a) (y:=a) (m:=1000) (n:=1000) (by omega) (by omega) (by omega) (by omega);rw [←oc];have mx:=am hx hx;have mz:=am hz hz;have m1:=mn (aP (am mx mx) (show 1000+1000+(1000+1000)≤4100 by omega)) (aP (am (am mx mz) (bW (n:=2*a) (by omega) (by omega))) (show _≤4100 by omega));have m2:=mn (aP m1 (show 4100+1≤4200 by omega)) (aP (am (am (am hx hz) mz) (bW (n:=8*b) (by omega) (by omega))) (show _≤4200 by omega));exact aP (gD (aP m2 (show 4200+1≤4300 by omega)) (aP (am (am mz mz) (bW (n:=a*a) (by omega) (by omega))) (show _≤4300 by omega))) (by omega)
theorem mj {a b x z:Int} (hx:sz x 1000) (hz:sz z 1000) (ha1:-1000≤a) (ha2:a≤1000) (hb1:-10000≤b) (hb2:b≤10000):sz (bJ a b x z) 6000:=by
 rw [←nJ];have m1:=am hx hx;have m0:=am hz hz;have m2:=am m1 hx;have m4:=am (am hx m0) (bW (n:=a) (by omega) (by omega));have m5:=gD (aP m2 (show 1000+1000+1000≤4000 by omega)) (aP m4 (show _≤4000 by omega));have m7:=am (am hz m0) (bW (n:=b) (by omega) (by omega));have m8:=gD (aP m5 (show 4000+1≤4100 by omega)) (aP m7 (show _≤4100 by omega));exact aP (am (am hz m8) (bW (n:=4) (by omega) (by omega))) (by omega)
def BW (D F G:Int):Nat:=Nat.gcd (Nat.gcd (4*D.natAbs) F.natAbs) G.natAbs
theorem tJ (D F G:Int):Nat.gcd (G.natAbs % Nat.gcd (F.natAbs % (4*D.natAbs)) (4*D.natAbs)) (Nat.gcd (F.natAbs % (4*D.natAbs)) (4*D.natAbs))=BW D F G:=by
 unfold BW;rw [←Nat.gcd_rec,←Nat.gcd_rec]
theorem ng (n:Nat) (y:Int):M.gcd (n:Int) (y % (n:Int))=(Nat.gcd n y.natAbs:Nat):=by
 unfold M.gcd Int.gcd;rw [Int.natAbs_natCast]
 by_cases hn:n=0
 ·subst hn
  simp
 congr 1
 apply Nat.dvd_antisymm
 ·refine Nat.dvd_gcd (Nat.gcd_dvd_left _ _) ?_
  have h1:(Nat.gcd n (y % (n:Int)).natAbs:Int) ∣ y % (n:Int):=Int.ofNat_dvd_left.2 (Nat.gcd_dvd_right _ _);have h2:(Nat.gcd n (y % (n:Int)).natAbs:Int) ∣ (n:Int):=Int.ofNat_dvd.2 (Nat.gcd_dvd_left _ _)
  have h3:(Nat.gcd n (y % (n:Int)).natAbs:Int) ∣ y:=by
   have h4:=Int.dvd_add h1 (Int.dvd_mul_of_dvd_left (c:=y / (n:Int)) h2)
   rwa [Int.emod_add_mul_ediv] at h4
  exact Int.ofNat_dvd_left.1 h3
 refine Nat.dvd_gcd (Nat.gcd_dvd_left _ _) ?_;have h1:(Nat.gcd n y.natAbs:Int) ∣ y:=Int.ofNat_dvd_left.2 (Nat.gcd_dvd_right _ _);have h2:(Nat.gcd n y.natAbs:Int) ∣ (n:Int):=Int.ofNat_dvd.2 (Nat.gcd_dvd_left _ _)
 have h3:(Nat.gcd n y.natAbs:Int) ∣ y % (n:Int):=by
  rw [Int.emod_def];exact Int.dvd_sub h1 (Int.dvd_mul_of_dvd_left h2)
 exact Int.ofNat_dvd_left.1 h3
theorem uu (D F G:Int):M.gcd (M.gcd (4*(D.natAbs:Int)) (F % (4*(D.natAbs:Int)))) (G % (4*(D.natAbs:Int)))=(BW D F G:Nat):=by
 have e:(4*(D.natAbs:Int))=((4*D.natAbs:Nat):Int):=by omega
 rw [e,ng];unfold BW;have h:Nat.gcd F.natAbs F.natAbs=F.natAbs:=Nat.gcd_self _;have h1:=ng (4*D.natAbs) G;unfold M.gcd Int.gcd at h1 ⊢;rw [Int.natAbs_natCast] at h1 ⊢
 have h2:Nat.gcd (4*D.natAbs) (G % ((4*D.natAbs:Nat):Int)).natAbs=Nat.gcd (4*D.natAbs) G.natAbs:=by omega
 rw [Nat.gcd_comm (4*D.natAbs) F.natAbs,Nat.gcd_assoc,Nat.gcd_assoc,h2]
theorem ut (D F G:Int):BW D (-F) (-G)=BW D F G:=by unfold BW;rw [Int.natAbs_neg,Int.natAbs_neg]
theorem tI {D:Int} (F G:Int) (h:D≠0):1≤BW D F G∧BW D F G≤4*D.natAbs:=by
 unfold BW
 have h0:0<4*D.natAbs:=by omega
 have h1:0<Nat.gcd (4*D.natAbs) F.natAbs:=Nat.gcd_pos_of_pos_left _ h0;exact ⟨Nat.gcd_pos_of_pos_left _ h1,Nat.le_trans (Nat.gcd_le_left _ h1) (Nat.gcd_le_left _ h0)⟩
end Wh
theorem j7 (a b x z:Int) (vx vz:Value) (w:World) (bx bz:Nat) (hg:M.good a b=true) (hox:ag w bx vx x) (zO:ag w bz vz z) (hx:Wh.sz x 1000) (hz:Wh.sz z 1000) :
  Calls Tryz.prog 167 #[.agg #[.int .i64 a,.int .i64 b],.agg #[.bool (decide (x<0)),vx,.bool (decide (z<0)),vz]] w fun e w'=>e=.returned (.int .i64 (Wh.BW (M.bC a b) (Wh.bR a b x z) (Wh.bJ a b x z):Nat))∧Below w.heap.size w w':=by
 obtain ⟨ax,cx,rfl,-,-⟩:=aF.view hox;obtain ⟨az,cz,rfl,-,-⟩:=aF.view zO;have hin:=M.bM hg;obtain ⟨ha1,ha2,hb1,hb2⟩:=M.an hin;have hdb:=eM hin;have hdn:=fR hg
 have PC:=fun W=>pH a b W hin
 have PF:=fun v v' W k k' (h1:aF W k v (Wh.d_ x.natAbs)) (h2:aF W k' v' (Wh.d_ z.natAbs))=>gR a b x z v v' W k k' h1 h2 hx hz ha1 ha2 hb1 hb2
 have PG:=fun v v' W k k' (h1:aF W k v (Wh.d_ x.natAbs)) (h2:aF W k' v' (Wh.d_ z.natAbs))=>du a b x z v v' W k k' h1 h2 hx hz ha1 ha2 hb1 hb2
 have sF:=Wh.aV.2 (Wh.aP (Wh.mr hx hz ha1 ha2 hb1 hb2) (show 5000≤9000 by omega));have sG:=Wh.aV.2 (Wh.aP (Wh.mj hx hz ha1 ha2 hb1 hb2) (show 6000≤9000 by omega));have hres:=Wh.tJ (M.bC a b) (Wh.bR a b x z) (Wh.bJ a b x z);generalize Wh.bJ a b x z=G,Wh.bR a b x z=F,M.bC a b=D,Wh.BW (M.bC a b) (Wh.bR a b x z) (Wh.bJ a b x z)=RES at *
 have hn1:1≤4*D.natAbs:=by omega
 have hn2:4*D.natAbs≤1000000000000:=by omega
 have PV:=fun v W k (h:aF W k v (Wh.d_ F.natAbs))=>gQ F (4*D.natAbs) v W k h sF hn1 hn2
 have hm1:1≤Nat.gcd (F.natAbs % (4*D.natAbs)) (4*D.natAbs):=Nat.gcd_pos_of_pos_right _ hn1;have hm2:Nat.gcd (F.natAbs % (4*D.natAbs)) (4*D.natAbs)≤1000000000000:=Nat.le_trans (Nat.gcd_le_right _ hn1) hn2
 have PW:=fun v W k (h:aF W k v (Wh.d_ G.natAbs))=>gQ G (Nat.gcd (F.natAbs % (4*D.natAbs)) (4*D.natAbs)) v W k h sG hm1 hm2
 rw [hres] at PW
 have hmax:(if 4*D < -4*D then -4*D else 4*D)=((4*D.natAbs:Nat):Int):=by split <;> omega
 have Dt:max (4*D) (-4*D)=((4*D.natAbs:Nat):Int):=by omega
 clear hn1 hn2 hm1 hm2 hres sF sG ha1 ha2 hb1 hb2 hdn
 have hD1:-6700000000≤D:=by omega
 have hD2:D≤6700000000:=by omega
 clear hdb;generalize hN:4*D.natAbs=N at *;replace hN:=yJ hN;generalize Nat.gcd (F.natAbs % N) N=N2 at *;replace hmax:=yJ hmax;replace Dt:=yJ Dt;replace PC:=yJ PC;replace PF:=yJ PF;replace PG:=yJ PG;replace PV:=yJ PV;replace PW:=yJ PW;generalize hs1:decide (x<0)=s1 at *;generalize hs2:decide (z<0)=s2 at *;clear hs1 hs2;replace hox:=yJ (show aF _ _ _ _ from hox);replace zO:=yJ (show aF _ _ _ _ from zO);generalize (Wh.d_ z.natAbs).length=lz,(Wh.d_ x.natAbs).length=lx at *;have b1:=(aH.new w #[.int .i64 a,.int .i64 b] 29).alloc (.cells #[.bool s1,.slice ax lx cx,.bool s2,.slice az lz cz] 157)
 have b2:=(aH.new (w.alloc (.cells #[.int .i64 a,.int .i64 b] 29)) #[.bool s1,.slice ax lx cx,.bool s2,.slice az lz cz] 157)
 rw [yK] at b2;have hB:=((yM w.heap.size w).alloc (yN _) (.cells #[.int .i64 a,.int .i64 b] 29)).alloc (by rw [yK];omega) (.cells #[.bool s1,.slice ax lx cx,.bool s2,.slice az lz cz] 157);have ox:=yJ (aF.alloc (aF.alloc hox.out (.cells #[.int .i64 a,.int .i64 b] 29)) (.cells #[.bool s1,.slice ax lx cx,.bool s2,.slice az lz cz] 157));have oz:=yJ (aF.alloc (aF.alloc zO.out (.cells #[.int .i64 a,.int .i64 b] 29)) (.cells #[.bool s1,.slice ax lx cx,.bool s2,.slice az lz cz] 157));clear hox zO;generalize hw3:(w.alloc (.cells #[.int .i64 a,.int .i64 b] 29)).alloc (.cells #[.bool s1,.slice ax lx cx,.bool s2,.slice az lz cz] 157)=wc at *;go_enter Tryz.func167,Tryz.ntmps167
 go_wp2
 go_upto_region 1 with fail
 refine Rg.bK 8 [.is (.agg #[.int .i64 a,.int .i64 b]),.is (.int .i64 D),.is (.int .i64 (4*D)),.is (.agg #[.int .i64 a,.int .i64 b]),.is (.int .i64 D),.is (.int .i64 ((-4)*D)),.is (.int .i64 ((N:Nat):Int)),.is (.int .i64 ((N:Nat):Int))] (by kernel_rfl) (by kernel_rfl) (by kernel_rfl) ⟨?_,?_,?_,?_,?_,?_,?_,?_,trivial⟩ ?_
 ·intro _ zZ w_ hB hr
  have e2:zZ.tmps[2]?=some (.pointer (some ⟨w.heap.size,0,none⟩)):=hr 2 (by decide);have k0:=aE hB b1.box.c0;have k1:=aE hB b1.box.c1;exact Rg.aG rfl (by go_simp)
 ·intro _ zZ w_ hB hr
  have e6:=Rg.a_ (hr 6 (by decide));have ef:=Rg.ef zZ;exact Rg.bU rfl (by go_simp) (PC.out _)
 ·intro _ zZ w_ hB hr
  have e7:=Rg.a_ (hr 7 (by decide));have ec:=Rg.ec zZ;exact Rg.aG rfl (by go_simp <;> exact Rg.wo (by omega))
 ·intro _ zZ w_ hB hr
  have e2:zZ.tmps[2]?=some (.pointer (some ⟨w.heap.size,0,none⟩)):=hr 2 (by decide);have k0:=aE hB b1.box.c0;have k1:=aE hB b1.box.c1;exact Rg.aG rfl (by go_simp)
 ·intro _ zZ w_ hB hr
  have e9:=Rg.a_ (hr 9 (by decide));have ef:=Rg.ef zZ;exact Rg.bU rfl (by go_simp) (PC.out _)
 ·intro _ zZ w_ hB hr
  have e10:=Rg.a_ (hr 10 (by decide));have ec:=Rg.ec zZ;exact Rg.aG rfl (by go_simp <;> exact Rg.wo (by omega))
 ·intro _ zZ w_ hB hr
  have e8:=Rg.a_ (hr 8 (by decide));have e11:=Rg.a_ (hr 11 (by decide));exact Rg.aG rfl (by go_simp;first | done | (rw [hmax.out];done) | (rw [Dt.out];done) | (simp only [hmax.out];done))
 ·intro _ zZ w_ hB hr
  have e12:=Rg.a_ (hr 12 (by decide));exact Rg.aG rfl (by go_simp)
 intro vals wz hB1 hv hne;have BS:vals 7=.int .i64 ((N:Nat):Int):=hv 7 (by decide);simp only [Rg.ak,Rg.fill,Act.put,Nat.reduceAdd];clear hv;simp only [BS];clear BS;replace b1:=b1.keep hB1;replace b2:=b2.keep hB1;replace ox:=yJ (aF.below ox.out hB1);replace oz:=yJ (aF.below oz.out hB1);have hBw:=i_ hB hB1;unfold Rg.aW
 go_upto_region 2 with fail
 clear hB1;refine Rg.bK 10 [.is (.agg #[.int .i64 a,.int .i64 b]),.is (.agg #[.bool s1,.slice ax lx cx,.bool s2,.slice az lz cz]),.at (aJ (wz.heap.size) (G)),.is (.agg #[.int .i64 a,.int .i64 b]),.is (.agg #[.bool s1,.slice ax lx cx,.bool s2,.slice az lz cz]),.at (aJ (wz.heap.size) (F)),.is (.int .i64 ((N:Nat):Int)),.is (.int .i64 ((N2:Nat):Int)),.is (.int .i64 ((RES:Nat):Int)),.is (.int .i64 ((RES:Nat):Int))] (by kernel_rfl) (by kernel_rfl) (by kernel_rfl) ⟨?_,?_,?_,?_,?_,?_,?_,?_,?_,?_,trivial⟩ ?_
 ·intro _ zZ w_ hB hr
  have e2:zZ.tmps[2]?=some (.pointer (some ⟨w.heap.size,0,none⟩)):=hr 2 (by decide);have k0:=aE hB b1.box.c0;have k1:=aE hB b1.box.c1;exact Rg.aG rfl (by go_simp)
 ·intro _ zZ w_ hB hr
  have e3:zZ.tmps[3]?=some (.pointer (some ⟨w.heap.size+1,0,none⟩)):=hr 3 (by decide);have k0:=aE hB b2.aM.c0;have k1:=aE hB b2.aM.c1;have k2:=aE hB b2.aM.c2;have k3:=aE hB b2.aM.c3;exact Rg.aG rfl (by go_simp)
 ·intro _ zZ w_ hB hr
  have e13:=Rg.a_ (hr 13 (by decide));have e14:=Rg.a_ (hr 14 (by decide));have ef:=Rg.ef zZ;refine Rg.aY rfl (by go_simp;exact ⟨rfl,rfl⟩) ?_;refine (PG.out _ _ _ _ _ (aF.below ox.out hB) (aF.below oz.out hB)).mono ?_;rintro e w5 ⟨zD,rfl,yV,hb5⟩;exact ⟨_,rfl,aJ.at yV (by have:=hB.size;omega),hb5⟩
 ·intro _ zZ w_ hB hr
  have e2:zZ.tmps[2]?=some (.pointer (some ⟨w.heap.size,0,none⟩)):=hr 2 (by decide);have k0:=aE hB b1.box.c0;have k1:=aE hB b1.box.c1;exact Rg.aG rfl (by go_simp)
 ·intro _ zZ w_ hB hr
  have e3:zZ.tmps[3]?=some (.pointer (some ⟨w.heap.size+1,0,none⟩)):=hr 3 (by decide);have k0:=aE hB b2.aM.c0;have k1:=aE hB b2.aM.c1;have k2:=aE hB b2.aM.c2;have k3:=aE hB b2.aM.c3;exact Rg.aG rfl (by go_simp)
 ·intro _ zZ w_ hB hr
  have e16:=Rg.a_ (hr 16 (by decide));have e17:=Rg.a_ (hr 17 (by decide));have ef:=Rg.ef zZ;refine Rg.aY rfl (by go_simp;exact ⟨rfl,rfl⟩) ?_;refine (PF.out _ _ _ _ _ (aF.below ox.out hB) (aF.below oz.out hB)).mono ?_;rintro e w5 ⟨zD,rfl,yV,hb5⟩;exact ⟨_,rfl,aJ.at yV (by have:=hB.size;omega),hb5⟩
 ·intro _ zZ w_ hB hr
  have e5:zZ.tmps[5]?=some (.int .i64 ((N:Nat):Int)):=hr 5 (by decide);exact Rg.aG rfl (by go_simp)
 ·intro _ zZ w_ hB hr
  obtain ⟨v18,e18,n18⟩:∃ v,zZ.tmps[18]?=some v∧(Rg.Val.at (aJ (wz.heap.size) (F))).ok v w_:=hr 18 (by decide);obtain ⟨s18,a18,l18,c18,GT,rfl,Nb⟩:=(Rg.af n18).view;have e19:=Rg.a_ (hr 19 (by decide));have ef:=Rg.ef zZ;obtain rfl:=GT.out;exact Rg.bU rfl (by go_simp) (PV.out _ _ _ Nb)
 ·intro _ zZ w_ hB hr
  obtain ⟨v15,e15,n15⟩:∃ v,zZ.tmps[15]?=some v∧(Rg.Val.at (aJ (wz.heap.size) (G))).ok v w_:=hr 15 (by decide);obtain ⟨s15,Dd,EA,c15,E0,rfl,FV⟩:=(Rg.af n15).view;have e20:=Rg.a_ (hr 20 (by decide));have ef:=Rg.ef zZ;obtain rfl:=E0.out;exact Rg.bU rfl (by go_simp) (PW.out _ _ _ FV)
 ·intro _ zZ w_ hB hr
  have e21:=Rg.a_ (hr 21 (by decide));exact Rg.aG rfl (by go_simp)
 intro vals wy hB2 hv hne;have AX:vals 9=.int .i64 ((RES:Nat):Int):=hv 9 (by decide);simp only [Rg.ak,Rg.fill,Act.put,Nat.reduceAdd];clear hv;simp only [AX];clear AX;unfold Rg.aW;go_wp2;go_ret;exact ⟨rfl,i_ hBw hB2⟩
namespace Wh
def DV (D F G:Int):Int:=if G<0 then -(F / (BW D F G:Nat)) else F / (BW D F G:Nat)
def DU (D F G:Int):Int:=if G<0 then -(G / (BW D F G:Nat)) else G / (BW D F G:Nat)
def dt (D F G:Int):Bool:=decide (G≠0) && cY (DV D F G) (DU D F G)
def BU (D F G:Int):Int:=if dt D F G=true then DV D F G else 0
def BV (D F G:Int):Int:=if dt D F G=true then DU D F G else 0
theorem ml {z:Int} {n:Nat} (h:sz z n) (d:Nat):sz (z / (d:Int)) (n+1):=by
 unfold sz at *;rw [Nat.pow_succ]
 have h1:(z / (d:Int)).natAbs≤z.natAbs+1:=by
  rcases Nat.eq_zero_or_pos d with rfl | hd
  ·simp
  have:=Int.natAbs_ediv_le_natAbs z (d:Int);omega
 have hp:0<10000 ^ n:=Nat.pow_pos (by decide);omega
theorem fA {z:Int}:(d_ z.natAbs).length=0 ↔ z=0:=by
 rw [List.length_eq_zero_iff,gG];omega
theorem qF {z:Int} {d:Nat} (hd:1≤d):decide (z / (d:Int)<0)=decide (z<0):=by
 rw [decide_eq_decide]
 constructor
 ·intro h
  rcases Int.lt_or_le z 0 with q | q
  ·exact q
  have:=Int.ediv_nonneg (b:=(d:Int)) q (by omega);omega
 intro h;exact Int.ediv_neg_of_neg_of_pos h (by omega)
end Wh
theorem fb (w:World) (k:Nat):ag w k (.slice none 0 0) 0:=by
 unfold ag;rw [show Wh.d_ (0:Int).natAbs=[] from Wh.gG.2 rfl];exact aF.nil _ _
theorem rA (a b x z:Int) (vx vz:Value) (w:World) (bx bz:Nat) (hg:M.good a b=true) (hox:ag w bx vx x) (zO:ag w bz vz z) (hx:Wh.sz x 1000) (hz:Wh.sz z 1000) :
  Calls Tryz.prog 149 #[.agg #[.int .i64 a,.int .i64 b],.agg #[.bool (decide (x<0)),vx,.bool (decide (z<0)),vz]] w fun e w'=>∃ v1 v2,e=.returned (.tuple #[.agg #[.bool (decide (Wh.BU (M.bC a b) (Wh.bR a b x z) (Wh.bJ a b x z)<0)),v1,.bool (decide (Wh.BV (M.bC a b) (Wh.bR a b x z) (Wh.bJ a b x z)<0)),v2],.bool (Wh.dt (M.bC a b) (Wh.bR a b x z) (Wh.bJ a b x z))])∧ag w' w.heap.size v1 (Wh.BU (M.bC a b) (Wh.bR a b x z) (Wh.bJ a b x z))∧ag w' w.heap.size v2 (Wh.BV (M.bC a b) (Wh.bR a b x z) (Wh.bJ a b x z))∧Below w.heap.size w w':=by
 obtain ⟨ax,cx,rfl,-,-⟩:=aF.view hox;obtain ⟨az,cz,rfl,-,-⟩:=aF.view zO;have hin:=M.bM hg;obtain ⟨ha1,ha2,hb1,hb2⟩:=M.an hin;have hdb:=eM hin;have hdn:=fR hg
 have PF:=fun v v' W k k' (h1:aF W k v (Wh.d_ x.natAbs)) (h2:aF W k' v' (Wh.d_ z.natAbs))=>gR a b x z v v' W k k' h1 h2 hx hz ha1 ha2 hb1 hb2
 have PG:=fun v v' W k k' (h1:aF W k v (Wh.d_ x.natAbs)) (h2:aF W k' v' (Wh.d_ z.natAbs))=>du a b x z v v' W k k' h1 h2 hx hz ha1 ha2 hb1 hb2
 have PD:=fun v v' W k k' (h1:aF W k v (Wh.d_ x.natAbs)) (h2:aF W k' v' (Wh.d_ z.natAbs))=>j7 a b x z v v' W k k' hg h1 h2 hx hz
 have zF:=Wh.mr hx hz ha1 ha2 hb1 hb2;have zG:=Wh.mj hx hz ha1 ha2 hb1 hb2;have hdv:=Wh.tI (Wh.bR a b x z) (Wh.bJ a b x z) hdn;generalize Wh.bJ a b x z=G,Wh.bR a b x z=F,M.bC a b=D at *;clear hin hg ha1 ha2 hb1 hb2 hdn hx hz
 obtain ⟨d,hd⟩:∃ d,Hid (Wh.BW D F G=d):=⟨_,yJ rfl⟩
 rw [hd.out] at hdv PD;have hd1:1≤d:=hdv.1
 have hd2:d≤1000000000000:=by omega
 clear hdv hdb;have sF:=Wh.aV.2 (Wh.aP zF (show 5000≤9000 by omega));have sG:=Wh.aV.2 (Wh.aP zG (show 6000≤9000 by omega));have zN:=Wh.ml zF d;have zE:=Wh.ml zG d;have sN:=Wh.aV.2 (Wh.aP zN (show 5000+1≤9000 by omega));have sE:=Wh.aV.2 (Wh.aP zE (show 6000+1≤9000 by omega))
 have PQ:=fun v W k (h:aF W k v (Wh.d_ F.natAbs))=>gX F (d:Int) v W k h sF (by omega) (by omega)
 have PR:=fun v W k (h:aF W k v (Wh.d_ G.natAbs))=>gX G (d:Int) v W k h sG (by omega) (by omega)
 generalize hs1:decide (x<0)=s1 at *;generalize hs2:decide (z<0)=s2 at *;clear hs1 hs2;replace hox:=yJ (show aF _ _ _ _ from hox);replace zO:=yJ (show aF _ _ _ _ from zO);generalize (Wh.d_ z.natAbs).length=lz,(Wh.d_ x.natAbs).length=lx at *;have C:=((aH.new w #[.int .i64 a,.int .i64 b] 29).alloc (.cells #[.bool s1,.slice ax lx cx,.bool s2,.slice az lz cz] 157)).alloc (.cells #[.bool false,.slice none 0 0,.bool false,.slice none 0 0] 157);have Q:=(aH.new (w.alloc (.cells #[.int .i64 a,.int .i64 b] 29)) #[.bool s1,.slice ax lx cx,.bool s2,.slice az lz cz] 157).alloc (.cells #[.bool false,.slice none 0 0,.bool false,.slice none 0 0] 157);rw [yK] at Q;have R:=aH.new ((w.alloc (.cells #[.int .i64 a,.int .i64 b] 29)).alloc (.cells #[.bool s1,.slice ax lx cx,.bool s2,.slice az lz cz] 157)) #[.bool false,.slice none 0 0,.bool false,.slice none 0 0] 157;rw [cU] at R;have B:=(((yM w.heap.size w).alloc (yN _) (.cells #[.int .i64 a,.int .i64 b] 29)).alloc (by rw [yK];omega) (.cells #[.bool s1,.slice ax lx cx,.bool s2,.slice az lz cz] 157)).alloc (by rw [cU];omega) (.cells #[.bool false,.slice none 0 0,.bool false,.slice none 0 0] 157);have ox:=yJ (aF.alloc (aF.alloc (aF.alloc hox.out (.cells #[.int .i64 a,.int .i64 b] 29)) (.cells #[.bool s1,.slice ax lx cx,.bool s2,.slice az lz cz] 157)) (.cells #[.bool false,.slice none 0 0,.bool false,.slice none 0 0] 157));have oz:=yJ (aF.alloc (aF.alloc (aF.alloc zO.out (.cells #[.int .i64 a,.int .i64 b] 29)) (.cells #[.bool s1,.slice ax lx cx,.bool s2,.slice az lz cz] 157)) (.cells #[.bool false,.slice none 0 0,.bool false,.slice none 0 0] 157));clear hox zO;generalize hw3:((w.alloc (.cells #[.int .i64 a,.int .i64 b] 29)).alloc (.cells #[.bool s1,.slice ax lx cx,.bool s2,.slice az lz cz] 157)).alloc (.cells #[.bool false,.slice none 0 0,.bool false,.slice none 0 0] 157)=wc at *;have j_:=C.box.c0;have o_:=C.box.c1;have zR:=Q.aM.c0;have zS:=Q.aM.c1;have zT:=Q.aM.c2;have zU:=Q.aM.c3;have r_:=R.aM.c0;have s_:=R.aM.c1;have yQ:=R.aM.c2;have yR:=R.aM.c3;have x_:=R.aM.f0;have yO:=R.aM.f1;have yS:=R.aM.f2;have yT:=R.aM.f3
 by_cases h0:G=0
 ·subst h0
  have hok:Wh.dt D F 0=false:=by unfold Wh.dt;simp
  have hX:Wh.BU D F 0=0:=by unfold Wh.BU;rw [hok];rfl
  have hZ:Wh.BV D F 0=0:=by unfold Wh.BV;rw [hok];rfl
  rw [hok,hX,hZ];have hl0:(Wh.d_ (0:Int).natAbs).length=0:=Wh.fA.2 rfl;have hs0:decide ((0:Int)<0)=false:=rfl;rw [hs0] at PG ⊢;clear hok hX hZ hs0 PF PD PQ PR sF sG zN zE sN sE zF zG hd hd1 hd2;replace PG:=yJ PG;go_enter Tryz.func149,Tryz.ntmps149
  go_wp2_with (go_at_call 148;(with_reducible refine (PG.out _ _ _ _ _ ox.out oz.out).mono ?_);rintro e w4 ⟨v4,rfl,yk,hb4⟩;have yo:=B.size;replace C:=C.keep hb4;replace Q:=Q.keep hb4;replace R:=R.keep hb4;replace ox:=kO ox hb4;replace oz:=kO oz hb4;replace B:=i_ B hb4;obtain ⟨a4,c4,rfl,yj,yi⟩:=aF.view yk;clear yj yi;have og:=yJ (aF.base (show aF _ _ _ _ from yk) yo);clear yk;clear yo;(rw [hl0] at og ⊢);have T:=aH.new w4 #[.bool false,.slice a4 0 c4] 136;have b_:=bA w4 (.cells #[.bool false,.slice a4 0 c4] 136);replace C:=C.keep b_;replace Q:=Q.keep b_;replace R:=R.keep b_;replace ox:=kO ox b_;replace oz:=kO oz b_;replace og:=kO og b_;replace B:=i_ B b_;clear b_;(replace ⟨j_,o_⟩:=C.b2);(replace ⟨zR,zS,zT,zU⟩:=Q.b4);(replace ⟨r_,s_,yQ,yR,x_,yO,yS,yT⟩:=R.ym);(replace ⟨yv,yw⟩:=T.b2))
  exact bodyPost_ret (v:=.tuple #[.agg #[.bool false,.slice none 0 0,.bool false,.slice none 0 0],.bool false]) (by simp [results,Tryz.results149,go_sem, *]) rfl (⟨_,_,rfl,fb _ _,fb _ _,yL (yL (yL (yL B (by simp <;> omega) _) (by simp <;> omega) _) (by simp <;> omega) _) (by simp <;> omega) _⟩)
 have hlp:¬ (Wh.d_ G.natAbs).length=0:=fun h=>h0 (Wh.fA.1 h)
 have hlq:(((Wh.d_ G.natAbs).length:Int) == 0)=false:=by rw [beq_eq_false_iff_ne];omega
 have hne:decide (G≠0)=true:=decide_eq_true h0;have CF:=Wh.qF (z:=G) hd1
 have PN:=fun v W k (h:aF W k v (Wh.d_ (F / (d:Int)).natAbs))=>iY (F / (d:Int)) v W k h (by omega)
 have PE:=fun v W k (h:aF W k v (Wh.d_ (G / (d:Int)).natAbs))=>iY (G / (d:Int)) v W k h (by omega)
 have CO:(Wh.d_ (-(F / (d:Int))).natAbs).length≤100000:=by rw [Int.natAbs_neg];omega
 have FP:(Wh.d_ (-(G / (d:Int))).natAbs).length≤100000:=by rw [Int.natAbs_neg];omega
 have Be:=fun v v' W k k' (h:aF W k v (Wh.d_ (F / (d:Int)).natAbs)) (h':aF W k' v' (Wh.d_ (G / (d:Int)).natAbs))=>lJ (F / (d:Int)) (G / (d:Int)) v v' W k k' h h' (by omega) (by omega)
 have CX:=fun v v' W k k' (h:aF W k v (Wh.d_ (-(F / (d:Int))).natAbs)) (h':aF W k' v' (Wh.d_ (-(G / (d:Int))).natAbs))=>lJ (-(F / (d:Int))) (-(G / (d:Int))) v v' W k k' h h' CO FP
 have FK:Wh.dt D F G=Wh.cY (if G<0 then -(F / (d:Int)) else F / (d:Int)) (if G<0 then -(G / (d:Int)) else G / (d:Int)):=by unfold Wh.dt Wh.DV Wh.DU;rw [hd.out,hne];rfl
 have eX:Wh.BU D F G=if Wh.dt D F G=true then (if G<0 then -(F / (d:Int)) else F / (d:Int)) else 0:=by unfold Wh.BU Wh.DV;rw [hd.out]
 have eZ:Wh.BV D F G=if Wh.dt D F G=true then (if G<0 then -(G / (d:Int)) else G / (d:Int)) else 0:=by unfold Wh.BV Wh.DU;rw [hd.out]
 rw [eX,eZ,FK];clear eX eZ FK CO FP hne h0 sF sG zN zE sN sE zF zG;generalize F / (d:Int)=N at *;generalize G / (d:Int)=E at *;generalize F % (d:Int)=rF at *;generalize G % (d:Int)=rG at *;generalize decide (F<0)=sF at *;clear hd
 by_cases hneg:G<0
 ·have hsg:decide (G<0)=true:=decide_eq_true hneg
  rw [hsg] at CF PG;rw [if_pos hneg,if_pos hneg];simp only [hsg,CF] at PR PE Be;clear Be;generalize CO:decide (N<0)=sN at *;replace PG:=yJ PG;replace PF:=yJ PF;replace PD:=yJ PD;replace PQ:=yJ PQ;replace PR:=yJ PR;replace PN:=yJ PN;replace PE:=yJ PE;replace CX:=yJ CX;replace CO:=yJ CO;replace CF:=yJ CF;clear hneg hsg hd1 hd2
  by_cases hok:Wh.cY (-N) (-E)=true
  ·skip
   rw [hok];replace hok:=yJ hok;rw [if_pos rfl,if_pos rfl];go_enter Tryz.func149,Tryz.ntmps149
   go_upto_region 8 with (first
    | (go_at_call 148;(with_reducible refine (PG.out _ _ _ _ _ ox.out oz.out).mono ?_);rintro e w4 ⟨v4,rfl,yk,hb4⟩;have yo:=B.size;replace C:=C.keep hb4;replace Q:=Q.keep hb4;replace R:=R.keep hb4;replace ox:=kO ox hb4;replace oz:=kO oz hb4;replace B:=i_ B hb4;obtain ⟨a4,c4,rfl,yj,yi⟩:=aF.view yk;clear yj yi;have og:=yJ (aF.base (show aF _ _ _ _ from yk) yo);clear yk;(generalize (Wh.d_ G.natAbs).length=lg at *);clear yo;have T:=aH.new w4 #[.bool true,.slice a4 lg c4] 136;have b_:=bA w4 (.cells #[.bool true,.slice a4 lg c4] 136);replace C:=C.keep b_;replace Q:=Q.keep b_;replace R:=R.keep b_;replace ox:=kO ox b_;replace oz:=kO oz b_;replace og:=kO og b_;replace B:=i_ B b_;clear b_;(replace ⟨j_,o_⟩:=C.b2);(replace ⟨zR,zS,zT,zU⟩:=Q.b4);(replace ⟨r_,s_,yQ,yR,x_,yO,yS,yT⟩:=R.ym);(replace ⟨yv,yw⟩:=T.b2))
    | (go_at_call 167;(with_reducible refine (PD.out _ _ _ _ _ ox.out oz.out).mono ?_);rintro e w6 ⟨rfl,hb6⟩;replace C:=C.keep hb6;replace Q:=Q.keep hb6;replace R:=R.keep hb6;replace T:=T.keep hb6;replace ox:=kO ox hb6;replace oz:=kO oz hb6;replace og:=kO og hb6;replace B:=i_ B hb6;(replace ⟨j_,o_⟩:=C.b2);(replace ⟨zR,zS,zT,zU⟩:=Q.b4);(replace ⟨r_,s_,yQ,yR,x_,yO,yS,yT⟩:=R.ym);(replace ⟨yv,yw⟩:=T.b2))
    | (go_at_call 169;(with_reducible refine (PF.out _ _ _ _ _ ox.out oz.out).mono ?_);rintro e w7 ⟨v7,rfl,At,yh⟩;have yo:=B.size;replace C:=C.keep yh;replace Q:=Q.keep yh;replace R:=R.keep yh;replace T:=T.keep yh;replace ox:=kO ox yh;replace oz:=kO oz yh;replace og:=kO og yh;replace B:=i_ B yh;obtain ⟨a7,c7,rfl,yj,yi⟩:=aF.view At;clear yj yi;have of:=yJ (aF.base (show aF _ _ _ _ from At) yo);clear At;(generalize (Wh.d_ F.natAbs).length=lf at *);clear yo;(replace ⟨j_,o_⟩:=C.b2);(replace ⟨zR,zS,zT,zU⟩:=Q.b4);(replace ⟨r_,s_,yQ,yR,x_,yO,yS,yT⟩:=R.ym);(replace ⟨yv,yw⟩:=T.b2))
    | (go_at_call 168;(with_reducible refine (PQ.out _ _ _ of.out).mono ?_);rintro e w8 ⟨v8,rfl,AC,ya⟩;have yo:=B.size;replace C:=C.keep ya;replace Q:=Q.keep ya;replace R:=R.keep ya;replace T:=T.keep ya;replace ox:=kO ox ya;replace oz:=kO oz ya;replace og:=kO og ya;replace of:=kO of ya;replace B:=i_ B ya;obtain ⟨a8,c8,rfl,yj,yi⟩:=aF.view AC;clear yj yi;have on:=yJ (aF.base (show aF _ _ _ _ from AC) yo);clear AC;(generalize (Wh.d_ N.natAbs).length=ln at *);clear yo;have Ep:=yJ R.lt;have U:=aH.new w8 #[.bool sN,.slice a8 ln c8] 136;have b_:=bA w8 (.cells #[.bool sN,.slice a8 ln c8] 136);replace C:=C.keep b_;replace Q:=Q.keep b_;replace R:=R.keep b_;replace T:=T.keep b_;replace ox:=kO ox b_;replace oz:=kO oz b_;replace og:=kO og b_;replace of:=kO of b_;replace on:=kO on b_;replace B:=i_ B b_;clear b_;(replace ⟨j_,o_⟩:=C.b2);(replace ⟨zR,zS,zT,zU⟩:=Q.b4);(replace ⟨r_,s_,yQ,yR,x_,yO,yS,yT⟩:=R.ym);(replace ⟨yv,yw⟩:=T.b2);(replace ⟨yd,ye⟩:=U.b2))
    | (go_at_call 168;(with_reducible refine (PR.out _ _ _ og.out).mono ?_);rintro e w9 ⟨v9,rfl,Ac,yc⟩;have yo:=B.size;replace C:=C.keep yc;replace Q:=Q.keep yc;replace R:=R.keep yc;replace T:=T.keep yc;replace U:=U.keep yc;replace ox:=kO ox yc;replace oz:=kO oz yc;replace og:=kO og yc;replace of:=kO of yc;replace on:=kO on yc;replace B:=i_ B yc;obtain ⟨a9,c9,rfl,yj,yi⟩:=aF.view Ac;clear yj yi;have oe:=yJ (aF.base (show aF _ _ _ _ from Ac) yo);clear Ac;(generalize (Wh.d_ E.natAbs).length=le at *);clear yo;have V:=aH.new w9 #[.bool true,.slice a9 le c9] 136;have b_:=bA w9 (.cells #[.bool true,.slice a9 le c9] 136);replace C:=C.keep b_;replace Q:=Q.keep b_;replace R:=R.keep b_;replace T:=T.keep b_;replace U:=U.keep b_;replace ox:=kO ox b_;replace oz:=kO oz b_;replace og:=kO og b_;replace of:=kO of b_;replace on:=kO on b_;replace oe:=kO oe b_;replace B:=i_ B b_;clear b_;(replace ⟨j_,o_⟩:=C.b2);(replace ⟨zR,zS,zT,zU⟩:=Q.b4);(replace ⟨r_,s_,yQ,yR,x_,yO,yS,yT⟩:=R.ym);(replace ⟨yv,yw⟩:=T.b2);(replace ⟨yd,ye,zp,zu⟩:=U.zY);(replace ⟨yf,yg,zv,zw⟩:=V.zY)))
   have MZ:w8.heap.size<w9.heap.size:=Nat.lt_of_lt_of_le (by rw [yK];exact Nat.lt_succ_self _) yc.size;generalize w9.alloc (.cells #[.bool true,.slice a9 le c9] 136)=wd at *;refine Rg.bK 4 [.is (.agg #[.bool sN,.slice a8 ln c8]),.at (aJ (wd.heap.size) (-N)),.is (.agg #[.bool true,.slice a9 le c9]),.at (aJ (wd.heap.size) (-E))] (by kernel_rfl) (by kernel_rfl) (by kernel_rfl) ⟨?_,?_,?_,?_,fun h_=>absurd h_ (by decide),fun h_=>absurd h_ (by decide),trivial⟩ ?_
   ·intro _ zZ w_ hB hr
    have e8:zZ.tmps[8]?=some (.pointer (some ⟨w8.heap.size,0,none⟩)):=hr 8 (by decide);have k0:=aE hB U.box.c0;have k1:=aE hB U.box.c1;exact Rg.aG rfl (by go_simp)
   ·intro _ zZ w_ hB hr
    have e40:=Rg.a_ (hr 40 (by decide));have ef:=Rg.ef zZ;refine Rg.aY rfl (by go_simp;exact ⟨rfl,rfl⟩) ?_;refine (PN.out _ _ _ (aF.below on.out hB)).mono ?_;rintro e w5 ⟨zD,rfl,yV,hb5⟩;exact ⟨_,rfl,aJ.at yV (by have:=hB.size;omega),hb5⟩
   ·intro _ zZ w_ hB hr
    have e10:zZ.tmps[10]?=some (.pointer (some ⟨w9.heap.size,0,none⟩)):=hr 10 (by decide);have k0:=aE hB V.box.c0;have k1:=aE hB V.box.c1;exact Rg.aG rfl (by go_simp)
   ·intro _ zZ w_ hB hr
    have e42:=Rg.a_ (hr 42 (by decide));have ef:=Rg.ef zZ;refine Rg.aY rfl (by go_simp;exact ⟨rfl,rfl⟩) ?_;refine (PE.out _ _ _ (aF.below oe.out hB)).mono ?_;rintro e w5 ⟨zD,rfl,yV,hb5⟩;exact ⟨_,rfl,aJ.at yV (by have:=hB.size;omega),hb5⟩
   intro vals wz hB hv hne;have n41:(Rg.Val.at (aJ (wd.heap.size) (-N))).ok (vals 1) wz:=hv 1 (by decide);have n43:(Rg.Val.at (aJ (wd.heap.size) (-E))).ok (vals 3) wz:=hv 3 (by decide);simp only [Rg.ak,Rg.fill,Act.put,Nat.reduceAdd];clear hv;obtain ⟨Al,a41,Aj,Ai,DJ,v_1,Gj⟩:=(Rg.af n41).view;obtain ⟨s43,a43,BM,BJ,E4,FW,Is⟩:=(Rg.af n43).view;simp only [v_1,FW];clear v_1 FW;have U2:=U.keep hB;have V2:=V.keep hB;have R2:=R.keep hB
   have En:w8.heap.size≠w9.heap.size:=by omega
   have Fw:=En.symm;have V3:aH ((wz.setCell ⟨w8.heap.size,0,none⟩ (.bool Al)).setCell ⟨w8.heap.size,1,none⟩ (.slice a41 Aj Ai)) w9.heap.size 136 #[.bool true,.slice a9 le c9]:=(V2.other Fw _).other Fw _;have V4:=aH.set2 V3 (.bool s43) (.slice a43 BM BJ);have U4:aH ((((wz.setCell ⟨w8.heap.size,0,none⟩ (.bool Al)).setCell ⟨w8.heap.size,1,none⟩ (.slice a41 Aj Ai)).setCell ⟨w9.heap.size,0,none⟩ (.bool s43)).setCell ⟨w9.heap.size,1,none⟩ (.slice a43 BM BJ)) w8.heap.size 136 #[.bool Al,.slice a41 Aj Ai]:=((aH.set2 U2 (.bool Al) (.slice a41 Aj Ai)).other En _).other En _;have oN:=yJ (aF.bF (aF.bF (aF.base Gj B.size) U2 (by decide) (.bool Al) (.slice a41 Aj Ai)) V3 (by decide) (.bool s43) (.slice a43 BM BJ));have oE:=yJ (aF.bF (aF.bF (aF.base Is B.size) U2 (by decide) (.bool Al) (.slice a41 Aj Ai)) V3 (by decide) (.bool s43) (.slice a43 BM BJ));have hw8:w.heap.size+1+1<w8.heap.size:=Ep.out
   have F_:w.heap.size+1+1≠w9.heap.size:=by omega
   have FM:w.heap.size+1+1≠w8.heap.size:=by omega
   have R4:aH ((((wz.setCell ⟨w8.heap.size,0,none⟩ (.bool Al)).setCell ⟨w8.heap.size,1,none⟩ (.slice a41 Aj Ai)).setCell ⟨w9.heap.size,0,none⟩ (.bool s43)).setCell ⟨w9.heap.size,1,none⟩ (.slice a43 BM BJ)) (w.heap.size+1+1) 157 #[.bool false,.slice none 0 0,.bool false,.slice none 0 0]:=(((R2.other FM _).other FM _).other F_ _).other F_ _;have B4:Below w.heap.size w ((((wz.setCell ⟨w8.heap.size,0,none⟩ (.bool Al)).setCell ⟨w8.heap.size,1,none⟩ (.slice a41 Aj Ai)).setCell ⟨w9.heap.size,0,none⟩ (.bool s43)).setCell ⟨w9.heap.size,1,none⟩ (.slice a43 BM BJ)):=yL (yL (yL (yL (i_ B hB) (by simp <;> omega) _) (by simp <;> omega) _) (by simp <;> omega) _) (by simp <;> omega) _;have ⟨p0,p1,q0,q1,_⟩:=U2.box;have ⟨p2,p3,q2,q3,_⟩:=V2.box;unfold Rg.aW Rg.aW Rg.aW Oper.wp
   go_simp
   clear p0 p1 q0 q1 p2 p3 q2 q3 U2 V2 V3 R2 Gj Is hB U V R C Q T B ox oz og of on oe FM F_ En Fw MZ j_ o_ zR zS zT zU r_ s_ yQ yR x_ yO yS yT yd ye yf yg zp zu zv zw;generalize ((((wz.setCell ⟨w8.heap.size,0,none⟩ (.bool Al)).setCell ⟨w8.heap.size,1,none⟩ (.slice a41 Aj Ai)).setCell ⟨w9.heap.size,0,none⟩ (.bool s43)).setCell ⟨w9.heap.size,1,none⟩ (.slice a43 BM BJ))=wf at *;have EX:=CX.out;rw [←DJ.out,←E4.out] at EX;replace EX:=yJ EX
   rename aH _ w8.heap.size _ _=>U
   rename aH _ w9.heap.size _ _=>V
   rename aH _ (w.heap.size+1+1) _ _=>R
   rename Below _ _ wf=>B
   have yd:=U.box.c0;have ye:=U.box.c1;have yf:=V.box.c0;have yg:=V.box.c1
   go_wp2_with (go_at_call 170;have O:=aH.new wf #[.bool Al,.slice a41 Aj Ai,.bool s43,.slice a43 BM BJ] 157;have b_:=bA wf (.cells #[.bool Al,.slice a41 Aj Ai,.bool s43,.slice a43 BM BJ] 157);replace R:=R.keep b_;replace oN:=kO oN b_;replace oE:=kO oE b_;replace B:=i_ B b_;clear b_;(with_reducible refine (EX.out _ _ _ _ _ oN.out oE.out).mono ?_);rintro e EU ⟨rfl,yP⟩;(simp only [hok.out]);replace R:=R.keep yP;replace O:=O.keep yP;replace oN:=kO oN yP;replace oE:=kO oE yP;replace B:=i_ B yP;(replace ⟨r_,s_,yQ,yR,x_,yO,yS,yT⟩:=R.ym);(replace ⟨AY,AZ,Aa,Ab⟩:=O.b4))
   have hr1:=aF.base (aF.dM oN.out R (by decide) (.bool Al) (.slice a41 Aj Ai) (.bool s43) (.slice a43 BM BJ)) (base':=w.heap.size) (by first | exact yN _ | omega);have hr2:=aF.base (aF.dM oE.out R (by decide) (.bool Al) (.slice a41 Aj Ai) (.bool s43) (.slice a43 BM BJ)) (base':=w.heap.size) (by first | exact yN _ | omega);exact bodyPost_ret (v:=.tuple #[.agg #[.bool Al,.slice a41 Aj Ai,.bool s43,.slice a43 BM BJ],.bool true]) (by simp [results,Tryz.results149,go_sem, *]) rfl (⟨_,_,(by rw [DJ.out,E4.out]),hr1,hr2,yL (yL (yL (yL B (by simp <;> omega) _) (by simp <;> omega) _) (by simp <;> omega) _) (by simp <;> omega) _⟩)
  replace hok:Wh.cY (-N) (-E)=false:=by simpa using hok
  rw [hok];replace hok:=yJ hok;rw [if_neg (by decide),if_neg (by decide)];go_enter Tryz.func149,Tryz.ntmps149
  go_upto_region 8 with (first
   | (go_at_call 148;(with_reducible refine (PG.out _ _ _ _ _ ox.out oz.out).mono ?_);rintro e w4 ⟨v4,rfl,yk,hb4⟩;have yo:=B.size;replace C:=C.keep hb4;replace Q:=Q.keep hb4;replace R:=R.keep hb4;replace ox:=kO ox hb4;replace oz:=kO oz hb4;replace B:=i_ B hb4;obtain ⟨a4,c4,rfl,yj,yi⟩:=aF.view yk;clear yj yi;have og:=yJ (aF.base (show aF _ _ _ _ from yk) yo);clear yk;(generalize (Wh.d_ G.natAbs).length=lg at *);clear yo;have T:=aH.new w4 #[.bool true,.slice a4 lg c4] 136;have b_:=bA w4 (.cells #[.bool true,.slice a4 lg c4] 136);replace C:=C.keep b_;replace Q:=Q.keep b_;replace R:=R.keep b_;replace ox:=kO ox b_;replace oz:=kO oz b_;replace og:=kO og b_;replace B:=i_ B b_;clear b_;(replace ⟨j_,o_⟩:=C.b2);(replace ⟨zR,zS,zT,zU⟩:=Q.b4);(replace ⟨r_,s_,yQ,yR,x_,yO,yS,yT⟩:=R.ym);(replace ⟨yv,yw⟩:=T.b2))
   | (go_at_call 167;(with_reducible refine (PD.out _ _ _ _ _ ox.out oz.out).mono ?_);rintro e w6 ⟨rfl,hb6⟩;replace C:=C.keep hb6;replace Q:=Q.keep hb6;replace R:=R.keep hb6;replace T:=T.keep hb6;replace ox:=kO ox hb6;replace oz:=kO oz hb6;replace og:=kO og hb6;replace B:=i_ B hb6;(replace ⟨j_,o_⟩:=C.b2);(replace ⟨zR,zS,zT,zU⟩:=Q.b4);(replace ⟨r_,s_,yQ,yR,x_,yO,yS,yT⟩:=R.ym);(replace ⟨yv,yw⟩:=T.b2))
   | (go_at_call 169;(with_reducible refine (PF.out _ _ _ _ _ ox.out oz.out).mono ?_);rintro e w7 ⟨v7,rfl,At,yh⟩;have yo:=B.size;replace C:=C.keep yh;replace Q:=Q.keep yh;replace R:=R.keep yh;replace T:=T.keep yh;replace ox:=kO ox yh;replace oz:=kO oz yh;replace og:=kO og yh;replace B:=i_ B yh;obtain ⟨a7,c7,rfl,yj,yi⟩:=aF.view At;clear yj yi;have of:=yJ (aF.base (show aF _ _ _ _ from At) yo);clear At;(generalize (Wh.d_ F.natAbs).length=lf at *);clear yo;(replace ⟨j_,o_⟩:=C.b2);(replace ⟨zR,zS,zT,zU⟩:=Q.b4);(replace ⟨r_,s_,yQ,yR,x_,yO,yS,yT⟩:=R.ym);(replace ⟨yv,yw⟩:=T.b2))
   | (go_at_call 168;(with_reducible refine (PQ.out _ _ _ of.out).mono ?_);rintro e w8 ⟨v8,rfl,AC,ya⟩;have yo:=B.size;replace C:=C.keep ya;replace Q:=Q.keep ya;replace R:=R.keep ya;replace T:=T.keep ya;replace ox:=kO ox ya;replace oz:=kO oz ya;replace og:=kO og ya;replace of:=kO of ya;replace B:=i_ B ya;obtain ⟨a8,c8,rfl,yj,yi⟩:=aF.view AC;clear yj yi;have on:=yJ (aF.base (show aF _ _ _ _ from AC) yo);clear AC;(generalize (Wh.d_ N.natAbs).length=ln at *);clear yo;have Ep:=yJ R.lt;have U:=aH.new w8 #[.bool sN,.slice a8 ln c8] 136;have b_:=bA w8 (.cells #[.bool sN,.slice a8 ln c8] 136);replace C:=C.keep b_;replace Q:=Q.keep b_;replace R:=R.keep b_;replace T:=T.keep b_;replace ox:=kO ox b_;replace oz:=kO oz b_;replace og:=kO og b_;replace of:=kO of b_;replace on:=kO on b_;replace B:=i_ B b_;clear b_;(replace ⟨j_,o_⟩:=C.b2);(replace ⟨zR,zS,zT,zU⟩:=Q.b4);(replace ⟨r_,s_,yQ,yR,x_,yO,yS,yT⟩:=R.ym);(replace ⟨yv,yw⟩:=T.b2);(replace ⟨yd,ye⟩:=U.b2))
   | (go_at_call 168;(with_reducible refine (PR.out _ _ _ og.out).mono ?_);rintro e w9 ⟨v9,rfl,Ac,yc⟩;have yo:=B.size;replace C:=C.keep yc;replace Q:=Q.keep yc;replace R:=R.keep yc;replace T:=T.keep yc;replace U:=U.keep yc;replace ox:=kO ox yc;replace oz:=kO oz yc;replace og:=kO og yc;replace of:=kO of yc;replace on:=kO on yc;replace B:=i_ B yc;obtain ⟨a9,c9,rfl,yj,yi⟩:=aF.view Ac;clear yj yi;have oe:=yJ (aF.base (show aF _ _ _ _ from Ac) yo);clear Ac;(generalize (Wh.d_ E.natAbs).length=le at *);clear yo;have V:=aH.new w9 #[.bool true,.slice a9 le c9] 136;have b_:=bA w9 (.cells #[.bool true,.slice a9 le c9] 136);replace C:=C.keep b_;replace Q:=Q.keep b_;replace R:=R.keep b_;replace T:=T.keep b_;replace U:=U.keep b_;replace ox:=kO ox b_;replace oz:=kO oz b_;replace og:=kO og b_;replace of:=kO of b_;replace on:=kO on b_;replace oe:=kO oe b_;replace B:=i_ B b_;clear b_;(replace ⟨j_,o_⟩:=C.b2);(replace ⟨zR,zS,zT,zU⟩:=Q.b4);(replace ⟨r_,s_,yQ,yR,x_,yO,yS,yT⟩:=R.ym);(replace ⟨yv,yw⟩:=T.b2);(replace ⟨yd,ye,zp,zu⟩:=U.zY);(replace ⟨yf,yg,zv,zw⟩:=V.zY)))
  have MZ:w8.heap.size<w9.heap.size:=Nat.lt_of_lt_of_le (by rw [yK];exact Nat.lt_succ_self _) yc.size;generalize w9.alloc (.cells #[.bool true,.slice a9 le c9] 136)=wd at *;refine Rg.bK 4 [.is (.agg #[.bool sN,.slice a8 ln c8]),.at (aJ (wd.heap.size) (-N)),.is (.agg #[.bool true,.slice a9 le c9]),.at (aJ (wd.heap.size) (-E))] (by kernel_rfl) (by kernel_rfl) (by kernel_rfl) ⟨?_,?_,?_,?_,fun h_=>absurd h_ (by decide),fun h_=>absurd h_ (by decide),trivial⟩ ?_
  ·intro _ zZ w_ hB hr
   have e8:zZ.tmps[8]?=some (.pointer (some ⟨w8.heap.size,0,none⟩)):=hr 8 (by decide);have k0:=aE hB U.box.c0;have k1:=aE hB U.box.c1;exact Rg.aG rfl (by go_simp)
  ·intro _ zZ w_ hB hr
   have e40:=Rg.a_ (hr 40 (by decide));have ef:=Rg.ef zZ;refine Rg.aY rfl (by go_simp;exact ⟨rfl,rfl⟩) ?_;refine (PN.out _ _ _ (aF.below on.out hB)).mono ?_;rintro e w5 ⟨zD,rfl,yV,hb5⟩;exact ⟨_,rfl,aJ.at yV (by have:=hB.size;omega),hb5⟩
  ·intro _ zZ w_ hB hr
   have e10:zZ.tmps[10]?=some (.pointer (some ⟨w9.heap.size,0,none⟩)):=hr 10 (by decide);have k0:=aE hB V.box.c0;have k1:=aE hB V.box.c1;exact Rg.aG rfl (by go_simp)
  ·intro _ zZ w_ hB hr
   have e42:=Rg.a_ (hr 42 (by decide));have ef:=Rg.ef zZ;refine Rg.aY rfl (by go_simp;exact ⟨rfl,rfl⟩) ?_;refine (PE.out _ _ _ (aF.below oe.out hB)).mono ?_;rintro e w5 ⟨zD,rfl,yV,hb5⟩;exact ⟨_,rfl,aJ.at yV (by have:=hB.size;omega),hb5⟩
  intro vals wz hB hv hne;have n41:(Rg.Val.at (aJ (wd.heap.size) (-N))).ok (vals 1) wz:=hv 1 (by decide);have n43:(Rg.Val.at (aJ (wd.heap.size) (-E))).ok (vals 3) wz:=hv 3 (by decide);simp only [Rg.ak,Rg.fill,Act.put,Nat.reduceAdd];clear hv;obtain ⟨Al,a41,Aj,Ai,DJ,v_1,Gj⟩:=(Rg.af n41).view;obtain ⟨s43,a43,BM,BJ,E4,FW,Is⟩:=(Rg.af n43).view;simp only [v_1,FW];clear v_1 FW;have U2:=U.keep hB;have V2:=V.keep hB;have R2:=R.keep hB
  have En:w8.heap.size≠w9.heap.size:=by omega
  have Fw:=En.symm;have V3:aH ((wz.setCell ⟨w8.heap.size,0,none⟩ (.bool Al)).setCell ⟨w8.heap.size,1,none⟩ (.slice a41 Aj Ai)) w9.heap.size 136 #[.bool true,.slice a9 le c9]:=(V2.other Fw _).other Fw _;have V4:=aH.set2 V3 (.bool s43) (.slice a43 BM BJ);have U4:aH ((((wz.setCell ⟨w8.heap.size,0,none⟩ (.bool Al)).setCell ⟨w8.heap.size,1,none⟩ (.slice a41 Aj Ai)).setCell ⟨w9.heap.size,0,none⟩ (.bool s43)).setCell ⟨w9.heap.size,1,none⟩ (.slice a43 BM BJ)) w8.heap.size 136 #[.bool Al,.slice a41 Aj Ai]:=((aH.set2 U2 (.bool Al) (.slice a41 Aj Ai)).other En _).other En _;have oN:=yJ (aF.bF (aF.bF (aF.base Gj B.size) U2 (by decide) (.bool Al) (.slice a41 Aj Ai)) V3 (by decide) (.bool s43) (.slice a43 BM BJ));have oE:=yJ (aF.bF (aF.bF (aF.base Is B.size) U2 (by decide) (.bool Al) (.slice a41 Aj Ai)) V3 (by decide) (.bool s43) (.slice a43 BM BJ));have hw8:w.heap.size+1+1<w8.heap.size:=Ep.out
  have F_:w.heap.size+1+1≠w9.heap.size:=by omega
  have FM:w.heap.size+1+1≠w8.heap.size:=by omega
  have R4:aH ((((wz.setCell ⟨w8.heap.size,0,none⟩ (.bool Al)).setCell ⟨w8.heap.size,1,none⟩ (.slice a41 Aj Ai)).setCell ⟨w9.heap.size,0,none⟩ (.bool s43)).setCell ⟨w9.heap.size,1,none⟩ (.slice a43 BM BJ)) (w.heap.size+1+1) 157 #[.bool false,.slice none 0 0,.bool false,.slice none 0 0]:=(((R2.other FM _).other FM _).other F_ _).other F_ _;have B4:Below w.heap.size w ((((wz.setCell ⟨w8.heap.size,0,none⟩ (.bool Al)).setCell ⟨w8.heap.size,1,none⟩ (.slice a41 Aj Ai)).setCell ⟨w9.heap.size,0,none⟩ (.bool s43)).setCell ⟨w9.heap.size,1,none⟩ (.slice a43 BM BJ)):=yL (yL (yL (yL (i_ B hB) (by simp <;> omega) _) (by simp <;> omega) _) (by simp <;> omega) _) (by simp <;> omega) _;have ⟨p0,p1,q0,q1,_⟩:=U2.box;have ⟨p2,p3,q2,q3,_⟩:=V2.box;unfold Rg.aW Rg.aW Rg.aW Oper.wp
  go_simp
  clear p0 p1 q0 q1 p2 p3 q2 q3 U2 V2 V3 R2 Gj Is hB U V R C Q T B ox oz og of on oe FM F_ En Fw MZ j_ o_ zR zS zT zU r_ s_ yQ yR x_ yO yS yT yd ye yf yg zp zu zv zw;generalize ((((wz.setCell ⟨w8.heap.size,0,none⟩ (.bool Al)).setCell ⟨w8.heap.size,1,none⟩ (.slice a41 Aj Ai)).setCell ⟨w9.heap.size,0,none⟩ (.bool s43)).setCell ⟨w9.heap.size,1,none⟩ (.slice a43 BM BJ))=wf at *;have EX:=CX.out;rw [←DJ.out,←E4.out] at EX;replace EX:=yJ EX
  rename aH _ w8.heap.size _ _=>U
  rename aH _ w9.heap.size _ _=>V
  rename aH _ (w.heap.size+1+1) _ _=>R
  rename Below _ _ wf=>B
  have yd:=U.box.c0;have ye:=U.box.c1;have yf:=V.box.c0;have yg:=V.box.c1
  go_wp2_with (go_at_call 170;have O:=aH.new wf #[.bool Al,.slice a41 Aj Ai,.bool s43,.slice a43 BM BJ] 157;have b_:=bA wf (.cells #[.bool Al,.slice a41 Aj Ai,.bool s43,.slice a43 BM BJ] 157);replace R:=R.keep b_;replace oN:=kO oN b_;replace oE:=kO oE b_;replace B:=i_ B b_;clear b_;(with_reducible refine (EX.out _ _ _ _ _ oN.out oE.out).mono ?_);rintro e EU ⟨rfl,yP⟩;(simp only [hok.out]);replace R:=R.keep yP;replace O:=O.keep yP;replace oN:=kO oN yP;replace oE:=kO oE yP;replace B:=i_ B yP;(replace ⟨r_,s_,yQ,yR,x_,yO,yS,yT⟩:=R.ym);(replace ⟨AY,AZ,Aa,Ab⟩:=O.b4))
  exact bodyPost_ret (v:=.tuple #[.agg #[.bool false,.slice none 0 0,.bool false,.slice none 0 0],.bool false]) (by simp [results,Tryz.results149,go_sem, *]) rfl (⟨_,_,rfl,fb _ _,fb _ _,yL (yL (yL (yL B (by simp <;> omega) _) (by simp <;> omega) _) (by simp <;> omega) _) (by simp <;> omega) _⟩)
 have hsg:decide (G<0)=false:=decide_eq_false hneg;rw [hsg] at CF PG;rw [if_neg hneg,if_neg hneg];simp only [hsg,CF] at PR PE Be;clear CX PN PE;generalize CO:decide (N<0)=sN at *;replace PG:=yJ PG;replace PF:=yJ PF;replace PD:=yJ PD;replace PQ:=yJ PQ;replace PR:=yJ PR;replace Be:=yJ Be;replace CO:=yJ CO;replace CF:=yJ CF;clear hneg hsg hd1 hd2
 by_cases hok:Wh.cY (N) (E)=true
 ·skip
  rw [hok];replace hok:=yJ hok;rw [if_pos rfl,if_pos rfl];go_enter Tryz.func149,Tryz.ntmps149
  go_wp2_with (first
   | (go_at_call 148;(with_reducible refine (PG.out _ _ _ _ _ ox.out oz.out).mono ?_);rintro e w4 ⟨v4,rfl,yk,hb4⟩;have yo:=B.size;replace C:=C.keep hb4;replace Q:=Q.keep hb4;replace R:=R.keep hb4;replace ox:=kO ox hb4;replace oz:=kO oz hb4;replace B:=i_ B hb4;obtain ⟨a4,c4,rfl,yj,yi⟩:=aF.view yk;clear yj yi;have og:=yJ (aF.base (show aF _ _ _ _ from yk) yo);clear yk;(generalize (Wh.d_ G.natAbs).length=lg at *);clear yo;have T:=aH.new w4 #[.bool false,.slice a4 lg c4] 136;have b_:=bA w4 (.cells #[.bool false,.slice a4 lg c4] 136);replace C:=C.keep b_;replace Q:=Q.keep b_;replace R:=R.keep b_;replace ox:=kO ox b_;replace oz:=kO oz b_;replace og:=kO og b_;replace B:=i_ B b_;clear b_;(replace ⟨j_,o_⟩:=C.b2);(replace ⟨zR,zS,zT,zU⟩:=Q.b4);(replace ⟨r_,s_,yQ,yR,x_,yO,yS,yT⟩:=R.ym);(replace ⟨yv,yw⟩:=T.b2))
   | (go_at_call 167;(with_reducible refine (PD.out _ _ _ _ _ ox.out oz.out).mono ?_);rintro e w6 ⟨rfl,hb6⟩;replace C:=C.keep hb6;replace Q:=Q.keep hb6;replace R:=R.keep hb6;replace T:=T.keep hb6;replace ox:=kO ox hb6;replace oz:=kO oz hb6;replace og:=kO og hb6;replace B:=i_ B hb6;(replace ⟨j_,o_⟩:=C.b2);(replace ⟨zR,zS,zT,zU⟩:=Q.b4);(replace ⟨r_,s_,yQ,yR,x_,yO,yS,yT⟩:=R.ym);(replace ⟨yv,yw⟩:=T.b2))
   | (go_at_call 169;(with_reducible refine (PF.out _ _ _ _ _ ox.out oz.out).mono ?_);rintro e w7 ⟨v7,rfl,At,yh⟩;have yo:=B.size;replace C:=C.keep yh;replace Q:=Q.keep yh;replace R:=R.keep yh;replace T:=T.keep yh;replace ox:=kO ox yh;replace oz:=kO oz yh;replace og:=kO og yh;replace B:=i_ B yh;obtain ⟨a7,c7,rfl,yj,yi⟩:=aF.view At;clear yj yi;have of:=yJ (aF.base (show aF _ _ _ _ from At) yo);clear At;(generalize (Wh.d_ F.natAbs).length=lf at *);clear yo;(replace ⟨j_,o_⟩:=C.b2);(replace ⟨zR,zS,zT,zU⟩:=Q.b4);(replace ⟨r_,s_,yQ,yR,x_,yO,yS,yT⟩:=R.ym);(replace ⟨yv,yw⟩:=T.b2))
   | (go_at_call 168;(with_reducible refine (PQ.out _ _ _ of.out).mono ?_);rintro e w8 ⟨v8,rfl,AC,ya⟩;have yo:=B.size;replace C:=C.keep ya;replace Q:=Q.keep ya;replace R:=R.keep ya;replace T:=T.keep ya;replace ox:=kO ox ya;replace oz:=kO oz ya;replace og:=kO og ya;replace of:=kO of ya;replace B:=i_ B ya;obtain ⟨a8,c8,rfl,yj,yi⟩:=aF.view AC;clear yj yi;have on:=yJ (aF.base (show aF _ _ _ _ from AC) yo);clear AC;(generalize (Wh.d_ N.natAbs).length=ln at *);clear yo;have Ep:=yJ R.lt;have U:=aH.new w8 #[.bool sN,.slice a8 ln c8] 136;have b_:=bA w8 (.cells #[.bool sN,.slice a8 ln c8] 136);replace C:=C.keep b_;replace Q:=Q.keep b_;replace R:=R.keep b_;replace T:=T.keep b_;replace ox:=kO ox b_;replace oz:=kO oz b_;replace og:=kO og b_;replace of:=kO of b_;replace on:=kO on b_;replace B:=i_ B b_;clear b_;(replace ⟨j_,o_⟩:=C.b2);(replace ⟨zR,zS,zT,zU⟩:=Q.b4);(replace ⟨r_,s_,yQ,yR,x_,yO,yS,yT⟩:=R.ym);(replace ⟨yv,yw⟩:=T.b2);(replace ⟨yd,ye⟩:=U.b2))
   | (go_at_call 168;(with_reducible refine (PR.out _ _ _ og.out).mono ?_);rintro e w9 ⟨v9,rfl,Ac,yc⟩;have yo:=B.size;replace C:=C.keep yc;replace Q:=Q.keep yc;replace R:=R.keep yc;replace T:=T.keep yc;replace U:=U.keep yc;replace ox:=kO ox yc;replace oz:=kO oz yc;replace og:=kO og yc;replace of:=kO of yc;replace on:=kO on yc;replace B:=i_ B yc;obtain ⟨a9,c9,rfl,yj,yi⟩:=aF.view Ac;clear yj yi;have oe:=yJ (aF.base (show aF _ _ _ _ from Ac) yo);clear Ac;(generalize (Wh.d_ E.natAbs).length=le at *);clear yo;have V:=aH.new w9 #[.bool false,.slice a9 le c9] 136;have b_:=bA w9 (.cells #[.bool false,.slice a9 le c9] 136);replace C:=C.keep b_;replace Q:=Q.keep b_;replace R:=R.keep b_;replace T:=T.keep b_;replace U:=U.keep b_;replace ox:=kO ox b_;replace oz:=kO oz b_;replace og:=kO og b_;replace of:=kO of b_;replace on:=kO on b_;replace oe:=kO oe b_;replace B:=i_ B b_;clear b_;(replace ⟨j_,o_⟩:=C.b2);(replace ⟨zR,zS,zT,zU⟩:=Q.b4);(replace ⟨r_,s_,yQ,yR,x_,yO,yS,yT⟩:=R.ym);(replace ⟨yv,yw⟩:=T.b2);(replace ⟨yd,ye,zp,zu⟩:=U.zY);(replace ⟨yf,yg,zv,zw⟩:=V.zY);have O:=aH.new (w9.alloc (.cells #[.bool false,.slice a9 le c9] 136)) #[.bool sN,.slice a8 ln c8,.bool false,.slice a9 le c9] 157;have b_:=bA (w9.alloc (.cells #[.bool false,.slice a9 le c9] 136)) (.cells #[.bool sN,.slice a8 ln c8,.bool false,.slice a9 le c9] 157);replace C:=C.keep b_;replace Q:=Q.keep b_;replace R:=R.keep b_;replace T:=T.keep b_;replace U:=U.keep b_;replace V:=V.keep b_;replace ox:=kO ox b_;replace oz:=kO oz b_;replace og:=kO og b_;replace of:=kO of b_;replace on:=kO on b_;replace oe:=kO oe b_;replace B:=i_ B b_;clear b_;(rw [yK] at O))
   | (go_at_call 170;(with_reducible refine (Be.out _ _ _ _ _ on.out oe.out).mono ?_);rintro e EU ⟨rfl,yP⟩;(simp only [hok.out]);replace C:=C.keep yP;replace Q:=Q.keep yP;replace R:=R.keep yP;replace T:=T.keep yP;replace U:=U.keep yP;replace V:=V.keep yP;replace O:=O.keep yP;replace ox:=kO ox yP;replace oz:=kO oz yP;replace og:=kO og yP;replace of:=kO of yP;replace on:=kO on yP;replace oe:=kO oe yP;replace B:=i_ B yP;(replace ⟨j_,o_⟩:=C.b2);(replace ⟨zR,zS,zT,zU⟩:=Q.b4);(replace ⟨r_,s_,yQ,yR,x_,yO,yS,yT⟩:=R.ym);(replace ⟨yv,yw⟩:=T.b2);(replace ⟨yd,ye⟩:=U.b2);(replace ⟨yf,yg⟩:=V.b2);(replace ⟨AY,AZ,Aa,Ab⟩:=O.b4)))
  have hr1:=aF.base (aF.dM on.out R (by decide) (.bool sN) (.slice a8 ln c8) (.bool false) (.slice a9 le c9)) (base':=w.heap.size) (by first | exact yN _ | omega);have hr2:=aF.base (aF.dM oe.out R (by decide) (.bool sN) (.slice a8 ln c8) (.bool false) (.slice a9 le c9)) (base':=w.heap.size) (by first | exact yN _ | omega);exact bodyPost_ret (v:=.tuple #[.agg #[.bool sN,.slice a8 ln c8,.bool false,.slice a9 le c9],.bool true]) (by simp [results,Tryz.results149,go_sem, *]) rfl (⟨_,_,(by rw [CO.out,CF.out]),hr1,hr2,yL (yL (yL (yL B (by simp <;> omega) _) (by simp <;> omega) _) (by simp <;> omega) _) (by simp <;> omega) _⟩)
 replace hok:Wh.cY (N) (E)=false:=by simpa using hok
 rw [hok];replace hok:=yJ hok;rw [if_neg (by decide),if_neg (by decide)];go_enter Tryz.func149,Tryz.ntmps149
 go_wp2_with (first
  | (go_at_call 148;(with_reducible refine (PG.out _ _ _ _ _ ox.out oz.out).mono ?_);rintro e w4 ⟨v4,rfl,yk,hb4⟩;have yo:=B.size;replace C:=C.keep hb4;replace Q:=Q.keep hb4;replace R:=R.keep hb4;replace ox:=kO ox hb4;replace oz:=kO oz hb4;replace B:=i_ B hb4;obtain ⟨a4,c4,rfl,yj,yi⟩:=aF.view yk;clear yj yi;have og:=yJ (aF.base (show aF _ _ _ _ from yk) yo);clear yk;(generalize (Wh.d_ G.natAbs).length=lg at *);clear yo;have T:=aH.new w4 #[.bool false,.slice a4 lg c4] 136;have b_:=bA w4 (.cells #[.bool false,.slice a4 lg c4] 136);replace C:=C.keep b_;replace Q:=Q.keep b_;replace R:=R.keep b_;replace ox:=kO ox b_;replace oz:=kO oz b_;replace og:=kO og b_;replace B:=i_ B b_;clear b_;(replace ⟨j_,o_⟩:=C.b2);(replace ⟨zR,zS,zT,zU⟩:=Q.b4);(replace ⟨r_,s_,yQ,yR,x_,yO,yS,yT⟩:=R.ym);(replace ⟨yv,yw⟩:=T.b2))
  | (go_at_call 167;(with_reducible refine (PD.out _ _ _ _ _ ox.out oz.out).mono ?_);rintro e w6 ⟨rfl,hb6⟩;replace C:=C.keep hb6;replace Q:=Q.keep hb6;replace R:=R.keep hb6;replace T:=T.keep hb6;replace ox:=kO ox hb6;replace oz:=kO oz hb6;replace og:=kO og hb6;replace B:=i_ B hb6;(replace ⟨j_,o_⟩:=C.b2);(replace ⟨zR,zS,zT,zU⟩:=Q.b4);(replace ⟨r_,s_,yQ,yR,x_,yO,yS,yT⟩:=R.ym);(replace ⟨yv,yw⟩:=T.b2))
  | (go_at_call 169;(with_reducible refine (PF.out _ _ _ _ _ ox.out oz.out).mono ?_);rintro e w7 ⟨v7,rfl,At,yh⟩;have yo:=B.size;replace C:=C.keep yh;replace Q:=Q.keep yh;replace R:=R.keep yh;replace T:=T.keep yh;replace ox:=kO ox yh;replace oz:=kO oz yh;replace og:=kO og yh;replace B:=i_ B yh;obtain ⟨a7,c7,rfl,yj,yi⟩:=aF.view At;clear yj yi;have of:=yJ (aF.base (show aF _ _ _ _ from At) yo);clear At;(generalize (Wh.d_ F.natAbs).length=lf at *);clear yo;(replace ⟨j_,o_⟩:=C.b2);(replace ⟨zR,zS,zT,zU⟩:=Q.b4);(replace ⟨r_,s_,yQ,yR,x_,yO,yS,yT⟩:=R.ym);(replace ⟨yv,yw⟩:=T.b2))
  | (go_at_call 168;(with_reducible refine (PQ.out _ _ _ of.out).mono ?_);rintro e w8 ⟨v8,rfl,AC,ya⟩;have yo:=B.size;replace C:=C.keep ya;replace Q:=Q.keep ya;replace R:=R.keep ya;replace T:=T.keep ya;replace ox:=kO ox ya;replace oz:=kO oz ya;replace og:=kO og ya;replace of:=kO of ya;replace B:=i_ B ya;obtain ⟨a8,c8,rfl,yj,yi⟩:=aF.view AC;clear yj yi;have on:=yJ (aF.base (show aF _ _ _ _ from AC) yo);clear AC;(generalize (Wh.d_ N.natAbs).length=ln at *);clear yo;have Ep:=yJ R.lt;have U:=aH.new w8 #[.bool sN,.slice a8 ln c8] 136;have b_:=bA w8 (.cells #[.bool sN,.slice a8 ln c8] 136);replace C:=C.keep b_;replace Q:=Q.keep b_;replace R:=R.keep b_;replace T:=T.keep b_;replace ox:=kO ox b_;replace oz:=kO oz b_;replace og:=kO og b_;replace of:=kO of b_;replace on:=kO on b_;replace B:=i_ B b_;clear b_;(replace ⟨j_,o_⟩:=C.b2);(replace ⟨zR,zS,zT,zU⟩:=Q.b4);(replace ⟨r_,s_,yQ,yR,x_,yO,yS,yT⟩:=R.ym);(replace ⟨yv,yw⟩:=T.b2);(replace ⟨yd,ye⟩:=U.b2))
  | (go_at_call 168;(with_reducible refine (PR.out _ _ _ og.out).mono ?_);rintro e w9 ⟨v9,rfl,Ac,yc⟩;have yo:=B.size;replace C:=C.keep yc;replace Q:=Q.keep yc;replace R:=R.keep yc;replace T:=T.keep yc;replace U:=U.keep yc;replace ox:=kO ox yc;replace oz:=kO oz yc;replace og:=kO og yc;replace of:=kO of yc;replace on:=kO on yc;replace B:=i_ B yc;obtain ⟨a9,c9,rfl,yj,yi⟩:=aF.view Ac;clear yj yi;have oe:=yJ (aF.base (show aF _ _ _ _ from Ac) yo);clear Ac;(generalize (Wh.d_ E.natAbs).length=le at *);clear yo;have V:=aH.new w9 #[.bool false,.slice a9 le c9] 136;have b_:=bA w9 (.cells #[.bool false,.slice a9 le c9] 136);replace C:=C.keep b_;replace Q:=Q.keep b_;replace R:=R.keep b_;replace T:=T.keep b_;replace U:=U.keep b_;replace ox:=kO ox b_;replace oz:=kO oz b_;replace og:=kO og b_;replace of:=kO of b_;replace on:=kO on b_;replace oe:=kO oe b_;replace B:=i_ B b_;clear b_;(replace ⟨j_,o_⟩:=C.b2);(replace ⟨zR,zS,zT,zU⟩:=Q.b4);(replace ⟨r_,s_,yQ,yR,x_,yO,yS,yT⟩:=R.ym);(replace ⟨yv,yw⟩:=T.b2);(replace ⟨yd,ye,zp,zu⟩:=U.zY);(replace ⟨yf,yg,zv,zw⟩:=V.zY);have O:=aH.new (w9.alloc (.cells #[.bool false,.slice a9 le c9] 136)) #[.bool sN,.slice a8 ln c8,.bool false,.slice a9 le c9] 157;have b_:=bA (w9.alloc (.cells #[.bool false,.slice a9 le c9] 136)) (.cells #[.bool sN,.slice a8 ln c8,.bool false,.slice a9 le c9] 157);replace C:=C.keep b_;replace Q:=Q.keep b_;replace R:=R.keep b_;replace T:=T.keep b_;replace U:=U.keep b_;replace V:=V.keep b_;replace ox:=kO ox b_;replace oz:=kO oz b_;replace og:=kO og b_;replace of:=kO of b_;replace on:=kO on b_;replace oe:=kO oe b_;replace B:=i_ B b_;clear b_;(rw [yK] at O))
  | (go_at_call 170;(with_reducible refine (Be.out _ _ _ _ _ on.out oe.out).mono ?_);rintro e EU ⟨rfl,yP⟩;(simp only [hok.out]);replace C:=C.keep yP;replace Q:=Q.keep yP;replace R:=R.keep yP;replace T:=T.keep yP;replace U:=U.keep yP;replace V:=V.keep yP;replace O:=O.keep yP;replace ox:=kO ox yP;replace oz:=kO oz yP;replace og:=kO og yP;replace of:=kO of yP;replace on:=kO on yP;replace oe:=kO oe yP;replace B:=i_ B yP;(replace ⟨j_,o_⟩:=C.b2);(replace ⟨zR,zS,zT,zU⟩:=Q.b4);(replace ⟨r_,s_,yQ,yR,x_,yO,yS,yT⟩:=R.ym);(replace ⟨yv,yw⟩:=T.b2);(replace ⟨yd,ye⟩:=U.b2);(replace ⟨yf,yg⟩:=V.b2);(replace ⟨AY,AZ,Aa,Ab⟩:=O.b4)))
 exact bodyPost_ret (v:=.tuple #[.agg #[.bool false,.slice none 0 0,.bool false,.slice none 0 0],.bool false]) (by simp [results,Tryz.results149,go_sem, *]) rfl (⟨_,_,rfl,fb _ _,fb _ _,yL (yL (yL (yL B (by simp <;> omega) _) (by simp <;> omega) _) (by simp <;> omega) _) (by simp <;> omega) _⟩)
end
end Go.Proofs.YtgfkcoablfjbcaaGreat
