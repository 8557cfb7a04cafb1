/-
  Joined texts: contracts and plain lemmas.
-/
import Derived.Test.YtggekfbfechonaaGreatV1
import Derived.Test.YtggekfbfechonaaGreatV6
set_option linter.unusedSimpArgs false
set_option linter.unusedVariables false
set_option maxRecDepth 100000
set_option maxHeartbeats 8000000
namespace Go.Proofs.YtggekfbfechonaaGreat
section
open Go.RowKit
theorem uP (a b x z:Int) (vx vz:Value) (w:World) (bx bz:Nat) (hox:aj w bx vx x) (yW:aj w bz vz z) (hx:Wh.sz x 1000) (hz:Wh.sz z 1000) (ha1:-1000≤a) (ha2:a≤1000) (hb1:-10000≤b) (hb2:b≤10000) :
  Calls Tryz.prog 187 #[.agg #[.int .i64 a,.int .i64 b],.agg #[.bool (decide (x<0)),vx,.bool (decide (z<0)),vz]] w fun e w'=>∃ sl,e=.returned (.agg #[.bool (decide (Wh.bE a b x z<0)),sl])∧aj w' w.heap.size sl (Wh.bE a b x z)∧Below w.heap.size w w':=by
 obtain ⟨ax,cx,rfl,-,-⟩:=aF.view hox;obtain ⟨az,cz,rfl,-,-⟩:=aF.view yW;have haa:-1000000≤a*a∧a*a≤1000000:=M.aL (x:=a) (y:=a) (m:=1000) (n:=1000) (by omega) (by omega) (by omega) (by omega);have mx:=Wh.ar hx hx;have mz:=Wh.ar hz hz;have Nt:=Wh.ar mx mx;have Nu:=Wh.ar mx mz;have mt:=Wh.ar Nu (Wh.bc (n:=2*a) (by omega) (by omega));have m1:=Wh.lh (Wh.aQ Nt (show 1000+1000+(1000+1000)≤4100 by omega)) (Wh.aQ mt (show _≤4100 by omega));have n1:=Wh.ar hx hz;have n2:=Wh.ar n1 mz;have n3:=Wh.ar n2 (Wh.bc (n:=8*b) (by omega) (by omega));have m2:=Wh.lh (Wh.aQ m1 (show 4100+1≤4200 by omega)) (Wh.aQ n3 (show _≤4200 by omega));have Nv:=Wh.ar mz mz;have n4:=Wh.ar Nv (Wh.bc (n:=a*a) (by omega) (by omega))
 have P0:=fun v W k (h:aF W k v (Wh.a_ (x).natAbs))=>db (x) v W k h (Wh.aY.2 (Wh.aQ hx (by omega)))
 have P1:=fun v W k (h:aF W k v (Wh.a_ (z).natAbs))=>db (z) v W k h (Wh.aY.2 (Wh.aQ hz (by omega)))
 have P2:=fun v W k (h:aF W k v (Wh.a_ (x*x).natAbs))=>db (x*x) v W k h (Wh.aY.2 (Wh.aQ mx (by omega)))
 have P3:=fun v v' W k k' (h:aF W k v (Wh.a_ (x*x).natAbs)) (h':aF W k' v' (Wh.a_ (z*z).natAbs))=>dt (x*x) (z*z) v v' W k k' h h' (Wh.aY.2 (Wh.aQ mx (by omega))) (Wh.aY.2 (Wh.aQ mz (by omega)))
 have P4:=fun v W k (h:aF W k v (Wh.a_ (x*x*(z*z)).natAbs))=>dz (x*x*(z*z)) (2*a) v W k h (Wh.aY.2 (Wh.aQ Nu (by omega))) (by omega) (by omega)
 have P5:=fun v v' W k k' (h:aF W k v (Wh.a_ (x*x*(x*x)).natAbs)) (h':aF W k' v' (Wh.a_ (x*x*(z*z)*(2*a)).natAbs))=>kh (x*x*(x*x)) (x*x*(z*z)*(2*a)) v v' W k k' h h' (Wh.aY.2 (Wh.aQ Nt (by omega))) (Wh.aY.2 (Wh.aQ mt (by omega)))
 have P6:=fun v v' W k k' (h:aF W k v (Wh.a_ (x).natAbs)) (h':aF W k' v' (Wh.a_ (z).natAbs))=>dt (x) (z) v v' W k k' h h' (Wh.aY.2 (Wh.aQ hx (by omega))) (Wh.aY.2 (Wh.aQ hz (by omega)))
 have P7:=fun v v' W k k' (h:aF W k v (Wh.a_ (x*z).natAbs)) (h':aF W k' v' (Wh.a_ (z*z).natAbs))=>dt (x*z) (z*z) v v' W k k' h h' (Wh.aY.2 (Wh.aQ n1 (by omega))) (Wh.aY.2 (Wh.aQ mz (by omega)))
 have P8:=fun v W k (h:aF W k v (Wh.a_ (x*z*(z*z)).natAbs))=>dz (x*z*(z*z)) (8*b) v W k h (Wh.aY.2 (Wh.aQ n2 (by omega))) (by omega) (by omega)
 have P9:=fun v v' W k k' (h:aF W k v (Wh.a_ (x*x*(x*x) - x*x*(z*z)*(2*a)).natAbs)) (h':aF W k' v' (Wh.a_ (x*z*(z*z)*(8*b)).natAbs))=>kh (x*x*(x*x) - x*x*(z*z)*(2*a)) (x*z*(z*z)*(8*b)) v v' W k k' h h' (Wh.aY.2 (Wh.aQ m1 (by omega))) (Wh.aY.2 (Wh.aQ n3 (by omega)))
 have PA:=fun v W k (h:aF W k v (Wh.a_ (z*z).natAbs))=>db (z*z) v W k h (Wh.aY.2 (Wh.aQ mz (by omega)))
 have PB:=fun v W k (h:aF W k v (Wh.a_ (z*z*(z*z)).natAbs))=>dz (z*z*(z*z)) (a*a) v W k h (Wh.aY.2 (Wh.aQ Nv (by omega))) (by omega) (by omega)
 have PC:=fun v v' W k k' (h:aF W k v (Wh.a_ (x*x*(x*x) - x*x*(z*z)*(2*a) - x*z*(z*z)*(8*b)).natAbs)) (h':aF W k' v' (Wh.a_ (z*z*(z*z)*(a*a)).natAbs))=>iv (x*x*(x*x) - x*x*(z*z)*(2*a) - x*z*(z*z)*(8*b)) (z*z*(z*z)*(a*a)) v v' W k k' h h' (Wh.aY.2 (Wh.aQ m2 (by omega))) (Wh.aY.2 (Wh.aQ n4 (by omega)))
 have hT:=Wh.nI a b x z;rw [hT] at PC;clear hT mx mz Nt Nu mt m1 n1 n2 n3 m2 Nv n4;generalize Wh.bE a b x z=F at *;generalize GG:x*x*(x*x) - x*x*(z*z)*(2*a) - x*z*(z*z)*(8*b)=S2 at *;generalize GF:x*x*(x*x) - x*x*(z*z)*(2*a)=S1 at *;generalize Mi:x*z*(z*z)*(8*b)=yb at *;generalize Mj:z*z*(z*z)*(a*a)=za at *;generalize Me:x*x*(z*z)*(2*a)=xt at *;generalize Mh:x*z*(z*z)=y2 at *;generalize Ih:z*z*(z*z)=zzz at *;generalize Ig:x*x*(z*z)=xz2 at *;generalize Ie:x*x*(x*x)=xxx at *;generalize Mg:x*z=y1 at *;generalize GH:x*x=xq at *;generalize GI:z*z=zq at *;clear GG GF Mi Mj Me Mh Ih Ig Ie Mg GH GI;replace P0:=xL P0;replace P1:=xL P1;replace P2:=xL P2;replace P3:=xL P3;replace P4:=xL P4;replace P5:=xL P5;replace P6:=xL P6;replace P7:=xL P7;replace P8:=xL P8;replace P9:=xL P9;replace PA:=xL PA;replace PB:=xL PB;replace PC:=xL PC;generalize hs1:decide (x<0)=s1 at *;replace hs1:=xL hs1.symm;generalize hs2:decide (z<0)=s2 at *;replace hs2:=xL hs2.symm;replace hox:=xL (show aF _ _ _ _ from hox);replace yW:=xL (show aF _ _ _ _ from yW);generalize (Wh.a_ z.natAbs).length=lz,(Wh.a_ x.natAbs).length=lx at *;have b1:=((aH.new w #[.int .i64 a,.int .i64 b] 25).alloc (.cells #[.bool s1,.slice ax lx cx,.bool s2,.slice az lz cz] 127)).alloc (.cells #[.bool false,.slice none 0 0] 125);have b2:=(aH.new (w.alloc (.cells #[.int .i64 a,.int .i64 b] 25)) #[.bool s1,.slice ax lx cx,.bool s2,.slice az lz cz] 127).alloc (.cells #[.bool false,.slice none 0 0] 125);rw [xM] at b2;have b3:=aH.new ((w.alloc (.cells #[.int .i64 a,.int .i64 b] 25)).alloc (.cells #[.bool s1,.slice ax lx cx,.bool s2,.slice az lz cz] 127)) #[.bool false,.slice none 0 0] 125;rw [cm] at b3;have hB:=(((xO w.heap.size w).alloc (xP _) (.cells #[.int .i64 a,.int .i64 b] 25)).alloc (by rw [xM];omega) (.cells #[.bool s1,.slice ax lx cx,.bool s2,.slice az lz cz] 127)).alloc (by rw [cm];omega) (.cells #[.bool false,.slice none 0 0] 125)
 have hz3:(((w.alloc (.cells #[.int .i64 a,.int .i64 b] 25)).alloc (.cells #[.bool s1,.slice ax lx cx,.bool s2,.slice az lz cz] 127)).alloc (.cells #[.bool false,.slice none 0 0] 125)).heap.size=w.heap.size+3:=by rw [xM,cm]
 have A_:=xL (aF.alloc (aF.alloc (aF.alloc hox.out (.cells #[.int .i64 a,.int .i64 b] 25)) (.cells #[.bool s1,.slice ax lx cx,.bool s2,.slice az lz cz] 127)) (.cells #[.bool false,.slice none 0 0] 125));have BA:=xL (aF.alloc (aF.alloc (aF.alloc yW.out (.cells #[.int .i64 a,.int .i64 b] 25)) (.cells #[.bool s1,.slice ax lx cx,.bool s2,.slice az lz cz] 127)) (.cells #[.bool false,.slice none 0 0] 125));clear hox yW;generalize hw3:((w.alloc (.cells #[.int .i64 a,.int .i64 b] 25)).alloc (.cells #[.bool s1,.slice ax lx cx,.bool s2,.slice az lz cz] 127)).alloc (.cells #[.bool false,.slice none 0 0] 125)=w3 at *;have e0:=b2.aN.c0;have e1:=b2.aN.c1;have e2:=b2.aN.c2;have e3:=b2.aN.c3;go_enter Tryz.func187,Tryz.ntmps187
 go_wp2
 go_upto_region 1 with fail
 go_cut [5,6] (fun p q wx=>∃ gx gz,w.heap.size+3≤gx∧w.heap.size+3≤gz∧p=.pointer (some ⟨gx,0,none⟩)∧q=.pointer (some ⟨gz,0,none⟩)∧aH wx gx 125 #[.bool s1,.slice ax lx cx]∧aH wx gz 125 #[.bool s2,.slice az lz cz]∧Below (w.heap.size+3) w3 wx)
 case first=>
  go_region
  all_goals
   go_wp2_with fail
   go_meet
   first
   | exact (nM _ _ hz3 _ _ _ _ _).1
   | exact (nM _ _ hz3 _ _ _ _ _).2
 case rest=>
 obtain ⟨gx,gz,hgx,hgz,rfl,rfl,X,Z,hbx⟩:=hcut;rw [←hz3] at hbx;have ox:=xL (aF.below A_.out hbx);have oz:=xL (aF.below BA.out hbx);have C:=b1.keep hbx;have R:=b3.keep hbx;have hw:=d_ hB hbx
 have DM:w.heap.size+3≤wc.heap.size:=by have:=hbx.size;omega
 clear hz3;clear b1 b2 b3 e0 e1 e2 e3 hB hbx A_ BA
 go_upto_region 2 with fail
 refine Rg.bS 6 [.is (.agg #[.bool s1,.slice ax lx cx]),.at (aJ (wc.heap.size) (xq)),.is (.agg #[.bool s2,.slice az lz cz]),.at (aJ (wc.heap.size) (zq)),.new (wc.heap.size) 125 #[.bool false,.slice none 0 0],.new (wc.heap.size) 125 #[.bool false,.slice none 0 0]] (by kernel_rfl) (by kernel_rfl) (by kernel_rfl) ⟨?_,?_,?_,?_,?_,?_,fun h_=>absurd h_ (by decide),fun h_=>absurd h_ (by decide),trivial⟩ ?_
 ·intro _ zZ w_ hB hr
  have e5:zZ.tmps[5]?=some (.pointer (some ⟨gx,0,none⟩)):=hr 5 (by decide);have k0:=aE hB X.box.c0;have k1:=aE hB X.box.c1;exact Rg.aG rfl (by go_simp)
 ·intro _ zZ w_ hB hr
  have e14:=Rg.c_ (hr 14 (by decide));have ef:=Rg.ef zZ;refine Rg.ae rfl (by go_simp;exact ⟨rfl,rfl⟩) ?_;refine (P0.out _ _ _ (aF.below ox.out hB)).mono ?_;rintro e w5 ⟨yQ,rfl,xg,hb5⟩;exact ⟨_,rfl,aJ.at xg (by have:=hB.size;omega),hb5⟩
 ·intro _ zZ w_ hB hr
  have e6:zZ.tmps[6]?=some (.pointer (some ⟨gz,0,none⟩)):=hr 6 (by decide);have k0:=aE hB Z.box.c0;have k1:=aE hB Z.box.c1;exact Rg.aG rfl (by go_simp)
 ·intro _ zZ w_ hB hr
  have e16:=Rg.c_ (hr 16 (by decide));have ef:=Rg.ef zZ;refine Rg.ae rfl (by go_simp;exact ⟨rfl,rfl⟩) ?_;refine (P1.out _ _ _ (aF.below oz.out hB)).mono ?_;rintro e w5 ⟨yQ,rfl,xg,hb5⟩;exact ⟨_,rfl,aJ.at xg (by have:=hB.size;omega),hb5⟩
 ·intro _ zZ w_ hB hr
  exact ⟨by have:=hB.size;omega,rfl,by first | (go_simp;done) | (go_simp;rfl)⟩
 ·intro _ zZ w_ hB hr
  exact ⟨by have:=hB.size;omega,rfl,by first | (go_simp;done) | (go_simp;rfl)⟩
 intro vals wz hB hv hne;have n7:(Rg.Val.new (wc.heap.size) 125 #[.bool false,.slice none 0 0]).ok (vals 4) wz:=hv 4 (by decide);have n8:(Rg.Val.new (wc.heap.size) 125 #[.bool false,.slice none 0 0]).ok (vals 5) wz:=hv 5 (by decide);have n15:(Rg.Val.at (aJ (wc.heap.size) (xq))).ok (vals 1) wz:=hv 1 (by decide);have n17:(Rg.Val.at (aJ (wc.heap.size) (zq))).ok (vals 3) wz:=hv 3 (by decide);simp only [Rg.ay,Rg.fill,Act.put,Nat.reduceAdd];clear hv;have Gu:=hne 4 5 (by decide) (by decide) (by decide) rfl rfl;obtain ⟨g7,Fa,DX,o7⟩:=n7;replace o7:aH wz g7 125 #[.bool false,.slice none 0 0]:=o7;obtain ⟨g8,GP,DY,o8⟩:=n8;replace o8:aH wz g8 125 #[.bool false,.slice none 0 0]:=o8;obtain ⟨s15,Df,D4,c15,E9,v_1,DC⟩:=(Rg.ah n15).view;obtain ⟨EH,a17,D5,c17,Dx,EM,Jw⟩:=(Rg.ah n17).view;rw [DX,DY] at Gu
 have Er:g7≠g8:=fun e=>Gu (by rw [e])
 simp only [DX,DY,v_1,EM];clear DX DY v_1 EM;have GD:=Er.symm;have hB2:Below wc.heap.size wc ((((wz.setCell ⟨g7,0,none⟩ (.bool s15)).setCell ⟨g7,1,none⟩ (.slice Df D4 c15)).setCell ⟨g8,0,none⟩ (.bool EH)).setCell ⟨g8,1,none⟩ (.slice a17 D5 c17)):=xN (xN (xN (xN hB Fa _) Fa _) GP _) GP _;have V8:aH ((wz.setCell ⟨g7,0,none⟩ (.bool s15)).setCell ⟨g7,1,none⟩ (.slice Df D4 c15)) g8 125 #[.bool false,.slice none 0 0]:=(o8.other GD _).other GD _;have U8:=aH.set2 V8 (.bool EH) (.slice a17 D5 c17);have U7:aH ((((wz.setCell ⟨g7,0,none⟩ (.bool s15)).setCell ⟨g7,1,none⟩ (.slice Df D4 c15)).setCell ⟨g8,0,none⟩ (.bool EH)).setCell ⟨g8,1,none⟩ (.slice a17 D5 c17)) g7 125 #[.bool s15,.slice Df D4 c15]:=((aH.set2 o7 (.bool s15) (.slice Df D4 c15)).other Er _).other Er _;have oq:=xL (aF.bO (aF.bO DC o7 (by decide) (.bool s15) (.slice Df D4 c15)) V8 (by decide) (.bool EH) (.slice a17 D5 c17));have or:=xL (aF.bO (aF.bO Jw o7 (by decide) (.bool s15) (.slice Df D4 c15)) V8 (by decide) (.bool EH) (.slice a17 D5 c17));have ⟨c0,c1,f0,f1,_⟩:=o7.box;have ⟨c2,c3,f2,f3,_⟩:=o8.box;unfold Rg.aX Rg.aX Rg.aX Oper.wp
 go_simp
 clear c0 c1 f0 f1 c2 c3 f2 f3 o7 o8 DC Jw V8 Er GD Gu;generalize ((((wz.setCell ⟨g7,0,none⟩ (.bool s15)).setCell ⟨g7,1,none⟩ (.slice Df D4 c15)).setCell ⟨g8,0,none⟩ (.bool EH)).setCell ⟨g8,1,none⟩ (.slice a17 D5 c17))=wd at *;replace X:=X.keep hB2;replace Z:=Z.keep hB2;replace C:=C.keep hB2;replace R:=R.keep hB2;replace ox:=xL (aF.below ox.out hB2);replace oz:=xL (aF.below oz.out hB2);have hgd:g8<wd.heap.size:=U8.lt;replace hw:=d_ hw hB2;have DN:wc.heap.size≤wd.heap.size:=hB2.size;clear hB2 hB
 go_upto_region 3 with fail
 refine Rg.bS 11 [.is (.agg #[.bool s15,.slice Df D4 c15]),.at (aJ (wd.heap.size) (xxx)),.is (.agg #[.bool s15,.slice Df D4 c15]),.is (.agg #[.bool EH,.slice a17 D5 c17]),.at (aJ (wd.heap.size) (xz2)),.is (.pointer (some ⟨w.heap.size,0,none⟩)),.is (.int .i64 a),.is (.int .i64 (2*a)),.at (aJ (wd.heap.size) (xt)),.at (aJ (wd.heap.size) (S1)),.new (wd.heap.size) 125 #[.bool false,.slice none 0 0]] (by kernel_rfl) (by kernel_rfl) (by kernel_rfl) ⟨?_,?_,?_,?_,?_,?_,?_,?_,?_,?_,?_,fun h_=>absurd h_ (by decide),trivial⟩ ?_
 ·intro _ zZ w_ hB hr
  have e7:zZ.tmps[7]?=some (.pointer (some ⟨g7,0,none⟩)):=hr 7 (by decide);have k0:=aE hB U7.box.c0;have k1:=aE hB U7.box.c1;exact Rg.aG rfl (by go_simp)
 ·intro _ zZ w_ hB hr
  have e18:=Rg.c_ (hr 18 (by decide));have ef:=Rg.ef zZ;refine Rg.ae rfl (by go_simp;exact ⟨rfl,rfl⟩) ?_;rw [E9.out];refine (P2.out _ _ _ (aF.below oq.out hB)).mono ?_;rintro e w5 ⟨yQ,rfl,xg,hb5⟩;exact ⟨_,rfl,aJ.at xg (by have:=hB.size;omega),hb5⟩
 ·intro _ zZ w_ hB hr
  have e7:zZ.tmps[7]?=some (.pointer (some ⟨g7,0,none⟩)):=hr 7 (by decide);have k0:=aE hB U7.box.c0;have k1:=aE hB U7.box.c1;exact Rg.aG rfl (by go_simp)
 ·intro _ zZ w_ hB hr
  have e8:zZ.tmps[8]?=some (.pointer (some ⟨g8,0,none⟩)):=hr 8 (by decide);have k0:=aE hB U8.box.c0;have k1:=aE hB U8.box.c1;exact Rg.aG rfl (by go_simp)
 ·intro _ zZ w_ hB hr
  have e20:=Rg.c_ (hr 20 (by decide));have e21:=Rg.c_ (hr 21 (by decide));have ef:=Rg.ef zZ;refine Rg.ae rfl (by go_simp;exact ⟨rfl,rfl⟩) ?_;rw [E9.out];rw [Dx.out];refine (P3.out _ _ _ _ _ (aF.below oq.out hB) (aF.below or.out hB)).mono ?_;rintro e w5 ⟨yQ,rfl,xg,hb5⟩;exact ⟨_,rfl,aJ.at xg (by have:=hB.size;omega),hb5⟩
 ·intro _ zZ w_ hB hr
  have e2:zZ.tmps[2]?=some (.pointer (some ⟨w.heap.size,0,none⟩)):=hr 2 (by decide);exact Rg.aG rfl (by go_simp)
 ·intro _ zZ w_ hB hr
  have e23:=Rg.c_ (hr 23 (by decide));have k0:=aE hB C.box.c0;exact Rg.aG rfl (by go_simp)
 ·intro _ zZ w_ hB hr
  have e24:=Rg.c_ (hr 24 (by decide));have ec:=Rg.ec zZ;exact Rg.aG rfl (by go_simp <;> exact Rg.wo (by omega))
 ·intro _ zZ w_ hB hr
  obtain ⟨v22,e22,n22⟩:∃ v,zZ.tmps[22]?=some v∧(Rg.Val.at (aJ (wd.heap.size) (xz2))).ok v w_:=hr 22 (by decide);obtain ⟨s22,a22,l22,c22,NC,rfl,o22⟩:=(Rg.ah n22).view;have e25:=Rg.c_ (hr 25 (by decide));have ef:=Rg.ef zZ;refine Rg.ae rfl (by go_simp;exact ⟨rfl,rfl⟩) ?_;obtain rfl:=NC.out;refine (P4.out _ _ _ o22).mono ?_;rintro e w5 ⟨yQ,rfl,xg,hb5⟩;exact ⟨_,rfl,aJ.at xg (by have:=hB.size;omega),hb5⟩
 ·intro _ zZ w_ hB hr
  obtain ⟨v19,e19,n19⟩:∃ v,zZ.tmps[19]?=some v∧(Rg.Val.at (aJ (wd.heap.size) (xxx))).ok v w_:=hr 19 (by decide);obtain ⟨DP,Dg,DB,c19,BL,rfl,Hi⟩:=(Rg.ah n19).view;obtain ⟨v26,e26,n26⟩:∃ v,zZ.tmps[26]?=some v∧(Rg.Val.at (aJ (wd.heap.size) (xt))).ok v w_:=hr 26 (by decide);obtain ⟨s26,a26,l26,c26,Ge,rfl,Nx⟩:=(Rg.ah n26).view;have ef:=Rg.ef zZ;refine Rg.ae rfl (by go_simp;exact ⟨rfl,rfl⟩) ?_;obtain rfl:=BL.out;obtain rfl:=Ge.out;refine (P5.out _ _ _ _ _ Hi Nx).mono ?_;rintro e w5 ⟨yQ,rfl,xg,hb5⟩;exact ⟨_,rfl,aJ.at xg (by have:=hB.size;omega),hb5⟩
 ·intro _ zZ w_ hB hr
  exact ⟨by have:=hB.size;omega,rfl,by first | (go_simp;done) | (go_simp;rfl)⟩
 intro vals wz hB hv hne;have n9:(Rg.Val.new (wd.heap.size) 125 #[.bool false,.slice none 0 0]).ok (vals 10) wz:=hv 10 (by decide);have n27:(Rg.Val.at (aJ (wd.heap.size) (S1))).ok (vals 9) wz:=hv 9 (by decide);simp only [Rg.ay,Rg.fill,Act.put,Nat.reduceAdd];clear hv;obtain ⟨g9,Hb,yH,o9⟩:=n9;replace o9:aH wz g9 125 #[.bool false,.slice none 0 0]:=o9;obtain ⟨G_,a27,Gk,F9,Gf,zV,Jy⟩:=(Rg.ah n27).view;simp only [yH,zV];clear yH zV;have hB2:Below wd.heap.size wd ((wz.setCell ⟨g9,0,none⟩ (.bool G_)).setCell ⟨g9,1,none⟩ (.slice a27 Gk F9)):=xN (xN hB Hb _) Hb _;have U:=aH.set2 o9 (.bool G_) (.slice a27 Gk F9);have oU:=xL (aF.bO Jy o9 (by decide) (.bool G_) (.slice a27 Gk F9));have ⟨c0,c1,f0,f1,_⟩:=o9.box;unfold Rg.aX Rg.aX Oper.wp
 go_simp
 clear c0 c1 f0 f1 o9 Jy;generalize ((wz.setCell ⟨g9,0,none⟩ (.bool G_)).setCell ⟨g9,1,none⟩ (.slice a27 Gk F9))=we at *;replace X:=X.keep hB2;replace Z:=Z.keep hB2;replace C:=C.keep hB2;replace R:=R.keep hB2;replace U8:=U8.keep hB2;replace ox:=xL (aF.below ox.out hB2);replace oz:=xL (aF.below oz.out hB2);replace or:=xL (aF.below or.out hB2);replace hw:=d_ hw hB2;have DN:wd.heap.size≤we.heap.size:=hB2.size
 go_upto_region 4 with fail
 clear hB2 hB;refine Rg.bS 11 [.is (.agg #[.bool G_,.slice a27 Gk F9]),.is (.agg #[.bool s1,.slice ax lx cx]),.is (.agg #[.bool s2,.slice az lz cz]),.at (aJ (we.heap.size) (y1)),.is (.agg #[.bool EH,.slice a17 D5 c17]),.at (aJ (we.heap.size) (y2)),.is (.pointer (some ⟨w.heap.size,1,none⟩)),.is (.int .i64 b),.is (.int .i64 (8*b)),.at (aJ (we.heap.size) (yb)),.at (aJ (we.heap.size) (S2))] (by kernel_rfl) (by kernel_rfl) (by kernel_rfl) ⟨?_,?_,?_,?_,?_,?_,?_,?_,?_,?_,?_,fun h_=>absurd h_ (by decide),trivial⟩ ?_
 ·intro _ zZ w_ hB hr
  have e9:zZ.tmps[9]?=some (.pointer (some ⟨g9,0,none⟩)):=hr 9 (by decide);have k0:=aE hB U.box.c0;have k1:=aE hB U.box.c1;exact Rg.aG rfl (by go_simp)
 ·intro _ zZ w_ hB hr
  have e5:zZ.tmps[5]?=some (.pointer (some ⟨gx,0,none⟩)):=hr 5 (by decide);have k0:=aE hB X.box.c0;have k1:=aE hB X.box.c1;exact Rg.aG rfl (by go_simp)
 ·intro _ zZ w_ hB hr
  have e6:zZ.tmps[6]?=some (.pointer (some ⟨gz,0,none⟩)):=hr 6 (by decide);have k0:=aE hB Z.box.c0;have k1:=aE hB Z.box.c1;exact Rg.aG rfl (by go_simp)
 ·intro _ zZ w_ hB hr
  have e29:=Rg.c_ (hr 29 (by decide));have e30:=Rg.c_ (hr 30 (by decide));have ef:=Rg.ef zZ;refine Rg.ae rfl (by go_simp;exact ⟨rfl,rfl⟩) ?_;refine (P6.out _ _ _ _ _ (aF.below ox.out hB) (aF.below oz.out hB)).mono ?_;rintro e w5 ⟨yQ,rfl,xg,hb5⟩;exact ⟨_,rfl,aJ.at xg (by have:=hB.size;omega),hb5⟩
 ·intro _ zZ w_ hB hr
  have e8:zZ.tmps[8]?=some (.pointer (some ⟨g8,0,none⟩)):=hr 8 (by decide);have k0:=aE hB U8.box.c0;have k1:=aE hB U8.box.c1;exact Rg.aG rfl (by go_simp)
 ·intro _ zZ w_ hB hr
  obtain ⟨v31,e31,n31⟩:∃ v,zZ.tmps[31]?=some v∧(Rg.Val.at (aJ (we.heap.size) (y1))).ok v w_:=hr 31 (by decide);obtain ⟨s31,a31,l31,c31,NG,rfl,Ny⟩:=(Rg.ah n31).view;have e32:=Rg.c_ (hr 32 (by decide));have ef:=Rg.ef zZ;refine Rg.ae rfl (by go_simp;exact ⟨rfl,rfl⟩) ?_;obtain rfl:=NG.out;rw [Dx.out];refine (P7.out _ _ _ _ _ Ny (aF.below or.out hB)).mono ?_;rintro e w5 ⟨yQ,rfl,xg,hb5⟩;exact ⟨_,rfl,aJ.at xg (by have:=hB.size;omega),hb5⟩
 ·intro _ zZ w_ hB hr
  have e2:zZ.tmps[2]?=some (.pointer (some ⟨w.heap.size,0,none⟩)):=hr 2 (by decide);exact Rg.aG rfl (by go_simp)
 ·intro _ zZ w_ hB hr
  have e34:=Rg.c_ (hr 34 (by decide));have k1:=aE hB C.box.c1;exact Rg.aG rfl (by go_simp)
 ·intro _ zZ w_ hB hr
  have e35:=Rg.c_ (hr 35 (by decide));have ec:=Rg.ec zZ;exact Rg.aG rfl (by go_simp <;> exact Rg.wo (by omega))
 ·intro _ zZ w_ hB hr
  obtain ⟨v33,e33,n33⟩:∃ v,zZ.tmps[33]?=some v∧(Rg.Val.at (aJ (we.heap.size) (y2))).ok v w_:=hr 33 (by decide);obtain ⟨FE,a33,FB,El,D1,rfl,Gn⟩:=(Rg.ah n33).view;have e36:=Rg.c_ (hr 36 (by decide));have ef:=Rg.ef zZ;refine Rg.ae rfl (by go_simp;exact ⟨rfl,rfl⟩) ?_;obtain rfl:=D1.out;refine (P8.out _ _ _ Gn).mono ?_;rintro e w5 ⟨yQ,rfl,xg,hb5⟩;exact ⟨_,rfl,aJ.at xg (by have:=hB.size;omega),hb5⟩
 ·intro _ zZ w_ hB hr
  have e28:=Rg.c_ (hr 28 (by decide));obtain ⟨v37,e37,n37⟩:∃ v,zZ.tmps[37]?=some v∧(Rg.Val.at (aJ (we.heap.size) (yb))).ok v w_:=hr 37 (by decide);obtain ⟨s37,a37,l37,c37,NK,rfl,o37⟩:=(Rg.ah n37).view;have ef:=Rg.ef zZ;refine Rg.ae rfl (by go_simp;exact ⟨rfl,rfl⟩) ?_;obtain rfl:=NK.out;rw [Gf.out];refine (P9.out _ _ _ _ _ (aF.below oU.out hB) o37).mono ?_;rintro e w5 ⟨yQ,rfl,xg,hb5⟩;exact ⟨_,rfl,aJ.at xg (by have:=hB.size;omega),hb5⟩
 intro vals wy hB hv hne;have n38:(Rg.Val.at (aJ (we.heap.size) (S2))).ok (vals 10) wy:=hv 10 (by decide);simp only [Rg.ay,Rg.fill,Act.put,Nat.reduceAdd];clear hv;obtain ⟨FF,a38,FC,Em,NL,yH,N4⟩:=(Rg.ah n38).view;simp only [yH];clear yH;have U2:=U.keep hB;have hB2:Below wd.heap.size we ((wy.setCell ⟨g9,0,none⟩ (.bool FF)).setCell ⟨g9,1,none⟩ (.slice a38 FC Em)):=xN (xN (hB.mono DN) Hb _) Hb _;have oS:=xL (aF.bO N4 U2 (by decide) (.bool FF) (.slice a38 FC Em));have U3:=aH.set2 U2 (.bool FF) (.slice a38 FC Em)
 have hq8:g8<wd.heap.size∧w.heap.size+1+1<wd.heap.size:=⟨hgd,by omega⟩
 have hC9:w.heap.size<wd.heap.size:=by omega
 have C5:aH ((wy.setCell ⟨g9,0,none⟩ (.bool FF)).setCell ⟨g9,1,none⟩ (.slice a38 FC Em)) w.heap.size 25 #[.int .i64 a,.int .i64 b]:=((C.keep hB).other (by omega) _).other (by omega) _;have R5:aH ((wy.setCell ⟨g9,0,none⟩ (.bool FF)).setCell ⟨g9,1,none⟩ (.slice a38 FC Em)) (w.heap.size+1+1) 125 #[.bool false,.slice none 0 0]:=((R.keep hB).other (by omega) _).other (by omega) _;have Q5:aH ((wy.setCell ⟨g9,0,none⟩ (.bool FF)).setCell ⟨g9,1,none⟩ (.slice a38 FC Em)) g8 125 #[.bool EH,.slice a17 D5 c17]:=((U8.keep hB).other (by omega) _).other (by omega) _;have oq5:=xL (aF.bO (aF.below or.out hB) U2 (by decide) (.bool FF) (.slice a38 FC Em));have He:=hw.trans (hB2.mono (show w.heap.size≤wd.heap.size by omega));have ⟨c0,c1,f0,f1,_⟩:=U2.box;unfold Rg.aX Rg.aX Oper.wp
 go_simp
 clear c0 c1 f0 f1 U2 hB2 hB;generalize ((wy.setCell ⟨g9,0,none⟩ (.bool FF)).setCell ⟨g9,1,none⟩ (.slice a38 FC Em))=wf at *
 go_upto_region 5 with fail
 refine Rg.bS 10 [.is (.agg #[.bool FF,.slice a38 FC Em]),.is (.agg #[.bool EH,.slice a17 D5 c17]),.at (aJ (wf.heap.size) (zzz)),.is (.pointer (some ⟨w.heap.size,0,none⟩)),.is (.int .i64 a),.is (.pointer (some ⟨w.heap.size,0,none⟩)),.is (.int .i64 a),.is (.int .i64 (a*a)),.at (aJ (wf.heap.size) (za)),.at (aJ (wf.heap.size) (F))] (by kernel_rfl) (by kernel_rfl) (by kernel_rfl) ⟨?_,?_,?_,?_,?_,?_,?_,?_,?_,?_,fun h_=>absurd h_ (by decide),trivial⟩ ?_
 ·intro _ zZ w_ hB hr
  have e9:zZ.tmps[9]?=some (.pointer (some ⟨g9,0,none⟩)):=hr 9 (by decide);have k0:=aE hB U3.box.c0;have k1:=aE hB U3.box.c1;exact Rg.aG rfl (by go_simp)
 ·intro _ zZ w_ hB hr
  have e8:zZ.tmps[8]?=some (.pointer (some ⟨g8,0,none⟩)):=hr 8 (by decide);have k0:=aE hB Q5.box.c0;have k1:=aE hB Q5.box.c1;exact Rg.aG rfl (by go_simp)
 ·intro _ zZ w_ hB hr
  have e40:=Rg.c_ (hr 40 (by decide));have ef:=Rg.ef zZ;refine Rg.ae rfl (by go_simp;exact ⟨rfl,rfl⟩) ?_;rw [Dx.out];refine (PA.out _ _ _ (aF.below oq5.out hB)).mono ?_;rintro e w5 ⟨yQ,rfl,xg,hb5⟩;exact ⟨_,rfl,aJ.at xg (by have:=hB.size;omega),hb5⟩
 ·intro _ zZ w_ hB hr
  have e2:zZ.tmps[2]?=some (.pointer (some ⟨w.heap.size,0,none⟩)):=hr 2 (by decide);exact Rg.aG rfl (by go_simp)
 ·intro _ zZ w_ hB hr
  have e42:=Rg.c_ (hr 42 (by decide));have k0:=aE hB C5.box.c0;exact Rg.aG rfl (by go_simp)
 ·intro _ zZ w_ hB hr
  have e2:zZ.tmps[2]?=some (.pointer (some ⟨w.heap.size,0,none⟩)):=hr 2 (by decide);exact Rg.aG rfl (by go_simp)
 ·intro _ zZ w_ hB hr
  have e44:=Rg.c_ (hr 44 (by decide));have k0:=aE hB C5.box.c0;exact Rg.aG rfl (by go_simp)
 ·intro _ zZ w_ hB hr
  have e43:=Rg.c_ (hr 43 (by decide));have e45:=Rg.c_ (hr 45 (by decide));exact Rg.aG rfl (by go_simp <;> exact Rg.wo (by omega))
 ·intro _ zZ w_ hB hr
  obtain ⟨v41,e41,n41⟩:∃ v,zZ.tmps[41]?=some v∧(Rg.Val.at (aJ (wf.heap.size) (zzz))).ok v w_:=hr 41 (by decide);obtain ⟨Ae,a41,Ad,AZ,DL,rfl,Gp⟩:=(Rg.ah n41).view;have e46:=Rg.c_ (hr 46 (by decide));have ef:=Rg.ef zZ;refine Rg.ae rfl (by go_simp;exact ⟨rfl,rfl⟩) ?_;obtain rfl:=DL.out;refine (PB.out _ _ _ Gp).mono ?_;rintro e w5 ⟨yQ,rfl,xg,hb5⟩;exact ⟨_,rfl,aJ.at xg (by have:=hB.size;omega),hb5⟩
 ·intro _ zZ w_ hB hr
  have e39:=Rg.c_ (hr 39 (by decide));obtain ⟨v47,e47,n47⟩:∃ v,zZ.tmps[47]?=some v∧(Rg.Val.at (aJ (wf.heap.size) (za))).ok v w_:=hr 47 (by decide);obtain ⟨s47,a47,l47,c47,NO,rfl,N5⟩:=(Rg.ah n47).view;have ef:=Rg.ef zZ;refine Rg.ae rfl (by go_simp;exact ⟨rfl,rfl⟩) ?_;obtain rfl:=NO.out;rw [NL.out];refine (PC.out _ _ _ _ _ (aF.below oS.out hB) N5).mono ?_;rintro e w5 ⟨yQ,rfl,xg,hb5⟩;exact ⟨_,rfl,aJ.at xg (by have:=hB.size;omega),hb5⟩
 intro vals wv Ic hv hne;have n48:(Rg.Val.at (aJ (wf.heap.size) (F))).ok (vals 9) wv:=hv 9 (by decide);simp only [Rg.ay,Rg.fill,Act.put,Nat.reduceAdd];clear hv;obtain ⟨JA,a48,Iu,IY,Gh,zV,N6⟩:=(Rg.ah n48).view;simp only [zV];clear zV;replace R:=R5;replace hw:=He;have R2:=R.keep Ic;have ⟨c0,c1,f0,f1,_⟩:=R2.box;have hr1:=aF.base (aF.bO N6 R2 (by decide) (.bool JA) (.slice a48 Iu IY)) (show w.heap.size≤wf.heap.size from hw.size);have hr2:Below w.heap.size w ((wv.setCell ⟨w.heap.size+1+1,0,none⟩ (.bool JA)).setCell ⟨w.heap.size+1+1,1,none⟩ (.slice a48 Iu IY)):=xN (xN (d_ hw Ic) (by simp <;> omega) _) (by simp <;> omega) _;unfold Rg.aX Rg.aX Oper.wp
 go_simp
 go_wp2;exact bodyPost_ret (v:=.agg #[.bool JA,.slice a48 Iu IY]) (by simp [results,Tryz.results187,go_sem, *]) rfl (⟨_,by rw [Gh.out],hr1,hr2⟩)
namespace Wh
theorem lj {a b x z:Int} (hx:sz x 1000) (hz:sz z 1000) (ha1:-1000≤a) (ha2:a≤1000) (hb1:-10000≤b) (hb2:b≤10000):sz (bE a b x z) 5000:=by
 have haa:-1000000≤a*a∧a*a≤1000000:=M.aL (x:=a) (y:=a) (m:=1000) (n:=1000) (by omega) (by omega) (by omega) (by omega);rw [←nI];have mx:=ar hx hx;have mz:=ar hz hz;have m1:=lh (aQ (ar mx mx) (show 1000+1000+(1000+1000)≤4100 by omega)) (aQ (ar (ar mx mz) (bc (n:=2*a) (by omega) (by omega))) (show _≤4100 by omega));have m2:=lh (aQ m1 (show 4100+1≤4200 by omega)) (aQ (ar (ar (ar hx hz) mz) (bc (n:=8*b) (by omega) (by omega))) (show _≤4200 by omega));exact aQ (fg (aQ m2 (show 4200+1≤4300 by omega)) (aQ (ar (ar mz mz) (bc (n:=a*a) (by omega) (by omega))) (show _≤4300 by omega))) (by omega)
theorem lZ {a b x z:Int} (hx:sz x 1000) (hz:sz z 1000) (ha1:-1000≤a) (ha2:a≤1000) (hb1:-10000≤b) (hb2:b≤10000):sz (aw a b x z) 6000:=by
 rw [←mG];have m1:=ar hx hx;have m0:=ar hz hz;have m2:=ar m1 hx;have m4:=ar (ar hx m0) (bc (n:=a) (by omega) (by omega));have m5:=fg (aQ m2 (show 1000+1000+1000≤4000 by omega)) (aQ m4 (show _≤4000 by omega));have m7:=ar (ar hz m0) (bc (n:=b) (by omega) (by omega));have m8:=fg (aQ m5 (show 4000+1≤4100 by omega)) (aQ m7 (show _≤4100 by omega));exact aQ (ar (ar hz m8) (bc (n:=4) (by omega) (by omega))) (by omega)
def BF (D F G:Int):Nat:=Nat.gcd (Nat.gcd (4*D.natAbs) F.natAbs) G.natAbs
theorem rY (D F G:Int):Nat.gcd (G.natAbs % Nat.gcd (F.natAbs % (4*D.natAbs)) (4*D.natAbs)) (Nat.gcd (F.natAbs % (4*D.natAbs)) (4*D.natAbs))=BF D F G:=by
 unfold BF;rw [←Nat.gcd_rec,←Nat.gcd_rec]
theorem mT (n:Nat) (y:Int):M.gcd (n:Int) (y % (n:Int))=(Nat.gcd n y.natAbs:Nat):=by
 unfold M.gcd Int.gcd;rw [Int.natAbs_natCast]
 by_cases hn:n=0
 ·subst hn
  simp
 congr 1
 apply Nat.dvd_antisymm
 ·refine Nat.dvd_gcd (Nat.gcd_dvd_left _ _) ?_
  have h1:(Nat.gcd n (y % (n:Int)).natAbs:Int) ∣ y % (n:Int):=Int.ofNat_dvd_left.2 (Nat.gcd_dvd_right _ _);have h2:(Nat.gcd n (y % (n:Int)).natAbs:Int) ∣ (n:Int):=Int.ofNat_dvd.2 (Nat.gcd_dvd_left _ _)
  have h3:(Nat.gcd n (y % (n:Int)).natAbs:Int) ∣ y:=by
   have h4:=Int.dvd_add h1 (Int.dvd_mul_of_dvd_left (c:=y / (n:Int)) h2)
   rwa [Int.emod_add_mul_ediv] at h4
  exact Int.ofNat_dvd_left.1 h3
 refine Nat.dvd_gcd (Nat.gcd_dvd_left _ _) ?_;have h1:(Nat.gcd n y.natAbs:Int) ∣ y:=Int.ofNat_dvd_left.2 (Nat.gcd_dvd_right _ _);have h2:(Nat.gcd n y.natAbs:Int) ∣ (n:Int):=Int.ofNat_dvd.2 (Nat.gcd_dvd_left _ _)
 have h3:(Nat.gcd n y.natAbs:Int) ∣ y % (n:Int):=by
  rw [Int.emod_def];exact Int.dvd_sub h1 (Int.dvd_mul_of_dvd_left h2)
 exact Int.ofNat_dvd_left.1 h3
theorem tZ (D F G:Int):M.gcd (M.gcd (4*(D.natAbs:Int)) (F % (4*(D.natAbs:Int)))) (G % (4*(D.natAbs:Int)))=(BF D F G:Nat):=by
 have e:(4*(D.natAbs:Int))=((4*D.natAbs:Nat):Int):=by omega
 rw [e,mT];unfold BF;have h:Nat.gcd F.natAbs F.natAbs=F.natAbs:=Nat.gcd_self _;have h1:=mT (4*D.natAbs) G;unfold M.gcd Int.gcd at h1 ⊢;rw [Int.natAbs_natCast] at h1 ⊢
 have h2:Nat.gcd (4*D.natAbs) (G % ((4*D.natAbs:Nat):Int)).natAbs=Nat.gcd (4*D.natAbs) G.natAbs:=by omega
 rw [Nat.gcd_comm (4*D.natAbs) F.natAbs,Nat.gcd_assoc,Nat.gcd_assoc,h2]
theorem tY (D F G:Int):BF D (-F) (-G)=BF D F G:=by unfold BF;rw [Int.natAbs_neg,Int.natAbs_neg]
theorem rX {D:Int} (F G:Int) (h:D≠0):1≤BF D F G∧BF D F G≤4*D.natAbs:=by
 unfold BF
 have h0:0<4*D.natAbs:=by omega
 have h1:0<Nat.gcd (4*D.natAbs) F.natAbs:=Nat.gcd_pos_of_pos_left _ h0;exact ⟨Nat.gcd_pos_of_pos_left _ h1,Nat.le_trans (Nat.gcd_le_left _ h1) (Nat.gcd_le_left _ h0)⟩
end Wh
theorem jT (a b x z:Int) (vx vz:Value) (w:World) (bx bz:Nat) (hg:M.good a b=true) (hox:aj w bx vx x) (yW:aj w bz vz z) (hx:Wh.sz x 1000) (hz:Wh.sz z 1000) :
  Calls Tryz.prog 178 #[.agg #[.int .i64 a,.int .i64 b],.agg #[.bool (decide (x<0)),vx,.bool (decide (z<0)),vz]] w fun e w'=>e=.returned (.int .i64 (Wh.BF (M.af a b) (Wh.bE a b x z) (Wh.aw a b x z):Nat))∧Below w.heap.size w w':=by
 obtain ⟨ax,cx,rfl,-,-⟩:=aF.view hox;obtain ⟨az,cz,rfl,-,-⟩:=aF.view yW;have hin:=M.am hg;obtain ⟨ha1,ha2,hb1,hb2⟩:=M.an hin;have hdb:=eD hin;have hdn:=ew hg
 have PC:=fun W=>nl a b W hin
 have PF:=fun v v' W k k' (h1:aF W k v (Wh.a_ x.natAbs)) (h2:aF W k' v' (Wh.a_ z.natAbs))=>gC a b x z v v' W k k' h1 h2 hx hz ha1 ha2 hb1 hb2
 have PG:=fun v v' W k k' (h1:aF W k v (Wh.a_ x.natAbs)) (h2:aF W k' v' (Wh.a_ z.natAbs))=>dm a b x z v v' W k k' h1 h2 hx hz ha1 ha2 hb1 hb2
 have sF:=Wh.aY.2 (Wh.aQ (Wh.lj hx hz ha1 ha2 hb1 hb2) (show 5000≤9000 by omega));have sG:=Wh.aY.2 (Wh.aQ (Wh.lZ hx hz ha1 ha2 hb1 hb2) (show 6000≤9000 by omega));have hres:=Wh.rY (M.af a b) (Wh.bE a b x z) (Wh.aw a b x z);generalize Wh.aw a b x z=G,Wh.bE a b x z=F,M.af a b=D,Wh.BF (M.af a b) (Wh.bE a b x z) (Wh.aw a b x z)=RES at *
 have hn1:1≤4*D.natAbs:=by omega
 have hn2:4*D.natAbs≤1000000000000:=by omega
 have PV:=fun v W k (h:aF W k v (Wh.a_ F.natAbs))=>gB F (4*D.natAbs) v W k h sF hn1 hn2
 have hm1:1≤Nat.gcd (F.natAbs % (4*D.natAbs)) (4*D.natAbs):=Nat.gcd_pos_of_pos_right _ hn1;have hm2:Nat.gcd (F.natAbs % (4*D.natAbs)) (4*D.natAbs)≤1000000000000:=Nat.le_trans (Nat.gcd_le_right _ hn1) hn2
 have PW:=fun v W k (h:aF W k v (Wh.a_ G.natAbs))=>gB G (Nat.gcd (F.natAbs % (4*D.natAbs)) (4*D.natAbs)) v W k h sG hm1 hm2
 rw [hres] at PW
 have hmax:(if 4*D < -4*D then -4*D else 4*D)=((4*D.natAbs:Nat):Int):=by split <;> omega
 have Du:max (4*D) (-4*D)=((4*D.natAbs:Nat):Int):=by omega
 clear hn1 hn2 hm1 hm2 hres sF sG ha1 ha2 hb1 hb2 hdn
 have hD1:-6700000000≤D:=by omega
 have hD2:D≤6700000000:=by omega
 clear hdb;generalize hN:4*D.natAbs=N at *;replace hN:=xL hN;generalize Nat.gcd (F.natAbs % N) N=N2 at *;replace hmax:=xL hmax;replace Du:=xL Du;replace PC:=xL PC;replace PF:=xL PF;replace PG:=xL PG;replace PV:=xL PV;replace PW:=xL PW;generalize hs1:decide (x<0)=s1 at *;generalize hs2:decide (z<0)=s2 at *;clear hs1 hs2;replace hox:=xL (show aF _ _ _ _ from hox);replace yW:=xL (show aF _ _ _ _ from yW);generalize (Wh.a_ z.natAbs).length=lz,(Wh.a_ x.natAbs).length=lx at *;have b1:=(aH.new w #[.int .i64 a,.int .i64 b] 25).alloc (.cells #[.bool s1,.slice ax lx cx,.bool s2,.slice az lz cz] 127)
 have b2:=(aH.new (w.alloc (.cells #[.int .i64 a,.int .i64 b] 25)) #[.bool s1,.slice ax lx cx,.bool s2,.slice az lz cz] 127)
 rw [xM] at b2;have hB:=((xO w.heap.size w).alloc (xP _) (.cells #[.int .i64 a,.int .i64 b] 25)).alloc (by rw [xM];omega) (.cells #[.bool s1,.slice ax lx cx,.bool s2,.slice az lz cz] 127);have ox:=xL (aF.alloc (aF.alloc hox.out (.cells #[.int .i64 a,.int .i64 b] 25)) (.cells #[.bool s1,.slice ax lx cx,.bool s2,.slice az lz cz] 127));have oz:=xL (aF.alloc (aF.alloc yW.out (.cells #[.int .i64 a,.int .i64 b] 25)) (.cells #[.bool s1,.slice ax lx cx,.bool s2,.slice az lz cz] 127));clear hox yW;generalize hw3:(w.alloc (.cells #[.int .i64 a,.int .i64 b] 25)).alloc (.cells #[.bool s1,.slice ax lx cx,.bool s2,.slice az lz cz] 127)=wc at *;go_enter Tryz.func178,Tryz.ntmps178
 go_wp2
 go_upto_region 1 with fail
 refine Rg.bS 8 [.is (.agg #[.int .i64 a,.int .i64 b]),.is (.int .i64 D),.is (.int .i64 (4*D)),.is (.agg #[.int .i64 a,.int .i64 b]),.is (.int .i64 D),.is (.int .i64 ((-4)*D)),.is (.int .i64 ((N:Nat):Int)),.is (.int .i64 ((N:Nat):Int))] (by kernel_rfl) (by kernel_rfl) (by kernel_rfl) ⟨?_,?_,?_,?_,?_,?_,?_,?_,trivial⟩ ?_
 ·intro _ zZ w_ hB hr
  have e2:zZ.tmps[2]?=some (.pointer (some ⟨w.heap.size,0,none⟩)):=hr 2 (by decide);have k0:=aE hB b1.box.c0;have k1:=aE hB b1.box.c1;exact Rg.aG rfl (by go_simp)
 ·intro _ zZ w_ hB hr
  have e6:=Rg.c_ (hr 6 (by decide));have ef:=Rg.ef zZ;exact Rg.bX rfl (by go_simp) (PC.out _)
 ·intro _ zZ w_ hB hr
  have e7:=Rg.c_ (hr 7 (by decide));have ec:=Rg.ec zZ;exact Rg.aG rfl (by go_simp <;> exact Rg.wo (by omega))
 ·intro _ zZ w_ hB hr
  have e2:zZ.tmps[2]?=some (.pointer (some ⟨w.heap.size,0,none⟩)):=hr 2 (by decide);have k0:=aE hB b1.box.c0;have k1:=aE hB b1.box.c1;exact Rg.aG rfl (by go_simp)
 ·intro _ zZ w_ hB hr
  have e9:=Rg.c_ (hr 9 (by decide));have ef:=Rg.ef zZ;exact Rg.bX rfl (by go_simp) (PC.out _)
 ·intro _ zZ w_ hB hr
  have e10:=Rg.c_ (hr 10 (by decide));have ec:=Rg.ec zZ;exact Rg.aG rfl (by go_simp <;> exact Rg.wo (by omega))
 ·intro _ zZ w_ hB hr
  have e8:=Rg.c_ (hr 8 (by decide));have e11:=Rg.c_ (hr 11 (by decide));exact Rg.aG rfl (by go_simp;first | done | (rw [hmax.out];done) | (rw [Du.out];done) | (simp only [hmax.out];done))
 ·intro _ zZ w_ hB hr
  have e12:=Rg.c_ (hr 12 (by decide));exact Rg.aG rfl (by go_simp)
 intro vals wz hB1 hv hne;have Af:vals 7=.int .i64 ((N:Nat):Int):=hv 7 (by decide);simp only [Rg.ay,Rg.fill,Act.put,Nat.reduceAdd];clear hv;simp only [Af];clear Af;replace b1:=b1.keep hB1;replace b2:=b2.keep hB1;replace ox:=xL (aF.below ox.out hB1);replace oz:=xL (aF.below oz.out hB1);have hBw:=d_ hB hB1;unfold Rg.aX
 go_upto_region 2 with fail
 clear hB1;refine Rg.bS 10 [.is (.agg #[.int .i64 a,.int .i64 b]),.is (.agg #[.bool s1,.slice ax lx cx,.bool s2,.slice az lz cz]),.at (aJ (wz.heap.size) (G)),.is (.agg #[.int .i64 a,.int .i64 b]),.is (.agg #[.bool s1,.slice ax lx cx,.bool s2,.slice az lz cz]),.at (aJ (wz.heap.size) (F)),.is (.int .i64 ((N:Nat):Int)),.is (.int .i64 ((N2:Nat):Int)),.is (.int .i64 ((RES:Nat):Int)),.is (.int .i64 ((RES:Nat):Int))] (by kernel_rfl) (by kernel_rfl) (by kernel_rfl) ⟨?_,?_,?_,?_,?_,?_,?_,?_,?_,?_,trivial⟩ ?_
 ·intro _ zZ w_ hB hr
  have e2:zZ.tmps[2]?=some (.pointer (some ⟨w.heap.size,0,none⟩)):=hr 2 (by decide);have k0:=aE hB b1.box.c0;have k1:=aE hB b1.box.c1;exact Rg.aG rfl (by go_simp)
 ·intro _ zZ w_ hB hr
  have e3:zZ.tmps[3]?=some (.pointer (some ⟨w.heap.size+1,0,none⟩)):=hr 3 (by decide);have k0:=aE hB b2.aN.c0;have k1:=aE hB b2.aN.c1;have k2:=aE hB b2.aN.c2;have k3:=aE hB b2.aN.c3;exact Rg.aG rfl (by go_simp)
 ·intro _ zZ w_ hB hr
  have e13:=Rg.c_ (hr 13 (by decide));have e14:=Rg.c_ (hr 14 (by decide));have ef:=Rg.ef zZ;refine Rg.ae rfl (by go_simp;exact ⟨rfl,rfl⟩) ?_;refine (PG.out _ _ _ _ _ (aF.below ox.out hB) (aF.below oz.out hB)).mono ?_;rintro e w5 ⟨yQ,rfl,xg,hb5⟩;exact ⟨_,rfl,aJ.at xg (by have:=hB.size;omega),hb5⟩
 ·intro _ zZ w_ hB hr
  have e2:zZ.tmps[2]?=some (.pointer (some ⟨w.heap.size,0,none⟩)):=hr 2 (by decide);have k0:=aE hB b1.box.c0;have k1:=aE hB b1.box.c1;exact Rg.aG rfl (by go_simp)
 ·intro _ zZ w_ hB hr
  have e3:zZ.tmps[3]?=some (.pointer (some ⟨w.heap.size+1,0,none⟩)):=hr 3 (by decide);have k0:=aE hB b2.aN.c0;have k1:=aE hB b2.aN.c1;have k2:=aE hB b2.aN.c2;have k3:=aE hB b2.aN.c3;exact Rg.aG rfl (by go_simp)
 ·intro _ zZ w_ hB hr
  have e16:=Rg.c_ (hr 16 (by decide));have e17:=Rg.c_ (hr 17 (by decide));have ef:=Rg.ef zZ;refine Rg.ae rfl (by go_simp;exact ⟨rfl,rfl⟩) ?_;refine (PF.out _ _ _ _ _ (aF.below ox.out hB) (aF.below oz.out hB)).mono ?_;rintro e w5 ⟨yQ,rfl,xg,hb5⟩;exact ⟨_,rfl,aJ.at xg (by have:=hB.size;omega),hb5⟩
 ·intro _ zZ w_ hB hr
  have e5:zZ.tmps[5]?=some (.int .i64 ((N:Nat):Int)):=hr 5 (by decide);exact Rg.aG rfl (by go_simp)
 ·intro _ zZ w_ hB hr
  obtain ⟨v18,e18,n18⟩:∃ v,zZ.tmps[18]?=some v∧(Rg.Val.at (aJ (wz.heap.size) (F))).ok v w_:=hr 18 (by decide);obtain ⟨s18,a18,l18,c18,Gc,rfl,Nw⟩:=(Rg.ah n18).view;have e19:=Rg.c_ (hr 19 (by decide));have ef:=Rg.ef zZ;obtain rfl:=Gc.out;exact Rg.bX rfl (by go_simp) (PV.out _ _ _ Nw)
 ·intro _ zZ w_ hB hr
  obtain ⟨v15,e15,n15⟩:∃ v,zZ.tmps[15]?=some v∧(Rg.Val.at (aJ (wz.heap.size) (G))).ok v w_:=hr 15 (by decide);obtain ⟨s15,Df,D4,c15,E9,rfl,DC⟩:=(Rg.ah n15).view;have e20:=Rg.c_ (hr 20 (by decide));have ef:=Rg.ef zZ;obtain rfl:=E9.out;exact Rg.bX rfl (by go_simp) (PW.out _ _ _ DC)
 ·intro _ zZ w_ hB hr
  have e21:=Rg.c_ (hr 21 (by decide));exact Rg.aG rfl (by go_simp)
 intro vals wy hB2 hv hne;have zV:vals 9=.int .i64 ((RES:Nat):Int):=hv 9 (by decide);simp only [Rg.ay,Rg.fill,Act.put,Nat.reduceAdd];clear hv;simp only [zV];clear zV;unfold Rg.aX;go_wp2;go_ret;exact ⟨rfl,d_ hBw hB2⟩
namespace Wh
def C8 (D F G:Int):Int:=if G<0 then -(F / (BF D F G:Nat)) else F / (BF D F G:Nat)
def C7 (D F G:Int):Int:=if G<0 then -(G / (BF D F G:Nat)) else G / (BF D F G:Nat)
def dl (D F G:Int):Bool:=decide (G≠0) && cZ (C8 D F G) (C7 D F G)
def BN (D F G:Int):Int:=if dl D F G=true then C8 D F G else 0
def BO (D F G:Int):Int:=if dl D F G=true then C7 D F G else 0
theorem lc {z:Int} {n:Nat} (h:sz z n) (d:Nat):sz (z / (d:Int)) (n+1):=by
 unfold sz at *;rw [Nat.pow_succ]
 have h1:(z / (d:Int)).natAbs≤z.natAbs+1:=by
  rcases Nat.eq_zero_or_pos d with rfl | hd
  ·simp
  have:=Int.natAbs_ediv_le_natAbs z (d:Int);omega
 have hp:0<10000 ^ n:=Nat.pow_pos (by decide);omega
theorem ei {z:Int}:(a_ z.natAbs).length=0 ↔ z=0:=by
 rw [List.length_eq_zero_iff,fm];omega
theorem oo {z:Int} {d:Nat} (hd:1≤d):decide (z / (d:Int)<0)=decide (z<0):=by
 rw [decide_eq_decide]
 constructor
 ·intro h
  rcases Int.lt_or_le z 0 with q | q
  ·exact q
  have:=Int.ediv_nonneg (b:=(d:Int)) q (by omega);omega
 intro h;exact Int.ediv_neg_of_neg_of_pos h (by omega)
end Wh
theorem fK (w:World) (k:Nat):aj w k (.slice none 0 0) 0:=by
 unfold aj;rw [show Wh.a_ (0:Int).natAbs=[] from Wh.fm.2 rfl];exact aF.nil _ _
theorem aH.MS {W:World} {g:Nat} {T:TypeId} {u:Value} (h:aH W g T #[u]):W.cell? ⟨g,0,none⟩=some u:=h.cell 0
theorem p9 (a b x z:Int) (vx vz:Value) (w:World) (bx bz:Nat) (hg:M.good a b=true) (hox:aj w bx vx x) (yW:aj w bz vz z) (hx:Wh.sz x 1000) (hz:Wh.sz z 1000) :
  Calls Tryz.prog 155 #[.agg #[.int .i64 a,.int .i64 b],.agg #[.bool (decide (x<0)),vx,.bool (decide (z<0)),vz]] w fun e w'=>∃ v1 v2,e=.returned (.tuple #[.agg #[.bool (decide (Wh.BN (M.af a b) (Wh.bE a b x z) (Wh.aw a b x z)<0)),v1,.bool (decide (Wh.BO (M.af a b) (Wh.bE a b x z) (Wh.aw a b x z)<0)),v2],.bool (Wh.dl (M.af a b) (Wh.bE a b x z) (Wh.aw a b x z))])∧aj w' w.heap.size v1 (Wh.BN (M.af a b) (Wh.bE a b x z) (Wh.aw a b x z))∧aj w' w.heap.size v2 (Wh.BO (M.af a b) (Wh.bE a b x z) (Wh.aw a b x z))∧Below w.heap.size w w':=by
 obtain ⟨ax,cx,rfl,-,-⟩:=aF.view hox;obtain ⟨az,cz,rfl,-,-⟩:=aF.view yW;have hin:=M.am hg;obtain ⟨ha1,ha2,hb1,hb2⟩:=M.an hin;have hdb:=eD hin;have hdn:=ew hg
 have PF:=fun v v' W k k' (h1:aF W k v (Wh.a_ x.natAbs)) (h2:aF W k' v' (Wh.a_ z.natAbs))=>gC a b x z v v' W k k' h1 h2 hx hz ha1 ha2 hb1 hb2
 have PG:=fun v v' W k k' (h1:aF W k v (Wh.a_ x.natAbs)) (h2:aF W k' v' (Wh.a_ z.natAbs))=>dm a b x z v v' W k k' h1 h2 hx hz ha1 ha2 hb1 hb2
 have PD:=fun v v' W k k' (h1:aF W k v (Wh.a_ x.natAbs)) (h2:aF W k' v' (Wh.a_ z.natAbs))=>jT a b x z v v' W k k' hg h1 h2 hx hz
 have zF:=Wh.lj hx hz ha1 ha2 hb1 hb2;have zG:=Wh.lZ hx hz ha1 ha2 hb1 hb2;have hdv:=Wh.rX (Wh.bE a b x z) (Wh.aw a b x z) hdn;generalize Wh.aw a b x z=G,Wh.bE a b x z=F,M.af a b=D at *;clear hin hg ha1 ha2 hb1 hb2 hdn hx hz
 obtain ⟨d,hd⟩:∃ d,Hid (Wh.BF D F G=d):=⟨_,xL rfl⟩
 rw [hd.out] at hdv PD;have hd1:1≤d:=hdv.1
 have hd2:d≤1000000000000:=by omega
 clear hdv hdb;have sF:=Wh.aY.2 (Wh.aQ zF (show 5000≤9000 by omega));have sG:=Wh.aY.2 (Wh.aQ zG (show 6000≤9000 by omega));have zN:=Wh.lc zF d;have zE:=Wh.lc zG d;have sN:=Wh.aY.2 (Wh.aQ zN (show 5000+1≤9000 by omega));have sE:=Wh.aY.2 (Wh.aQ zE (show 6000+1≤9000 by omega))
 have PQ:=fun v W k (h:aF W k v (Wh.a_ F.natAbs))=>gH F (d:Int) v W k h sF (by omega) (by omega)
 have PR:=fun v W k (h:aF W k v (Wh.a_ G.natAbs))=>gH G (d:Int) v W k h sG (by omega) (by omega)
 generalize hs1:decide (x<0)=s1 at *;generalize hs2:decide (z<0)=s2 at *;clear hs1 hs2;replace hox:=xL (show aF _ _ _ _ from hox);replace yW:=xL (show aF _ _ _ _ from yW);generalize (Wh.a_ z.natAbs).length=lz,(Wh.a_ x.natAbs).length=lx at *;have C:=((aH.new w #[.int .i64 a,.int .i64 b] 25).alloc (.cells #[.bool s1,.slice ax lx cx,.bool s2,.slice az lz cz] 127)).alloc (.cells #[.bool false,.slice none 0 0,.bool false,.slice none 0 0] 127);have Q:=(aH.new (w.alloc (.cells #[.int .i64 a,.int .i64 b] 25)) #[.bool s1,.slice ax lx cx,.bool s2,.slice az lz cz] 127).alloc (.cells #[.bool false,.slice none 0 0,.bool false,.slice none 0 0] 127);rw [xM] at Q;have R:=aH.new ((w.alloc (.cells #[.int .i64 a,.int .i64 b] 25)).alloc (.cells #[.bool s1,.slice ax lx cx,.bool s2,.slice az lz cz] 127)) #[.bool false,.slice none 0 0,.bool false,.slice none 0 0] 127;rw [cm] at R;have B:=(((xO w.heap.size w).alloc (xP _) (.cells #[.int .i64 a,.int .i64 b] 25)).alloc (by rw [xM];omega) (.cells #[.bool s1,.slice ax lx cx,.bool s2,.slice az lz cz] 127)).alloc (by rw [cm];omega) (.cells #[.bool false,.slice none 0 0,.bool false,.slice none 0 0] 127);have ox:=xL (aF.alloc (aF.alloc (aF.alloc hox.out (.cells #[.int .i64 a,.int .i64 b] 25)) (.cells #[.bool s1,.slice ax lx cx,.bool s2,.slice az lz cz] 127)) (.cells #[.bool false,.slice none 0 0,.bool false,.slice none 0 0] 127));have oz:=xL (aF.alloc (aF.alloc (aF.alloc yW.out (.cells #[.int .i64 a,.int .i64 b] 25)) (.cells #[.bool s1,.slice ax lx cx,.bool s2,.slice az lz cz] 127)) (.cells #[.bool false,.slice none 0 0,.bool false,.slice none 0 0] 127));clear hox yW;generalize hw3:((w.alloc (.cells #[.int .i64 a,.int .i64 b] 25)).alloc (.cells #[.bool s1,.slice ax lx cx,.bool s2,.slice az lz cz] 127)).alloc (.cells #[.bool false,.slice none 0 0,.bool false,.slice none 0 0] 127)=wc at *;have f_:=C.box.c0;have i_:=C.box.c1;have ye:=Q.aN.c0;have yf:=Q.aN.c1;have yg:=Q.aN.c2;have yh:=Q.aN.c3;have xT:=R.aN.c0;have xU:=R.aN.c1;have xX:=R.aN.c2;have xY:=R.aN.c3;have t_:=R.aN.f0;have xQ:=R.aN.f1;have xW:=R.aN.f2;have xe:=R.aN.f3
 by_cases h0:G=0
 ·subst h0
  have hok:Wh.dl D F 0=false:=by unfold Wh.dl;simp
  have hX:Wh.BN D F 0=0:=by unfold Wh.BN;rw [hok];rfl
  have hZ:Wh.BO D F 0=0:=by unfold Wh.BO;rw [hok];rfl
  rw [hok,hX,hZ];have hl0:(Wh.a_ (0:Int).natAbs).length=0:=Wh.ei.2 rfl;have hs0:decide ((0:Int)<0)=false:=rfl;rw [hs0] at PG ⊢;clear hok hX hZ hs0 PF PD PQ PR sF sG zN zE sN sE zF zG hd hd1 hd2;replace PG:=xL PG;go_enter Tryz.func155,Tryz.ntmps155
  go_wp2_with (go_at_call 154;(with_reducible refine (PG.out _ _ _ _ _ ox.out oz.out).mono ?_);rintro e w4 ⟨v4,rfl,yD,hb4⟩;have yG:=B.size;replace C:=C.keep hb4;replace Q:=Q.keep hb4;replace R:=R.keep hb4;replace ox:=kO ox hb4;replace oz:=kO oz hb4;replace B:=d_ B hb4;obtain ⟨a4,c4,rfl,yA,xj⟩:=aF.view yD;clear yA xj;have og:=xL (aF.base (show aF _ _ _ _ from yD) yG);clear yD;clear yG;(rw [hl0] at og ⊢);have T:=aH.new w4 #[.bool false,.slice a4 0 c4] 125;have b_:=bA w4 (.cells #[.bool false,.slice a4 0 c4] 125);replace C:=C.keep b_;replace Q:=Q.keep b_;replace R:=R.keep b_;replace ox:=kO ox b_;replace oz:=kO oz b_;replace og:=kO og b_;replace B:=d_ B b_;clear b_;(replace ⟨f_,i_⟩:=C.b2);(replace ⟨ye,yf,yg,yh⟩:=Q.b4);(replace ⟨xT,xU,xX,xY,t_,xQ,xW,xe⟩:=R.yF);(replace ⟨yJ,yK⟩:=T.b2))
  exact bodyPost_ret (v:=.tuple #[.agg #[.bool false,.slice none 0 0,.bool false,.slice none 0 0],.bool false]) (by simp [results,Tryz.results155,go_sem, *]) rfl (⟨_,_,rfl,fK _ _,fK _ _,xN (xN (xN (xN B (by simp <;> omega) _) (by simp <;> omega) _) (by simp <;> omega) _) (by simp <;> omega) _⟩)
 have hlp:¬ (Wh.a_ G.natAbs).length=0:=fun h=>h0 (Wh.ei.1 h)
 have hlq:(((Wh.a_ G.natAbs).length:Int) == 0)=false:=by rw [beq_eq_false_iff_ne];omega
 have hne:decide (G≠0)=true:=decide_eq_true h0;have Bu:=Wh.oo (z:=G) hd1
 have PN:=fun v W k (h:aF W k v (Wh.a_ (F / (d:Int)).natAbs))=>iP (F / (d:Int)) v W k h (by omega)
 have PE:=fun v W k (h:aF W k v (Wh.a_ (G / (d:Int)).natAbs))=>iP (G / (d:Int)) v W k h (by omega)
 have Bx:(Wh.a_ (-(F / (d:Int))).natAbs).length≤100000:=by rw [Int.natAbs_neg];omega
 have Fd:(Wh.a_ (-(G / (d:Int))).natAbs).length≤100000:=by rw [Int.natAbs_neg];omega
 have BR:=fun v v' W k k' (h:aF W k v (Wh.a_ (F / (d:Int)).natAbs)) (h':aF W k' v' (Wh.a_ (G / (d:Int)).natAbs))=>kF (F / (d:Int)) (G / (d:Int)) v v' W k k' h h' (by omega) (by omega)
 have CC:=fun v v' W k k' (h:aF W k v (Wh.a_ (-(F / (d:Int))).natAbs)) (h':aF W k' v' (Wh.a_ (-(G / (d:Int))).natAbs))=>kF (-(F / (d:Int))) (-(G / (d:Int))) v v' W k k' h h' Bx Fd
 have FX:Wh.dl D F G=Wh.cZ (if G<0 then -(F / (d:Int)) else F / (d:Int)) (if G<0 then -(G / (d:Int)) else G / (d:Int)):=by unfold Wh.dl Wh.C8 Wh.C7;rw [hd.out,hne];rfl
 have eX:Wh.BN D F G=if Wh.dl D F G=true then (if G<0 then -(F / (d:Int)) else F / (d:Int)) else 0:=by unfold Wh.BN Wh.C8;rw [hd.out]
 have eZ:Wh.BO D F G=if Wh.dl D F G=true then (if G<0 then -(G / (d:Int)) else G / (d:Int)) else 0:=by unfold Wh.BO Wh.C7;rw [hd.out]
 rw [eX,eZ,FX];clear eX eZ FX Bx Fd hne h0 sF sG zN zE sN sE zF zG;generalize F / (d:Int)=N at *;generalize G / (d:Int)=E at *;generalize F % (d:Int)=rF at *;generalize G % (d:Int)=rG at *;generalize decide (F<0)=sF at *;clear hd
 by_cases hneg:G<0
 ·have hsg:decide (G<0)=true:=decide_eq_true hneg
  rw [hsg] at Bu PG;rw [if_pos hneg,if_pos hneg];simp only [hsg,Bu] at PR PE BR;clear BR;generalize Bx:decide (N<0)=sN at *;replace PG:=xL PG;replace PF:=xL PF;replace PD:=xL PD;replace PQ:=xL PQ;replace PR:=xL PR;replace PN:=xL PN;replace PE:=xL PE;replace CC:=xL CC;replace Bx:=xL Bx;replace Bu:=xL Bu;clear hneg hsg hd1 hd2
  by_cases hok:Wh.cZ (-N) (-E)=true
  ·skip
   rw [hok];replace hok:=xL hok;rw [if_pos rfl,if_pos rfl];go_enter Tryz.func155,Tryz.ntmps155
   go_upto_region 8 with (first
    | (go_at_call 154;(with_reducible refine (PG.out _ _ _ _ _ ox.out oz.out).mono ?_);rintro e w4 ⟨v4,rfl,yD,hb4⟩;have yG:=B.size;replace C:=C.keep hb4;replace Q:=Q.keep hb4;replace R:=R.keep hb4;replace ox:=kO ox hb4;replace oz:=kO oz hb4;replace B:=d_ B hb4;obtain ⟨a4,c4,rfl,yA,xj⟩:=aF.view yD;clear yA xj;have og:=xL (aF.base (show aF _ _ _ _ from yD) yG);clear yD;(generalize (Wh.a_ G.natAbs).length=lg at *);clear yG;have T:=aH.new w4 #[.bool true,.slice a4 lg c4] 125;have b_:=bA w4 (.cells #[.bool true,.slice a4 lg c4] 125);replace C:=C.keep b_;replace Q:=Q.keep b_;replace R:=R.keep b_;replace ox:=kO ox b_;replace oz:=kO oz b_;replace og:=kO og b_;replace B:=d_ B b_;clear b_;(replace ⟨f_,i_⟩:=C.b2);(replace ⟨ye,yf,yg,yh⟩:=Q.b4);(replace ⟨xT,xU,xX,xY,t_,xQ,xW,xe⟩:=R.yF);(replace ⟨yJ,yK⟩:=T.b2))
    | (go_at_call 178;(with_reducible refine (PD.out _ _ _ _ _ ox.out oz.out).mono ?_);rintro e w6 ⟨rfl,hb6⟩;replace C:=C.keep hb6;replace Q:=Q.keep hb6;replace R:=R.keep hb6;replace T:=T.keep hb6;replace ox:=kO ox hb6;replace oz:=kO oz hb6;replace og:=kO og hb6;replace B:=d_ B hb6;(replace ⟨f_,i_⟩:=C.b2);(replace ⟨ye,yf,yg,yh⟩:=Q.b4);(replace ⟨xT,xU,xX,xY,t_,xQ,xW,xe⟩:=R.yF);(replace ⟨yJ,yK⟩:=T.b2))
    | (go_at_call 180;(with_reducible refine (PF.out _ _ _ _ _ ox.out oz.out).mono ?_);rintro e w7 ⟨v7,rfl,Ax,yC⟩;have yG:=B.size;replace C:=C.keep yC;replace Q:=Q.keep yC;replace R:=R.keep yC;replace T:=T.keep yC;replace ox:=kO ox yC;replace oz:=kO oz yC;replace og:=kO og yC;replace B:=d_ B yC;obtain ⟨a7,c7,rfl,yA,xj⟩:=aF.view Ax;clear yA xj;have of:=xL (aF.base (show aF _ _ _ _ from Ax) yG);clear Ax;(generalize (Wh.a_ F.natAbs).length=lf at *);clear yG;(replace ⟨f_,i_⟩:=C.b2);(replace ⟨ye,yf,yg,yh⟩:=Q.b4);(replace ⟨xT,xU,xX,xY,t_,xQ,xW,xe⟩:=R.yF);(replace ⟨yJ,yK⟩:=T.b2))
    | (go_at_call 179;(with_reducible refine (PQ.out _ _ _ of.out).mono ?_);rintro e w8 ⟨v8,rfl,zP,xw⟩;have yG:=B.size;replace C:=C.keep xw;replace Q:=Q.keep xw;replace R:=R.keep xw;replace T:=T.keep xw;replace ox:=kO ox xw;replace oz:=kO oz xw;replace og:=kO og xw;replace of:=kO of xw;replace B:=d_ B xw;obtain ⟨a8,c8,rfl,yA,xj⟩:=aF.view zP;clear yA xj;have on:=xL (aF.base (show aF _ _ _ _ from zP) yG);clear zP;(generalize (Wh.a_ N.natAbs).length=ln at *);clear yG;have Eu:=xL R.lt;have U:=aH.new w8 #[.bool sN,.slice a8 ln c8] 125;have b_:=bA w8 (.cells #[.bool sN,.slice a8 ln c8] 125);replace C:=C.keep b_;replace Q:=Q.keep b_;replace R:=R.keep b_;replace T:=T.keep b_;replace ox:=kO ox b_;replace oz:=kO oz b_;replace og:=kO og b_;replace of:=kO of b_;replace on:=kO on b_;replace B:=d_ B b_;clear b_;(replace ⟨f_,i_⟩:=C.b2);(replace ⟨ye,yf,yg,yh⟩:=Q.b4);(replace ⟨xT,xU,xX,xY,t_,xQ,xW,xe⟩:=R.yF);(replace ⟨yJ,yK⟩:=T.b2);(replace ⟨xx,xy⟩:=U.b2))
    | (go_at_call 179;(with_reducible refine (PR.out _ _ _ og.out).mono ?_);rintro e w9 ⟨v9,rfl,AN,xi⟩;have yG:=B.size;replace C:=C.keep xi;replace Q:=Q.keep xi;replace R:=R.keep xi;replace T:=T.keep xi;replace U:=U.keep xi;replace ox:=kO ox xi;replace oz:=kO oz xi;replace og:=kO og xi;replace of:=kO of xi;replace on:=kO on xi;replace B:=d_ B xi;obtain ⟨a9,c9,rfl,yA,xj⟩:=aF.view AN;clear yA xj;have oe:=xL (aF.base (show aF _ _ _ _ from AN) yG);clear AN;(generalize (Wh.a_ E.natAbs).length=le at *);clear yG;have V:=aH.new w9 #[.bool true,.slice a9 le c9] 125;have b_:=bA w9 (.cells #[.bool true,.slice a9 le c9] 125);replace C:=C.keep b_;replace Q:=Q.keep b_;replace R:=R.keep b_;replace T:=T.keep b_;replace U:=U.keep b_;replace ox:=kO ox b_;replace oz:=kO oz b_;replace og:=kO og b_;replace of:=kO of b_;replace on:=kO on b_;replace oe:=kO oe b_;replace B:=d_ B b_;clear b_;(replace ⟨f_,i_⟩:=C.b2);(replace ⟨ye,yf,yg,yh⟩:=Q.b4);(replace ⟨xT,xU,xX,xY,t_,xQ,xW,xe⟩:=R.yF);(replace ⟨yJ,yK⟩:=T.b2);(replace ⟨xx,xy,yL,yM⟩:=U.yk);(replace ⟨x8,x9,yx,yz⟩:=V.yk)))
   have Mp:w8.heap.size<w9.heap.size:=Nat.lt_of_lt_of_le (by rw [xM];exact Nat.lt_succ_self _) xi.size;generalize w9.alloc (.cells #[.bool true,.slice a9 le c9] 125)=wd at *;refine Rg.bS 4 [.is (.agg #[.bool sN,.slice a8 ln c8]),.at (aJ (wd.heap.size) (-N)),.is (.agg #[.bool true,.slice a9 le c9]),.at (aJ (wd.heap.size) (-E))] (by kernel_rfl) (by kernel_rfl) (by kernel_rfl) ⟨?_,?_,?_,?_,fun h_=>absurd h_ (by decide),fun h_=>absurd h_ (by decide),trivial⟩ ?_
   ·intro _ zZ w_ hB hr
    have e8:zZ.tmps[8]?=some (.pointer (some ⟨w8.heap.size,0,none⟩)):=hr 8 (by decide);have k0:=aE hB U.box.c0;have k1:=aE hB U.box.c1;exact Rg.aG rfl (by go_simp)
   ·intro _ zZ w_ hB hr
    have e40:=Rg.c_ (hr 40 (by decide));have ef:=Rg.ef zZ;refine Rg.ae rfl (by go_simp;exact ⟨rfl,rfl⟩) ?_;refine (PN.out _ _ _ (aF.below on.out hB)).mono ?_;rintro e w5 ⟨yQ,rfl,xg,hb5⟩;exact ⟨_,rfl,aJ.at xg (by have:=hB.size;omega),hb5⟩
   ·intro _ zZ w_ hB hr
    have e10:zZ.tmps[10]?=some (.pointer (some ⟨w9.heap.size,0,none⟩)):=hr 10 (by decide);have k0:=aE hB V.box.c0;have k1:=aE hB V.box.c1;exact Rg.aG rfl (by go_simp)
   ·intro _ zZ w_ hB hr
    have e42:=Rg.c_ (hr 42 (by decide));have ef:=Rg.ef zZ;refine Rg.ae rfl (by go_simp;exact ⟨rfl,rfl⟩) ?_;refine (PE.out _ _ _ (aF.below oe.out hB)).mono ?_;rintro e w5 ⟨yQ,rfl,xg,hb5⟩;exact ⟨_,rfl,aJ.at xg (by have:=hB.size;omega),hb5⟩
   intro vals wz hB hv hne;have n41:(Rg.Val.at (aJ (wd.heap.size) (-N))).ok (vals 1) wz:=hv 1 (by decide);have n43:(Rg.Val.at (aJ (wd.heap.size) (-E))).ok (vals 3) wz:=hv 3 (by decide);simp only [Rg.ay,Rg.fill,Act.put,Nat.reduceAdd];clear hv;obtain ⟨Ae,a41,Ad,AZ,DL,v_1,Gp⟩:=(Rg.ah n41).view;obtain ⟨s43,a43,BH,BE,FA,EM,Iw⟩:=(Rg.ah n43).view;simp only [v_1,EM];clear v_1 EM;have U2:=U.keep hB;have V2:=V.keep hB;have R2:=R.keep hB
   have Es:w8.heap.size≠w9.heap.size:=by omega
   have GE:=Es.symm;have V3:aH ((wz.setCell ⟨w8.heap.size,0,none⟩ (.bool Ae)).setCell ⟨w8.heap.size,1,none⟩ (.slice a41 Ad AZ)) w9.heap.size 125 #[.bool true,.slice a9 le c9]:=(V2.other GE _).other GE _;have V4:=aH.set2 V3 (.bool s43) (.slice a43 BH BE);have U4:aH ((((wz.setCell ⟨w8.heap.size,0,none⟩ (.bool Ae)).setCell ⟨w8.heap.size,1,none⟩ (.slice a41 Ad AZ)).setCell ⟨w9.heap.size,0,none⟩ (.bool s43)).setCell ⟨w9.heap.size,1,none⟩ (.slice a43 BH BE)) w8.heap.size 125 #[.bool Ae,.slice a41 Ad AZ]:=((aH.set2 U2 (.bool Ae) (.slice a41 Ad AZ)).other Es _).other Es _;have oN:=xL (aF.bO (aF.bO (aF.base Gp B.size) U2 (by decide) (.bool Ae) (.slice a41 Ad AZ)) V3 (by decide) (.bool s43) (.slice a43 BH BE));have oE:=xL (aF.bO (aF.bO (aF.base Iw B.size) U2 (by decide) (.bool Ae) (.slice a41 Ad AZ)) V3 (by decide) (.bool s43) (.slice a43 BH BE));have hw8:w.heap.size+1+1<w8.heap.size:=Eu.out
   have GN:w.heap.size+1+1≠w9.heap.size:=by omega
   have FZ:w.heap.size+1+1≠w8.heap.size:=by omega
   have R4:aH ((((wz.setCell ⟨w8.heap.size,0,none⟩ (.bool Ae)).setCell ⟨w8.heap.size,1,none⟩ (.slice a41 Ad AZ)).setCell ⟨w9.heap.size,0,none⟩ (.bool s43)).setCell ⟨w9.heap.size,1,none⟩ (.slice a43 BH BE)) (w.heap.size+1+1) 127 #[.bool false,.slice none 0 0,.bool false,.slice none 0 0]:=(((R2.other FZ _).other FZ _).other GN _).other GN _;have B4:Below w.heap.size w ((((wz.setCell ⟨w8.heap.size,0,none⟩ (.bool Ae)).setCell ⟨w8.heap.size,1,none⟩ (.slice a41 Ad AZ)).setCell ⟨w9.heap.size,0,none⟩ (.bool s43)).setCell ⟨w9.heap.size,1,none⟩ (.slice a43 BH BE)):=xN (xN (xN (xN (d_ B hB) (by simp <;> omega) _) (by simp <;> omega) _) (by simp <;> omega) _) (by simp <;> omega) _;have ⟨p0,p1,q0,q1,_⟩:=U2.box;have ⟨p2,p3,q2,q3,_⟩:=V2.box;unfold Rg.aX Rg.aX Rg.aX Oper.wp
   go_simp
   clear p0 p1 q0 q1 p2 p3 q2 q3 U2 V2 V3 R2 Gp Iw hB U V R C Q T B ox oz og of on oe FZ GN Es GE Mp f_ i_ ye yf yg yh xT xU xX xY t_ xQ xW xe xx xy x8 x9 yL yM yx yz;generalize ((((wz.setCell ⟨w8.heap.size,0,none⟩ (.bool Ae)).setCell ⟨w8.heap.size,1,none⟩ (.slice a41 Ad AZ)).setCell ⟨w9.heap.size,0,none⟩ (.bool s43)).setCell ⟨w9.heap.size,1,none⟩ (.slice a43 BH BE))=wf at *;have Eb:=CC.out;rw [←DL.out,←FA.out] at Eb;replace Eb:=xL Eb
   rename aH _ w8.heap.size _ _=>U
   rename aH _ w9.heap.size _ _=>V
   rename aH _ (w.heap.size+1+1) _ _=>R
   rename Below _ _ wf=>B
   have xx:=U.box.c0;have xy:=U.box.c1;have x8:=V.box.c0;have x9:=V.box.c1
   go_wp2_with (go_at_call 181;have O:=aH.new wf #[.bool Ae,.slice a41 Ad AZ,.bool s43,.slice a43 BH BE] 127;have b_:=bA wf (.cells #[.bool Ae,.slice a41 Ad AZ,.bool s43,.slice a43 BH BE] 127);replace R:=R.keep b_;replace oN:=kO oN b_;replace oE:=kO oE b_;replace B:=d_ B b_;clear b_;(with_reducible refine (Eb.out _ _ _ _ _ oN.out oE.out).mono ?_);rintro e EY ⟨rfl,xd⟩;(simp only [hok.out]);replace R:=R.keep xd;replace O:=O.keep xd;replace oN:=kO oN xd;replace oE:=kO oE xd;replace B:=d_ B xd;(replace ⟨xT,xU,xX,xY,t_,xQ,xW,xe⟩:=R.yF);(replace ⟨AD,AE,AF,AG⟩:=O.b4))
   have hr1:=aF.base (aF.dH oN.out R (by decide) (.bool Ae) (.slice a41 Ad AZ) (.bool s43) (.slice a43 BH BE)) (base':=w.heap.size) (by first | exact xP _ | omega);have hr2:=aF.base (aF.dH oE.out R (by decide) (.bool Ae) (.slice a41 Ad AZ) (.bool s43) (.slice a43 BH BE)) (base':=w.heap.size) (by first | exact xP _ | omega);exact bodyPost_ret (v:=.tuple #[.agg #[.bool Ae,.slice a41 Ad AZ,.bool s43,.slice a43 BH BE],.bool true]) (by simp [results,Tryz.results155,go_sem, *]) rfl (⟨_,_,(by rw [DL.out,FA.out]),hr1,hr2,xN (xN (xN (xN B (by simp <;> omega) _) (by simp <;> omega) _) (by simp <;> omega) _) (by simp <;> omega) _⟩)
  replace hok:Wh.cZ (-N) (-E)=false:=by simpa using hok
  rw [hok];replace hok:=xL hok;rw [if_neg (by decide),if_neg (by decide)];go_enter Tryz.func155,Tryz.ntmps155
  go_upto_region 8 with (first
   | (go_at_call 154;(with_reducible refine (PG.out _ _ _ _ _ ox.out oz.out).mono ?_);rintro e w4 ⟨v4,rfl,yD,hb4⟩;have yG:=B.size;replace C:=C.keep hb4;replace Q:=Q.keep hb4;replace R:=R.keep hb4;replace ox:=kO ox hb4;replace oz:=kO oz hb4;replace B:=d_ B hb4;obtain ⟨a4,c4,rfl,yA,xj⟩:=aF.view yD;clear yA xj;have og:=xL (aF.base (show aF _ _ _ _ from yD) yG);clear yD;(generalize (Wh.a_ G.natAbs).length=lg at *);clear yG;have T:=aH.new w4 #[.bool true,.slice a4 lg c4] 125;have b_:=bA w4 (.cells #[.bool true,.slice a4 lg c4] 125);replace C:=C.keep b_;replace Q:=Q.keep b_;replace R:=R.keep b_;replace ox:=kO ox b_;replace oz:=kO oz b_;replace og:=kO og b_;replace B:=d_ B b_;clear b_;(replace ⟨f_,i_⟩:=C.b2);(replace ⟨ye,yf,yg,yh⟩:=Q.b4);(replace ⟨xT,xU,xX,xY,t_,xQ,xW,xe⟩:=R.yF);(replace ⟨yJ,yK⟩:=T.b2))
   | (go_at_call 178;(with_reducible refine (PD.out _ _ _ _ _ ox.out oz.out).mono ?_);rintro e w6 ⟨rfl,hb6⟩;replace C:=C.keep hb6;replace Q:=Q.keep hb6;replace R:=R.keep hb6;replace T:=T.keep hb6;replace ox:=kO ox hb6;replace oz:=kO oz hb6;replace og:=kO og hb6;replace B:=d_ B hb6;(replace ⟨f_,i_⟩:=C.b2);(replace ⟨ye,yf,yg,yh⟩:=Q.b4);(replace ⟨xT,xU,xX,xY,t_,xQ,xW,xe⟩:=R.yF);(replace ⟨yJ,yK⟩:=T.b2))
   | (go_at_call 180;(with_reducible refine (PF.out _ _ _ _ _ ox.out oz.out).mono ?_);rintro e w7 ⟨v7,rfl,Ax,yC⟩;have yG:=B.size;replace C:=C.keep yC;replace Q:=Q.keep yC;replace R:=R.keep yC;replace T:=T.keep yC;replace ox:=kO ox yC;replace oz:=kO oz yC;replace og:=kO og yC;replace B:=d_ B yC;obtain ⟨a7,c7,rfl,yA,xj⟩:=aF.view Ax;clear yA xj;have of:=xL (aF.base (show aF _ _ _ _ from Ax) yG);clear Ax;(generalize (Wh.a_ F.natAbs).length=lf at *);clear yG;(replace ⟨f_,i_⟩:=C.b2);(replace ⟨ye,yf,yg,yh⟩:=Q.b4);(replace ⟨xT,xU,xX,xY,t_,xQ,xW,xe⟩:=R.yF);(replace ⟨yJ,yK⟩:=T.b2))
   | (go_at_call 179;(with_reducible refine (PQ.out _ _ _ of.out).mono ?_);rintro e w8 ⟨v8,rfl,zP,xw⟩;have yG:=B.size;replace C:=C.keep xw;replace Q:=Q.keep xw;replace R:=R.keep xw;replace T:=T.keep xw;replace ox:=kO ox xw;replace oz:=kO oz xw;replace og:=kO og xw;replace of:=kO of xw;replace B:=d_ B xw;obtain ⟨a8,c8,rfl,yA,xj⟩:=aF.view zP;clear yA xj;have on:=xL (aF.base (show aF _ _ _ _ from zP) yG);clear zP;(generalize (Wh.a_ N.natAbs).length=ln at *);clear yG;have Eu:=xL R.lt;have U:=aH.new w8 #[.bool sN,.slice a8 ln c8] 125;have b_:=bA w8 (.cells #[.bool sN,.slice a8 ln c8] 125);replace C:=C.keep b_;replace Q:=Q.keep b_;replace R:=R.keep b_;replace T:=T.keep b_;replace ox:=kO ox b_;replace oz:=kO oz b_;replace og:=kO og b_;replace of:=kO of b_;replace on:=kO on b_;replace B:=d_ B b_;clear b_;(replace ⟨f_,i_⟩:=C.b2);(replace ⟨ye,yf,yg,yh⟩:=Q.b4);(replace ⟨xT,xU,xX,xY,t_,xQ,xW,xe⟩:=R.yF);(replace ⟨yJ,yK⟩:=T.b2);(replace ⟨xx,xy⟩:=U.b2))
   | (go_at_call 179;(with_reducible refine (PR.out _ _ _ og.out).mono ?_);rintro e w9 ⟨v9,rfl,AN,xi⟩;have yG:=B.size;replace C:=C.keep xi;replace Q:=Q.keep xi;replace R:=R.keep xi;replace T:=T.keep xi;replace U:=U.keep xi;replace ox:=kO ox xi;replace oz:=kO oz xi;replace og:=kO og xi;replace of:=kO of xi;replace on:=kO on xi;replace B:=d_ B xi;obtain ⟨a9,c9,rfl,yA,xj⟩:=aF.view AN;clear yA xj;have oe:=xL (aF.base (show aF _ _ _ _ from AN) yG);clear AN;(generalize (Wh.a_ E.natAbs).length=le at *);clear yG;have V:=aH.new w9 #[.bool true,.slice a9 le c9] 125;have b_:=bA w9 (.cells #[.bool true,.slice a9 le c9] 125);replace C:=C.keep b_;replace Q:=Q.keep b_;replace R:=R.keep b_;replace T:=T.keep b_;replace U:=U.keep b_;replace ox:=kO ox b_;replace oz:=kO oz b_;replace og:=kO og b_;replace of:=kO of b_;replace on:=kO on b_;replace oe:=kO oe b_;replace B:=d_ B b_;clear b_;(replace ⟨f_,i_⟩:=C.b2);(replace ⟨ye,yf,yg,yh⟩:=Q.b4);(replace ⟨xT,xU,xX,xY,t_,xQ,xW,xe⟩:=R.yF);(replace ⟨yJ,yK⟩:=T.b2);(replace ⟨xx,xy,yL,yM⟩:=U.yk);(replace ⟨x8,x9,yx,yz⟩:=V.yk)))
  have Mp:w8.heap.size<w9.heap.size:=Nat.lt_of_lt_of_le (by rw [xM];exact Nat.lt_succ_self _) xi.size;generalize w9.alloc (.cells #[.bool true,.slice a9 le c9] 125)=wd at *;refine Rg.bS 4 [.is (.agg #[.bool sN,.slice a8 ln c8]),.at (aJ (wd.heap.size) (-N)),.is (.agg #[.bool true,.slice a9 le c9]),.at (aJ (wd.heap.size) (-E))] (by kernel_rfl) (by kernel_rfl) (by kernel_rfl) ⟨?_,?_,?_,?_,fun h_=>absurd h_ (by decide),fun h_=>absurd h_ (by decide),trivial⟩ ?_
  ·intro _ zZ w_ hB hr
   have e8:zZ.tmps[8]?=some (.pointer (some ⟨w8.heap.size,0,none⟩)):=hr 8 (by decide);have k0:=aE hB U.box.c0;have k1:=aE hB U.box.c1;exact Rg.aG rfl (by go_simp)
  ·intro _ zZ w_ hB hr
   have e40:=Rg.c_ (hr 40 (by decide));have ef:=Rg.ef zZ;refine Rg.ae rfl (by go_simp;exact ⟨rfl,rfl⟩) ?_;refine (PN.out _ _ _ (aF.below on.out hB)).mono ?_;rintro e w5 ⟨yQ,rfl,xg,hb5⟩;exact ⟨_,rfl,aJ.at xg (by have:=hB.size;omega),hb5⟩
  ·intro _ zZ w_ hB hr
   have e10:zZ.tmps[10]?=some (.pointer (some ⟨w9.heap.size,0,none⟩)):=hr 10 (by decide);have k0:=aE hB V.box.c0;have k1:=aE hB V.box.c1;exact Rg.aG rfl (by go_simp)
  ·intro _ zZ w_ hB hr
   have e42:=Rg.c_ (hr 42 (by decide));have ef:=Rg.ef zZ;refine Rg.ae rfl (by go_simp;exact ⟨rfl,rfl⟩) ?_;refine (PE.out _ _ _ (aF.below oe.out hB)).mono ?_;rintro e w5 ⟨yQ,rfl,xg,hb5⟩;exact ⟨_,rfl,aJ.at xg (by have:=hB.size;omega),hb5⟩
  intro vals wz hB hv hne;have n41:(Rg.Val.at (aJ (wd.heap.size) (-N))).ok (vals 1) wz:=hv 1 (by decide);have n43:(Rg.Val.at (aJ (wd.heap.size) (-E))).ok (vals 3) wz:=hv 3 (by decide);simp only [Rg.ay,Rg.fill,Act.put,Nat.reduceAdd];clear hv;obtain ⟨Ae,a41,Ad,AZ,DL,v_1,Gp⟩:=(Rg.ah n41).view;obtain ⟨s43,a43,BH,BE,FA,EM,Iw⟩:=(Rg.ah n43).view;simp only [v_1,EM];clear v_1 EM;have U2:=U.keep hB;have V2:=V.keep hB;have R2:=R.keep hB
  have Es:w8.heap.size≠w9.heap.size:=by omega
  have GE:=Es.symm;have V3:aH ((wz.setCell ⟨w8.heap.size,0,none⟩ (.bool Ae)).setCell ⟨w8.heap.size,1,none⟩ (.slice a41 Ad AZ)) w9.heap.size 125 #[.bool true,.slice a9 le c9]:=(V2.other GE _).other GE _;have V4:=aH.set2 V3 (.bool s43) (.slice a43 BH BE);have U4:aH ((((wz.setCell ⟨w8.heap.size,0,none⟩ (.bool Ae)).setCell ⟨w8.heap.size,1,none⟩ (.slice a41 Ad AZ)).setCell ⟨w9.heap.size,0,none⟩ (.bool s43)).setCell ⟨w9.heap.size,1,none⟩ (.slice a43 BH BE)) w8.heap.size 125 #[.bool Ae,.slice a41 Ad AZ]:=((aH.set2 U2 (.bool Ae) (.slice a41 Ad AZ)).other Es _).other Es _;have oN:=xL (aF.bO (aF.bO (aF.base Gp B.size) U2 (by decide) (.bool Ae) (.slice a41 Ad AZ)) V3 (by decide) (.bool s43) (.slice a43 BH BE));have oE:=xL (aF.bO (aF.bO (aF.base Iw B.size) U2 (by decide) (.bool Ae) (.slice a41 Ad AZ)) V3 (by decide) (.bool s43) (.slice a43 BH BE));have hw8:w.heap.size+1+1<w8.heap.size:=Eu.out
  have GN:w.heap.size+1+1≠w9.heap.size:=by omega
  have FZ:w.heap.size+1+1≠w8.heap.size:=by omega
  have R4:aH ((((wz.setCell ⟨w8.heap.size,0,none⟩ (.bool Ae)).setCell ⟨w8.heap.size,1,none⟩ (.slice a41 Ad AZ)).setCell ⟨w9.heap.size,0,none⟩ (.bool s43)).setCell ⟨w9.heap.size,1,none⟩ (.slice a43 BH BE)) (w.heap.size+1+1) 127 #[.bool false,.slice none 0 0,.bool false,.slice none 0 0]:=(((R2.other FZ _).other FZ _).other GN _).other GN _;have B4:Below w.heap.size w ((((wz.setCell ⟨w8.heap.size,0,none⟩ (.bool Ae)).setCell ⟨w8.heap.size,1,none⟩ (.slice a41 Ad AZ)).setCell ⟨w9.heap.size,0,none⟩ (.bool s43)).setCell ⟨w9.heap.size,1,none⟩ (.slice a43 BH BE)):=xN (xN (xN (xN (d_ B hB) (by simp <;> omega) _) (by simp <;> omega) _) (by simp <;> omega) _) (by simp <;> omega) _;have ⟨p0,p1,q0,q1,_⟩:=U2.box;have ⟨p2,p3,q2,q3,_⟩:=V2.box;unfold Rg.aX Rg.aX Rg.aX Oper.wp
  go_simp
  clear p0 p1 q0 q1 p2 p3 q2 q3 U2 V2 V3 R2 Gp Iw hB U V R C Q T B ox oz og of on oe FZ GN Es GE Mp f_ i_ ye yf yg yh xT xU xX xY t_ xQ xW xe xx xy x8 x9 yL yM yx yz;generalize ((((wz.setCell ⟨w8.heap.size,0,none⟩ (.bool Ae)).setCell ⟨w8.heap.size,1,none⟩ (.slice a41 Ad AZ)).setCell ⟨w9.heap.size,0,none⟩ (.bool s43)).setCell ⟨w9.heap.size,1,none⟩ (.slice a43 BH BE))=wf at *;have Eb:=CC.out;rw [←DL.out,←FA.out] at Eb;replace Eb:=xL Eb
  rename aH _ w8.heap.size _ _=>U
  rename aH _ w9.heap.size _ _=>V
  rename aH _ (w.heap.size+1+1) _ _=>R
  rename Below _ _ wf=>B
  have xx:=U.box.c0;have xy:=U.box.c1;have x8:=V.box.c0;have x9:=V.box.c1
  go_wp2_with (go_at_call 181;have O:=aH.new wf #[.bool Ae,.slice a41 Ad AZ,.bool s43,.slice a43 BH BE] 127;have b_:=bA wf (.cells #[.bool Ae,.slice a41 Ad AZ,.bool s43,.slice a43 BH BE] 127);replace R:=R.keep b_;replace oN:=kO oN b_;replace oE:=kO oE b_;replace B:=d_ B b_;clear b_;(with_reducible refine (Eb.out _ _ _ _ _ oN.out oE.out).mono ?_);rintro e EY ⟨rfl,xd⟩;(simp only [hok.out]);replace R:=R.keep xd;replace O:=O.keep xd;replace oN:=kO oN xd;replace oE:=kO oE xd;replace B:=d_ B xd;(replace ⟨xT,xU,xX,xY,t_,xQ,xW,xe⟩:=R.yF);(replace ⟨AD,AE,AF,AG⟩:=O.b4))
  exact bodyPost_ret (v:=.tuple #[.agg #[.bool false,.slice none 0 0,.bool false,.slice none 0 0],.bool false]) (by simp [results,Tryz.results155,go_sem, *]) rfl (⟨_,_,rfl,fK _ _,fK _ _,xN (xN (xN (xN B (by simp <;> omega) _) (by simp <;> omega) _) (by simp <;> omega) _) (by simp <;> omega) _⟩)
 have hsg:decide (G<0)=false:=decide_eq_false hneg;rw [hsg] at Bu PG;rw [if_neg hneg,if_neg hneg];simp only [hsg,Bu] at PR PE BR;clear CC PN PE;generalize Bx:decide (N<0)=sN at *;replace PG:=xL PG;replace PF:=xL PF;replace PD:=xL PD;replace PQ:=xL PQ;replace PR:=xL PR;replace BR:=xL BR;replace Bx:=xL Bx;replace Bu:=xL Bu;clear hneg hsg hd1 hd2
 by_cases hok:Wh.cZ (N) (E)=true
 ·skip
  rw [hok];replace hok:=xL hok;rw [if_pos rfl,if_pos rfl];go_enter Tryz.func155,Tryz.ntmps155
  go_wp2_with (first
   | (go_at_call 154;(with_reducible refine (PG.out _ _ _ _ _ ox.out oz.out).mono ?_);rintro e w4 ⟨v4,rfl,yD,hb4⟩;have yG:=B.size;replace C:=C.keep hb4;replace Q:=Q.keep hb4;replace R:=R.keep hb4;replace ox:=kO ox hb4;replace oz:=kO oz hb4;replace B:=d_ B hb4;obtain ⟨a4,c4,rfl,yA,xj⟩:=aF.view yD;clear yA xj;have og:=xL (aF.base (show aF _ _ _ _ from yD) yG);clear yD;(generalize (Wh.a_ G.natAbs).length=lg at *);clear yG;have T:=aH.new w4 #[.bool false,.slice a4 lg c4] 125;have b_:=bA w4 (.cells #[.bool false,.slice a4 lg c4] 125);replace C:=C.keep b_;replace Q:=Q.keep b_;replace R:=R.keep b_;replace ox:=kO ox b_;replace oz:=kO oz b_;replace og:=kO og b_;replace B:=d_ B b_;clear b_;(replace ⟨f_,i_⟩:=C.b2);(replace ⟨ye,yf,yg,yh⟩:=Q.b4);(replace ⟨xT,xU,xX,xY,t_,xQ,xW,xe⟩:=R.yF);(replace ⟨yJ,yK⟩:=T.b2))
   | (go_at_call 178;(with_reducible refine (PD.out _ _ _ _ _ ox.out oz.out).mono ?_);rintro e w6 ⟨rfl,hb6⟩;replace C:=C.keep hb6;replace Q:=Q.keep hb6;replace R:=R.keep hb6;replace T:=T.keep hb6;replace ox:=kO ox hb6;replace oz:=kO oz hb6;replace og:=kO og hb6;replace B:=d_ B hb6;(replace ⟨f_,i_⟩:=C.b2);(replace ⟨ye,yf,yg,yh⟩:=Q.b4);(replace ⟨xT,xU,xX,xY,t_,xQ,xW,xe⟩:=R.yF);(replace ⟨yJ,yK⟩:=T.b2))
   | (go_at_call 180;(with_reducible refine (PF.out _ _ _ _ _ ox.out oz.out).mono ?_);rintro e w7 ⟨v7,rfl,Ax,yC⟩;have yG:=B.size;replace C:=C.keep yC;replace Q:=Q.keep yC;replace R:=R.keep yC;replace T:=T.keep yC;replace ox:=kO ox yC;replace oz:=kO oz yC;replace og:=kO og yC;replace B:=d_ B yC;obtain ⟨a7,c7,rfl,yA,xj⟩:=aF.view Ax;clear yA xj;have of:=xL (aF.base (show aF _ _ _ _ from Ax) yG);clear Ax;(generalize (Wh.a_ F.natAbs).length=lf at *);clear yG;(replace ⟨f_,i_⟩:=C.b2);(replace ⟨ye,yf,yg,yh⟩:=Q.b4);(replace ⟨xT,xU,xX,xY,t_,xQ,xW,xe⟩:=R.yF);(replace ⟨yJ,yK⟩:=T.b2))
   | (go_at_call 179;(with_reducible refine (PQ.out _ _ _ of.out).mono ?_);rintro e w8 ⟨v8,rfl,zP,xw⟩;have yG:=B.size;replace C:=C.keep xw;replace Q:=Q.keep xw;replace R:=R.keep xw;replace T:=T.keep xw;replace ox:=kO ox xw;replace oz:=kO oz xw;replace og:=kO og xw;replace of:=kO of xw;replace B:=d_ B xw;obtain ⟨a8,c8,rfl,yA,xj⟩:=aF.view zP;clear yA xj;have on:=xL (aF.base (show aF _ _ _ _ from zP) yG);clear zP;(generalize (Wh.a_ N.natAbs).length=ln at *);clear yG;have Eu:=xL R.lt;have U:=aH.new w8 #[.bool sN,.slice a8 ln c8] 125;have b_:=bA w8 (.cells #[.bool sN,.slice a8 ln c8] 125);replace C:=C.keep b_;replace Q:=Q.keep b_;replace R:=R.keep b_;replace T:=T.keep b_;replace ox:=kO ox b_;replace oz:=kO oz b_;replace og:=kO og b_;replace of:=kO of b_;replace on:=kO on b_;replace B:=d_ B b_;clear b_;(replace ⟨f_,i_⟩:=C.b2);(replace ⟨ye,yf,yg,yh⟩:=Q.b4);(replace ⟨xT,xU,xX,xY,t_,xQ,xW,xe⟩:=R.yF);(replace ⟨yJ,yK⟩:=T.b2);(replace ⟨xx,xy⟩:=U.b2))
   | (go_at_call 179;(with_reducible refine (PR.out _ _ _ og.out).mono ?_);rintro e w9 ⟨v9,rfl,AN,xi⟩;have yG:=B.size;replace C:=C.keep xi;replace Q:=Q.keep xi;replace R:=R.keep xi;replace T:=T.keep xi;replace U:=U.keep xi;replace ox:=kO ox xi;replace oz:=kO oz xi;replace og:=kO og xi;replace of:=kO of xi;replace on:=kO on xi;replace B:=d_ B xi;obtain ⟨a9,c9,rfl,yA,xj⟩:=aF.view AN;clear yA xj;have oe:=xL (aF.base (show aF _ _ _ _ from AN) yG);clear AN;(generalize (Wh.a_ E.natAbs).length=le at *);clear yG;have V:=aH.new w9 #[.bool false,.slice a9 le c9] 125;have b_:=bA w9 (.cells #[.bool false,.slice a9 le c9] 125);replace C:=C.keep b_;replace Q:=Q.keep b_;replace R:=R.keep b_;replace T:=T.keep b_;replace U:=U.keep b_;replace ox:=kO ox b_;replace oz:=kO oz b_;replace og:=kO og b_;replace of:=kO of b_;replace on:=kO on b_;replace oe:=kO oe b_;replace B:=d_ B b_;clear b_;(replace ⟨f_,i_⟩:=C.b2);(replace ⟨ye,yf,yg,yh⟩:=Q.b4);(replace ⟨xT,xU,xX,xY,t_,xQ,xW,xe⟩:=R.yF);(replace ⟨yJ,yK⟩:=T.b2);(replace ⟨xx,xy,yL,yM⟩:=U.yk);(replace ⟨x8,x9,yx,yz⟩:=V.yk);have O:=aH.new (w9.alloc (.cells #[.bool false,.slice a9 le c9] 125)) #[.bool sN,.slice a8 ln c8,.bool false,.slice a9 le c9] 127;have b_:=bA (w9.alloc (.cells #[.bool false,.slice a9 le c9] 125)) (.cells #[.bool sN,.slice a8 ln c8,.bool false,.slice a9 le c9] 127);replace C:=C.keep b_;replace Q:=Q.keep b_;replace R:=R.keep b_;replace T:=T.keep b_;replace U:=U.keep b_;replace V:=V.keep b_;replace ox:=kO ox b_;replace oz:=kO oz b_;replace og:=kO og b_;replace of:=kO of b_;replace on:=kO on b_;replace oe:=kO oe b_;replace B:=d_ B b_;clear b_;(rw [xM] at O))
   | (go_at_call 181;(with_reducible refine (BR.out _ _ _ _ _ on.out oe.out).mono ?_);rintro e EY ⟨rfl,xd⟩;(simp only [hok.out]);replace C:=C.keep xd;replace Q:=Q.keep xd;replace R:=R.keep xd;replace T:=T.keep xd;replace U:=U.keep xd;replace V:=V.keep xd;replace O:=O.keep xd;replace ox:=kO ox xd;replace oz:=kO oz xd;replace og:=kO og xd;replace of:=kO of xd;replace on:=kO on xd;replace oe:=kO oe xd;replace B:=d_ B xd;(replace ⟨f_,i_⟩:=C.b2);(replace ⟨ye,yf,yg,yh⟩:=Q.b4);(replace ⟨xT,xU,xX,xY,t_,xQ,xW,xe⟩:=R.yF);(replace ⟨yJ,yK⟩:=T.b2);(replace ⟨xx,xy⟩:=U.b2);(replace ⟨x8,x9⟩:=V.b2);(replace ⟨AD,AE,AF,AG⟩:=O.b4)))
  have hr1:=aF.base (aF.dH on.out R (by decide) (.bool sN) (.slice a8 ln c8) (.bool false) (.slice a9 le c9)) (base':=w.heap.size) (by first | exact xP _ | omega);have hr2:=aF.base (aF.dH oe.out R (by decide) (.bool sN) (.slice a8 ln c8) (.bool false) (.slice a9 le c9)) (base':=w.heap.size) (by first | exact xP _ | omega);exact bodyPost_ret (v:=.tuple #[.agg #[.bool sN,.slice a8 ln c8,.bool false,.slice a9 le c9],.bool true]) (by simp [results,Tryz.results155,go_sem, *]) rfl (⟨_,_,(by rw [Bx.out,Bu.out]),hr1,hr2,xN (xN (xN (xN B (by simp <;> omega) _) (by simp <;> omega) _) (by simp <;> omega) _) (by simp <;> omega) _⟩)
 replace hok:Wh.cZ (N) (E)=false:=by simpa using hok
 rw [hok];replace hok:=xL hok;rw [if_neg (by decide),if_neg (by decide)];go_enter Tryz.func155,Tryz.ntmps155
 go_wp2_with (first
  | (go_at_call 154;(with_reducible refine (PG.out _ _ _ _ _ ox.out oz.out).mono ?_);rintro e w4 ⟨v4,rfl,yD,hb4⟩;have yG:=B.size;replace C:=C.keep hb4;replace Q:=Q.keep hb4;replace R:=R.keep hb4;replace ox:=kO ox hb4;replace oz:=kO oz hb4;replace B:=d_ B hb4;obtain ⟨a4,c4,rfl,yA,xj⟩:=aF.view yD;clear yA xj;have og:=xL (aF.base (show aF _ _ _ _ from yD) yG);clear yD;(generalize (Wh.a_ G.natAbs).length=lg at *);clear yG;have T:=aH.new w4 #[.bool false,.slice a4 lg c4] 125;have b_:=bA w4 (.cells #[.bool false,.slice a4 lg c4] 125);replace C:=C.keep b_;replace Q:=Q.keep b_;replace R:=R.keep b_;replace ox:=kO ox b_;replace oz:=kO oz b_;replace og:=kO og b_;replace B:=d_ B b_;clear b_;(replace ⟨f_,i_⟩:=C.b2);(replace ⟨ye,yf,yg,yh⟩:=Q.b4);(replace ⟨xT,xU,xX,xY,t_,xQ,xW,xe⟩:=R.yF);(replace ⟨yJ,yK⟩:=T.b2))
  | (go_at_call 178;(with_reducible refine (PD.out _ _ _ _ _ ox.out oz.out).mono ?_);rintro e w6 ⟨rfl,hb6⟩;replace C:=C.keep hb6;replace Q:=Q.keep hb6;replace R:=R.keep hb6;replace T:=T.keep hb6;replace ox:=kO ox hb6;replace oz:=kO oz hb6;replace og:=kO og hb6;replace B:=d_ B hb6;(replace ⟨f_,i_⟩:=C.b2);(replace ⟨ye,yf,yg,yh⟩:=Q.b4);(replace ⟨xT,xU,xX,xY,t_,xQ,xW,xe⟩:=R.yF);(replace ⟨yJ,yK⟩:=T.b2))
  | (go_at_call 180;(with_reducible refine (PF.out _ _ _ _ _ ox.out oz.out).mono ?_);rintro e w7 ⟨v7,rfl,Ax,yC⟩;have yG:=B.size;replace C:=C.keep yC;replace Q:=Q.keep yC;replace R:=R.keep yC;replace T:=T.keep yC;replace ox:=kO ox yC;replace oz:=kO oz yC;replace og:=kO og yC;replace B:=d_ B yC;obtain ⟨a7,c7,rfl,yA,xj⟩:=aF.view Ax;clear yA xj;have of:=xL (aF.base (show aF _ _ _ _ from Ax) yG);clear Ax;(generalize (Wh.a_ F.natAbs).length=lf at *);clear yG;(replace ⟨f_,i_⟩:=C.b2);(replace ⟨ye,yf,yg,yh⟩:=Q.b4);(replace ⟨xT,xU,xX,xY,t_,xQ,xW,xe⟩:=R.yF);(replace ⟨yJ,yK⟩:=T.b2))
  | (go_at_call 179;(with_reducible refine (PQ.out _ _ _ of.out).mono ?_);rintro e w8 ⟨v8,rfl,zP,xw⟩;have yG:=B.size;replace C:=C.keep xw;replace Q:=Q.keep xw;replace R:=R.keep xw;replace T:=T.keep xw;replace ox:=kO ox xw;replace oz:=kO oz xw;replace og:=kO og xw;replace of:=kO of xw;replace B:=d_ B xw;obtain ⟨a8,c8,rfl,yA,xj⟩:=aF.view zP;clear yA xj;have on:=xL (aF.base (show aF _ _ _ _ from zP) yG);clear zP;(generalize (Wh.a_ N.natAbs).length=ln at *);clear yG;have Eu:=xL R.lt;have U:=aH.new w8 #[.bool sN,.slice a8 ln c8] 125;have b_:=bA w8 (.cells #[.bool sN,.slice a8 ln c8] 125);replace C:=C.keep b_;replace Q:=Q.keep b_;replace R:=R.keep b_;replace T:=T.keep b_;replace ox:=kO ox b_;replace oz:=kO oz b_;replace og:=kO og b_;replace of:=kO of b_;replace on:=kO on b_;replace B:=d_ B b_;clear b_;(replace ⟨f_,i_⟩:=C.b2);(replace ⟨ye,yf,yg,yh⟩:=Q.b4);(replace ⟨xT,xU,xX,xY,t_,xQ,xW,xe⟩:=R.yF);(replace ⟨yJ,yK⟩:=T.b2);(replace ⟨xx,xy⟩:=U.b2))
  | (go_at_call 179;(with_reducible refine (PR.out _ _ _ og.out).mono ?_);rintro e w9 ⟨v9,rfl,AN,xi⟩;have yG:=B.size;replace C:=C.keep xi;replace Q:=Q.keep xi;replace R:=R.keep xi;replace T:=T.keep xi;replace U:=U.keep xi;replace ox:=kO ox xi;replace oz:=kO oz xi;replace og:=kO og xi;replace of:=kO of xi;replace on:=kO on xi;replace B:=d_ B xi;obtain ⟨a9,c9,rfl,yA,xj⟩:=aF.view AN;clear yA xj;have oe:=xL (aF.base (show aF _ _ _ _ from AN) yG);clear AN;(generalize (Wh.a_ E.natAbs).length=le at *);clear yG;have V:=aH.new w9 #[.bool false,.slice a9 le c9] 125;have b_:=bA w9 (.cells #[.bool false,.slice a9 le c9] 125);replace C:=C.keep b_;replace Q:=Q.keep b_;replace R:=R.keep b_;replace T:=T.keep b_;replace U:=U.keep b_;replace ox:=kO ox b_;replace oz:=kO oz b_;replace og:=kO og b_;replace of:=kO of b_;replace on:=kO on b_;replace oe:=kO oe b_;replace B:=d_ B b_;clear b_;(replace ⟨f_,i_⟩:=C.b2);(replace ⟨ye,yf,yg,yh⟩:=Q.b4);(replace ⟨xT,xU,xX,xY,t_,xQ,xW,xe⟩:=R.yF);(replace ⟨yJ,yK⟩:=T.b2);(replace ⟨xx,xy,yL,yM⟩:=U.yk);(replace ⟨x8,x9,yx,yz⟩:=V.yk);have O:=aH.new (w9.alloc (.cells #[.bool false,.slice a9 le c9] 125)) #[.bool sN,.slice a8 ln c8,.bool false,.slice a9 le c9] 127;have b_:=bA (w9.alloc (.cells #[.bool false,.slice a9 le c9] 125)) (.cells #[.bool sN,.slice a8 ln c8,.bool false,.slice a9 le c9] 127);replace C:=C.keep b_;replace Q:=Q.keep b_;replace R:=R.keep b_;replace T:=T.keep b_;replace U:=U.keep b_;replace V:=V.keep b_;replace ox:=kO ox b_;replace oz:=kO oz b_;replace og:=kO og b_;replace of:=kO of b_;replace on:=kO on b_;replace oe:=kO oe b_;replace B:=d_ B b_;clear b_;(rw [xM] at O))
  | (go_at_call 181;(with_reducible refine (BR.out _ _ _ _ _ on.out oe.out).mono ?_);rintro e EY ⟨rfl,xd⟩;(simp only [hok.out]);replace C:=C.keep xd;replace Q:=Q.keep xd;replace R:=R.keep xd;replace T:=T.keep xd;replace U:=U.keep xd;replace V:=V.keep xd;replace O:=O.keep xd;replace ox:=kO ox xd;replace oz:=kO oz xd;replace og:=kO og xd;replace of:=kO of xd;replace on:=kO on xd;replace oe:=kO oe xd;replace B:=d_ B xd;(replace ⟨f_,i_⟩:=C.b2);(replace ⟨ye,yf,yg,yh⟩:=Q.b4);(replace ⟨xT,xU,xX,xY,t_,xQ,xW,xe⟩:=R.yF);(replace ⟨yJ,yK⟩:=T.b2);(replace ⟨xx,xy⟩:=U.b2);(replace ⟨x8,x9⟩:=V.b2);(replace ⟨AD,AE,AF,AG⟩:=O.b4)))
 exact bodyPost_ret (v:=.tuple #[.agg #[.bool false,.slice none 0 0,.bool false,.slice none 0 0],.bool false]) (by simp [results,Tryz.results155,go_sem, *]) rfl (⟨_,_,rfl,fK _ _,fK _ _,xN (xN (xN (xN B (by simp <;> omega) _) (by simp <;> omega) _) (by simp <;> omega) _) (by simp <;> omega) _⟩)
end
end Go.Proofs.YtggekfbfechonaaGreat
