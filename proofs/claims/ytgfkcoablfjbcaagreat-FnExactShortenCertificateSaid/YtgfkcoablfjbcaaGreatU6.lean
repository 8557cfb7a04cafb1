/-
  Joined texts: contracts and plain lemmas.
-/
import Derived.Test.YtgfkcoablfjbcaaGreatU1
import Derived.Test.YtgfkcoablfjbcaaGreatU5
set_option linter.unusedSimpArgs false
set_option linter.unusedVariables false
set_option maxRecDepth 100000
set_option maxHeartbeats 8000000
namespace Go.Proofs.YtgfkcoablfjbcaaGreat
section
open Go.RowKit
theorem vj (a b x z:Int) (vx vz:Value) (w:World) (bx bz:Nat) (hox:ah w bx vx x) (zJ:ah w bz vz z) (hx:Wh.sz x 1000) (hz:Wh.sz z 1000) (ha1:-1000≤a) (ha2:a≤1000) (hb1:-10000≤b) (hb2:b≤10000) :
  Calls Tryz.prog 158 #[.agg #[.int .i64 a,.int .i64 b],.agg #[.bool (decide (x<0)),vx,.bool (decide (z<0)),vz]] w fun e w'=>∃ sl,e=.returned (.agg #[.bool (decide (Wh.bQ a b x z<0)),sl])∧ah w' w.heap.size sl (Wh.bQ a b x z)∧Below w.heap.size w w':=by
 obtain ⟨ax,cx,rfl,-,-⟩:=aF.view hox;obtain ⟨az,cz,rfl,-,-⟩:=aF.view zJ;have haa:-1000000≤a*a∧a*a≤1000000:=M.aK (x:=a) (y:=a) (m:=1000) (n:=1000) (by omega) (by omega) (by omega) (by omega);have mx:=Wh.aj hx hx;have mz:=Wh.aj hz hz;have NB:=Wh.aj mx mx;have NC:=Wh.aj mx mz;have mt:=Wh.aj NC (Wh.bV (n:=2*a) (by omega) (by omega));have m1:=Wh.ml (Wh.aP NB (show 1000+1000+(1000+1000)≤4100 by omega)) (Wh.aP mt (show _≤4100 by omega));have n1:=Wh.aj hx hz;have n2:=Wh.aj n1 mz;have n3:=Wh.aj n2 (Wh.bV (n:=8*b) (by omega) (by omega));have m2:=Wh.ml (Wh.aP m1 (show 4100+1≤4200 by omega)) (Wh.aP n3 (show _≤4200 by omega));have ND:=Wh.aj mz mz;have n4:=Wh.aj ND (Wh.bV (n:=a*a) (by omega) (by omega))
 have P0:=fun v W k (h:aF W k v (Wh.d_ (x).natAbs))=>dj (x) v W k h (Wh.aW.2 (Wh.aP hx (by omega)))
 have P1:=fun v W k (h:aF W k v (Wh.d_ (z).natAbs))=>dj (z) v W k h (Wh.aW.2 (Wh.aP hz (by omega)))
 have P2:=fun v W k (h:aF W k v (Wh.d_ (x*x).natAbs))=>dj (x*x) v W k h (Wh.aW.2 (Wh.aP mx (by omega)))
 have P3:=fun v v' W k k' (h:aF W k v (Wh.d_ (x*x).natAbs)) (h':aF W k' v' (Wh.d_ (z*z).natAbs))=>dw (x*x) (z*z) v v' W k k' h h' (Wh.aW.2 (Wh.aP mx (by omega))) (Wh.aW.2 (Wh.aP mz (by omega)))
 have P4:=fun v W k (h:aF W k v (Wh.d_ (x*x*(z*z)).natAbs))=>d7 (x*x*(z*z)) (2*a) v W k h (Wh.aW.2 (Wh.aP NC (by omega))) (by omega) (by omega)
 have P5:=fun v v' W k k' (h:aF W k v (Wh.d_ (x*x*(x*x)).natAbs)) (h':aF W k' v' (Wh.d_ (x*x*(z*z)*(2*a)).natAbs))=>ly (x*x*(x*x)) (x*x*(z*z)*(2*a)) v v' W k k' h h' (Wh.aW.2 (Wh.aP NB (by omega))) (Wh.aW.2 (Wh.aP mt (by omega)))
 have P6:=fun v v' W k k' (h:aF W k v (Wh.d_ (x).natAbs)) (h':aF W k' v' (Wh.d_ (z).natAbs))=>dw (x) (z) v v' W k k' h h' (Wh.aW.2 (Wh.aP hx (by omega))) (Wh.aW.2 (Wh.aP hz (by omega)))
 have P7:=fun v v' W k k' (h:aF W k v (Wh.d_ (x*z).natAbs)) (h':aF W k' v' (Wh.d_ (z*z).natAbs))=>dw (x*z) (z*z) v v' W k k' h h' (Wh.aW.2 (Wh.aP n1 (by omega))) (Wh.aW.2 (Wh.aP mz (by omega)))
 have P8:=fun v W k (h:aF W k v (Wh.d_ (x*z*(z*z)).natAbs))=>d7 (x*z*(z*z)) (8*b) v W k h (Wh.aW.2 (Wh.aP n2 (by omega))) (by omega) (by omega)
 have P9:=fun v v' W k k' (h:aF W k v (Wh.d_ (x*x*(x*x) - x*x*(z*z)*(2*a)).natAbs)) (h':aF W k' v' (Wh.d_ (x*z*(z*z)*(8*b)).natAbs))=>ly (x*x*(x*x) - x*x*(z*z)*(2*a)) (x*z*(z*z)*(8*b)) v v' W k k' h h' (Wh.aW.2 (Wh.aP m1 (by omega))) (Wh.aW.2 (Wh.aP n3 (by omega)))
 have PA:=fun v W k (h:aF W k v (Wh.d_ (z*z).natAbs))=>dj (z*z) v W k h (Wh.aW.2 (Wh.aP mz (by omega)))
 have PB:=fun v W k (h:aF W k v (Wh.d_ (z*z*(z*z)).natAbs))=>d7 (z*z*(z*z)) (a*a) v W k h (Wh.aW.2 (Wh.aP ND (by omega))) (by omega) (by omega)
 have PC:=fun v v' W k k' (h:aF W k v (Wh.d_ (x*x*(x*x) - x*x*(z*z)*(2*a) - x*z*(z*z)*(8*b)).natAbs)) (h':aF W k' v' (Wh.d_ (z*z*(z*z)*(a*a)).natAbs))=>jH (x*x*(x*x) - x*x*(z*z)*(2*a) - x*z*(z*z)*(8*b)) (z*z*(z*z)*(a*a)) v v' W k k' h h' (Wh.aW.2 (Wh.aP m2 (by omega))) (Wh.aW.2 (Wh.aP n4 (by omega)))
 have hT:=Wh.oc a b x z;rw [hT] at PC;clear hT mx mz NB NC mt m1 n1 n2 n3 m2 ND n4;generalize Wh.bQ a b x z=F at *;generalize Fo:x*x*(x*x) - x*x*(z*z)*(2*a) - x*z*(z*z)*(8*b)=S2 at *;generalize Fn:x*x*(x*x) - x*x*(z*z)*(2*a)=S1 at *;generalize Lx:x*z*(z*z)*(8*b)=yb at *;generalize Ly:z*z*(z*z)*(a*a)=za at *;generalize Lt:x*x*(z*z)*(2*a)=xt at *;generalize Lw:x*z*(z*z)=y2 at *;generalize Hm:z*z*(z*z)=zzz at *;generalize Hl:x*x*(z*z)=xz2 at *;generalize Hk:x*x*(x*x)=xxx at *;generalize Lv:x*z=y1 at *;generalize Fp:x*x=xq at *;generalize Fq:z*z=zq at *;clear Fo Fn Lx Ly Lt Lw Hm Hl Hk Lv Fp Fq;replace P0:=yI P0;replace P1:=yI P1;replace P2:=yI P2;replace P3:=yI P3;replace P4:=yI P4;replace P5:=yI P5;replace P6:=yI P6;replace P7:=yI P7;replace P8:=yI P8;replace P9:=yI P9;replace PA:=yI PA;replace PB:=yI PB;replace PC:=yI PC;generalize hs1:decide (x<0)=s1 at *;replace hs1:=yI hs1.symm;generalize hs2:decide (z<0)=s2 at *;replace hs2:=yI hs2.symm;replace hox:=yI (show aF _ _ _ _ from hox);replace zJ:=yI (show aF _ _ _ _ from zJ);generalize (Wh.d_ z.natAbs).length=lz,(Wh.d_ x.natAbs).length=lx at *;have b1:=((aH.new w #[.int .i64 a,.int .i64 b] 29).alloc (.cells #[.bool s1,.slice ax lx cx,.bool s2,.slice az lz cz] 157)).alloc (.cells #[.bool false,.slice none 0 0] 136);have b2:=(aH.new (w.alloc (.cells #[.int .i64 a,.int .i64 b] 29)) #[.bool s1,.slice ax lx cx,.bool s2,.slice az lz cz] 157).alloc (.cells #[.bool false,.slice none 0 0] 136);rw [yJ] at b2;have b3:=aH.new ((w.alloc (.cells #[.int .i64 a,.int .i64 b] 29)).alloc (.cells #[.bool s1,.slice ax lx cx,.bool s2,.slice az lz cz] 157)) #[.bool false,.slice none 0 0] 136;rw [cW] at b3;have hB:=(((yL w.heap.size w).alloc (yM _) (.cells #[.int .i64 a,.int .i64 b] 29)).alloc (by rw [yJ];omega) (.cells #[.bool s1,.slice ax lx cx,.bool s2,.slice az lz cz] 157)).alloc (by rw [cW];omega) (.cells #[.bool false,.slice none 0 0] 136)
 have hz3:(((w.alloc (.cells #[.int .i64 a,.int .i64 b] 29)).alloc (.cells #[.bool s1,.slice ax lx cx,.bool s2,.slice az lz cz] 157)).alloc (.cells #[.bool false,.slice none 0 0] 136)).heap.size=w.heap.size+3:=by rw [yJ,cW]
 have Aw:=yI (aF.alloc (aF.alloc (aF.alloc hox.out (.cells #[.int .i64 a,.int .i64 b] 29)) (.cells #[.bool s1,.slice ax lx cx,.bool s2,.slice az lz cz] 157)) (.cells #[.bool false,.slice none 0 0] 136));have Ax:=yI (aF.alloc (aF.alloc (aF.alloc zJ.out (.cells #[.int .i64 a,.int .i64 b] 29)) (.cells #[.bool s1,.slice ax lx cx,.bool s2,.slice az lz cz] 157)) (.cells #[.bool false,.slice none 0 0] 136));clear hox zJ;generalize hw3:((w.alloc (.cells #[.int .i64 a,.int .i64 b] 29)).alloc (.cells #[.bool s1,.slice ax lx cx,.bool s2,.slice az lz cz] 157)).alloc (.cells #[.bool false,.slice none 0 0] 136)=w3 at *;have e0:=b2.aM.c0;have e1:=b2.aM.c1;have e2:=b2.aM.c2;have e3:=b2.aM.c3;go_enter Tryz.func158,Tryz.ntmps158
 go_wp2
 go_upto_region 1 with fail
 go_cut [5,6] (fun p q wx=>∃ gx gz,w.heap.size+3≤gx∧w.heap.size+3≤gz∧p=.pointer (some ⟨gx,0,none⟩)∧q=.pointer (some ⟨gz,0,none⟩)∧aH wx gx 136 #[.bool s1,.slice ax lx cx]∧aH wx gz 136 #[.bool s2,.slice az lz cz]∧Below (w.heap.size+3) w3 wx)
 case first=>
  go_region
  all_goals
   go_wp2_with fail
   go_meet
   first
   | exact (oj _ _ hz3 _ _ _ _ _).1
   | exact (oj _ _ hz3 _ _ _ _ _).2
 case rest=>
 obtain ⟨gx,gz,hgx,hgz,rfl,rfl,X,Z,hbx⟩:=hcut;rw [←hz3] at hbx;have ox:=yI (aF.below Aw.out hbx);have oz:=yI (aF.below Ax.out hbx);have C:=b1.keep hbx;have R:=b3.keep hbx;have hw:=f_ hB hbx
 have C8:w.heap.size+3≤wc.heap.size:=by have:=hbx.size;omega
 clear hz3;clear b1 b2 b3 e0 e1 e2 e3 hB hbx Aw Ax
 go_upto_region 2 with fail
 refine Rg.bJ 6 [.is (.agg #[.bool s1,.slice ax lx cx]),.at (aJ (wc.heap.size) (xq)),.is (.agg #[.bool s2,.slice az lz cz]),.at (aJ (wc.heap.size) (zq)),.new (wc.heap.size) 136 #[.bool false,.slice none 0 0],.new (wc.heap.size) 136 #[.bool false,.slice none 0 0]] (by kernel_rfl) (by kernel_rfl) (by kernel_rfl) ⟨?_,?_,?_,?_,?_,?_,fun h_=>absurd h_ (by decide),fun h_=>absurd h_ (by decide),trivial⟩ ?_
 ·intro _ zZ w_ hB hr
  have e5:zZ.tmps[5]?=some (.pointer (some ⟨gx,0,none⟩)):=hr 5 (by decide);have k0:=aE hB X.box.c0;have k1:=aE hB X.box.c1;exact Rg.aG rfl (by go_simp)
 ·intro _ zZ w_ hB hr
  have e14:=Rg.a_ (hr 14 (by decide));have ef:=Rg.ef zZ;refine Rg.aZ rfl (by go_simp;exact ⟨rfl,rfl⟩) ?_;refine (P0.out _ _ _ (aF.below ox.out hB)).mono ?_;rintro e w5 ⟨y_,rfl,yT,hb5⟩;exact ⟨_,rfl,aJ.at yT (by have:=hB.size;omega),hb5⟩
 ·intro _ zZ w_ hB hr
  have e6:zZ.tmps[6]?=some (.pointer (some ⟨gz,0,none⟩)):=hr 6 (by decide);have k0:=aE hB Z.box.c0;have k1:=aE hB Z.box.c1;exact Rg.aG rfl (by go_simp)
 ·intro _ zZ w_ hB hr
  have e16:=Rg.a_ (hr 16 (by decide));have ef:=Rg.ef zZ;refine Rg.aZ rfl (by go_simp;exact ⟨rfl,rfl⟩) ?_;refine (P1.out _ _ _ (aF.below oz.out hB)).mono ?_;rintro e w5 ⟨y_,rfl,yT,hb5⟩;exact ⟨_,rfl,aJ.at yT (by have:=hB.size;omega),hb5⟩
 ·intro _ zZ w_ hB hr
  exact ⟨by have:=hB.size;omega,rfl,by first | (go_simp;done) | (go_simp;rfl)⟩
 ·intro _ zZ w_ hB hr
  exact ⟨by have:=hB.size;omega,rfl,by first | (go_simp;done) | (go_simp;rfl)⟩
 intro vals wz hB hv hne;have n7:(Rg.Val.new (wc.heap.size) 136 #[.bool false,.slice none 0 0]).ok (vals 4) wz:=hv 4 (by decide);have n8:(Rg.Val.new (wc.heap.size) 136 #[.bool false,.slice none 0 0]).ok (vals 5) wz:=hv 5 (by decide);have n15:(Rg.Val.at (aJ (wc.heap.size) (xq))).ok (vals 1) wz:=hv 1 (by decide);have n17:(Rg.Val.at (aJ (wc.heap.size) (zq))).ok (vals 3) wz:=hv 3 (by decide);simp only [Rg.ak,Rg.fill,Act.put,Nat.reduceAdd];clear hv;have GZ:=hne 4 5 (by decide) (by decide) (by decide) rfl rfl;obtain ⟨g7,FC,Ck,o7⟩:=n7;replace o7:aH wz g7 136 #[.bool false,.slice none 0 0]:=o7;obtain ⟨g8,F0,DK,o8⟩:=n8;replace o8:aH wz g8 136 #[.bool false,.slice none 0 0]:=o8;obtain ⟨s15,DV,D2,c15,Ep,v_1,EI⟩:=(Rg.ag n15).view;obtain ⟨D5,a17,D3,c17,Do,FK,JM⟩:=(Rg.ag n17).view;rw [Ck,DK] at GZ
 have Ee:g7≠g8:=fun e=>GZ (by rw [e])
 simp only [Ck,DK,v_1,FK];clear Ck DK v_1 FK;have Fl:=Ee.symm;have hB2:Below wc.heap.size wc ((((wz.setCell ⟨g7,0,none⟩ (.bool s15)).setCell ⟨g7,1,none⟩ (.slice DV D2 c15)).setCell ⟨g8,0,none⟩ (.bool D5)).setCell ⟨g8,1,none⟩ (.slice a17 D3 c17)):=yK (yK (yK (yK hB FC _) FC _) F0 _) F0 _;have V8:aH ((wz.setCell ⟨g7,0,none⟩ (.bool s15)).setCell ⟨g7,1,none⟩ (.slice DV D2 c15)) g8 136 #[.bool false,.slice none 0 0]:=(o8.other Fl _).other Fl _;have U8:=aH.set2 V8 (.bool D5) (.slice a17 D3 c17);have U7:aH ((((wz.setCell ⟨g7,0,none⟩ (.bool s15)).setCell ⟨g7,1,none⟩ (.slice DV D2 c15)).setCell ⟨g8,0,none⟩ (.bool D5)).setCell ⟨g8,1,none⟩ (.slice a17 D3 c17)) g7 136 #[.bool s15,.slice DV D2 c15]:=((aH.set2 o7 (.bool s15) (.slice DV D2 c15)).other Ee _).other Ee _;have oq:=yI (aF.bE (aF.bE EI o7 (by decide) (.bool s15) (.slice DV D2 c15)) V8 (by decide) (.bool D5) (.slice a17 D3 c17));have or:=yI (aF.bE (aF.bE JM o7 (by decide) (.bool s15) (.slice DV D2 c15)) V8 (by decide) (.bool D5) (.slice a17 D3 c17));have ⟨c0,c1,f0,f1,_⟩:=o7.box;have ⟨c2,c3,f2,f3,_⟩:=o8.box;unfold Rg.aX Rg.aX Rg.aX Oper.wp
 go_simp
 clear c0 c1 f0 f1 c2 c3 f2 f3 o7 o8 EI JM V8 Ee Fl GZ;generalize ((((wz.setCell ⟨g7,0,none⟩ (.bool s15)).setCell ⟨g7,1,none⟩ (.slice DV D2 c15)).setCell ⟨g8,0,none⟩ (.bool D5)).setCell ⟨g8,1,none⟩ (.slice a17 D3 c17))=wd at *;replace X:=X.keep hB2;replace Z:=Z.keep hB2;replace C:=C.keep hB2;replace R:=R.keep hB2;replace ox:=yI (aF.below ox.out hB2);replace oz:=yI (aF.below oz.out hB2);have hgd:g8<wd.heap.size:=U8.lt;replace hw:=f_ hw hB2;have C9:wc.heap.size≤wd.heap.size:=hB2.size;clear hB2 hB
 go_upto_region 3 with fail
 refine Rg.bJ 11 [.is (.agg #[.bool s15,.slice DV D2 c15]),.at (aJ (wd.heap.size) (xxx)),.is (.agg #[.bool s15,.slice DV D2 c15]),.is (.agg #[.bool D5,.slice a17 D3 c17]),.at (aJ (wd.heap.size) (xz2)),.is (.pointer (some ⟨w.heap.size,0,none⟩)),.is (.int .i64 a),.is (.int .i64 (2*a)),.at (aJ (wd.heap.size) (xt)),.at (aJ (wd.heap.size) (S1)),.new (wd.heap.size) 136 #[.bool false,.slice none 0 0]] (by kernel_rfl) (by kernel_rfl) (by kernel_rfl) ⟨?_,?_,?_,?_,?_,?_,?_,?_,?_,?_,?_,fun h_=>absurd h_ (by decide),trivial⟩ ?_
 ·intro _ zZ w_ hB hr
  have e7:zZ.tmps[7]?=some (.pointer (some ⟨g7,0,none⟩)):=hr 7 (by decide);have k0:=aE hB U7.box.c0;have k1:=aE hB U7.box.c1;exact Rg.aG rfl (by go_simp)
 ·intro _ zZ w_ hB hr
  have e18:=Rg.a_ (hr 18 (by decide));have ef:=Rg.ef zZ;refine Rg.aZ rfl (by go_simp;exact ⟨rfl,rfl⟩) ?_;rw [Ep.out];refine (P2.out _ _ _ (aF.below oq.out hB)).mono ?_;rintro e w5 ⟨y_,rfl,yT,hb5⟩;exact ⟨_,rfl,aJ.at yT (by have:=hB.size;omega),hb5⟩
 ·intro _ zZ w_ hB hr
  have e7:zZ.tmps[7]?=some (.pointer (some ⟨g7,0,none⟩)):=hr 7 (by decide);have k0:=aE hB U7.box.c0;have k1:=aE hB U7.box.c1;exact Rg.aG rfl (by go_simp)
 ·intro _ zZ w_ hB hr
  have e8:zZ.tmps[8]?=some (.pointer (some ⟨g8,0,none⟩)):=hr 8 (by decide);have k0:=aE hB U8.box.c0;have k1:=aE hB U8.box.c1;exact Rg.aG rfl (by go_simp)
 ·intro _ zZ w_ hB hr
  have e20:=Rg.a_ (hr 20 (by decide));have e21:=Rg.a_ (hr 21 (by decide));have ef:=Rg.ef zZ;refine Rg.aZ rfl (by go_simp;exact ⟨rfl,rfl⟩) ?_;rw [Ep.out];rw [Do.out];refine (P3.out _ _ _ _ _ (aF.below oq.out hB) (aF.below or.out hB)).mono ?_;rintro e w5 ⟨y_,rfl,yT,hb5⟩;exact ⟨_,rfl,aJ.at yT (by have:=hB.size;omega),hb5⟩
 ·intro _ zZ w_ hB hr
  have e2:zZ.tmps[2]?=some (.pointer (some ⟨w.heap.size,0,none⟩)):=hr 2 (by decide);exact Rg.aG rfl (by go_simp)
 ·intro _ zZ w_ hB hr
  have e23:=Rg.a_ (hr 23 (by decide));have k0:=aE hB C.box.c0;exact Rg.aG rfl (by go_simp)
 ·intro _ zZ w_ hB hr
  have e24:=Rg.a_ (hr 24 (by decide));have ec:=Rg.ec zZ;exact Rg.aG rfl (by go_simp <;> exact Rg.wo (by omega))
 ·intro _ zZ w_ hB hr
  obtain ⟨v22,e22,n22⟩:∃ v,zZ.tmps[22]?=some v∧(Rg.Val.at (aJ (wd.heap.size) (xz2))).ok v w_:=hr 22 (by decide);obtain ⟨s22,a22,l22,c22,MZ,rfl,o22⟩:=(Rg.ag n22).view;have e25:=Rg.a_ (hr 25 (by decide));have ef:=Rg.ef zZ;refine Rg.aZ rfl (by go_simp;exact ⟨rfl,rfl⟩) ?_;obtain rfl:=MZ.out;refine (P4.out _ _ _ o22).mono ?_;rintro e w5 ⟨y_,rfl,yT,hb5⟩;exact ⟨_,rfl,aJ.at yT (by have:=hB.size;omega),hb5⟩
 ·intro _ zZ w_ hB hr
  obtain ⟨v19,e19,n19⟩:∃ v,zZ.tmps[19]?=some v∧(Rg.Val.at (aJ (wd.heap.size) (xxx))).ok v w_:=hr 19 (by decide);obtain ⟨C_,DW,Cs,c19,BG,rfl,Gz⟩:=(Rg.ag n19).view;obtain ⟨v26,e26,n26⟩:∃ v,zZ.tmps[26]?=some v∧(Rg.Val.at (aJ (wd.heap.size) (xt))).ok v w_:=hr 26 (by decide);obtain ⟨s26,a26,l26,c26,GI,rfl,NG⟩:=(Rg.ag n26).view;have ef:=Rg.ef zZ;refine Rg.aZ rfl (by go_simp;exact ⟨rfl,rfl⟩) ?_;obtain rfl:=BG.out;obtain rfl:=GI.out;refine (P5.out _ _ _ _ _ Gz NG).mono ?_;rintro e w5 ⟨y_,rfl,yT,hb5⟩;exact ⟨_,rfl,aJ.at yT (by have:=hB.size;omega),hb5⟩
 ·intro _ zZ w_ hB hr
  exact ⟨by have:=hB.size;omega,rfl,by first | (go_simp;done) | (go_simp;rfl)⟩
 intro vals wz hB hv hne;have n9:(Rg.Val.new (wd.heap.size) 136 #[.bool false,.slice none 0 0]).ok (vals 10) wz:=hv 10 (by decide);have n27:(Rg.Val.at (aJ (wd.heap.size) (S1))).ok (vals 9) wz:=hv 9 (by decide);simp only [Rg.ak,Rg.fill,Act.put,Nat.reduceAdd];clear hv;obtain ⟨g9,Gv,yt,o9⟩:=n9;replace o9:aH wz g9 136 #[.bool false,.slice none 0 0]:=o9;obtain ⟨Gc,a27,GQ,Fh,GJ,Ad,JO⟩:=(Rg.ag n27).view;simp only [yt,Ad];clear yt Ad;have hB2:Below wd.heap.size wd ((wz.setCell ⟨g9,0,none⟩ (.bool Gc)).setCell ⟨g9,1,none⟩ (.slice a27 GQ Fh)):=yK (yK hB Gv _) Gv _;have U:=aH.set2 o9 (.bool Gc) (.slice a27 GQ Fh);have oU:=yI (aF.bE JO o9 (by decide) (.bool Gc) (.slice a27 GQ Fh));have ⟨c0,c1,f0,f1,_⟩:=o9.box;unfold Rg.aX Rg.aX Oper.wp
 go_simp
 clear c0 c1 f0 f1 o9 JO;generalize ((wz.setCell ⟨g9,0,none⟩ (.bool Gc)).setCell ⟨g9,1,none⟩ (.slice a27 GQ Fh))=we at *;replace X:=X.keep hB2;replace Z:=Z.keep hB2;replace C:=C.keep hB2;replace R:=R.keep hB2;replace U8:=U8.keep hB2;replace ox:=yI (aF.below ox.out hB2);replace oz:=yI (aF.below oz.out hB2);replace or:=yI (aF.below or.out hB2);replace hw:=f_ hw hB2;have C9:wd.heap.size≤we.heap.size:=hB2.size
 go_upto_region 4 with fail
 clear hB2 hB;refine Rg.bJ 11 [.is (.agg #[.bool Gc,.slice a27 GQ Fh]),.is (.agg #[.bool s1,.slice ax lx cx]),.is (.agg #[.bool s2,.slice az lz cz]),.at (aJ (we.heap.size) (y1)),.is (.agg #[.bool D5,.slice a17 D3 c17]),.at (aJ (we.heap.size) (y2)),.is (.pointer (some ⟨w.heap.size,1,none⟩)),.is (.int .i64 b),.is (.int .i64 (8*b)),.at (aJ (we.heap.size) (yb)),.at (aJ (we.heap.size) (S2))] (by kernel_rfl) (by kernel_rfl) (by kernel_rfl) ⟨?_,?_,?_,?_,?_,?_,?_,?_,?_,?_,?_,fun h_=>absurd h_ (by decide),trivial⟩ ?_
 ·intro _ zZ w_ hB hr
  have e9:zZ.tmps[9]?=some (.pointer (some ⟨g9,0,none⟩)):=hr 9 (by decide);have k0:=aE hB U.box.c0;have k1:=aE hB U.box.c1;exact Rg.aG rfl (by go_simp)
 ·intro _ zZ w_ hB hr
  have e5:zZ.tmps[5]?=some (.pointer (some ⟨gx,0,none⟩)):=hr 5 (by decide);have k0:=aE hB X.box.c0;have k1:=aE hB X.box.c1;exact Rg.aG rfl (by go_simp)
 ·intro _ zZ w_ hB hr
  have e6:zZ.tmps[6]?=some (.pointer (some ⟨gz,0,none⟩)):=hr 6 (by decide);have k0:=aE hB Z.box.c0;have k1:=aE hB Z.box.c1;exact Rg.aG rfl (by go_simp)
 ·intro _ zZ w_ hB hr
  have e29:=Rg.a_ (hr 29 (by decide));have e30:=Rg.a_ (hr 30 (by decide));have ef:=Rg.ef zZ;refine Rg.aZ rfl (by go_simp;exact ⟨rfl,rfl⟩) ?_;refine (P6.out _ _ _ _ _ (aF.below ox.out hB) (aF.below oz.out hB)).mono ?_;rintro e w5 ⟨y_,rfl,yT,hb5⟩;exact ⟨_,rfl,aJ.at yT (by have:=hB.size;omega),hb5⟩
 ·intro _ zZ w_ hB hr
  have e8:zZ.tmps[8]?=some (.pointer (some ⟨g8,0,none⟩)):=hr 8 (by decide);have k0:=aE hB U8.box.c0;have k1:=aE hB U8.box.c1;exact Rg.aG rfl (by go_simp)
 ·intro _ zZ w_ hB hr
  obtain ⟨v31,e31,n31⟩:∃ v,zZ.tmps[31]?=some v∧(Rg.Val.at (aJ (we.heap.size) (y1))).ok v w_:=hr 31 (by decide);obtain ⟨s31,a31,l31,c31,Md,rfl,NH⟩:=(Rg.ag n31).view;have e32:=Rg.a_ (hr 32 (by decide));have ef:=Rg.ef zZ;refine Rg.aZ rfl (by go_simp;exact ⟨rfl,rfl⟩) ?_;obtain rfl:=Md.out;rw [Do.out];refine (P7.out _ _ _ _ _ NH (aF.below or.out hB)).mono ?_;rintro e w5 ⟨y_,rfl,yT,hb5⟩;exact ⟨_,rfl,aJ.at yT (by have:=hB.size;omega),hb5⟩
 ·intro _ zZ w_ hB hr
  have e2:zZ.tmps[2]?=some (.pointer (some ⟨w.heap.size,0,none⟩)):=hr 2 (by decide);exact Rg.aG rfl (by go_simp)
 ·intro _ zZ w_ hB hr
  have e34:=Rg.a_ (hr 34 (by decide));have k1:=aE hB C.box.c1;exact Rg.aG rfl (by go_simp)
 ·intro _ zZ w_ hB hr
  have e35:=Rg.a_ (hr 35 (by decide));have ec:=Rg.ec zZ;exact Rg.aG rfl (by go_simp <;> exact Rg.wo (by omega))
 ·intro _ zZ w_ hB hr
  obtain ⟨v33,e33,n33⟩:∃ v,zZ.tmps[33]?=some v∧(Rg.Val.at (aJ (we.heap.size) (y2))).ok v w_:=hr 33 (by decide);obtain ⟨Eu,a33,Es,EZ,Dr,rfl,GT⟩:=(Rg.ag n33).view;have e36:=Rg.a_ (hr 36 (by decide));have ef:=Rg.ef zZ;refine Rg.aZ rfl (by go_simp;exact ⟨rfl,rfl⟩) ?_;obtain rfl:=Dr.out;refine (P8.out _ _ _ GT).mono ?_;rintro e w5 ⟨y_,rfl,yT,hb5⟩;exact ⟨_,rfl,aJ.at yT (by have:=hB.size;omega),hb5⟩
 ·intro _ zZ w_ hB hr
  have e28:=Rg.a_ (hr 28 (by decide));obtain ⟨v37,e37,n37⟩:∃ v,zZ.tmps[37]?=some v∧(Rg.Val.at (aJ (we.heap.size) (yb))).ok v w_:=hr 37 (by decide);obtain ⟨s37,a37,l37,c37,Mh,rfl,o37⟩:=(Rg.ag n37).view;have ef:=Rg.ef zZ;refine Rg.aZ rfl (by go_simp;exact ⟨rfl,rfl⟩) ?_;obtain rfl:=Mh.out;rw [GJ.out];refine (P9.out _ _ _ _ _ (aF.below oU.out hB) o37).mono ?_;rintro e w5 ⟨y_,rfl,yT,hb5⟩;exact ⟨_,rfl,aJ.at yT (by have:=hB.size;omega),hb5⟩
 intro vals wy hB hv hne;have n38:(Rg.Val.at (aJ (we.heap.size) (S2))).ok (vals 10) wy:=hv 10 (by decide);simp only [Rg.ak,Rg.fill,Act.put,Nat.reduceAdd];clear hv;obtain ⟨Ev,a38,Et,Ea,Mi,yt,NJ⟩:=(Rg.ag n38).view;simp only [yt];clear yt;have U2:=U.keep hB;have hB2:Below wd.heap.size we ((wy.setCell ⟨g9,0,none⟩ (.bool Ev)).setCell ⟨g9,1,none⟩ (.slice a38 Et Ea)):=yK (yK (hB.mono C9) Gv _) Gv _;have oS:=yI (aF.bE NJ U2 (by decide) (.bool Ev) (.slice a38 Et Ea));have U3:=aH.set2 U2 (.bool Ev) (.slice a38 Et Ea)
 have hq8:g8<wd.heap.size∧w.heap.size+1+1<wd.heap.size:=⟨hgd,by omega⟩
 have hC9:w.heap.size<wd.heap.size:=by omega
 have C5:aH ((wy.setCell ⟨g9,0,none⟩ (.bool Ev)).setCell ⟨g9,1,none⟩ (.slice a38 Et Ea)) w.heap.size 29 #[.int .i64 a,.int .i64 b]:=((C.keep hB).other (by omega) _).other (by omega) _;have R5:aH ((wy.setCell ⟨g9,0,none⟩ (.bool Ev)).setCell ⟨g9,1,none⟩ (.slice a38 Et Ea)) (w.heap.size+1+1) 136 #[.bool false,.slice none 0 0]:=((R.keep hB).other (by omega) _).other (by omega) _;have Q5:aH ((wy.setCell ⟨g9,0,none⟩ (.bool Ev)).setCell ⟨g9,1,none⟩ (.slice a38 Et Ea)) g8 136 #[.bool D5,.slice a17 D3 c17]:=((U8.keep hB).other (by omega) _).other (by omega) _;have oq5:=yI (aF.bE (aF.below or.out hB) U2 (by decide) (.bool Ev) (.slice a38 Et Ea));have Gx:=hw.trans (hB2.mono (show w.heap.size≤wd.heap.size by omega));have ⟨c0,c1,f0,f1,_⟩:=U2.box;unfold Rg.aX Rg.aX Oper.wp
 go_simp
 clear c0 c1 f0 f1 U2 hB2 hB;generalize ((wy.setCell ⟨g9,0,none⟩ (.bool Ev)).setCell ⟨g9,1,none⟩ (.slice a38 Et Ea))=wf at *
 go_upto_region 5 with fail
 refine Rg.bJ 10 [.is (.agg #[.bool Ev,.slice a38 Et Ea]),.is (.agg #[.bool D5,.slice a17 D3 c17]),.at (aJ (wf.heap.size) (zzz)),.is (.pointer (some ⟨w.heap.size,0,none⟩)),.is (.int .i64 a),.is (.pointer (some ⟨w.heap.size,0,none⟩)),.is (.int .i64 a),.is (.int .i64 (a*a)),.at (aJ (wf.heap.size) (za)),.at (aJ (wf.heap.size) (F))] (by kernel_rfl) (by kernel_rfl) (by kernel_rfl) ⟨?_,?_,?_,?_,?_,?_,?_,?_,?_,?_,fun h_=>absurd h_ (by decide),trivial⟩ ?_
 ·intro _ zZ w_ hB hr
  have e9:zZ.tmps[9]?=some (.pointer (some ⟨g9,0,none⟩)):=hr 9 (by decide);have k0:=aE hB U3.box.c0;have k1:=aE hB U3.box.c1;exact Rg.aG rfl (by go_simp)
 ·intro _ zZ w_ hB hr
  have e8:zZ.tmps[8]?=some (.pointer (some ⟨g8,0,none⟩)):=hr 8 (by decide);have k0:=aE hB Q5.box.c0;have k1:=aE hB Q5.box.c1;exact Rg.aG rfl (by go_simp)
 ·intro _ zZ w_ hB hr
  have e40:=Rg.a_ (hr 40 (by decide));have ef:=Rg.ef zZ;refine Rg.aZ rfl (by go_simp;exact ⟨rfl,rfl⟩) ?_;rw [Do.out];refine (PA.out _ _ _ (aF.below oq5.out hB)).mono ?_;rintro e w5 ⟨y_,rfl,yT,hb5⟩;exact ⟨_,rfl,aJ.at yT (by have:=hB.size;omega),hb5⟩
 ·intro _ zZ w_ hB hr
  have e2:zZ.tmps[2]?=some (.pointer (some ⟨w.heap.size,0,none⟩)):=hr 2 (by decide);exact Rg.aG rfl (by go_simp)
 ·intro _ zZ w_ hB hr
  have e42:=Rg.a_ (hr 42 (by decide));have k0:=aE hB C5.box.c0;exact Rg.aG rfl (by go_simp)
 ·intro _ zZ w_ hB hr
  have e2:zZ.tmps[2]?=some (.pointer (some ⟨w.heap.size,0,none⟩)):=hr 2 (by decide);exact Rg.aG rfl (by go_simp)
 ·intro _ zZ w_ hB hr
  have e44:=Rg.a_ (hr 44 (by decide));have k0:=aE hB C5.box.c0;exact Rg.aG rfl (by go_simp)
 ·intro _ zZ w_ hB hr
  have e43:=Rg.a_ (hr 43 (by decide));have e45:=Rg.a_ (hr 45 (by decide));exact Rg.aG rfl (by go_simp <;> exact Rg.wo (by omega))
 ·intro _ zZ w_ hB hr
  obtain ⟨v41,e41,n41⟩:∃ v,zZ.tmps[41]?=some v∧(Rg.Val.at (aJ (wf.heap.size) (zzz))).ok v w_:=hr 41 (by decide);obtain ⟨Ai,a41,Ag,Af,C7,rfl,GU⟩:=(Rg.ag n41).view;have e46:=Rg.a_ (hr 46 (by decide));have ef:=Rg.ef zZ;refine Rg.aZ rfl (by go_simp;exact ⟨rfl,rfl⟩) ?_;obtain rfl:=C7.out;refine (PB.out _ _ _ GU).mono ?_;rintro e w5 ⟨y_,rfl,yT,hb5⟩;exact ⟨_,rfl,aJ.at yT (by have:=hB.size;omega),hb5⟩
 ·intro _ zZ w_ hB hr
  have e39:=Rg.a_ (hr 39 (by decide));obtain ⟨v47,e47,n47⟩:∃ v,zZ.tmps[47]?=some v∧(Rg.Val.at (aJ (wf.heap.size) (za))).ok v w_:=hr 47 (by decide);obtain ⟨s47,a47,l47,c47,Ml,rfl,NK⟩:=(Rg.ag n47).view;have ef:=Rg.ef zZ;refine Rg.aZ rfl (by go_simp;exact ⟨rfl,rfl⟩) ?_;obtain rfl:=Ml.out;rw [Mi.out];refine (PC.out _ _ _ _ _ (aF.below oS.out hB) NK).mono ?_;rintro e w5 ⟨y_,rfl,yT,hb5⟩;exact ⟨_,rfl,aJ.at yT (by have:=hB.size;omega),hb5⟩
 intro vals wv Hj hv hne;have n48:(Rg.Val.at (aJ (wf.heap.size) (F))).ok (vals 9) wv:=hv 9 (by decide);simp only [Rg.ak,Rg.fill,Act.put,Nat.reduceAdd];clear hv;obtain ⟨Ik,a48,IQ,Hf,GL,Ad,NL⟩:=(Rg.ag n48).view;simp only [Ad];clear Ad;replace R:=R5;replace hw:=Gx;have R2:=R.keep Hj;have ⟨c0,c1,f0,f1,_⟩:=R2.box;have hr1:=aF.base (aF.bE NL R2 (by decide) (.bool Ik) (.slice a48 IQ Hf)) (show w.heap.size≤wf.heap.size from hw.size);have hr2:Below w.heap.size w ((wv.setCell ⟨w.heap.size+1+1,0,none⟩ (.bool Ik)).setCell ⟨w.heap.size+1+1,1,none⟩ (.slice a48 IQ Hf)):=yK (yK (f_ hw Hj) (by simp <;> omega) _) (by simp <;> omega) _;unfold Rg.aX Rg.aX Oper.wp
 go_simp
 go_wp2;exact bodyPost_ret (v:=.agg #[.bool Ik,.slice a48 IQ Hf]) (by simp [results,Tryz.results158,go_sem, *]) rfl (⟨_,by rw [GL.out],hr1,hr2⟩)
namespace Wh
theorem mo {a b x z:Int} (hx:sz x 1000) (hz:sz z 1000) (ha1:-1000≤a) (ha2:a≤1000) (hb1:-10000≤b) (hb2:b≤10000):sz (bQ a b x z) 5000:=by
 have haa:-1000000≤a*a∧a*a≤1000000:=M.aK (x:=a) (y:=a) (m:=1000) (n:=1000) (by omega) (by omega) (by omega) (by omega);rw [←oc];have mx:=aj hx hx;have mz:=aj hz hz;have m1:=ml (aP (aj mx mx) (show 1000+1000+(1000+1000)≤4100 by omega)) (aP (aj (aj mx mz) (bV (n:=2*a) (by omega) (by omega))) (show _≤4100 by omega));have m2:=ml (aP m1 (show 4100+1≤4200 by omega)) (aP (aj (aj (aj hx hz) mz) (bV (n:=8*b) (by omega) (by omega))) (show _≤4200 by omega));exact aP (gB (aP m2 (show 4200+1≤4300 by omega)) (aP (aj (aj mz mz) (bV (n:=a*a) (by omega) (by omega))) (show _≤4300 by omega))) (by omega)
theorem mh {a b x z:Int} (hx:sz x 1000) (hz:sz z 1000) (ha1:-1000≤a) (ha2:a≤1000) (hb1:-10000≤b) (hb2:b≤10000):sz (bI a b x z) 6000:=by
 rw [←nI];have m1:=aj hx hx;have m0:=aj hz hz;have m2:=aj m1 hx;have m4:=aj (aj hx m0) (bV (n:=a) (by omega) (by omega));have m5:=gB (aP m2 (show 1000+1000+1000≤4000 by omega)) (aP m4 (show _≤4000 by omega));have m7:=aj (aj hz m0) (bV (n:=b) (by omega) (by omega));have m8:=gB (aP m5 (show 4000+1≤4100 by omega)) (aP m7 (show _≤4100 by omega));exact aP (aj (aj hz m8) (bV (n:=4) (by omega) (by omega))) (by omega)
def BM (D F G:Int):Nat:=Nat.gcd (Nat.gcd (4*D.natAbs) F.natAbs) G.natAbs
theorem tL (D F G:Int):Nat.gcd (G.natAbs % Nat.gcd (F.natAbs % (4*D.natAbs)) (4*D.natAbs)) (Nat.gcd (F.natAbs % (4*D.natAbs)) (4*D.natAbs))=BM D F G:=by
 unfold BM;rw [←Nat.gcd_rec,←Nat.gcd_rec]
theorem nd (n:Nat) (y:Int):M.gcd (n:Int) (y % (n:Int))=(Nat.gcd n y.natAbs:Nat):=by
 unfold M.gcd Int.gcd;rw [Int.natAbs_natCast]
 by_cases hn:n=0
 ·subst hn
  simp
 congr 1
 apply Nat.dvd_antisymm
 ·refine Nat.dvd_gcd (Nat.gcd_dvd_left _ _) ?_
  have h1:(Nat.gcd n (y % (n:Int)).natAbs:Int) ∣ y % (n:Int):=Int.ofNat_dvd_left.2 (Nat.gcd_dvd_right _ _);have h2:(Nat.gcd n (y % (n:Int)).natAbs:Int) ∣ (n:Int):=Int.ofNat_dvd.2 (Nat.gcd_dvd_left _ _)
  have h3:(Nat.gcd n (y % (n:Int)).natAbs:Int) ∣ y:=by
   have h4:=Int.dvd_add h1 (Int.dvd_mul_of_dvd_left (c:=y / (n:Int)) h2)
   rwa [Int.emod_add_mul_ediv] at h4
  exact Int.ofNat_dvd_left.1 h3
 refine Nat.dvd_gcd (Nat.gcd_dvd_left _ _) ?_;have h1:(Nat.gcd n y.natAbs:Int) ∣ y:=Int.ofNat_dvd_left.2 (Nat.gcd_dvd_right _ _);have h2:(Nat.gcd n y.natAbs:Int) ∣ (n:Int):=Int.ofNat_dvd.2 (Nat.gcd_dvd_left _ _)
 have h3:(Nat.gcd n y.natAbs:Int) ∣ y % (n:Int):=by
  rw [Int.emod_def];exact Int.dvd_sub h1 (Int.dvd_mul_of_dvd_left h2)
 exact Int.ofNat_dvd_left.1 h3
theorem uo (D F G:Int):M.gcd (M.gcd (4*(D.natAbs:Int)) (F % (4*(D.natAbs:Int)))) (G % (4*(D.natAbs:Int)))=(BM D F G:Nat):=by
 have e:(4*(D.natAbs:Int))=((4*D.natAbs:Nat):Int):=by omega
 rw [e,nd];unfold BM;have h:Nat.gcd F.natAbs F.natAbs=F.natAbs:=Nat.gcd_self _;have h1:=nd (4*D.natAbs) G;unfold M.gcd Int.gcd at h1 ⊢;rw [Int.natAbs_natCast] at h1 ⊢
 have h2:Nat.gcd (4*D.natAbs) (G % ((4*D.natAbs:Nat):Int)).natAbs=Nat.gcd (4*D.natAbs) G.natAbs:=by omega
 rw [Nat.gcd_comm (4*D.natAbs) F.natAbs,Nat.gcd_assoc,Nat.gcd_assoc,h2]
theorem um (D F G:Int):BM D (-F) (-G)=BM D F G:=by unfold BM;rw [Int.natAbs_neg,Int.natAbs_neg]
theorem tK {D:Int} (F G:Int) (h:D≠0):1≤BM D F G∧BM D F G≤4*D.natAbs:=by
 unfold BM
 have h0:0<4*D.natAbs:=by omega
 have h1:0<Nat.gcd (4*D.natAbs) F.natAbs:=Nat.gcd_pos_of_pos_left _ h0;exact ⟨Nat.gcd_pos_of_pos_left _ h1,Nat.le_trans (Nat.gcd_le_left _ h1) (Nat.gcd_le_left _ h0)⟩
end Wh
theorem jz (a b x z:Int) (vx vz:Value) (w:World) (bx bz:Nat) (hg:M.good a b=true) (hox:ah w bx vx x) (zJ:ah w bz vz z) (hx:Wh.sz x 1000) (hz:Wh.sz z 1000) :
  Calls Tryz.prog 167 #[.agg #[.int .i64 a,.int .i64 b],.agg #[.bool (decide (x<0)),vx,.bool (decide (z<0)),vz]] w fun e w'=>e=.returned (.int .i64 (Wh.BM (M.bC a b) (Wh.bQ a b x z) (Wh.bI a b x z):Nat))∧Below w.heap.size w w':=by
 obtain ⟨ax,cx,rfl,-,-⟩:=aF.view hox;obtain ⟨az,cz,rfl,-,-⟩:=aF.view zJ;have hin:=M.bK hg;obtain ⟨ha1,ha2,hb1,hb2⟩:=M.am hin;have hdb:=eJ hin;have hdn:=fO hg
 have PC:=fun W=>pG a b W hin
 have PF:=fun v v' W k k' (h1:aF W k v (Wh.d_ x.natAbs)) (h2:aF W k' v' (Wh.d_ z.natAbs))=>gT a b x z v v' W k k' h1 h2 hx hz ha1 ha2 hb1 hb2
 have PG:=fun v v' W k k' (h1:aF W k v (Wh.d_ x.natAbs)) (h2:aF W k' v' (Wh.d_ z.natAbs))=>dq a b x z v v' W k k' h1 h2 hx hz ha1 ha2 hb1 hb2
 have sF:=Wh.aW.2 (Wh.aP (Wh.mo hx hz ha1 ha2 hb1 hb2) (show 5000≤9000 by omega));have sG:=Wh.aW.2 (Wh.aP (Wh.mh hx hz ha1 ha2 hb1 hb2) (show 6000≤9000 by omega));have hres:=Wh.tL (M.bC a b) (Wh.bQ a b x z) (Wh.bI a b x z);generalize Wh.bI a b x z=G,Wh.bQ a b x z=F,M.bC a b=D,Wh.BM (M.bC a b) (Wh.bQ a b x z) (Wh.bI a b x z)=RES at *
 have hn1:1≤4*D.natAbs:=by omega
 have hn2:4*D.natAbs≤1000000000000:=by omega
 have PV:=fun v W k (h:aF W k v (Wh.d_ F.natAbs))=>gS F (4*D.natAbs) v W k h sF hn1 hn2
 have hm1:1≤Nat.gcd (F.natAbs % (4*D.natAbs)) (4*D.natAbs):=Nat.gcd_pos_of_pos_right _ hn1;have hm2:Nat.gcd (F.natAbs % (4*D.natAbs)) (4*D.natAbs)≤1000000000000:=Nat.le_trans (Nat.gcd_le_right _ hn1) hn2
 have PW:=fun v W k (h:aF W k v (Wh.d_ G.natAbs))=>gS G (Nat.gcd (F.natAbs % (4*D.natAbs)) (4*D.natAbs)) v W k h sG hm1 hm2
 rw [hres] at PW
 have hmax:(if 4*D < -4*D then -4*D else 4*D)=((4*D.natAbs:Nat):Int):=by split <;> omega
 have Dl:max (4*D) (-4*D)=((4*D.natAbs:Nat):Int):=by omega
 clear hn1 hn2 hm1 hm2 hres sF sG ha1 ha2 hb1 hb2 hdn
 have hD1:-6700000000≤D:=by omega
 have hD2:D≤6700000000:=by omega
 clear hdb;generalize hN:4*D.natAbs=N at *;replace hN:=yI hN;generalize Nat.gcd (F.natAbs % N) N=N2 at *;replace hmax:=yI hmax;replace Dl:=yI Dl;replace PC:=yI PC;replace PF:=yI PF;replace PG:=yI PG;replace PV:=yI PV;replace PW:=yI PW;generalize hs1:decide (x<0)=s1 at *;generalize hs2:decide (z<0)=s2 at *;clear hs1 hs2;replace hox:=yI (show aF _ _ _ _ from hox);replace zJ:=yI (show aF _ _ _ _ from zJ);generalize (Wh.d_ z.natAbs).length=lz,(Wh.d_ x.natAbs).length=lx at *;have b1:=(aH.new w #[.int .i64 a,.int .i64 b] 29).alloc (.cells #[.bool s1,.slice ax lx cx,.bool s2,.slice az lz cz] 157)
 have b2:=(aH.new (w.alloc (.cells #[.int .i64 a,.int .i64 b] 29)) #[.bool s1,.slice ax lx cx,.bool s2,.slice az lz cz] 157)
 rw [yJ] at b2;have hB:=((yL w.heap.size w).alloc (yM _) (.cells #[.int .i64 a,.int .i64 b] 29)).alloc (by rw [yJ];omega) (.cells #[.bool s1,.slice ax lx cx,.bool s2,.slice az lz cz] 157);have ox:=yI (aF.alloc (aF.alloc hox.out (.cells #[.int .i64 a,.int .i64 b] 29)) (.cells #[.bool s1,.slice ax lx cx,.bool s2,.slice az lz cz] 157));have oz:=yI (aF.alloc (aF.alloc zJ.out (.cells #[.int .i64 a,.int .i64 b] 29)) (.cells #[.bool s1,.slice ax lx cx,.bool s2,.slice az lz cz] 157));clear hox zJ;generalize hw3:(w.alloc (.cells #[.int .i64 a,.int .i64 b] 29)).alloc (.cells #[.bool s1,.slice ax lx cx,.bool s2,.slice az lz cz] 157)=wc at *;go_enter Tryz.func167,Tryz.ntmps167
 go_wp2
 go_upto_region 1 with fail
 refine Rg.bJ 8 [.is (.agg #[.int .i64 a,.int .i64 b]),.is (.int .i64 D),.is (.int .i64 (4*D)),.is (.agg #[.int .i64 a,.int .i64 b]),.is (.int .i64 D),.is (.int .i64 ((-4)*D)),.is (.int .i64 ((N:Nat):Int)),.is (.int .i64 ((N:Nat):Int))] (by kernel_rfl) (by kernel_rfl) (by kernel_rfl) ⟨?_,?_,?_,?_,?_,?_,?_,?_,trivial⟩ ?_
 ·intro _ zZ w_ hB hr
  have e2:zZ.tmps[2]?=some (.pointer (some ⟨w.heap.size,0,none⟩)):=hr 2 (by decide);have k0:=aE hB b1.box.c0;have k1:=aE hB b1.box.c1;exact Rg.aG rfl (by go_simp)
 ·intro _ zZ w_ hB hr
  have e6:=Rg.a_ (hr 6 (by decide));have ef:=Rg.ef zZ;exact Rg.bU rfl (by go_simp) (PC.out _)
 ·intro _ zZ w_ hB hr
  have e7:=Rg.a_ (hr 7 (by decide));have ec:=Rg.ec zZ;exact Rg.aG rfl (by go_simp <;> exact Rg.wo (by omega))
 ·intro _ zZ w_ hB hr
  have e2:zZ.tmps[2]?=some (.pointer (some ⟨w.heap.size,0,none⟩)):=hr 2 (by decide);have k0:=aE hB b1.box.c0;have k1:=aE hB b1.box.c1;exact Rg.aG rfl (by go_simp)
 ·intro _ zZ w_ hB hr
  have e9:=Rg.a_ (hr 9 (by decide));have ef:=Rg.ef zZ;exact Rg.bU rfl (by go_simp) (PC.out _)
 ·intro _ zZ w_ hB hr
  have e10:=Rg.a_ (hr 10 (by decide));have ec:=Rg.ec zZ;exact Rg.aG rfl (by go_simp <;> exact Rg.wo (by omega))
 ·intro _ zZ w_ hB hr
  have e8:=Rg.a_ (hr 8 (by decide));have e11:=Rg.a_ (hr 11 (by decide));exact Rg.aG rfl (by go_simp;first | done | (rw [hmax.out];done) | (rw [Dl.out];done) | (simp only [hmax.out];done))
 ·intro _ zZ w_ hB hr
  have e12:=Rg.a_ (hr 12 (by decide));exact Rg.aG rfl (by go_simp)
 intro vals wz hB1 hv hne;have BI:vals 7=.int .i64 ((N:Nat):Int):=hv 7 (by decide);simp only [Rg.ak,Rg.fill,Act.put,Nat.reduceAdd];clear hv;simp only [BI];clear BI;replace b1:=b1.keep hB1;replace b2:=b2.keep hB1;replace ox:=yI (aF.below ox.out hB1);replace oz:=yI (aF.below oz.out hB1);have hBw:=f_ hB hB1;unfold Rg.aX
 go_upto_region 2 with fail
 clear hB1;refine Rg.bJ 10 [.is (.agg #[.int .i64 a,.int .i64 b]),.is (.agg #[.bool s1,.slice ax lx cx,.bool s2,.slice az lz cz]),.at (aJ (wz.heap.size) (G)),.is (.agg #[.int .i64 a,.int .i64 b]),.is (.agg #[.bool s1,.slice ax lx cx,.bool s2,.slice az lz cz]),.at (aJ (wz.heap.size) (F)),.is (.int .i64 ((N:Nat):Int)),.is (.int .i64 ((N2:Nat):Int)),.is (.int .i64 ((RES:Nat):Int)),.is (.int .i64 ((RES:Nat):Int))] (by kernel_rfl) (by kernel_rfl) (by kernel_rfl) ⟨?_,?_,?_,?_,?_,?_,?_,?_,?_,?_,trivial⟩ ?_
 ·intro _ zZ w_ hB hr
  have e2:zZ.tmps[2]?=some (.pointer (some ⟨w.heap.size,0,none⟩)):=hr 2 (by decide);have k0:=aE hB b1.box.c0;have k1:=aE hB b1.box.c1;exact Rg.aG rfl (by go_simp)
 ·intro _ zZ w_ hB hr
  have e3:zZ.tmps[3]?=some (.pointer (some ⟨w.heap.size+1,0,none⟩)):=hr 3 (by decide);have k0:=aE hB b2.aM.c0;have k1:=aE hB b2.aM.c1;have k2:=aE hB b2.aM.c2;have k3:=aE hB b2.aM.c3;exact Rg.aG rfl (by go_simp)
 ·intro _ zZ w_ hB hr
  have e13:=Rg.a_ (hr 13 (by decide));have e14:=Rg.a_ (hr 14 (by decide));have ef:=Rg.ef zZ;refine Rg.aZ rfl (by go_simp;exact ⟨rfl,rfl⟩) ?_;refine (PG.out _ _ _ _ _ (aF.below ox.out hB) (aF.below oz.out hB)).mono ?_;rintro e w5 ⟨y_,rfl,yT,hb5⟩;exact ⟨_,rfl,aJ.at yT (by have:=hB.size;omega),hb5⟩
 ·intro _ zZ w_ hB hr
  have e2:zZ.tmps[2]?=some (.pointer (some ⟨w.heap.size,0,none⟩)):=hr 2 (by decide);have k0:=aE hB b1.box.c0;have k1:=aE hB b1.box.c1;exact Rg.aG rfl (by go_simp)
 ·intro _ zZ w_ hB hr
  have e3:zZ.tmps[3]?=some (.pointer (some ⟨w.heap.size+1,0,none⟩)):=hr 3 (by decide);have k0:=aE hB b2.aM.c0;have k1:=aE hB b2.aM.c1;have k2:=aE hB b2.aM.c2;have k3:=aE hB b2.aM.c3;exact Rg.aG rfl (by go_simp)
 ·intro _ zZ w_ hB hr
  have e16:=Rg.a_ (hr 16 (by decide));have e17:=Rg.a_ (hr 17 (by decide));have ef:=Rg.ef zZ;refine Rg.aZ rfl (by go_simp;exact ⟨rfl,rfl⟩) ?_;refine (PF.out _ _ _ _ _ (aF.below ox.out hB) (aF.below oz.out hB)).mono ?_;rintro e w5 ⟨y_,rfl,yT,hb5⟩;exact ⟨_,rfl,aJ.at yT (by have:=hB.size;omega),hb5⟩
 ·intro _ zZ w_ hB hr
  have e5:zZ.tmps[5]?=some (.int .i64 ((N:Nat):Int)):=hr 5 (by decide);exact Rg.aG rfl (by go_simp)
 ·intro _ zZ w_ hB hr
  obtain ⟨v18,e18,n18⟩:∃ v,zZ.tmps[18]?=some v∧(Rg.Val.at (aJ (wz.heap.size) (F))).ok v w_:=hr 18 (by decide);obtain ⟨s18,a18,l18,c18,GG,rfl,NF⟩:=(Rg.ag n18).view;have e19:=Rg.a_ (hr 19 (by decide));have ef:=Rg.ef zZ;obtain rfl:=GG.out;exact Rg.bU rfl (by go_simp) (PV.out _ _ _ NF)
 ·intro _ zZ w_ hB hr
  obtain ⟨v15,e15,n15⟩:∃ v,zZ.tmps[15]?=some v∧(Rg.Val.at (aJ (wz.heap.size) (G))).ok v w_:=hr 15 (by decide);obtain ⟨s15,DV,D2,c15,Ep,rfl,EI⟩:=(Rg.ag n15).view;have e20:=Rg.a_ (hr 20 (by decide));have ef:=Rg.ef zZ;obtain rfl:=Ep.out;exact Rg.bU rfl (by go_simp) (PW.out _ _ _ EI)
 ·intro _ zZ w_ hB hr
  have e21:=Rg.a_ (hr 21 (by decide));exact Rg.aG rfl (by go_simp)
 intro vals wy hB2 hv hne;have Ad:vals 9=.int .i64 ((RES:Nat):Int):=hv 9 (by decide);simp only [Rg.ak,Rg.fill,Act.put,Nat.reduceAdd];clear hv;simp only [Ad];clear Ad;unfold Rg.aX;go_wp2;go_ret;exact ⟨rfl,f_ hBw hB2⟩
namespace Wh
def DI (D F G:Int):Int:=if G<0 then -(F / (BM D F G:Nat)) else F / (BM D F G:Nat)
def DH (D F G:Int):Int:=if G<0 then -(G / (BM D F G:Nat)) else G / (BM D F G:Nat)
def dp (D F G:Int):Bool:=decide (G≠0) && cg (DI D F G) (DH D F G)
def BK (D F G:Int):Int:=if dp D F G=true then DI D F G else 0
def BL (D F G:Int):Int:=if dp D F G=true then DH D F G else 0
theorem mj {z:Int} {n:Nat} (h:sz z n) (d:Nat):sz (z / (d:Int)) (n+1):=by
 unfold sz at *;rw [Nat.pow_succ]
 have h1:(z / (d:Int)).natAbs≤z.natAbs+1:=by
  rcases Nat.eq_zero_or_pos d with rfl | hd
  ·simp
  have:=Int.natAbs_ediv_le_natAbs z (d:Int);omega
 have hp:0<10000 ^ n:=Nat.pow_pos (by decide);omega
theorem eu {z:Int}:(d_ z.natAbs).length=0 ↔ z=0:=by
 rw [List.length_eq_zero_iff,gG];omega
theorem qF {z:Int} {d:Nat} (hd:1≤d):decide (z / (d:Int)<0)=decide (z<0):=by
 rw [decide_eq_decide]
 constructor
 ·intro h
  rcases Int.lt_or_le z 0 with q | q
  ·exact q
  have:=Int.ediv_nonneg (b:=(d:Int)) q (by omega);omega
 intro h;exact Int.ediv_neg_of_neg_of_pos h (by omega)
end Wh
theorem fa (w:World) (k:Nat):ah w k (.slice none 0 0) 0:=by
 unfold ah;rw [show Wh.d_ (0:Int).natAbs=[] from Wh.gG.2 rfl];exact aF.nil _ _
theorem rA (a b x z:Int) (vx vz:Value) (w:World) (bx bz:Nat) (hg:M.good a b=true) (hox:ah w bx vx x) (zJ:ah w bz vz z) (hx:Wh.sz x 1000) (hz:Wh.sz z 1000) :
  Calls Tryz.prog 149 #[.agg #[.int .i64 a,.int .i64 b],.agg #[.bool (decide (x<0)),vx,.bool (decide (z<0)),vz]] w fun e w'=>∃ v1 v2,e=.returned (.tuple #[.agg #[.bool (decide (Wh.BK (M.bC a b) (Wh.bQ a b x z) (Wh.bI a b x z)<0)),v1,.bool (decide (Wh.BL (M.bC a b) (Wh.bQ a b x z) (Wh.bI a b x z)<0)),v2],.bool (Wh.dp (M.bC a b) (Wh.bQ a b x z) (Wh.bI a b x z))])∧ah w' w.heap.size v1 (Wh.BK (M.bC a b) (Wh.bQ a b x z) (Wh.bI a b x z))∧ah w' w.heap.size v2 (Wh.BL (M.bC a b) (Wh.bQ a b x z) (Wh.bI a b x z))∧Below w.heap.size w w':=by
 obtain ⟨ax,cx,rfl,-,-⟩:=aF.view hox;obtain ⟨az,cz,rfl,-,-⟩:=aF.view zJ;have hin:=M.bK hg;obtain ⟨ha1,ha2,hb1,hb2⟩:=M.am hin;have hdb:=eJ hin;have hdn:=fO hg
 have PF:=fun v v' W k k' (h1:aF W k v (Wh.d_ x.natAbs)) (h2:aF W k' v' (Wh.d_ z.natAbs))=>gT a b x z v v' W k k' h1 h2 hx hz ha1 ha2 hb1 hb2
 have PG:=fun v v' W k k' (h1:aF W k v (Wh.d_ x.natAbs)) (h2:aF W k' v' (Wh.d_ z.natAbs))=>dq a b x z v v' W k k' h1 h2 hx hz ha1 ha2 hb1 hb2
 have PD:=fun v v' W k k' (h1:aF W k v (Wh.d_ x.natAbs)) (h2:aF W k' v' (Wh.d_ z.natAbs))=>jz a b x z v v' W k k' hg h1 h2 hx hz
 have zF:=Wh.mo hx hz ha1 ha2 hb1 hb2;have zG:=Wh.mh hx hz ha1 ha2 hb1 hb2;have hdv:=Wh.tK (Wh.bQ a b x z) (Wh.bI a b x z) hdn;generalize Wh.bI a b x z=G,Wh.bQ a b x z=F,M.bC a b=D at *;clear hin hg ha1 ha2 hb1 hb2 hdn hx hz
 obtain ⟨d,hd⟩:∃ d,Hid (Wh.BM D F G=d):=⟨_,yI rfl⟩
 rw [hd.out] at hdv PD;have hd1:1≤d:=hdv.1
 have hd2:d≤1000000000000:=by omega
 clear hdv hdb;have sF:=Wh.aW.2 (Wh.aP zF (show 5000≤9000 by omega));have sG:=Wh.aW.2 (Wh.aP zG (show 6000≤9000 by omega));have zN:=Wh.mj zF d;have zE:=Wh.mj zG d;have sN:=Wh.aW.2 (Wh.aP zN (show 5000+1≤9000 by omega));have sE:=Wh.aW.2 (Wh.aP zE (show 6000+1≤9000 by omega))
 have PQ:=fun v W k (h:aF W k v (Wh.d_ F.natAbs))=>ge F (d:Int) v W k h sF (by omega) (by omega)
 have PR:=fun v W k (h:aF W k v (Wh.d_ G.natAbs))=>ge G (d:Int) v W k h sG (by omega) (by omega)
 generalize hs1:decide (x<0)=s1 at *;generalize hs2:decide (z<0)=s2 at *;clear hs1 hs2;replace hox:=yI (show aF _ _ _ _ from hox);replace zJ:=yI (show aF _ _ _ _ from zJ);generalize (Wh.d_ z.natAbs).length=lz,(Wh.d_ x.natAbs).length=lx at *;have C:=((aH.new w #[.int .i64 a,.int .i64 b] 29).alloc (.cells #[.bool s1,.slice ax lx cx,.bool s2,.slice az lz cz] 157)).alloc (.cells #[.bool false,.slice none 0 0,.bool false,.slice none 0 0] 157);have Q:=(aH.new (w.alloc (.cells #[.int .i64 a,.int .i64 b] 29)) #[.bool s1,.slice ax lx cx,.bool s2,.slice az lz cz] 157).alloc (.cells #[.bool false,.slice none 0 0,.bool false,.slice none 0 0] 157);rw [yJ] at Q;have R:=aH.new ((w.alloc (.cells #[.int .i64 a,.int .i64 b] 29)).alloc (.cells #[.bool s1,.slice ax lx cx,.bool s2,.slice az lz cz] 157)) #[.bool false,.slice none 0 0,.bool false,.slice none 0 0] 157;rw [cW] at R;have B:=(((yL w.heap.size w).alloc (yM _) (.cells #[.int .i64 a,.int .i64 b] 29)).alloc (by rw [yJ];omega) (.cells #[.bool s1,.slice ax lx cx,.bool s2,.slice az lz cz] 157)).alloc (by rw [cW];omega) (.cells #[.bool false,.slice none 0 0,.bool false,.slice none 0 0] 157);have ox:=yI (aF.alloc (aF.alloc (aF.alloc hox.out (.cells #[.int .i64 a,.int .i64 b] 29)) (.cells #[.bool s1,.slice ax lx cx,.bool s2,.slice az lz cz] 157)) (.cells #[.bool false,.slice none 0 0,.bool false,.slice none 0 0] 157));have oz:=yI (aF.alloc (aF.alloc (aF.alloc zJ.out (.cells #[.int .i64 a,.int .i64 b] 29)) (.cells #[.bool s1,.slice ax lx cx,.bool s2,.slice az lz cz] 157)) (.cells #[.bool false,.slice none 0 0,.bool false,.slice none 0 0] 157));clear hox zJ;generalize hw3:((w.alloc (.cells #[.int .i64 a,.int .i64 b] 29)).alloc (.cells #[.bool s1,.slice ax lx cx,.bool s2,.slice az lz cz] 157)).alloc (.cells #[.bool false,.slice none 0 0,.bool false,.slice none 0 0] 157)=wc at *;have j_:=C.box.c0;have l_:=C.box.c1;have zM:=Q.aM.c0;have zO:=Q.aM.c1;have zP:=Q.aM.c2;have zQ:=Q.aM.c3;have p_:=R.aM.c0;have r_:=R.aM.c1;have yO:=R.aM.c2;have yP:=R.aM.c3;have t_:=R.aM.f0;have x_:=R.aM.f1;have yQ:=R.aM.f2;have yR:=R.aM.f3
 by_cases h0:G=0
 ·subst h0
  have hok:Wh.dp D F 0=false:=by unfold Wh.dp;simp
  have hX:Wh.BK D F 0=0:=by unfold Wh.BK;rw [hok];rfl
  have hZ:Wh.BL D F 0=0:=by unfold Wh.BL;rw [hok];rfl
  rw [hok,hX,hZ];have hl0:(Wh.d_ (0:Int).natAbs).length=0:=Wh.eu.2 rfl;have hs0:decide ((0:Int)<0)=false:=rfl;rw [hs0] at PG ⊢;clear hok hX hZ hs0 PF PD PQ PR sF sG zN zE sN sE zF zG hd hd1 hd2;replace PG:=yI PG;go_enter Tryz.func149,Tryz.ntmps149
  go_wp2_with (go_at_call 148;(with_reducible refine (PG.out _ _ _ _ _ ox.out oz.out).mono ?_);rintro e w4 ⟨v4,rfl,yh,hb4⟩;have yl:=B.size;replace C:=C.keep hb4;replace Q:=Q.keep hb4;replace R:=R.keep hb4;replace ox:=kO ox hb4;replace oz:=kO oz hb4;replace B:=f_ B hb4;obtain ⟨a4,c4,rfl,yg,yf⟩:=aF.view yh;clear yg yf;have og:=yI (aF.base (show aF _ _ _ _ from yh) yl);clear yh;clear yl;(rw [hl0] at og ⊢);have T:=aH.new w4 #[.bool false,.slice a4 0 c4] 136;have b_:=bA w4 (.cells #[.bool false,.slice a4 0 c4] 136);replace C:=C.keep b_;replace Q:=Q.keep b_;replace R:=R.keep b_;replace ox:=kO ox b_;replace oz:=kO oz b_;replace og:=kO og b_;replace B:=f_ B b_;clear b_;(replace ⟨j_,l_⟩:=C.b2);(replace ⟨zM,zO,zP,zQ⟩:=Q.b4);(replace ⟨p_,r_,yO,yP,t_,x_,yQ,yR⟩:=R.yk);(replace ⟨yn,yo⟩:=T.b2))
  exact bodyPost_ret (v:=.tuple #[.agg #[.bool false,.slice none 0 0,.bool false,.slice none 0 0],.bool false]) (by simp [results,Tryz.results149,go_sem, *]) rfl (⟨_,_,rfl,fa _ _,fa _ _,yK (yK (yK (yK B (by simp <;> omega) _) (by simp <;> omega) _) (by simp <;> omega) _) (by simp <;> omega) _⟩)
 have hlp:¬ (Wh.d_ G.natAbs).length=0:=fun h=>h0 (Wh.eu.1 h)
 have hlq:(((Wh.d_ G.natAbs).length:Int) == 0)=false:=by rw [beq_eq_false_iff_ne];omega
 have hne:decide (G≠0)=true:=decide_eq_true h0;have Bk:=Wh.qF (z:=G) hd1
 have PN:=fun v W k (h:aF W k v (Wh.d_ (F / (d:Int)).natAbs))=>iZ (F / (d:Int)) v W k h (by omega)
 have PE:=fun v W k (h:aF W k v (Wh.d_ (G / (d:Int)).natAbs))=>iZ (G / (d:Int)) v W k h (by omega)
 have B_:(Wh.d_ (-(F / (d:Int))).natAbs).length≤100000:=by rw [Int.natAbs_neg];omega
 have FF:(Wh.d_ (-(G / (d:Int))).natAbs).length≤100000:=by rw [Int.natAbs_neg];omega
 have BP:=fun v v' W k k' (h:aF W k v (Wh.d_ (F / (d:Int)).natAbs)) (h':aF W k' v' (Wh.d_ (G / (d:Int)).natAbs))=>lK (F / (d:Int)) (G / (d:Int)) v v' W k k' h h' (by omega) (by omega)
 have CH:=fun v v' W k k' (h:aF W k v (Wh.d_ (-(F / (d:Int))).natAbs)) (h':aF W k' v' (Wh.d_ (-(G / (d:Int))).natAbs))=>lK (-(F / (d:Int))) (-(G / (d:Int))) v v' W k k' h h' B_ FF
 have E9:Wh.dp D F G=Wh.cg (if G<0 then -(F / (d:Int)) else F / (d:Int)) (if G<0 then -(G / (d:Int)) else G / (d:Int)):=by unfold Wh.dp Wh.DI Wh.DH;rw [hd.out,hne];rfl
 have eX:Wh.BK D F G=if Wh.dp D F G=true then (if G<0 then -(F / (d:Int)) else F / (d:Int)) else 0:=by unfold Wh.BK Wh.DI;rw [hd.out]
 have eZ:Wh.BL D F G=if Wh.dp D F G=true then (if G<0 then -(G / (d:Int)) else G / (d:Int)) else 0:=by unfold Wh.BL Wh.DH;rw [hd.out]
 rw [eX,eZ,E9];clear eX eZ E9 B_ FF hne h0 sF sG zN zE sN sE zF zG;generalize F / (d:Int)=N at *;generalize G / (d:Int)=E at *;generalize F % (d:Int)=rF at *;generalize G % (d:Int)=rG at *;generalize decide (F<0)=sF at *;clear hd
 by_cases hneg:G<0
 ·have hsg:decide (G<0)=true:=decide_eq_true hneg
  rw [hsg] at Bk PG;rw [if_pos hneg,if_pos hneg];simp only [hsg,Bk] at PR PE BP;clear BP;generalize B_:decide (N<0)=sN at *;replace PG:=yI PG;replace PF:=yI PF;replace PD:=yI PD;replace PQ:=yI PQ;replace PR:=yI PR;replace PN:=yI PN;replace PE:=yI PE;replace CH:=yI CH;replace B_:=yI B_;replace Bk:=yI Bk;clear hneg hsg hd1 hd2
  by_cases hok:Wh.cg (-N) (-E)=true
  ·skip
   rw [hok];replace hok:=yI hok;rw [if_pos rfl,if_pos rfl];go_enter Tryz.func149,Tryz.ntmps149
   go_upto_region 8 with (first
    | (go_at_call 148;(with_reducible refine (PG.out _ _ _ _ _ ox.out oz.out).mono ?_);rintro e w4 ⟨v4,rfl,yh,hb4⟩;have yl:=B.size;replace C:=C.keep hb4;replace Q:=Q.keep hb4;replace R:=R.keep hb4;replace ox:=kO ox hb4;replace oz:=kO oz hb4;replace B:=f_ B hb4;obtain ⟨a4,c4,rfl,yg,yf⟩:=aF.view yh;clear yg yf;have og:=yI (aF.base (show aF _ _ _ _ from yh) yl);clear yh;(generalize (Wh.d_ G.natAbs).length=lg at *);clear yl;have T:=aH.new w4 #[.bool true,.slice a4 lg c4] 136;have b_:=bA w4 (.cells #[.bool true,.slice a4 lg c4] 136);replace C:=C.keep b_;replace Q:=Q.keep b_;replace R:=R.keep b_;replace ox:=kO ox b_;replace oz:=kO oz b_;replace og:=kO og b_;replace B:=f_ B b_;clear b_;(replace ⟨j_,l_⟩:=C.b2);(replace ⟨zM,zO,zP,zQ⟩:=Q.b4);(replace ⟨p_,r_,yO,yP,t_,x_,yQ,yR⟩:=R.yk);(replace ⟨yn,yo⟩:=T.b2))
    | (go_at_call 167;(with_reducible refine (PD.out _ _ _ _ _ ox.out oz.out).mono ?_);rintro e w6 ⟨rfl,hb6⟩;replace C:=C.keep hb6;replace Q:=Q.keep hb6;replace R:=R.keep hb6;replace T:=T.keep hb6;replace ox:=kO ox hb6;replace oz:=kO oz hb6;replace og:=kO og hb6;replace B:=f_ B hb6;(replace ⟨j_,l_⟩:=C.b2);(replace ⟨zM,zO,zP,zQ⟩:=Q.b4);(replace ⟨p_,r_,yO,yP,t_,x_,yQ,yR⟩:=R.yk);(replace ⟨yn,yo⟩:=T.b2))
    | (go_at_call 169;(with_reducible refine (PF.out _ _ _ _ _ ox.out oz.out).mono ?_);rintro e w7 ⟨v7,rfl,Ap,yi⟩;have yl:=B.size;replace C:=C.keep yi;replace Q:=Q.keep yi;replace R:=R.keep yi;replace T:=T.keep yi;replace ox:=kO ox yi;replace oz:=kO oz yi;replace og:=kO og yi;replace B:=f_ B yi;obtain ⟨a7,c7,rfl,yg,yf⟩:=aF.view Ap;clear yg yf;have of:=yI (aF.base (show aF _ _ _ _ from Ap) yl);clear Ap;(generalize (Wh.d_ F.natAbs).length=lf at *);clear yl;(replace ⟨j_,l_⟩:=C.b2);(replace ⟨zM,zO,zP,zQ⟩:=Q.b4);(replace ⟨p_,r_,yO,yP,t_,x_,yQ,yR⟩:=R.yk);(replace ⟨yn,yo⟩:=T.b2))
    | (go_at_call 168;(with_reducible refine (PQ.out _ _ _ of.out).mono ?_);rintro e w8 ⟨v8,rfl,zw,yY⟩;have yl:=B.size;replace C:=C.keep yY;replace Q:=Q.keep yY;replace R:=R.keep yY;replace T:=T.keep yY;replace ox:=kO ox yY;replace oz:=kO oz yY;replace og:=kO og yY;replace of:=kO of yY;replace B:=f_ B yY;obtain ⟨a8,c8,rfl,yg,yf⟩:=aF.view zw;clear yg yf;have on:=yI (aF.base (show aF _ _ _ _ from zw) yl);clear zw;(generalize (Wh.d_ N.natAbs).length=ln at *);clear yl;have Eh:=yI R.lt;have U:=aH.new w8 #[.bool sN,.slice a8 ln c8] 136;have b_:=bA w8 (.cells #[.bool sN,.slice a8 ln c8] 136);replace C:=C.keep b_;replace Q:=Q.keep b_;replace R:=R.keep b_;replace T:=T.keep b_;replace ox:=kO ox b_;replace oz:=kO oz b_;replace og:=kO og b_;replace of:=kO of b_;replace on:=kO on b_;replace B:=f_ B b_;clear b_;(replace ⟨j_,l_⟩:=C.b2);(replace ⟨zM,zO,zP,zQ⟩:=Q.b4);(replace ⟨p_,r_,yO,yP,t_,x_,yQ,yR⟩:=R.yk);(replace ⟨yn,yo⟩:=T.b2);(replace ⟨ya,yc⟩:=U.b2))
    | (go_at_call 168;(with_reducible refine (PR.out _ _ _ og.out).mono ?_);rintro e w9 ⟨v9,rfl,AY,yZ⟩;have yl:=B.size;replace C:=C.keep yZ;replace Q:=Q.keep yZ;replace R:=R.keep yZ;replace T:=T.keep yZ;replace U:=U.keep yZ;replace ox:=kO ox yZ;replace oz:=kO oz yZ;replace og:=kO og yZ;replace of:=kO of yZ;replace on:=kO on yZ;replace B:=f_ B yZ;obtain ⟨a9,c9,rfl,yg,yf⟩:=aF.view AY;clear yg yf;have oe:=yI (aF.base (show aF _ _ _ _ from AY) yl);clear AY;(generalize (Wh.d_ E.natAbs).length=le at *);clear yl;have V:=aH.new w9 #[.bool true,.slice a9 le c9] 136;have b_:=bA w9 (.cells #[.bool true,.slice a9 le c9] 136);replace C:=C.keep b_;replace Q:=Q.keep b_;replace R:=R.keep b_;replace T:=T.keep b_;replace U:=U.keep b_;replace ox:=kO ox b_;replace oz:=kO oz b_;replace og:=kO og b_;replace of:=kO of b_;replace on:=kO on b_;replace oe:=kO oe b_;replace B:=f_ B b_;clear b_;(replace ⟨j_,l_⟩:=C.b2);(replace ⟨zM,zO,zP,zQ⟩:=Q.b4);(replace ⟨p_,r_,yO,yP,t_,x_,yQ,yR⟩:=R.yk);(replace ⟨yn,yo⟩:=T.b2);(replace ⟨ya,yc,zh,zi⟩:=U.zT);(replace ⟨yd,ye,zj,zk⟩:=V.zT)))
   have L4:w8.heap.size<w9.heap.size:=Nat.lt_of_lt_of_le (by rw [yJ];exact Nat.lt_succ_self _) yZ.size;generalize w9.alloc (.cells #[.bool true,.slice a9 le c9] 136)=wd at *;refine Rg.bJ 4 [.is (.agg #[.bool sN,.slice a8 ln c8]),.at (aJ (wd.heap.size) (-N)),.is (.agg #[.bool true,.slice a9 le c9]),.at (aJ (wd.heap.size) (-E))] (by kernel_rfl) (by kernel_rfl) (by kernel_rfl) ⟨?_,?_,?_,?_,fun h_=>absurd h_ (by decide),fun h_=>absurd h_ (by decide),trivial⟩ ?_
   ·intro _ zZ w_ hB hr
    have e8:zZ.tmps[8]?=some (.pointer (some ⟨w8.heap.size,0,none⟩)):=hr 8 (by decide);have k0:=aE hB U.box.c0;have k1:=aE hB U.box.c1;exact Rg.aG rfl (by go_simp)
   ·intro _ zZ w_ hB hr
    have e40:=Rg.a_ (hr 40 (by decide));have ef:=Rg.ef zZ;refine Rg.aZ rfl (by go_simp;exact ⟨rfl,rfl⟩) ?_;refine (PN.out _ _ _ (aF.below on.out hB)).mono ?_;rintro e w5 ⟨y_,rfl,yT,hb5⟩;exact ⟨_,rfl,aJ.at yT (by have:=hB.size;omega),hb5⟩
   ·intro _ zZ w_ hB hr
    have e10:zZ.tmps[10]?=some (.pointer (some ⟨w9.heap.size,0,none⟩)):=hr 10 (by decide);have k0:=aE hB V.box.c0;have k1:=aE hB V.box.c1;exact Rg.aG rfl (by go_simp)
   ·intro _ zZ w_ hB hr
    have e42:=Rg.a_ (hr 42 (by decide));have ef:=Rg.ef zZ;refine Rg.aZ rfl (by go_simp;exact ⟨rfl,rfl⟩) ?_;refine (PE.out _ _ _ (aF.below oe.out hB)).mono ?_;rintro e w5 ⟨y_,rfl,yT,hb5⟩;exact ⟨_,rfl,aJ.at yT (by have:=hB.size;omega),hb5⟩
   intro vals wz hB hv hne;have n41:(Rg.Val.at (aJ (wd.heap.size) (-N))).ok (vals 1) wz:=hv 1 (by decide);have n43:(Rg.Val.at (aJ (wd.heap.size) (-E))).ok (vals 3) wz:=hv 3 (by decide);simp only [Rg.ak,Rg.fill,Act.put,Nat.reduceAdd];clear hv;obtain ⟨Ai,a41,Ag,Af,C7,v_1,GU⟩:=(Rg.ag n41).view;obtain ⟨s43,a43,BC,BA,Er,FK,IY⟩:=(Rg.ag n43).view;simp only [v_1,FK];clear v_1 FK;have U2:=U.keep hB;have V2:=V.keep hB;have R2:=R.keep hB
   have Ef:w8.heap.size≠w9.heap.size:=by omega
   have Fm:=Ef.symm;have V3:aH ((wz.setCell ⟨w8.heap.size,0,none⟩ (.bool Ai)).setCell ⟨w8.heap.size,1,none⟩ (.slice a41 Ag Af)) w9.heap.size 136 #[.bool true,.slice a9 le c9]:=(V2.other Fm _).other Fm _;have V4:=aH.set2 V3 (.bool s43) (.slice a43 BC BA);have U4:aH ((((wz.setCell ⟨w8.heap.size,0,none⟩ (.bool Ai)).setCell ⟨w8.heap.size,1,none⟩ (.slice a41 Ag Af)).setCell ⟨w9.heap.size,0,none⟩ (.bool s43)).setCell ⟨w9.heap.size,1,none⟩ (.slice a43 BC BA)) w8.heap.size 136 #[.bool Ai,.slice a41 Ag Af]:=((aH.set2 U2 (.bool Ai) (.slice a41 Ag Af)).other Ef _).other Ef _;have oN:=yI (aF.bE (aF.bE (aF.base GU B.size) U2 (by decide) (.bool Ai) (.slice a41 Ag Af)) V3 (by decide) (.bool s43) (.slice a43 BC BA));have oE:=yI (aF.bE (aF.bE (aF.base IY B.size) U2 (by decide) (.bool Ai) (.slice a41 Ag Af)) V3 (by decide) (.bool s43) (.slice a43 BC BA));have hw8:w.heap.size+1+1<w8.heap.size:=Eh.out
   have Fw:w.heap.size+1+1≠w9.heap.size:=by omega
   have FB:w.heap.size+1+1≠w8.heap.size:=by omega
   have R4:aH ((((wz.setCell ⟨w8.heap.size,0,none⟩ (.bool Ai)).setCell ⟨w8.heap.size,1,none⟩ (.slice a41 Ag Af)).setCell ⟨w9.heap.size,0,none⟩ (.bool s43)).setCell ⟨w9.heap.size,1,none⟩ (.slice a43 BC BA)) (w.heap.size+1+1) 157 #[.bool false,.slice none 0 0,.bool false,.slice none 0 0]:=(((R2.other FB _).other FB _).other Fw _).other Fw _;have B4:Below w.heap.size w ((((wz.setCell ⟨w8.heap.size,0,none⟩ (.bool Ai)).setCell ⟨w8.heap.size,1,none⟩ (.slice a41 Ag Af)).setCell ⟨w9.heap.size,0,none⟩ (.bool s43)).setCell ⟨w9.heap.size,1,none⟩ (.slice a43 BC BA)):=yK (yK (yK (yK (f_ B hB) (by simp <;> omega) _) (by simp <;> omega) _) (by simp <;> omega) _) (by simp <;> omega) _;have ⟨p0,p1,q0,q1,_⟩:=U2.box;have ⟨p2,p3,q2,q3,_⟩:=V2.box;unfold Rg.aX Rg.aX Rg.aX Oper.wp
   go_simp
   clear p0 p1 q0 q1 p2 p3 q2 q3 U2 V2 V3 R2 GU IY hB U V R C Q T B ox oz og of on oe FB Fw Ef Fm L4 j_ l_ zM zO zP zQ p_ r_ yO yP t_ x_ yQ yR ya yc yd ye zh zi zj zk;generalize ((((wz.setCell ⟨w8.heap.size,0,none⟩ (.bool Ai)).setCell ⟨w8.heap.size,1,none⟩ (.slice a41 Ag Af)).setCell ⟨w9.heap.size,0,none⟩ (.bool s43)).setCell ⟨w9.heap.size,1,none⟩ (.slice a43 BC BA))=wf at *;have EL:=CH.out;rw [←C7.out,←Er.out] at EL;replace EL:=yI EL
   rename aH _ w8.heap.size _ _=>U
   rename aH _ w9.heap.size _ _=>V
   rename aH _ (w.heap.size+1+1) _ _=>R
   rename Below _ _ wf=>B
   have ya:=U.box.c0;have yc:=U.box.c1;have yd:=V.box.c0;have ye:=V.box.c1
   go_wp2_with (go_at_call 170;have O:=aH.new wf #[.bool Ai,.slice a41 Ag Af,.bool s43,.slice a43 BC BA] 157;have b_:=bA wf (.cells #[.bool Ai,.slice a41 Ag Af,.bool s43,.slice a43 BC BA] 157);replace R:=R.keep b_;replace oN:=kO oN b_;replace oE:=kO oE b_;replace B:=f_ B b_;clear b_;(with_reducible refine (EL.out _ _ _ _ _ oN.out oE.out).mono ?_);rintro e EJ ⟨rfl,yN⟩;(simp only [hok.out]);replace R:=R.keep yN;replace O:=O.keep yN;replace oN:=kO oN yN;replace oE:=kO oE yN;replace B:=f_ B yN;(replace ⟨p_,r_,yO,yP,t_,x_,yQ,yR⟩:=R.yk);(replace ⟨AU,AV,AW,AX⟩:=O.b4))
   have hr1:=aF.base (aF.dK oN.out R (by decide) (.bool Ai) (.slice a41 Ag Af) (.bool s43) (.slice a43 BC BA)) (base':=w.heap.size) (by first | exact yM _ | omega);have hr2:=aF.base (aF.dK oE.out R (by decide) (.bool Ai) (.slice a41 Ag Af) (.bool s43) (.slice a43 BC BA)) (base':=w.heap.size) (by first | exact yM _ | omega);exact bodyPost_ret (v:=.tuple #[.agg #[.bool Ai,.slice a41 Ag Af,.bool s43,.slice a43 BC BA],.bool true]) (by simp [results,Tryz.results149,go_sem, *]) rfl (⟨_,_,(by rw [C7.out,Er.out]),hr1,hr2,yK (yK (yK (yK B (by simp <;> omega) _) (by simp <;> omega) _) (by simp <;> omega) _) (by simp <;> omega) _⟩)
  replace hok:Wh.cg (-N) (-E)=false:=by simpa using hok
  rw [hok];replace hok:=yI hok;rw [if_neg (by decide),if_neg (by decide)];go_enter Tryz.func149,Tryz.ntmps149
  go_upto_region 8 with (first
   | (go_at_call 148;(with_reducible refine (PG.out _ _ _ _ _ ox.out oz.out).mono ?_);rintro e w4 ⟨v4,rfl,yh,hb4⟩;have yl:=B.size;replace C:=C.keep hb4;replace Q:=Q.keep hb4;replace R:=R.keep hb4;replace ox:=kO ox hb4;replace oz:=kO oz hb4;replace B:=f_ B hb4;obtain ⟨a4,c4,rfl,yg,yf⟩:=aF.view yh;clear yg yf;have og:=yI (aF.base (show aF _ _ _ _ from yh) yl);clear yh;(generalize (Wh.d_ G.natAbs).length=lg at *);clear yl;have T:=aH.new w4 #[.bool true,.slice a4 lg c4] 136;have b_:=bA w4 (.cells #[.bool true,.slice a4 lg c4] 136);replace C:=C.keep b_;replace Q:=Q.keep b_;replace R:=R.keep b_;replace ox:=kO ox b_;replace oz:=kO oz b_;replace og:=kO og b_;replace B:=f_ B b_;clear b_;(replace ⟨j_,l_⟩:=C.b2);(replace ⟨zM,zO,zP,zQ⟩:=Q.b4);(replace ⟨p_,r_,yO,yP,t_,x_,yQ,yR⟩:=R.yk);(replace ⟨yn,yo⟩:=T.b2))
   | (go_at_call 167;(with_reducible refine (PD.out _ _ _ _ _ ox.out oz.out).mono ?_);rintro e w6 ⟨rfl,hb6⟩;replace C:=C.keep hb6;replace Q:=Q.keep hb6;replace R:=R.keep hb6;replace T:=T.keep hb6;replace ox:=kO ox hb6;replace oz:=kO oz hb6;replace og:=kO og hb6;replace B:=f_ B hb6;(replace ⟨j_,l_⟩:=C.b2);(replace ⟨zM,zO,zP,zQ⟩:=Q.b4);(replace ⟨p_,r_,yO,yP,t_,x_,yQ,yR⟩:=R.yk);(replace ⟨yn,yo⟩:=T.b2))
   | (go_at_call 169;(with_reducible refine (PF.out _ _ _ _ _ ox.out oz.out).mono ?_);rintro e w7 ⟨v7,rfl,Ap,yi⟩;have yl:=B.size;replace C:=C.keep yi;replace Q:=Q.keep yi;replace R:=R.keep yi;replace T:=T.keep yi;replace ox:=kO ox yi;replace oz:=kO oz yi;replace og:=kO og yi;replace B:=f_ B yi;obtain ⟨a7,c7,rfl,yg,yf⟩:=aF.view Ap;clear yg yf;have of:=yI (aF.base (show aF _ _ _ _ from Ap) yl);clear Ap;(generalize (Wh.d_ F.natAbs).length=lf at *);clear yl;(replace ⟨j_,l_⟩:=C.b2);(replace ⟨zM,zO,zP,zQ⟩:=Q.b4);(replace ⟨p_,r_,yO,yP,t_,x_,yQ,yR⟩:=R.yk);(replace ⟨yn,yo⟩:=T.b2))
   | (go_at_call 168;(with_reducible refine (PQ.out _ _ _ of.out).mono ?_);rintro e w8 ⟨v8,rfl,zw,yY⟩;have yl:=B.size;replace C:=C.keep yY;replace Q:=Q.keep yY;replace R:=R.keep yY;replace T:=T.keep yY;replace ox:=kO ox yY;replace oz:=kO oz yY;replace og:=kO og yY;replace of:=kO of yY;replace B:=f_ B yY;obtain ⟨a8,c8,rfl,yg,yf⟩:=aF.view zw;clear yg yf;have on:=yI (aF.base (show aF _ _ _ _ from zw) yl);clear zw;(generalize (Wh.d_ N.natAbs).length=ln at *);clear yl;have Eh:=yI R.lt;have U:=aH.new w8 #[.bool sN,.slice a8 ln c8] 136;have b_:=bA w8 (.cells #[.bool sN,.slice a8 ln c8] 136);replace C:=C.keep b_;replace Q:=Q.keep b_;replace R:=R.keep b_;replace T:=T.keep b_;replace ox:=kO ox b_;replace oz:=kO oz b_;replace og:=kO og b_;replace of:=kO of b_;replace on:=kO on b_;replace B:=f_ B b_;clear b_;(replace ⟨j_,l_⟩:=C.b2);(replace ⟨zM,zO,zP,zQ⟩:=Q.b4);(replace ⟨p_,r_,yO,yP,t_,x_,yQ,yR⟩:=R.yk);(replace ⟨yn,yo⟩:=T.b2);(replace ⟨ya,yc⟩:=U.b2))
   | (go_at_call 168;(with_reducible refine (PR.out _ _ _ og.out).mono ?_);rintro e w9 ⟨v9,rfl,AY,yZ⟩;have yl:=B.size;replace C:=C.keep yZ;replace Q:=Q.keep yZ;replace R:=R.keep yZ;replace T:=T.keep yZ;replace U:=U.keep yZ;replace ox:=kO ox yZ;replace oz:=kO oz yZ;replace og:=kO og yZ;replace of:=kO of yZ;replace on:=kO on yZ;replace B:=f_ B yZ;obtain ⟨a9,c9,rfl,yg,yf⟩:=aF.view AY;clear yg yf;have oe:=yI (aF.base (show aF _ _ _ _ from AY) yl);clear AY;(generalize (Wh.d_ E.natAbs).length=le at *);clear yl;have V:=aH.new w9 #[.bool true,.slice a9 le c9] 136;have b_:=bA w9 (.cells #[.bool true,.slice a9 le c9] 136);replace C:=C.keep b_;replace Q:=Q.keep b_;replace R:=R.keep b_;replace T:=T.keep b_;replace U:=U.keep b_;replace ox:=kO ox b_;replace oz:=kO oz b_;replace og:=kO og b_;replace of:=kO of b_;replace on:=kO on b_;replace oe:=kO oe b_;replace B:=f_ B b_;clear b_;(replace ⟨j_,l_⟩:=C.b2);(replace ⟨zM,zO,zP,zQ⟩:=Q.b4);(replace ⟨p_,r_,yO,yP,t_,x_,yQ,yR⟩:=R.yk);(replace ⟨yn,yo⟩:=T.b2);(replace ⟨ya,yc,zh,zi⟩:=U.zT);(replace ⟨yd,ye,zj,zk⟩:=V.zT)))
  have L4:w8.heap.size<w9.heap.size:=Nat.lt_of_lt_of_le (by rw [yJ];exact Nat.lt_succ_self _) yZ.size;generalize w9.alloc (.cells #[.bool true,.slice a9 le c9] 136)=wd at *;refine Rg.bJ 4 [.is (.agg #[.bool sN,.slice a8 ln c8]),.at (aJ (wd.heap.size) (-N)),.is (.agg #[.bool true,.slice a9 le c9]),.at (aJ (wd.heap.size) (-E))] (by kernel_rfl) (by kernel_rfl) (by kernel_rfl) ⟨?_,?_,?_,?_,fun h_=>absurd h_ (by decide),fun h_=>absurd h_ (by decide),trivial⟩ ?_
  ·intro _ zZ w_ hB hr
   have e8:zZ.tmps[8]?=some (.pointer (some ⟨w8.heap.size,0,none⟩)):=hr 8 (by decide);have k0:=aE hB U.box.c0;have k1:=aE hB U.box.c1;exact Rg.aG rfl (by go_simp)
  ·intro _ zZ w_ hB hr
   have e40:=Rg.a_ (hr 40 (by decide));have ef:=Rg.ef zZ;refine Rg.aZ rfl (by go_simp;exact ⟨rfl,rfl⟩) ?_;refine (PN.out _ _ _ (aF.below on.out hB)).mono ?_;rintro e w5 ⟨y_,rfl,yT,hb5⟩;exact ⟨_,rfl,aJ.at yT (by have:=hB.size;omega),hb5⟩
  ·intro _ zZ w_ hB hr
   have e10:zZ.tmps[10]?=some (.pointer (some ⟨w9.heap.size,0,none⟩)):=hr 10 (by decide);have k0:=aE hB V.box.c0;have k1:=aE hB V.box.c1;exact Rg.aG rfl (by go_simp)
  ·intro _ zZ w_ hB hr
   have e42:=Rg.a_ (hr 42 (by decide));have ef:=Rg.ef zZ;refine Rg.aZ rfl (by go_simp;exact ⟨rfl,rfl⟩) ?_;refine (PE.out _ _ _ (aF.below oe.out hB)).mono ?_;rintro e w5 ⟨y_,rfl,yT,hb5⟩;exact ⟨_,rfl,aJ.at yT (by have:=hB.size;omega),hb5⟩
  intro vals wz hB hv hne;have n41:(Rg.Val.at (aJ (wd.heap.size) (-N))).ok (vals 1) wz:=hv 1 (by decide);have n43:(Rg.Val.at (aJ (wd.heap.size) (-E))).ok (vals 3) wz:=hv 3 (by decide);simp only [Rg.ak,Rg.fill,Act.put,Nat.reduceAdd];clear hv;obtain ⟨Ai,a41,Ag,Af,C7,v_1,GU⟩:=(Rg.ag n41).view;obtain ⟨s43,a43,BC,BA,Er,FK,IY⟩:=(Rg.ag n43).view;simp only [v_1,FK];clear v_1 FK;have U2:=U.keep hB;have V2:=V.keep hB;have R2:=R.keep hB
  have Ef:w8.heap.size≠w9.heap.size:=by omega
  have Fm:=Ef.symm;have V3:aH ((wz.setCell ⟨w8.heap.size,0,none⟩ (.bool Ai)).setCell ⟨w8.heap.size,1,none⟩ (.slice a41 Ag Af)) w9.heap.size 136 #[.bool true,.slice a9 le c9]:=(V2.other Fm _).other Fm _;have V4:=aH.set2 V3 (.bool s43) (.slice a43 BC BA);have U4:aH ((((wz.setCell ⟨w8.heap.size,0,none⟩ (.bool Ai)).setCell ⟨w8.heap.size,1,none⟩ (.slice a41 Ag Af)).setCell ⟨w9.heap.size,0,none⟩ (.bool s43)).setCell ⟨w9.heap.size,1,none⟩ (.slice a43 BC BA)) w8.heap.size 136 #[.bool Ai,.slice a41 Ag Af]:=((aH.set2 U2 (.bool Ai) (.slice a41 Ag Af)).other Ef _).other Ef _;have oN:=yI (aF.bE (aF.bE (aF.base GU B.size) U2 (by decide) (.bool Ai) (.slice a41 Ag Af)) V3 (by decide) (.bool s43) (.slice a43 BC BA));have oE:=yI (aF.bE (aF.bE (aF.base IY B.size) U2 (by decide) (.bool Ai) (.slice a41 Ag Af)) V3 (by decide) (.bool s43) (.slice a43 BC BA));have hw8:w.heap.size+1+1<w8.heap.size:=Eh.out
  have Fw:w.heap.size+1+1≠w9.heap.size:=by omega
  have FB:w.heap.size+1+1≠w8.heap.size:=by omega
  have R4:aH ((((wz.setCell ⟨w8.heap.size,0,none⟩ (.bool Ai)).setCell ⟨w8.heap.size,1,none⟩ (.slice a41 Ag Af)).setCell ⟨w9.heap.size,0,none⟩ (.bool s43)).setCell ⟨w9.heap.size,1,none⟩ (.slice a43 BC BA)) (w.heap.size+1+1) 157 #[.bool false,.slice none 0 0,.bool false,.slice none 0 0]:=(((R2.other FB _).other FB _).other Fw _).other Fw _;have B4:Below w.heap.size w ((((wz.setCell ⟨w8.heap.size,0,none⟩ (.bool Ai)).setCell ⟨w8.heap.size,1,none⟩ (.slice a41 Ag Af)).setCell ⟨w9.heap.size,0,none⟩ (.bool s43)).setCell ⟨w9.heap.size,1,none⟩ (.slice a43 BC BA)):=yK (yK (yK (yK (f_ B hB) (by simp <;> omega) _) (by simp <;> omega) _) (by simp <;> omega) _) (by simp <;> omega) _;have ⟨p0,p1,q0,q1,_⟩:=U2.box;have ⟨p2,p3,q2,q3,_⟩:=V2.box;unfold Rg.aX Rg.aX Rg.aX Oper.wp
  go_simp
  clear p0 p1 q0 q1 p2 p3 q2 q3 U2 V2 V3 R2 GU IY hB U V R C Q T B ox oz og of on oe FB Fw Ef Fm L4 j_ l_ zM zO zP zQ p_ r_ yO yP t_ x_ yQ yR ya yc yd ye zh zi zj zk;generalize ((((wz.setCell ⟨w8.heap.size,0,none⟩ (.bool Ai)).setCell ⟨w8.heap.size,1,none⟩ (.slice a41 Ag Af)).setCell ⟨w9.heap.size,0,none⟩ (.bool s43)).setCell ⟨w9.heap.size,1,none⟩ (.slice a43 BC BA))=wf at *;have EL:=CH.out;rw [←C7.out,←Er.out] at EL;replace EL:=yI EL
  rename aH _ w8.heap.size _ _=>U
  rename aH _ w9.heap.size _ _=>V
  rename aH _ (w.heap.size+1+1) _ _=>R
  rename Below _ _ wf=>B
  have ya:=U.box.c0;have yc:=U.box.c1;have yd:=V.box.c0;have ye:=V.box.c1
  go_wp2_with (go_at_call 170;have O:=aH.new wf #[.bool Ai,.slice a41 Ag Af,.bool s43,.slice a43 BC BA] 157;have b_:=bA wf (.cells #[.bool Ai,.slice a41 Ag Af,.bool s43,.slice a43 BC BA] 157);replace R:=R.keep b_;replace oN:=kO oN b_;replace oE:=kO oE b_;replace B:=f_ B b_;clear b_;(with_reducible refine (EL.out _ _ _ _ _ oN.out oE.out).mono ?_);rintro e EJ ⟨rfl,yN⟩;(simp only [hok.out]);replace R:=R.keep yN;replace O:=O.keep yN;replace oN:=kO oN yN;replace oE:=kO oE yN;replace B:=f_ B yN;(replace ⟨p_,r_,yO,yP,t_,x_,yQ,yR⟩:=R.yk);(replace ⟨AU,AV,AW,AX⟩:=O.b4))
  exact bodyPost_ret (v:=.tuple #[.agg #[.bool false,.slice none 0 0,.bool false,.slice none 0 0],.bool false]) (by simp [results,Tryz.results149,go_sem, *]) rfl (⟨_,_,rfl,fa _ _,fa _ _,yK (yK (yK (yK B (by simp <;> omega) _) (by simp <;> omega) _) (by simp <;> omega) _) (by simp <;> omega) _⟩)
 have hsg:decide (G<0)=false:=decide_eq_false hneg;rw [hsg] at Bk PG;rw [if_neg hneg,if_neg hneg];simp only [hsg,Bk] at PR PE BP;clear CH PN PE;generalize B_:decide (N<0)=sN at *;replace PG:=yI PG;replace PF:=yI PF;replace PD:=yI PD;replace PQ:=yI PQ;replace PR:=yI PR;replace BP:=yI BP;replace B_:=yI B_;replace Bk:=yI Bk;clear hneg hsg hd1 hd2
 by_cases hok:Wh.cg (N) (E)=true
 ·skip
  rw [hok];replace hok:=yI hok;rw [if_pos rfl,if_pos rfl];go_enter Tryz.func149,Tryz.ntmps149
  go_wp2_with (first
   | (go_at_call 148;(with_reducible refine (PG.out _ _ _ _ _ ox.out oz.out).mono ?_);rintro e w4 ⟨v4,rfl,yh,hb4⟩;have yl:=B.size;replace C:=C.keep hb4;replace Q:=Q.keep hb4;replace R:=R.keep hb4;replace ox:=kO ox hb4;replace oz:=kO oz hb4;replace B:=f_ B hb4;obtain ⟨a4,c4,rfl,yg,yf⟩:=aF.view yh;clear yg yf;have og:=yI (aF.base (show aF _ _ _ _ from yh) yl);clear yh;(generalize (Wh.d_ G.natAbs).length=lg at *);clear yl;have T:=aH.new w4 #[.bool false,.slice a4 lg c4] 136;have b_:=bA w4 (.cells #[.bool false,.slice a4 lg c4] 136);replace C:=C.keep b_;replace Q:=Q.keep b_;replace R:=R.keep b_;replace ox:=kO ox b_;replace oz:=kO oz b_;replace og:=kO og b_;replace B:=f_ B b_;clear b_;(replace ⟨j_,l_⟩:=C.b2);(replace ⟨zM,zO,zP,zQ⟩:=Q.b4);(replace ⟨p_,r_,yO,yP,t_,x_,yQ,yR⟩:=R.yk);(replace ⟨yn,yo⟩:=T.b2))
   | (go_at_call 167;(with_reducible refine (PD.out _ _ _ _ _ ox.out oz.out).mono ?_);rintro e w6 ⟨rfl,hb6⟩;replace C:=C.keep hb6;replace Q:=Q.keep hb6;replace R:=R.keep hb6;replace T:=T.keep hb6;replace ox:=kO ox hb6;replace oz:=kO oz hb6;replace og:=kO og hb6;replace B:=f_ B hb6;(replace ⟨j_,l_⟩:=C.b2);(replace ⟨zM,zO,zP,zQ⟩:=Q.b4);(replace ⟨p_,r_,yO,yP,t_,x_,yQ,yR⟩:=R.yk);(replace ⟨yn,yo⟩:=T.b2))
   | (go_at_call 169;(with_reducible refine (PF.out _ _ _ _ _ ox.out oz.out).mono ?_);rintro e w7 ⟨v7,rfl,Ap,yi⟩;have yl:=B.size;replace C:=C.keep yi;replace Q:=Q.keep yi;replace R:=R.keep yi;replace T:=T.keep yi;replace ox:=kO ox yi;replace oz:=kO oz yi;replace og:=kO og yi;replace B:=f_ B yi;obtain ⟨a7,c7,rfl,yg,yf⟩:=aF.view Ap;clear yg yf;have of:=yI (aF.base (show aF _ _ _ _ from Ap) yl);clear Ap;(generalize (Wh.d_ F.natAbs).length=lf at *);clear yl;(replace ⟨j_,l_⟩:=C.b2);(replace ⟨zM,zO,zP,zQ⟩:=Q.b4);(replace ⟨p_,r_,yO,yP,t_,x_,yQ,yR⟩:=R.yk);(replace ⟨yn,yo⟩:=T.b2))
   | (go_at_call 168;(with_reducible refine (PQ.out _ _ _ of.out).mono ?_);rintro e w8 ⟨v8,rfl,zw,yY⟩;have yl:=B.size;replace C:=C.keep yY;replace Q:=Q.keep yY;replace R:=R.keep yY;replace T:=T.keep yY;replace ox:=kO ox yY;replace oz:=kO oz yY;replace og:=kO og yY;replace of:=kO of yY;replace B:=f_ B yY;obtain ⟨a8,c8,rfl,yg,yf⟩:=aF.view zw;clear yg yf;have on:=yI (aF.base (show aF _ _ _ _ from zw) yl);clear zw;(generalize (Wh.d_ N.natAbs).length=ln at *);clear yl;have Eh:=yI R.lt;have U:=aH.new w8 #[.bool sN,.slice a8 ln c8] 136;have b_:=bA w8 (.cells #[.bool sN,.slice a8 ln c8] 136);replace C:=C.keep b_;replace Q:=Q.keep b_;replace R:=R.keep b_;replace T:=T.keep b_;replace ox:=kO ox b_;replace oz:=kO oz b_;replace og:=kO og b_;replace of:=kO of b_;replace on:=kO on b_;replace B:=f_ B b_;clear b_;(replace ⟨j_,l_⟩:=C.b2);(replace ⟨zM,zO,zP,zQ⟩:=Q.b4);(replace ⟨p_,r_,yO,yP,t_,x_,yQ,yR⟩:=R.yk);(replace ⟨yn,yo⟩:=T.b2);(replace ⟨ya,yc⟩:=U.b2))
   | (go_at_call 168;(with_reducible refine (PR.out _ _ _ og.out).mono ?_);rintro e w9 ⟨v9,rfl,AY,yZ⟩;have yl:=B.size;replace C:=C.keep yZ;replace Q:=Q.keep yZ;replace R:=R.keep yZ;replace T:=T.keep yZ;replace U:=U.keep yZ;replace ox:=kO ox yZ;replace oz:=kO oz yZ;replace og:=kO og yZ;replace of:=kO of yZ;replace on:=kO on yZ;replace B:=f_ B yZ;obtain ⟨a9,c9,rfl,yg,yf⟩:=aF.view AY;clear yg yf;have oe:=yI (aF.base (show aF _ _ _ _ from AY) yl);clear AY;(generalize (Wh.d_ E.natAbs).length=le at *);clear yl;have V:=aH.new w9 #[.bool false,.slice a9 le c9] 136;have b_:=bA w9 (.cells #[.bool false,.slice a9 le c9] 136);replace C:=C.keep b_;replace Q:=Q.keep b_;replace R:=R.keep b_;replace T:=T.keep b_;replace U:=U.keep b_;replace ox:=kO ox b_;replace oz:=kO oz b_;replace og:=kO og b_;replace of:=kO of b_;replace on:=kO on b_;replace oe:=kO oe b_;replace B:=f_ B b_;clear b_;(replace ⟨j_,l_⟩:=C.b2);(replace ⟨zM,zO,zP,zQ⟩:=Q.b4);(replace ⟨p_,r_,yO,yP,t_,x_,yQ,yR⟩:=R.yk);(replace ⟨yn,yo⟩:=T.b2);(replace ⟨ya,yc,zh,zi⟩:=U.zT);(replace ⟨yd,ye,zj,zk⟩:=V.zT);have O:=aH.new (w9.alloc (.cells #[.bool false,.slice a9 le c9] 136)) #[.bool sN,.slice a8 ln c8,.bool false,.slice a9 le c9] 157;have b_:=bA (w9.alloc (.cells #[.bool false,.slice a9 le c9] 136)) (.cells #[.bool sN,.slice a8 ln c8,.bool false,.slice a9 le c9] 157);replace C:=C.keep b_;replace Q:=Q.keep b_;replace R:=R.keep b_;replace T:=T.keep b_;replace U:=U.keep b_;replace V:=V.keep b_;replace ox:=kO ox b_;replace oz:=kO oz b_;replace og:=kO og b_;replace of:=kO of b_;replace on:=kO on b_;replace oe:=kO oe b_;replace B:=f_ B b_;clear b_;(rw [yJ] at O))
   | (go_at_call 170;(with_reducible refine (BP.out _ _ _ _ _ on.out oe.out).mono ?_);rintro e EJ ⟨rfl,yN⟩;(simp only [hok.out]);replace C:=C.keep yN;replace Q:=Q.keep yN;replace R:=R.keep yN;replace T:=T.keep yN;replace U:=U.keep yN;replace V:=V.keep yN;replace O:=O.keep yN;replace ox:=kO ox yN;replace oz:=kO oz yN;replace og:=kO og yN;replace of:=kO of yN;replace on:=kO on yN;replace oe:=kO oe yN;replace B:=f_ B yN;(replace ⟨j_,l_⟩:=C.b2);(replace ⟨zM,zO,zP,zQ⟩:=Q.b4);(replace ⟨p_,r_,yO,yP,t_,x_,yQ,yR⟩:=R.yk);(replace ⟨yn,yo⟩:=T.b2);(replace ⟨ya,yc⟩:=U.b2);(replace ⟨yd,ye⟩:=V.b2);(replace ⟨AU,AV,AW,AX⟩:=O.b4)))
  have hr1:=aF.base (aF.dK on.out R (by decide) (.bool sN) (.slice a8 ln c8) (.bool false) (.slice a9 le c9)) (base':=w.heap.size) (by first | exact yM _ | omega);have hr2:=aF.base (aF.dK oe.out R (by decide) (.bool sN) (.slice a8 ln c8) (.bool false) (.slice a9 le c9)) (base':=w.heap.size) (by first | exact yM _ | omega);exact bodyPost_ret (v:=.tuple #[.agg #[.bool sN,.slice a8 ln c8,.bool false,.slice a9 le c9],.bool true]) (by simp [results,Tryz.results149,go_sem, *]) rfl (⟨_,_,(by rw [B_.out,Bk.out]),hr1,hr2,yK (yK (yK (yK B (by simp <;> omega) _) (by simp <;> omega) _) (by simp <;> omega) _) (by simp <;> omega) _⟩)
 replace hok:Wh.cg (N) (E)=false:=by simpa using hok
 rw [hok];replace hok:=yI hok;rw [if_neg (by decide),if_neg (by decide)];go_enter Tryz.func149,Tryz.ntmps149
 go_wp2_with (first
  | (go_at_call 148;(with_reducible refine (PG.out _ _ _ _ _ ox.out oz.out).mono ?_);rintro e w4 ⟨v4,rfl,yh,hb4⟩;have yl:=B.size;replace C:=C.keep hb4;replace Q:=Q.keep hb4;replace R:=R.keep hb4;replace ox:=kO ox hb4;replace oz:=kO oz hb4;replace B:=f_ B hb4;obtain ⟨a4,c4,rfl,yg,yf⟩:=aF.view yh;clear yg yf;have og:=yI (aF.base (show aF _ _ _ _ from yh) yl);clear yh;(generalize (Wh.d_ G.natAbs).length=lg at *);clear yl;have T:=aH.new w4 #[.bool false,.slice a4 lg c4] 136;have b_:=bA w4 (.cells #[.bool false,.slice a4 lg c4] 136);replace C:=C.keep b_;replace Q:=Q.keep b_;replace R:=R.keep b_;replace ox:=kO ox b_;replace oz:=kO oz b_;replace og:=kO og b_;replace B:=f_ B b_;clear b_;(replace ⟨j_,l_⟩:=C.b2);(replace ⟨zM,zO,zP,zQ⟩:=Q.b4);(replace ⟨p_,r_,yO,yP,t_,x_,yQ,yR⟩:=R.yk);(replace ⟨yn,yo⟩:=T.b2))
  | (go_at_call 167;(with_reducible refine (PD.out _ _ _ _ _ ox.out oz.out).mono ?_);rintro e w6 ⟨rfl,hb6⟩;replace C:=C.keep hb6;replace Q:=Q.keep hb6;replace R:=R.keep hb6;replace T:=T.keep hb6;replace ox:=kO ox hb6;replace oz:=kO oz hb6;replace og:=kO og hb6;replace B:=f_ B hb6;(replace ⟨j_,l_⟩:=C.b2);(replace ⟨zM,zO,zP,zQ⟩:=Q.b4);(replace ⟨p_,r_,yO,yP,t_,x_,yQ,yR⟩:=R.yk);(replace ⟨yn,yo⟩:=T.b2))
  | (go_at_call 169;(with_reducible refine (PF.out _ _ _ _ _ ox.out oz.out).mono ?_);rintro e w7 ⟨v7,rfl,Ap,yi⟩;have yl:=B.size;replace C:=C.keep yi;replace Q:=Q.keep yi;replace R:=R.keep yi;replace T:=T.keep yi;replace ox:=kO ox yi;replace oz:=kO oz yi;replace og:=kO og yi;replace B:=f_ B yi;obtain ⟨a7,c7,rfl,yg,yf⟩:=aF.view Ap;clear yg yf;have of:=yI (aF.base (show aF _ _ _ _ from Ap) yl);clear Ap;(generalize (Wh.d_ F.natAbs).length=lf at *);clear yl;(replace ⟨j_,l_⟩:=C.b2);(replace ⟨zM,zO,zP,zQ⟩:=Q.b4);(replace ⟨p_,r_,yO,yP,t_,x_,yQ,yR⟩:=R.yk);(replace ⟨yn,yo⟩:=T.b2))
  | (go_at_call 168;(with_reducible refine (PQ.out _ _ _ of.out).mono ?_);rintro e w8 ⟨v8,rfl,zw,yY⟩;have yl:=B.size;replace C:=C.keep yY;replace Q:=Q.keep yY;replace R:=R.keep yY;replace T:=T.keep yY;replace ox:=kO ox yY;replace oz:=kO oz yY;replace og:=kO og yY;replace of:=kO of yY;replace B:=f_ B yY;obtain ⟨a8,c8,rfl,yg,yf⟩:=aF.view zw;clear yg yf;have on:=yI (aF.base (show aF _ _ _ _ from zw) yl);clear zw;(generalize (Wh.d_ N.natAbs).length=ln at *);clear yl;have Eh:=yI R.lt;have U:=aH.new w8 #[.bool sN,.slice a8 ln c8] 136;have b_:=bA w8 (.cells #[.bool sN,.slice a8 ln c8] 136);replace C:=C.keep b_;replace Q:=Q.keep b_;replace R:=R.keep b_;replace T:=T.keep b_;replace ox:=kO ox b_;replace oz:=kO oz b_;replace og:=kO og b_;replace of:=kO of b_;replace on:=kO on b_;replace B:=f_ B b_;clear b_;(replace ⟨j_,l_⟩:=C.b2);(replace ⟨zM,zO,zP,zQ⟩:=Q.b4);(replace ⟨p_,r_,yO,yP,t_,x_,yQ,yR⟩:=R.yk);(replace ⟨yn,yo⟩:=T.b2);(replace ⟨ya,yc⟩:=U.b2))
  | (go_at_call 168;(with_reducible refine (PR.out _ _ _ og.out).mono ?_);rintro e w9 ⟨v9,rfl,AY,yZ⟩;have yl:=B.size;replace C:=C.keep yZ;replace Q:=Q.keep yZ;replace R:=R.keep yZ;replace T:=T.keep yZ;replace U:=U.keep yZ;replace ox:=kO ox yZ;replace oz:=kO oz yZ;replace og:=kO og yZ;replace of:=kO of yZ;replace on:=kO on yZ;replace B:=f_ B yZ;obtain ⟨a9,c9,rfl,yg,yf⟩:=aF.view AY;clear yg yf;have oe:=yI (aF.base (show aF _ _ _ _ from AY) yl);clear AY;(generalize (Wh.d_ E.natAbs).length=le at *);clear yl;have V:=aH.new w9 #[.bool false,.slice a9 le c9] 136;have b_:=bA w9 (.cells #[.bool false,.slice a9 le c9] 136);replace C:=C.keep b_;replace Q:=Q.keep b_;replace R:=R.keep b_;replace T:=T.keep b_;replace U:=U.keep b_;replace ox:=kO ox b_;replace oz:=kO oz b_;replace og:=kO og b_;replace of:=kO of b_;replace on:=kO on b_;replace oe:=kO oe b_;replace B:=f_ B b_;clear b_;(replace ⟨j_,l_⟩:=C.b2);(replace ⟨zM,zO,zP,zQ⟩:=Q.b4);(replace ⟨p_,r_,yO,yP,t_,x_,yQ,yR⟩:=R.yk);(replace ⟨yn,yo⟩:=T.b2);(replace ⟨ya,yc,zh,zi⟩:=U.zT);(replace ⟨yd,ye,zj,zk⟩:=V.zT);have O:=aH.new (w9.alloc (.cells #[.bool false,.slice a9 le c9] 136)) #[.bool sN,.slice a8 ln c8,.bool false,.slice a9 le c9] 157;have b_:=bA (w9.alloc (.cells #[.bool false,.slice a9 le c9] 136)) (.cells #[.bool sN,.slice a8 ln c8,.bool false,.slice a9 le c9] 157);replace C:=C.keep b_;replace Q:=Q.keep b_;replace R:=R.keep b_;replace T:=T.keep b_;replace U:=U.keep b_;replace V:=V.keep b_;replace ox:=kO ox b_;replace oz:=kO oz b_;replace og:=kO og b_;replace of:=kO of b_;replace on:=kO on b_;replace oe:=kO oe b_;replace B:=f_ B b_;clear b_;(rw [yJ] at O))
  | (go_at_call 170;(with_reducible refine (BP.out _ _ _ _ _ on.out oe.out).mono ?_);rintro e EJ ⟨rfl,yN⟩;(simp only [hok.out]);replace C:=C.keep yN;replace Q:=Q.keep yN;replace R:=R.keep yN;replace T:=T.keep yN;replace U:=U.keep yN;replace V:=V.keep yN;replace O:=O.keep yN;replace ox:=kO ox yN;replace oz:=kO oz yN;replace og:=kO og yN;replace of:=kO of yN;replace on:=kO on yN;replace oe:=kO oe yN;replace B:=f_ B yN;(replace ⟨j_,l_⟩:=C.b2);(replace ⟨zM,zO,zP,zQ⟩:=Q.b4);(replace ⟨p_,r_,yO,yP,t_,x_,yQ,yR⟩:=R.yk);(replace ⟨yn,yo⟩:=T.b2);(replace ⟨ya,yc⟩:=U.b2);(replace ⟨yd,ye⟩:=V.b2);(replace ⟨AU,AV,AW,AX⟩:=O.b4)))
 exact bodyPost_ret (v:=.tuple #[.agg #[.bool false,.slice none 0 0,.bool false,.slice none 0 0],.bool false]) (by simp [results,Tryz.results149,go_sem, *]) rfl (⟨_,_,rfl,fa _ _,fa _ _,yK (yK (yK (yK B (by simp <;> omega) _) (by simp <;> omega) _) (by simp <;> omega) _) (by simp <;> omega) _⟩)
end
end Go.Proofs.YtgfkcoablfjbcaaGreat
