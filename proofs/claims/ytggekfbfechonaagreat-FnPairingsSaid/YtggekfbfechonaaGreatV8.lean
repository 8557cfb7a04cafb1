/-
  Joined texts: contracts and plain lemmas.
-/
import Derived.Test.YtggekfbfechonaaGreatV1
import Derived.Test.YtggekfbfechonaaGreatV7
set_option linter.unusedSimpArgs false
set_option linter.unusedVariables false
set_option maxRecDepth 100000
set_option maxHeartbeats 8000000
namespace Go.Proofs.YtggekfbfechonaaGreat
section
open Go.RowKit
theorem aH.bI {W:World} {g k:Nat} {T:TypeId} {xs:Array Value} (h:aH W g T xs) (hk:g≠k) (x y:Value):aH ((W.setCell ⟨k,0,none⟩ x).setCell ⟨k,1,none⟩ y) g T xs:=(h.other hk x).other hk y
theorem dI {B:Nat} {w W:World} {k:Nat} (h:Below B w W) (hk:B≤k) (x y:Value):Below B w ((W.setCell ⟨k,0,none⟩ x).setCell ⟨k,1,none⟩ y):=(h.setCell hk x).setCell hk y
theorem aF.len {W:World} {base l c:Nat} {a:Option Addr} {xs:List Int} (h:aF W base (.slice a l c) xs):l=xs.length:=by
 obtain ⟨a',c',e,-,-⟩:=aF.view h;injection e
namespace Wh
theorem wM (D F G:Int):((BF D F G:Nat):Int) ∣ F:=Int.ofNat_dvd_left.2 (Nat.dvd_trans (Nat.gcd_dvd_left _ _) (Nat.gcd_dvd_right _ _))
theorem wN (D F G:Int):((BF D F G:Nat):Int) ∣ G:=Int.ofNat_dvd_left.2 (Nat.gcd_dvd_right _ _)
end Wh
theorem oO (a b x z:Int) (vx vz:Value) (w:World) (bx bz:Nat) (hg:M.good a b=true) (hox:aj w bx vx x) (yW:aj w bz vz z) (hx:Wh.sz x 1000) (hz:Wh.sz z 1000) :
  Calls Tryz.prog 158 #[.agg #[.int .i64 a,.int .i64 b],.agg #[.bool (decide (x<0)),vx,.bool (decide (z<0)),vz]] w fun e w'=>∃ v1 v2,e=.returned (.tuple #[.agg #[.bool (decide (Wh.BN (M.af a b) (Wh.bE a b x z) (Wh.aw a b x z)<0)),v1,.bool (decide (Wh.BO (M.af a b) (Wh.bE a b x z) (Wh.aw a b x z)<0)),v2],.bool (Wh.dl (M.af a b) (Wh.bE a b x z) (Wh.aw a b x z))])∧aj w' w.heap.size v1 (Wh.BN (M.af a b) (Wh.bE a b x z) (Wh.aw a b x z))∧aj w' w.heap.size v2 (Wh.BO (M.af a b) (Wh.bE a b x z) (Wh.aw a b x z))∧Below w.heap.size w w':=by
 obtain ⟨ax,cx,rfl,-,-⟩:=aF.view hox;obtain ⟨az,cz,rfl,-,-⟩:=aF.view yW;have hin:=M.am hg;obtain ⟨ha1,ha2,hb1,hb2⟩:=M.an hin;have hdn:=ew hg;have hdb:=eD hin
 have PF:=fun v v' W k k' (h1:aF W k v (Wh.a_ x.natAbs)) (h2:aF W k' v' (Wh.a_ z.natAbs))=>uP a b x z v v' W k k' h1 h2 hx hz ha1 ha2 hb1 hb2
 have PG:=fun v v' W k k' (h1:aF W k v (Wh.a_ x.natAbs)) (h2:aF W k' v' (Wh.a_ z.natAbs))=>jt a b x z v v' W k k' h1 h2 hx hz ha1 ha2 hb1 hb2
 have zF:=Wh.lj hx hz ha1 ha2 hb1 hb2;have zG:=Wh.lZ hx hz ha1 ha2 hb1 hb2;have hdv:=Wh.rX (Wh.bE a b x z) (Wh.aw a b x z) hdn;have hdF:=Wh.wM (M.af a b) (Wh.bE a b x z) (Wh.aw a b x z);have Ms:=Wh.wN (M.af a b) (Wh.bE a b x z) (Wh.aw a b x z);generalize Wh.aw a b x z=G,Wh.bE a b x z=F at *;have sF:=Wh.aY.2 (Wh.aQ zF (show 5000≤9000 by omega));have sG:=Wh.aY.2 (Wh.aQ zG (show 6000≤9000 by omega));have zF':=Wh.iU zF;have zG':=Wh.iU zG;have OM:=Wh.aY.2 (Wh.aQ zF' (show 5000≤9000 by omega));have ON:=Wh.aY.2 (Wh.aQ zG' (show 6000≤9000 by omega))
 have PM:=fun v W k (h:aF W k v (Wh.a_ F.natAbs))=>iH F v W k h (by omega)
 have PN:=fun v W k (h:aF W k v (Wh.a_ G.natAbs))=>iH G v W k h (by omega)
 have BI:=fun v v' W k k' (h1:aF W k v (Wh.a_ F.natAbs)) (h2:aF W k' v' (Wh.a_ G.natAbs))=>ij a b F G v v' W k k' hg h1 h2 sF sG
 have DF:=fun v v' W k k' (h1:aF W k v (Wh.a_ (-F).natAbs)) (h2:aF W k' v' (Wh.a_ (-G).natAbs))=>ij a b (-F) (-G) v v' W k k' hg h1 h2 OM ON
 simp only [Wh.tZ] at BI DF;rw [Wh.tY] at DF;generalize M.af a b=D at *;clear hin hg ha1 ha2 hb1 hb2 hdn hx hz
 obtain ⟨d,hd⟩:∃ d,Hid (Wh.BF D F G=d):=⟨_,xL rfl⟩
 rw [hd.out] at hdv BI DF hdF Ms;have hd1:1≤d:=hdv.1
 have hd2:d≤1000000000000:=by omega
 clear hdv hdb;have zN:=Wh.lc zF d;have zE:=Wh.lc zG d;have zN':=Wh.iU zN;have zE':=Wh.iU zE;have sN:=Wh.aY.2 (Wh.aQ zN (show 5000+1≤9000 by omega));have sE:=Wh.aY.2 (Wh.aQ zE (show 6000+1≤9000 by omega));have sN':=Wh.aY.2 (Wh.aQ zN' (show 5000+1≤9000 by omega));have sE':=Wh.aY.2 (Wh.aQ zE' (show 6000+1≤9000 by omega))
 have Db:=fun v W k (h:aF W k v (Wh.a_ F.natAbs))=>eC F (d:Int) v W k h sF (by omega) (by omega)
 have DV:=fun v W k (h:aF W k v (Wh.a_ G.natAbs))=>eC G (d:Int) v W k h sG (by omega) (by omega)
 have Dc:=fun v W k (h:aF W k v (Wh.a_ (-F).natAbs))=>eC (-F) (d:Int) v W k h OM (by omega) (by omega)
 have Dd:=fun v W k (h:aF W k v (Wh.a_ (-G).natAbs))=>eC (-G) (d:Int) v W k h ON (by omega) (by omega)
 rw [Int.neg_ediv_of_dvd hdF] at Dc;rw [Int.neg_ediv_of_dvd Ms] at Dd
 have BR:=fun v v' W k k' (h:aF W k v (Wh.a_ (F / (d:Int)).natAbs)) (h':aF W k' v' (Wh.a_ (G / (d:Int)).natAbs))=>nV (F / (d:Int)) (G / (d:Int)) v v' W k k' h h' (by omega) (by omega)
 have CC:=fun v v' W k k' (h:aF W k v (Wh.a_ (-(F / (d:Int))).natAbs)) (h':aF W k' v' (Wh.a_ (-(G / (d:Int))).natAbs))=>nV (-(F / (d:Int))) (-(G / (d:Int))) v v' W k k' h h' (by omega) (by omega)
 clear hdF Ms sF sG OM ON zF zG zF' zG' zN zE zN' zE' sN sE sN' sE'
 have FX:G≠0→Wh.dl D F G=Wh.cZ (if G<0 then -(F / (d:Int)) else F / (d:Int)) (if G<0 then -(G / (d:Int)) else G / (d:Int)):=fun hne=>by unfold Wh.dl Wh.C8 Wh.C7;rw [hd.out,decide_eq_true hne];rfl
 have eX:Wh.BN D F G=if Wh.dl D F G=true then (if G<0 then -(F / (d:Int)) else F / (d:Int)) else 0:=by unfold Wh.BN Wh.C8;rw [hd.out]
 have eZ:Wh.BO D F G=if Wh.dl D F G=true then (if G<0 then -(G / (d:Int)) else G / (d:Int)) else 0:=by unfold Wh.BO Wh.C7;rw [hd.out]
 have Bu:=Wh.oo (z:=G) hd1;generalize hs1:decide (x<0)=s1 at *;generalize hs2:decide (z<0)=s2 at *;clear hs1 hs2;replace hox:=xL (show aF _ _ _ _ from hox);replace yW:=xL (show aF _ _ _ _ from yW);generalize (Wh.a_ z.natAbs).length=lz,(Wh.a_ x.natAbs).length=lx at *;have C:=((aH.new w #[.int .i64 a,.int .i64 b] 25).alloc (.cells #[.bool s1,.slice ax lx cx,.bool s2,.slice az lz cz] 127)).alloc (.cells #[.bool false,.slice none 0 0,.bool false,.slice none 0 0] 127);have Q:=(aH.new (w.alloc (.cells #[.int .i64 a,.int .i64 b] 25)) #[.bool s1,.slice ax lx cx,.bool s2,.slice az lz cz] 127).alloc (.cells #[.bool false,.slice none 0 0,.bool false,.slice none 0 0] 127);rw [xM] at Q;have R:=aH.new ((w.alloc (.cells #[.int .i64 a,.int .i64 b] 25)).alloc (.cells #[.bool s1,.slice ax lx cx,.bool s2,.slice az lz cz] 127)) #[.bool false,.slice none 0 0,.bool false,.slice none 0 0] 127;rw [cm] at R;have B:=(((xO w.heap.size w).alloc (xP _) (.cells #[.int .i64 a,.int .i64 b] 25)).alloc (by rw [xM];omega) (.cells #[.bool s1,.slice ax lx cx,.bool s2,.slice az lz cz] 127)).alloc (by rw [cm];omega) (.cells #[.bool false,.slice none 0 0,.bool false,.slice none 0 0] 127);have ox:=xL (aF.alloc (aF.alloc (aF.alloc hox.out (.cells #[.int .i64 a,.int .i64 b] 25)) (.cells #[.bool s1,.slice ax lx cx,.bool s2,.slice az lz cz] 127)) (.cells #[.bool false,.slice none 0 0,.bool false,.slice none 0 0] 127));have oz:=xL (aF.alloc (aF.alloc (aF.alloc yW.out (.cells #[.int .i64 a,.int .i64 b] 25)) (.cells #[.bool s1,.slice ax lx cx,.bool s2,.slice az lz cz] 127)) (.cells #[.bool false,.slice none 0 0,.bool false,.slice none 0 0] 127))
 have DM:w.heap.size+3≤(((w.alloc (.cells #[.int .i64 a,.int .i64 b] 25)).alloc (.cells #[.bool s1,.slice ax lx cx,.bool s2,.slice az lz cz] 127)).alloc (.cells #[.bool false,.slice none 0 0,.bool false,.slice none 0 0] 127)).heap.size:=by rw [xM,cm];omega
 clear hox yW;generalize hw3:((w.alloc (.cells #[.int .i64 a,.int .i64 b] 25)).alloc (.cells #[.bool s1,.slice ax lx cx,.bool s2,.slice az lz cz] 127)).alloc (.cells #[.bool false,.slice none 0 0,.bool false,.slice none 0 0] 127)=wc at *;replace PF:=xL PF;replace PG:=xL PG;replace PM:=xL PM;replace PN:=xL PN;replace BI:=xL BI;replace DF:=xL DF;replace Db:=xL Db;replace Dc:=xL Dc;replace DV:=xL DV;replace Dd:=xL Dd;replace BR:=xL BR;replace CC:=xL CC;replace FX:=xL FX;replace eX:=xL eX;replace eZ:=xL eZ;replace Bu:=xL Bu;clear hd1 hd2;go_enter Tryz.func158,Tryz.ntmps158
 go_wp2
 go_upto_region 1 with fail
 refine Rg.bS 8 [.is (.agg #[.int .i64 a,.int .i64 b]),.is (.agg #[.bool s1,.slice ax lx cx,.bool s2,.slice az lz cz]),.at (aJ (wc.heap.size) (F)),.is (.agg #[.int .i64 a,.int .i64 b]),.is (.agg #[.bool s1,.slice ax lx cx,.bool s2,.slice az lz cz]),.at (aJ (wc.heap.size) (G)),.new (wc.heap.size) 125 #[.bool false,.slice none 0 0],.new (wc.heap.size) 125 #[.bool false,.slice none 0 0]] (by kernel_rfl) (by kernel_rfl) (by kernel_rfl) ⟨?_,?_,?_,?_,?_,?_,?_,?_,fun h_=>absurd h_ (by decide),fun h_=>absurd h_ (by decide),trivial⟩ ?_
 ·intro _ zZ w_ hB hr
  have e2:zZ.tmps[2]?=some (.pointer (some ⟨w.heap.size,0,none⟩)):=hr 2 (by decide);have k0:=aE hB C.box.c0;have k1:=aE hB C.box.c1;exact Rg.aG rfl (by go_simp)
 ·intro _ zZ w_ hB hr
  have e3:zZ.tmps[3]?=some (.pointer (some ⟨w.heap.size+1,0,none⟩)):=hr 3 (by decide);have k0:=aE hB Q.aN.c0;have k1:=aE hB Q.aN.c1;have k2:=aE hB Q.aN.c2;have k3:=aE hB Q.aN.c3;exact Rg.aG rfl (by go_simp)
 ·intro _ zZ w_ hB hr
  have e14:=Rg.c_ (hr 14 (by decide));have e15:=Rg.c_ (hr 15 (by decide));have ef:=Rg.ef zZ;refine Rg.ae rfl (by go_simp;exact ⟨rfl,rfl⟩) ?_;refine (PF.out _ _ _ _ _ (aF.below ox.out hB) (aF.below oz.out hB)).mono ?_;rintro e w5 ⟨yQ,rfl,xg,hb5⟩;exact ⟨_,rfl,aJ.at xg (by have:=hB.size;omega),hb5⟩
 ·intro _ zZ w_ hB hr
  have e2:zZ.tmps[2]?=some (.pointer (some ⟨w.heap.size,0,none⟩)):=hr 2 (by decide);have k0:=aE hB C.box.c0;have k1:=aE hB C.box.c1;exact Rg.aG rfl (by go_simp)
 ·intro _ zZ w_ hB hr
  have e3:zZ.tmps[3]?=some (.pointer (some ⟨w.heap.size+1,0,none⟩)):=hr 3 (by decide);have k0:=aE hB Q.aN.c0;have k1:=aE hB Q.aN.c1;have k2:=aE hB Q.aN.c2;have k3:=aE hB Q.aN.c3;exact Rg.aG rfl (by go_simp)
 ·intro _ zZ w_ hB hr
  have e17:=Rg.c_ (hr 17 (by decide));have e18:=Rg.c_ (hr 18 (by decide));have ef:=Rg.ef zZ;refine Rg.ae rfl (by go_simp;exact ⟨rfl,rfl⟩) ?_;refine (PG.out _ _ _ _ _ (aF.below ox.out hB) (aF.below oz.out hB)).mono ?_;rintro e w5 ⟨yQ,rfl,xg,hb5⟩;exact ⟨_,rfl,aJ.at xg (by have:=hB.size;omega),hb5⟩
 ·intro _ zZ w_ hB hr
  exact ⟨by have:=hB.size;omega,rfl,by first | (go_simp;done) | (go_simp;rfl)⟩
 ·intro _ zZ w_ hB hr
  exact ⟨by have:=hB.size;omega,rfl,by first | (go_simp;done) | (go_simp;rfl)⟩
 intro vals wz hB hv hne;have n6:(Rg.Val.new (wc.heap.size) 125 #[.bool false,.slice none 0 0]).ok (vals 6) wz:=hv 6 (by decide);have n7:(Rg.Val.new (wc.heap.size) 125 #[.bool false,.slice none 0 0]).ok (vals 7) wz:=hv 7 (by decide);have n16:(Rg.Val.at (aJ (wc.heap.size) (F))).ok (vals 2) wz:=hv 2 (by decide);have n19:(Rg.Val.at (aJ (wc.heap.size) (G))).ok (vals 5) wz:=hv 5 (by decide);simp only [Rg.ay,Rg.fill,Act.put,Nat.reduceAdd];clear hv;have Gt:=hne 6 7 (by decide) (by decide) (by decide) rfl rfl;obtain ⟨g6,GO,DZ,o6⟩:=n6;replace o6:aH wz g6 125 #[.bool false,.slice none 0 0]:=o6;obtain ⟨g7,Fa,Af,o7⟩:=n7;replace o7:aH wz g7 125 #[.bool false,.slice none 0 0]:=o7;obtain ⟨s16,a16,Cc,c16,BK,JM,o16⟩:=(Rg.ah n16).view;obtain ⟨DP,Dg,DB,c19,BL,DY,Hi⟩:=(Rg.ah n19).view;rw [DZ,Af] at Gt
 have Dk:g6≠g7:=fun e=>Gt (by rw [e])
 simp only [DZ,Af,JM,DY];clear DZ Af JM DY;have Ep:=Dk.symm
 have Mv:w.heap.size+3≤g6:=by omega
 have Mw:w.heap.size+3≤g7:=by omega
 have GT:w.heap.size≤g6:=by omega
 have Im:w.heap.size≤g7:=by omega
 have hc6:w.heap.size≠g6:=by omega
 have Jh:w.heap.size≠g7:=by omega
 have Jm:w.heap.size+1+1≠g6:=by omega
 have Jn:w.heap.size+1+1≠g7:=by omega
 have V3:aH ((wz.setCell ⟨g6,0,none⟩ (.bool s16)).setCell ⟨g6,1,none⟩ (.slice a16 Cc c16)) g7 125 #[.bool false,.slice none 0 0]:=(o7.other Ep _).other Ep _;have V:=aH.set2 V3 (.bool DP) (.slice Dg DB c19);have U:aH ((((wz.setCell ⟨g6,0,none⟩ (.bool s16)).setCell ⟨g6,1,none⟩ (.slice a16 Cc c16)).setCell ⟨g7,0,none⟩ (.bool DP)).setCell ⟨g7,1,none⟩ (.slice Dg DB c19)) g6 125 #[.bool s16,.slice a16 Cc c16]:=((aH.set2 o6 (.bool s16) (.slice a16 Cc c16)).other Dk _).other Dk _;have oF:=xL (aF.base (aF.bO (aF.bO o16 o6 (by decide) (.bool s16) (.slice a16 Cc c16)) V3 (by decide) (.bool DP) (.slice Dg DB c19)) B.size);have oG:=xL (aF.base (aF.bO (aF.bO Hi o6 (by decide) (.bool s16) (.slice a16 Cc c16)) V3 (by decide) (.bool DP) (.slice Dg DB c19)) B.size);replace C:=((C.keep hB).bI hc6 (.bool s16) (.slice a16 Cc c16)).bI Jh (.bool DP) (.slice Dg DB c19);replace R:=((R.keep hB).bI Jm (.bool s16) (.slice a16 Cc c16)).bI Jn (.bool DP) (.slice Dg DB c19);replace B:Below w.heap.size w ((((wz.setCell ⟨g6,0,none⟩ (.bool s16)).setCell ⟨g6,1,none⟩ (.slice a16 Cc c16)).setCell ⟨g7,0,none⟩ (.bool DP)).setCell ⟨g7,1,none⟩ (.slice Dg DB c19)):=xN (xN (xN (xN (d_ B hB) GT _) GT _) Im _) Im _;have ⟨p0,p1,q0,q1,_⟩:=o6.box;have ⟨p2,p3,q2,q3,_⟩:=o7.box;unfold Rg.aX Rg.aX Rg.aX Oper.wp
 go_simp
 clear p0 p1 q0 q1 p2 p3 q2 q3 V3 o6 o7 o16 Hi hB Gt Q ox oz DM GO Fa Mv Mw;generalize ((((wz.setCell ⟨g6,0,none⟩ (.bool s16)).setCell ⟨g6,1,none⟩ (.slice a16 Cc c16)).setCell ⟨g7,0,none⟩ (.bool DP)).setCell ⟨g7,1,none⟩ (.slice Dg DB c19))=wd at *;have f_:=C.box.c0;have i_:=C.box.c1;have xx:=U.box.c0;have xy:=U.box.c1;have x8:=V.box.c0;have x9:=V.box.c1;have yL:=U.box.f0;have yM:=U.box.f1;have yx:=V.box.f0;have yz:=V.box.f1;have xT:=R.aN.c0;have t_:=R.aN.f0;have xU:=R.aN.c1;have xQ:=R.aN.f1;have xX:=R.aN.c2;have xW:=R.aN.f2;have xY:=R.aN.c3;have xe:=R.aN.f3;have Dw:=BK;have Dy:=BL;have Ey:=aF.len oG.out
 by_cases h0:G=0
 ·have hl:DB=0:=by rw [Ey,h0];exact Wh.ei.2 rfl
  have hok:Wh.dl D F G=false:=by unfold Wh.dl;rw [h0];simp
  have hX:=eX.out;have hZ:=eZ.out;rw [hok,if_neg (by decide)] at hX hZ;replace hX:=xL hX;replace hZ:=xL hZ;replace hok:=xL hok;clear Ey h0 hd eX eZ FX PF PG PM PN BI DF Db Dc DV Dd BR CC Bu BK BL Dw Dy hc6 Jh Jm Jn GT Im;subst hl;go_wp2;exact bodyPost_ret (v:=.tuple #[.agg #[.bool false,.slice none 0 0,.bool false,.slice none 0 0],.bool false]) (by simp [results,Tryz.results158,go_sem, *]) rfl (⟨_,_,(by rw [hX.out,hZ.out,hok.out];rfl),(by rw [hX.out];exact fK _ _),(by rw [hZ.out];exact fK _ _),xN (xN (xN (xN B (by simp <;> omega) _) (by simp <;> omega) _) (by simp <;> omega) _) (by simp <;> omega) _⟩)
 have hlp:¬ DB=0:=fun h=>h0 (Wh.ei.1 (by rw [←Ey];exact h))
 have hlq:((DB:Int) == 0)=false:=by rw [beq_eq_false_iff_ne];omega
 have hX:=eX.out;have hZ:=eZ.out;have hO:=FX.out h0;rw [hO] at hX hZ;clear Ey h0 eX eZ FX PF PG;replace hd:=xL hd
 by_cases hneg:G<0
 ·have hsg:decide (G<0)=true:=decide_eq_true hneg
  rw [if_pos hneg,if_pos hneg] at hX hZ hO
  obtain rfl:DP=true:=by rw [BL.out];exact hsg
  have CV:=Bu.out;rw [hsg] at CV;clear Bu BL Dy Dw;replace PM:=PM.out;rw [←BK.out] at PM;replace PM:=xL PM;replace PN:=PN.out;rw [hsg] at PN;replace PN:=xL PN;clear BI Db DV BR;replace DF:=DF.out;replace Dc:=Dc.out;replace Dd:=Dd.out;replace CC:=CC.out;replace PN:=PN.out;replace PM:=PM.out;generalize hs5:decide (-F<0)=s5 at *;generalize hs6:decide (-G<0)=s6 at *;generalize -F % (d:Int)=rF at *;generalize -G % (d:Int)=rG at *;generalize hN:-(F / (d:Int))=N at *;generalize hE:-(G / (d:Int))=E at *;clear hN;clear hE;generalize Bx:decide (N<0)=sN at *;generalize Fd:decide (E<0)=sE at *;replace DF:=xL DF;replace Dc:=xL Dc;replace Dd:=xL Dd;replace CC:=xL CC;replace PM:=xL PM;replace PN:=xL PN;replace Bx:=xL Bx;replace Fd:=xL Fd;clear CV hs5 hs6;clear hneg hsg hd
  by_cases hok:Wh.cZ N E=true
  ·skip
   rw [hok] at hX hZ hO;rw [if_pos rfl] at hX hZ;have hq:=hok;replace hok:=xL hO;replace hq:=xL hq;replace hX:=xL hX;replace hZ:=xL hZ;clear hO
   go_wp2_with (first
    | (go_at_call 188;(with_reducible refine (PM.out _ _ _ oF.out).mono ?_);rintro e w4 ⟨v4,rfl,yD,hb4⟩;have yG:=B.size;replace C:=C.keep hb4;replace R:=R.keep hb4;replace U:=U.keep hb4;replace V:=V.keep hb4;replace oF:=kO oF hb4;replace oG:=kO oG hb4;replace B:=d_ B hb4;obtain ⟨a4,c4,rfl,yA,xj⟩:=aF.view yD;clear yA xj;have y8:=xL (aF.base (show aF _ _ _ _ from yD) yG);clear yD;(generalize (Wh.a_ (-F).natAbs).length=l4 at *);clear yG;have Ix:=U.box.c0;have Iy:=U.box.c1;have Iz:=U.box.f0;have I0:=U.box.f1;replace oF:=sO oF U (by decide) (.bool s5) (.slice a4 l4 c4);replace oG:=sO oG U (by decide) (.bool s5) (.slice a4 l4 c4);replace y8:=sO y8 U (by decide) (.bool s5) (.slice a4 l4 c4);replace C:=C.bI hc6 (.bool s5) (.slice a4 l4 c4);replace R:=R.bI Jm (.bool s5) (.slice a4 l4 c4);replace V:=V.bI Ep (.bool s5) (.slice a4 l4 c4);replace U:=aH.set2 U (.bool s5) (.slice a4 l4 c4);replace B:=dI B GT (.bool s5) (.slice a4 l4 c4);(replace ⟨f_,i_⟩:=C.b2);(replace ⟨xT,xU,xX,xY,t_,xQ,xW,xe⟩:=R.yF);(replace ⟨xx,xy,yL,yM⟩:=U.yk);(replace ⟨x8,x9,yx,yz⟩:=V.yk))
    | (go_at_call 188;(with_reducible refine (PN.out _ _ _ oG.out).mono ?_);rintro e w5 ⟨v5,rfl,xg,hb5⟩;have yG:=B.size;replace C:=C.keep hb5;replace R:=R.keep hb5;replace U:=U.keep hb5;replace V:=V.keep hb5;replace oF:=kO oF hb5;replace oG:=kO oG hb5;replace y8:=kO y8 hb5;replace B:=d_ B hb5;obtain ⟨a5,c5,rfl,yA,xj⟩:=aF.view xg;clear yA xj;have zS:=xL (aF.base (show aF _ _ _ _ from xg) yG);clear xg;(generalize (Wh.a_ (-G).natAbs).length=l5 at *);clear yG;have I1:=V.box.c0;have I2:=V.box.c1;have I3:=V.box.f0;have I4:=V.box.f1;replace oF:=sO oF V (by decide) (.bool s6) (.slice a5 l5 c5);replace oG:=sO oG V (by decide) (.bool s6) (.slice a5 l5 c5);replace y8:=sO y8 V (by decide) (.bool s6) (.slice a5 l5 c5);replace zS:=sO zS V (by decide) (.bool s6) (.slice a5 l5 c5);replace C:=C.bI Jh (.bool s6) (.slice a5 l5 c5);replace R:=R.bI Jn (.bool s6) (.slice a5 l5 c5);replace U:=U.bI Dk (.bool s6) (.slice a5 l5 c5);replace V:=aH.set2 V (.bool s6) (.slice a5 l5 c5);replace B:=dI B Im (.bool s6) (.slice a5 l5 c5);(replace ⟨f_,i_⟩:=C.b2);(replace ⟨xT,xU,xX,xY,t_,xQ,xW,xe⟩:=R.yF);(replace ⟨xx,xy,yL,yM⟩:=U.yk);(replace ⟨x8,x9,yx,yz⟩:=V.yk))
    | (go_at_call 189;(with_reducible refine (DF.out _ _ _ _ _ y8.out zS.out).mono ?_);rintro e w6 ⟨rfl,hb6⟩;replace C:=C.keep hb6;replace R:=R.keep hb6;replace U:=U.keep hb6;replace V:=V.keep hb6;replace oF:=kO oF hb6;replace oG:=kO oG hb6;replace y8:=kO y8 hb6;replace zS:=kO zS hb6;replace B:=d_ B hb6;(replace ⟨f_,i_⟩:=C.b2);(replace ⟨xT,xU,xX,xY,t_,xQ,xW,xe⟩:=R.yF);(replace ⟨xx,xy,yL,yM⟩:=U.yk);(replace ⟨x8,x9,yx,yz⟩:=V.yk))
    | (go_at_call 169;(with_reducible refine (Dc.out _ _ _ y8.out).mono ?_);rintro e w8 ⟨v8,rfl,zP,xw⟩;have yG:=B.size;replace C:=C.keep xw;replace R:=R.keep xw;replace U:=U.keep xw;replace V:=V.keep xw;replace oF:=kO oF xw;replace oG:=kO oG xw;replace y8:=kO y8 xw;replace zS:=kO zS xw;replace B:=d_ B xw;obtain ⟨a8,c8,rfl,yA,xj⟩:=aF.view zP;clear yA xj;have on:=xL (aF.base (show aF _ _ _ _ from zP) yG);clear zP;(generalize (Wh.a_ N.natAbs).length=ln at *);clear yG;have N_:=aH.new w8 #[.bool sN,.slice a8 ln c8] 125;have b_:=bA w8 (.cells #[.bool sN,.slice a8 ln c8] 125);replace C:=C.keep b_;replace R:=R.keep b_;replace U:=U.keep b_;replace V:=V.keep b_;replace oF:=kO oF b_;replace oG:=kO oG b_;replace y8:=kO y8 b_;replace zS:=kO zS b_;replace on:=kO on b_;replace B:=d_ B b_;clear b_;(replace ⟨f_,i_⟩:=C.b2);(replace ⟨xT,xU,xX,xY,t_,xQ,xW,xe⟩:=R.yF);(replace ⟨xx,xy,yL,yM⟩:=U.yk);(replace ⟨x8,x9,yx,yz⟩:=V.yk);(replace ⟨zW,zY⟩:=N_.b2))
    | (go_at_call 169;(with_reducible refine (Dd.out _ _ _ zS.out).mono ?_);rintro e w9 ⟨v9,rfl,AN,xi⟩;have yG:=B.size;replace C:=C.keep xi;replace R:=R.keep xi;replace U:=U.keep xi;replace V:=V.keep xi;replace N_:=N_.keep xi;replace oF:=kO oF xi;replace oG:=kO oG xi;replace y8:=kO y8 xi;replace zS:=kO zS xi;replace on:=kO on xi;replace B:=d_ B xi;obtain ⟨a9,c9,rfl,yA,xj⟩:=aF.view AN;clear yA xj;have oe:=xL (aF.base (show aF _ _ _ _ from AN) yG);clear AN;(generalize (Wh.a_ E.natAbs).length=le at *);clear yG;have E_:=aH.new w9 #[.bool sE,.slice a9 le c9] 125;have b_:=bA w9 (.cells #[.bool sE,.slice a9 le c9] 125);replace C:=C.keep b_;replace R:=R.keep b_;replace U:=U.keep b_;replace V:=V.keep b_;replace N_:=N_.keep b_;replace oF:=kO oF b_;replace oG:=kO oG b_;replace y8:=kO y8 b_;replace zS:=kO zS b_;replace on:=kO on b_;replace oe:=kO oe b_;replace B:=d_ B b_;clear b_;(replace ⟨f_,i_⟩:=C.b2);(replace ⟨xT,xU,xX,xY,t_,xQ,xW,xe⟩:=R.yF);(replace ⟨xx,xy,yL,yM⟩:=U.yk);(replace ⟨x8,x9,yx,yz⟩:=V.yk);(replace ⟨zW,zY⟩:=N_.b2);(replace ⟨Az,A0⟩:=E_.b2);have O:=aH.new (w9.alloc (.cells #[.bool sE,.slice a9 le c9] 125)) #[.bool sN,.slice a8 ln c8,.bool sE,.slice a9 le c9] 127;have b_:=bA (w9.alloc (.cells #[.bool sE,.slice a9 le c9] 125)) (.cells #[.bool sN,.slice a8 ln c8,.bool sE,.slice a9 le c9] 127);replace C:=C.keep b_;replace R:=R.keep b_;replace U:=U.keep b_;replace V:=V.keep b_;replace N_:=N_.keep b_;replace E_:=E_.keep b_;replace oF:=kO oF b_;replace oG:=kO oG b_;replace y8:=kO y8 b_;replace zS:=kO zS b_;replace on:=kO on b_;replace oe:=kO oe b_;replace B:=d_ B b_;clear b_;(rw [xM] at O))
    | (go_at_call 190;(with_reducible refine (CC.out _ _ _ _ _ on.out oe.out).mono ?_);rintro e EY ⟨rfl,xd⟩;(simp only [hq.out]);replace C:=C.keep xd;replace R:=R.keep xd;replace U:=U.keep xd;replace V:=V.keep xd;replace N_:=N_.keep xd;replace E_:=E_.keep xd;replace O:=O.keep xd;replace oF:=kO oF xd;replace oG:=kO oG xd;replace y8:=kO y8 xd;replace zS:=kO zS xd;replace on:=kO on xd;replace oe:=kO oe xd;replace B:=d_ B xd;(replace ⟨f_,i_⟩:=C.b2);(replace ⟨xT,xU,xX,xY,t_,xQ,xW,xe⟩:=R.yF);(replace ⟨xx,xy⟩:=U.b2);(replace ⟨x8,x9⟩:=V.b2);(replace ⟨zW,zY⟩:=N_.b2);(replace ⟨Az,A0⟩:=E_.b2);(replace ⟨AD,AE,AF,AG⟩:=O.b4)))
   have hr1:=aF.base (aF.dH on.out R (by decide) (.bool sN) (.slice a8 ln c8) (.bool sE) (.slice a9 le c9)) (base':=w.heap.size) (xP _);have hr2:=aF.base (aF.dH oe.out R (by decide) (.bool sN) (.slice a8 ln c8) (.bool sE) (.slice a9 le c9)) (base':=w.heap.size) (xP _);exact bodyPost_ret (v:=.tuple #[.agg #[.bool sN,.slice a8 ln c8,.bool sE,.slice a9 le c9],.bool true]) (by simp [results,Tryz.results158,go_sem, *]) rfl (⟨_,_,(by rw [hX.out,hZ.out,hok.out,Bx.out,Fd.out]),(by rw [hX.out];exact hr1),(by rw [hZ.out];exact hr2),xN (xN (xN (xN B (by simp <;> omega) _) (by simp <;> omega) _) (by simp <;> omega) _) (by simp <;> omega) _⟩)
  replace hok:Wh.cZ N E=false:=by simpa using hok
  rw [hok] at hX hZ hO;rw [if_neg (by decide)] at hX hZ;have hq:=hok;replace hok:=xL hO;replace hq:=xL hq;replace hX:=xL hX;replace hZ:=xL hZ;clear hO
  go_wp2_with (first
   | (go_at_call 188;(with_reducible refine (PM.out _ _ _ oF.out).mono ?_);rintro e w4 ⟨v4,rfl,yD,hb4⟩;have yG:=B.size;replace C:=C.keep hb4;replace R:=R.keep hb4;replace U:=U.keep hb4;replace V:=V.keep hb4;replace oF:=kO oF hb4;replace oG:=kO oG hb4;replace B:=d_ B hb4;obtain ⟨a4,c4,rfl,yA,xj⟩:=aF.view yD;clear yA xj;have y8:=xL (aF.base (show aF _ _ _ _ from yD) yG);clear yD;(generalize (Wh.a_ (-F).natAbs).length=l4 at *);clear yG;have Ix:=U.box.c0;have Iy:=U.box.c1;have Iz:=U.box.f0;have I0:=U.box.f1;replace oF:=sO oF U (by decide) (.bool s5) (.slice a4 l4 c4);replace oG:=sO oG U (by decide) (.bool s5) (.slice a4 l4 c4);replace y8:=sO y8 U (by decide) (.bool s5) (.slice a4 l4 c4);replace C:=C.bI hc6 (.bool s5) (.slice a4 l4 c4);replace R:=R.bI Jm (.bool s5) (.slice a4 l4 c4);replace V:=V.bI Ep (.bool s5) (.slice a4 l4 c4);replace U:=aH.set2 U (.bool s5) (.slice a4 l4 c4);replace B:=dI B GT (.bool s5) (.slice a4 l4 c4);(replace ⟨f_,i_⟩:=C.b2);(replace ⟨xT,xU,xX,xY,t_,xQ,xW,xe⟩:=R.yF);(replace ⟨xx,xy,yL,yM⟩:=U.yk);(replace ⟨x8,x9,yx,yz⟩:=V.yk))
   | (go_at_call 188;(with_reducible refine (PN.out _ _ _ oG.out).mono ?_);rintro e w5 ⟨v5,rfl,xg,hb5⟩;have yG:=B.size;replace C:=C.keep hb5;replace R:=R.keep hb5;replace U:=U.keep hb5;replace V:=V.keep hb5;replace oF:=kO oF hb5;replace oG:=kO oG hb5;replace y8:=kO y8 hb5;replace B:=d_ B hb5;obtain ⟨a5,c5,rfl,yA,xj⟩:=aF.view xg;clear yA xj;have zS:=xL (aF.base (show aF _ _ _ _ from xg) yG);clear xg;(generalize (Wh.a_ (-G).natAbs).length=l5 at *);clear yG;have I1:=V.box.c0;have I2:=V.box.c1;have I3:=V.box.f0;have I4:=V.box.f1;replace oF:=sO oF V (by decide) (.bool s6) (.slice a5 l5 c5);replace oG:=sO oG V (by decide) (.bool s6) (.slice a5 l5 c5);replace y8:=sO y8 V (by decide) (.bool s6) (.slice a5 l5 c5);replace zS:=sO zS V (by decide) (.bool s6) (.slice a5 l5 c5);replace C:=C.bI Jh (.bool s6) (.slice a5 l5 c5);replace R:=R.bI Jn (.bool s6) (.slice a5 l5 c5);replace U:=U.bI Dk (.bool s6) (.slice a5 l5 c5);replace V:=aH.set2 V (.bool s6) (.slice a5 l5 c5);replace B:=dI B Im (.bool s6) (.slice a5 l5 c5);(replace ⟨f_,i_⟩:=C.b2);(replace ⟨xT,xU,xX,xY,t_,xQ,xW,xe⟩:=R.yF);(replace ⟨xx,xy,yL,yM⟩:=U.yk);(replace ⟨x8,x9,yx,yz⟩:=V.yk))
   | (go_at_call 189;(with_reducible refine (DF.out _ _ _ _ _ y8.out zS.out).mono ?_);rintro e w6 ⟨rfl,hb6⟩;replace C:=C.keep hb6;replace R:=R.keep hb6;replace U:=U.keep hb6;replace V:=V.keep hb6;replace oF:=kO oF hb6;replace oG:=kO oG hb6;replace y8:=kO y8 hb6;replace zS:=kO zS hb6;replace B:=d_ B hb6;(replace ⟨f_,i_⟩:=C.b2);(replace ⟨xT,xU,xX,xY,t_,xQ,xW,xe⟩:=R.yF);(replace ⟨xx,xy,yL,yM⟩:=U.yk);(replace ⟨x8,x9,yx,yz⟩:=V.yk))
   | (go_at_call 169;(with_reducible refine (Dc.out _ _ _ y8.out).mono ?_);rintro e w8 ⟨v8,rfl,zP,xw⟩;have yG:=B.size;replace C:=C.keep xw;replace R:=R.keep xw;replace U:=U.keep xw;replace V:=V.keep xw;replace oF:=kO oF xw;replace oG:=kO oG xw;replace y8:=kO y8 xw;replace zS:=kO zS xw;replace B:=d_ B xw;obtain ⟨a8,c8,rfl,yA,xj⟩:=aF.view zP;clear yA xj;have on:=xL (aF.base (show aF _ _ _ _ from zP) yG);clear zP;(generalize (Wh.a_ N.natAbs).length=ln at *);clear yG;have N_:=aH.new w8 #[.bool sN,.slice a8 ln c8] 125;have b_:=bA w8 (.cells #[.bool sN,.slice a8 ln c8] 125);replace C:=C.keep b_;replace R:=R.keep b_;replace U:=U.keep b_;replace V:=V.keep b_;replace oF:=kO oF b_;replace oG:=kO oG b_;replace y8:=kO y8 b_;replace zS:=kO zS b_;replace on:=kO on b_;replace B:=d_ B b_;clear b_;(replace ⟨f_,i_⟩:=C.b2);(replace ⟨xT,xU,xX,xY,t_,xQ,xW,xe⟩:=R.yF);(replace ⟨xx,xy,yL,yM⟩:=U.yk);(replace ⟨x8,x9,yx,yz⟩:=V.yk);(replace ⟨zW,zY⟩:=N_.b2))
   | (go_at_call 169;(with_reducible refine (Dd.out _ _ _ zS.out).mono ?_);rintro e w9 ⟨v9,rfl,AN,xi⟩;have yG:=B.size;replace C:=C.keep xi;replace R:=R.keep xi;replace U:=U.keep xi;replace V:=V.keep xi;replace N_:=N_.keep xi;replace oF:=kO oF xi;replace oG:=kO oG xi;replace y8:=kO y8 xi;replace zS:=kO zS xi;replace on:=kO on xi;replace B:=d_ B xi;obtain ⟨a9,c9,rfl,yA,xj⟩:=aF.view AN;clear yA xj;have oe:=xL (aF.base (show aF _ _ _ _ from AN) yG);clear AN;(generalize (Wh.a_ E.natAbs).length=le at *);clear yG;have E_:=aH.new w9 #[.bool sE,.slice a9 le c9] 125;have b_:=bA w9 (.cells #[.bool sE,.slice a9 le c9] 125);replace C:=C.keep b_;replace R:=R.keep b_;replace U:=U.keep b_;replace V:=V.keep b_;replace N_:=N_.keep b_;replace oF:=kO oF b_;replace oG:=kO oG b_;replace y8:=kO y8 b_;replace zS:=kO zS b_;replace on:=kO on b_;replace oe:=kO oe b_;replace B:=d_ B b_;clear b_;(replace ⟨f_,i_⟩:=C.b2);(replace ⟨xT,xU,xX,xY,t_,xQ,xW,xe⟩:=R.yF);(replace ⟨xx,xy,yL,yM⟩:=U.yk);(replace ⟨x8,x9,yx,yz⟩:=V.yk);(replace ⟨zW,zY⟩:=N_.b2);(replace ⟨Az,A0⟩:=E_.b2);have O:=aH.new (w9.alloc (.cells #[.bool sE,.slice a9 le c9] 125)) #[.bool sN,.slice a8 ln c8,.bool sE,.slice a9 le c9] 127;have b_:=bA (w9.alloc (.cells #[.bool sE,.slice a9 le c9] 125)) (.cells #[.bool sN,.slice a8 ln c8,.bool sE,.slice a9 le c9] 127);replace C:=C.keep b_;replace R:=R.keep b_;replace U:=U.keep b_;replace V:=V.keep b_;replace N_:=N_.keep b_;replace E_:=E_.keep b_;replace oF:=kO oF b_;replace oG:=kO oG b_;replace y8:=kO y8 b_;replace zS:=kO zS b_;replace on:=kO on b_;replace oe:=kO oe b_;replace B:=d_ B b_;clear b_;(rw [xM] at O))
   | (go_at_call 190;(with_reducible refine (CC.out _ _ _ _ _ on.out oe.out).mono ?_);rintro e EY ⟨rfl,xd⟩;(simp only [hq.out]);replace C:=C.keep xd;replace R:=R.keep xd;replace U:=U.keep xd;replace V:=V.keep xd;replace N_:=N_.keep xd;replace E_:=E_.keep xd;replace O:=O.keep xd;replace oF:=kO oF xd;replace oG:=kO oG xd;replace y8:=kO y8 xd;replace zS:=kO zS xd;replace on:=kO on xd;replace oe:=kO oe xd;replace B:=d_ B xd;(replace ⟨f_,i_⟩:=C.b2);(replace ⟨xT,xU,xX,xY,t_,xQ,xW,xe⟩:=R.yF);(replace ⟨xx,xy⟩:=U.b2);(replace ⟨x8,x9⟩:=V.b2);(replace ⟨zW,zY⟩:=N_.b2);(replace ⟨Az,A0⟩:=E_.b2);(replace ⟨AD,AE,AF,AG⟩:=O.b4)))
  exact bodyPost_ret (v:=.tuple #[.agg #[.bool false,.slice none 0 0,.bool false,.slice none 0 0],.bool false]) (by simp [results,Tryz.results158,go_sem, *]) rfl (⟨_,_,(by rw [hX.out,hZ.out,hok.out];rfl),(by rw [hX.out];exact fK _ _),(by rw [hZ.out];exact fK _ _),xN (xN (xN (xN B (by simp <;> omega) _) (by simp <;> omega) _) (by simp <;> omega) _) (by simp <;> omega) _⟩)
 have hsg:decide (G<0)=false:=decide_eq_false hneg;rw [if_neg hneg,if_neg hneg] at hX hZ hO
 obtain rfl:DP=false:=by rw [BL.out];exact hsg
 have CV:=Bu.out;rw [hsg] at CV;clear Bu BL Dy Dw;clear PM PN DF Dc Dd CC;replace BI:=BI.out;replace Db:=Db.out;replace DV:=DV.out;replace BR:=BR.out;simp only [←BK.out,hsg] at BI Db;simp only [hsg] at DV;generalize F % (d:Int)=rF at *;generalize G % (d:Int)=rG at *;generalize hN:F / (d:Int)=N at *;generalize hE:G / (d:Int)=E at *;clear hN;subst hE;simp only [CV] at DV BR;generalize hE:G / (d:Int)=E at *;clear hE;generalize Bx:decide (N<0)=sN at *
 skip
 replace BI:=xL BI;replace Db:=xL Db;replace DV:=xL DV;replace BR:=xL BR;replace Bx:=xL Bx;replace Fd:=xL CV;clear CV;clear hneg hsg hd
 by_cases hok:Wh.cZ N E=true
 ·skip
  rw [hok] at hX hZ hO;rw [if_pos rfl] at hX hZ;have hq:=hok;replace hok:=xL hO;replace hq:=xL hq;replace hX:=xL hX;replace hZ:=xL hZ;clear hO
  go_wp2_with (first
   | (go_at_call 189;(with_reducible refine (BI.out _ _ _ _ _ oF.out oG.out).mono ?_);rintro e w6 ⟨rfl,hb6⟩;replace C:=C.keep hb6;replace R:=R.keep hb6;replace U:=U.keep hb6;replace V:=V.keep hb6;replace oF:=kO oF hb6;replace oG:=kO oG hb6;replace B:=d_ B hb6;(replace ⟨f_,i_⟩:=C.b2);(replace ⟨xT,xU,xX,xY,t_,xQ,xW,xe⟩:=R.yF);(replace ⟨xx,xy,yL,yM⟩:=U.yk);(replace ⟨x8,x9,yx,yz⟩:=V.yk))
   | (go_at_call 169;(with_reducible refine (Db.out _ _ _ oF.out).mono ?_);rintro e w8 ⟨v8,rfl,zP,xw⟩;have yG:=B.size;replace C:=C.keep xw;replace R:=R.keep xw;replace U:=U.keep xw;replace V:=V.keep xw;replace oF:=kO oF xw;replace oG:=kO oG xw;replace B:=d_ B xw;obtain ⟨a8,c8,rfl,yA,xj⟩:=aF.view zP;clear yA xj;have on:=xL (aF.base (show aF _ _ _ _ from zP) yG);clear zP;(generalize (Wh.a_ N.natAbs).length=ln at *);clear yG;have N_:=aH.new w8 #[.bool sN,.slice a8 ln c8] 125;have b_:=bA w8 (.cells #[.bool sN,.slice a8 ln c8] 125);replace C:=C.keep b_;replace R:=R.keep b_;replace U:=U.keep b_;replace V:=V.keep b_;replace oF:=kO oF b_;replace oG:=kO oG b_;replace on:=kO on b_;replace B:=d_ B b_;clear b_;(replace ⟨f_,i_⟩:=C.b2);(replace ⟨xT,xU,xX,xY,t_,xQ,xW,xe⟩:=R.yF);(replace ⟨xx,xy,yL,yM⟩:=U.yk);(replace ⟨x8,x9,yx,yz⟩:=V.yk);(replace ⟨zW,zY⟩:=N_.b2))
   | (go_at_call 169;(with_reducible refine (DV.out _ _ _ oG.out).mono ?_);rintro e w9 ⟨v9,rfl,AN,xi⟩;have yG:=B.size;replace C:=C.keep xi;replace R:=R.keep xi;replace U:=U.keep xi;replace V:=V.keep xi;replace N_:=N_.keep xi;replace oF:=kO oF xi;replace oG:=kO oG xi;replace on:=kO on xi;replace B:=d_ B xi;obtain ⟨a9,c9,rfl,yA,xj⟩:=aF.view AN;clear yA xj;have oe:=xL (aF.base (show aF _ _ _ _ from AN) yG);clear AN;(generalize (Wh.a_ E.natAbs).length=le at *);clear yG;have E_:=aH.new w9 #[.bool false,.slice a9 le c9] 125;have b_:=bA w9 (.cells #[.bool false,.slice a9 le c9] 125);replace C:=C.keep b_;replace R:=R.keep b_;replace U:=U.keep b_;replace V:=V.keep b_;replace N_:=N_.keep b_;replace oF:=kO oF b_;replace oG:=kO oG b_;replace on:=kO on b_;replace oe:=kO oe b_;replace B:=d_ B b_;clear b_;(replace ⟨f_,i_⟩:=C.b2);(replace ⟨xT,xU,xX,xY,t_,xQ,xW,xe⟩:=R.yF);(replace ⟨xx,xy,yL,yM⟩:=U.yk);(replace ⟨x8,x9,yx,yz⟩:=V.yk);(replace ⟨zW,zY⟩:=N_.b2);(replace ⟨Az,A0⟩:=E_.b2);have O:=aH.new (w9.alloc (.cells #[.bool false,.slice a9 le c9] 125)) #[.bool sN,.slice a8 ln c8,.bool false,.slice a9 le c9] 127;have b_:=bA (w9.alloc (.cells #[.bool false,.slice a9 le c9] 125)) (.cells #[.bool sN,.slice a8 ln c8,.bool false,.slice a9 le c9] 127);replace C:=C.keep b_;replace R:=R.keep b_;replace U:=U.keep b_;replace V:=V.keep b_;replace N_:=N_.keep b_;replace E_:=E_.keep b_;replace oF:=kO oF b_;replace oG:=kO oG b_;replace on:=kO on b_;replace oe:=kO oe b_;replace B:=d_ B b_;clear b_;(rw [xM] at O))
   | (go_at_call 190;(with_reducible refine (BR.out _ _ _ _ _ on.out oe.out).mono ?_);rintro e EY ⟨rfl,xd⟩;(simp only [hq.out]);replace C:=C.keep xd;replace R:=R.keep xd;replace U:=U.keep xd;replace V:=V.keep xd;replace N_:=N_.keep xd;replace E_:=E_.keep xd;replace O:=O.keep xd;replace oF:=kO oF xd;replace oG:=kO oG xd;replace on:=kO on xd;replace oe:=kO oe xd;replace B:=d_ B xd;(replace ⟨f_,i_⟩:=C.b2);(replace ⟨xT,xU,xX,xY,t_,xQ,xW,xe⟩:=R.yF);(replace ⟨xx,xy⟩:=U.b2);(replace ⟨x8,x9⟩:=V.b2);(replace ⟨zW,zY⟩:=N_.b2);(replace ⟨Az,A0⟩:=E_.b2);(replace ⟨AD,AE,AF,AG⟩:=O.b4)))
  have hr1:=aF.base (aF.dH on.out R (by decide) (.bool sN) (.slice a8 ln c8) (.bool false) (.slice a9 le c9)) (base':=w.heap.size) (xP _);have hr2:=aF.base (aF.dH oe.out R (by decide) (.bool sN) (.slice a8 ln c8) (.bool false) (.slice a9 le c9)) (base':=w.heap.size) (xP _);exact bodyPost_ret (v:=.tuple #[.agg #[.bool sN,.slice a8 ln c8,.bool false,.slice a9 le c9],.bool true]) (by simp [results,Tryz.results158,go_sem, *]) rfl (⟨_,_,(by rw [hX.out,hZ.out,hok.out,Bx.out,Fd.out]),(by rw [hX.out];exact hr1),(by rw [hZ.out];exact hr2),xN (xN (xN (xN B (by simp <;> omega) _) (by simp <;> omega) _) (by simp <;> omega) _) (by simp <;> omega) _⟩)
 replace hok:Wh.cZ N E=false:=by simpa using hok
 rw [hok] at hX hZ hO;rw [if_neg (by decide)] at hX hZ;have hq:=hok;replace hok:=xL hO;replace hq:=xL hq;replace hX:=xL hX;replace hZ:=xL hZ;clear hO
 go_wp2_with (first
  | (go_at_call 189;(with_reducible refine (BI.out _ _ _ _ _ oF.out oG.out).mono ?_);rintro e w6 ⟨rfl,hb6⟩;replace C:=C.keep hb6;replace R:=R.keep hb6;replace U:=U.keep hb6;replace V:=V.keep hb6;replace oF:=kO oF hb6;replace oG:=kO oG hb6;replace B:=d_ B hb6;(replace ⟨f_,i_⟩:=C.b2);(replace ⟨xT,xU,xX,xY,t_,xQ,xW,xe⟩:=R.yF);(replace ⟨xx,xy,yL,yM⟩:=U.yk);(replace ⟨x8,x9,yx,yz⟩:=V.yk))
  | (go_at_call 169;(with_reducible refine (Db.out _ _ _ oF.out).mono ?_);rintro e w8 ⟨v8,rfl,zP,xw⟩;have yG:=B.size;replace C:=C.keep xw;replace R:=R.keep xw;replace U:=U.keep xw;replace V:=V.keep xw;replace oF:=kO oF xw;replace oG:=kO oG xw;replace B:=d_ B xw;obtain ⟨a8,c8,rfl,yA,xj⟩:=aF.view zP;clear yA xj;have on:=xL (aF.base (show aF _ _ _ _ from zP) yG);clear zP;(generalize (Wh.a_ N.natAbs).length=ln at *);clear yG;have N_:=aH.new w8 #[.bool sN,.slice a8 ln c8] 125;have b_:=bA w8 (.cells #[.bool sN,.slice a8 ln c8] 125);replace C:=C.keep b_;replace R:=R.keep b_;replace U:=U.keep b_;replace V:=V.keep b_;replace oF:=kO oF b_;replace oG:=kO oG b_;replace on:=kO on b_;replace B:=d_ B b_;clear b_;(replace ⟨f_,i_⟩:=C.b2);(replace ⟨xT,xU,xX,xY,t_,xQ,xW,xe⟩:=R.yF);(replace ⟨xx,xy,yL,yM⟩:=U.yk);(replace ⟨x8,x9,yx,yz⟩:=V.yk);(replace ⟨zW,zY⟩:=N_.b2))
  | (go_at_call 169;(with_reducible refine (DV.out _ _ _ oG.out).mono ?_);rintro e w9 ⟨v9,rfl,AN,xi⟩;have yG:=B.size;replace C:=C.keep xi;replace R:=R.keep xi;replace U:=U.keep xi;replace V:=V.keep xi;replace N_:=N_.keep xi;replace oF:=kO oF xi;replace oG:=kO oG xi;replace on:=kO on xi;replace B:=d_ B xi;obtain ⟨a9,c9,rfl,yA,xj⟩:=aF.view AN;clear yA xj;have oe:=xL (aF.base (show aF _ _ _ _ from AN) yG);clear AN;(generalize (Wh.a_ E.natAbs).length=le at *);clear yG;have E_:=aH.new w9 #[.bool false,.slice a9 le c9] 125;have b_:=bA w9 (.cells #[.bool false,.slice a9 le c9] 125);replace C:=C.keep b_;replace R:=R.keep b_;replace U:=U.keep b_;replace V:=V.keep b_;replace N_:=N_.keep b_;replace oF:=kO oF b_;replace oG:=kO oG b_;replace on:=kO on b_;replace oe:=kO oe b_;replace B:=d_ B b_;clear b_;(replace ⟨f_,i_⟩:=C.b2);(replace ⟨xT,xU,xX,xY,t_,xQ,xW,xe⟩:=R.yF);(replace ⟨xx,xy,yL,yM⟩:=U.yk);(replace ⟨x8,x9,yx,yz⟩:=V.yk);(replace ⟨zW,zY⟩:=N_.b2);(replace ⟨Az,A0⟩:=E_.b2);have O:=aH.new (w9.alloc (.cells #[.bool false,.slice a9 le c9] 125)) #[.bool sN,.slice a8 ln c8,.bool false,.slice a9 le c9] 127;have b_:=bA (w9.alloc (.cells #[.bool false,.slice a9 le c9] 125)) (.cells #[.bool sN,.slice a8 ln c8,.bool false,.slice a9 le c9] 127);replace C:=C.keep b_;replace R:=R.keep b_;replace U:=U.keep b_;replace V:=V.keep b_;replace N_:=N_.keep b_;replace E_:=E_.keep b_;replace oF:=kO oF b_;replace oG:=kO oG b_;replace on:=kO on b_;replace oe:=kO oe b_;replace B:=d_ B b_;clear b_;(rw [xM] at O))
  | (go_at_call 190;(with_reducible refine (BR.out _ _ _ _ _ on.out oe.out).mono ?_);rintro e EY ⟨rfl,xd⟩;(simp only [hq.out]);replace C:=C.keep xd;replace R:=R.keep xd;replace U:=U.keep xd;replace V:=V.keep xd;replace N_:=N_.keep xd;replace E_:=E_.keep xd;replace O:=O.keep xd;replace oF:=kO oF xd;replace oG:=kO oG xd;replace on:=kO on xd;replace oe:=kO oe xd;replace B:=d_ B xd;(replace ⟨f_,i_⟩:=C.b2);(replace ⟨xT,xU,xX,xY,t_,xQ,xW,xe⟩:=R.yF);(replace ⟨xx,xy⟩:=U.b2);(replace ⟨x8,x9⟩:=V.b2);(replace ⟨zW,zY⟩:=N_.b2);(replace ⟨Az,A0⟩:=E_.b2);(replace ⟨AD,AE,AF,AG⟩:=O.b4)))
 exact bodyPost_ret (v:=.tuple #[.agg #[.bool false,.slice none 0 0,.bool false,.slice none 0 0],.bool false]) (by simp [results,Tryz.results158,go_sem, *]) rfl (⟨_,_,(by rw [hX.out,hZ.out,hok.out];rfl),(by rw [hX.out];exact fK _ _),(by rw [hZ.out];exact fK _ _),xN (xN (xN (xN B (by simp <;> omega) _) (by simp <;> omega) _) (by simp <;> omega) _) (by simp <;> omega) _⟩)
namespace M
def hM (a b:Int):Int:=max (1+2*a+8*b+a*a) (4*(1+a+b))
def hK (a b d:Int):Int:=max (15+21*a+27*b) (4*d+5*a*a*b+4*a*(3*a*a*a+22*b*b)+12*b*(a*a*a+8*b*b)+(a*(5*a*a*a+32*b*b)+2*b*(13*a*a*a+96*b*b)+3*a*a*(a*a*a+8*b*b)))
def hC (a b:Int):Nat:=Wh.bl (max (hM a.natAbs b.natAbs) (hK a.natAbs b.natAbs (M.af a b).natAbs)).toNat
theorem yE {x y m n k:Int} (hx:0≤x∧x≤m) (hy:0≤y∧y≤n) (hk:m*n≤k):0≤x*y∧x*y≤k:=
 ⟨Int.mul_nonneg hx.1 hy.1,Int.le_trans (Int.mul_le_mul hx.2 hy.2 hy.1 (Int.le_trans hx.1 hx.2)) hk⟩
end M
theorem iJ (a0 b0:Int) (w:World) (hin:M.bM a0 b0=true) :
  Calls Tryz.prog 127 #[.agg #[.int .i64 a0,.int .i64 b0]] w fun e w'=>e=.returned (.tuple #[.int .i64 (M.hM a0.natAbs b0.natAbs),.int .i64 (M.hK a0.natAbs b0.natAbs (M.af a0 b0).natAbs)])∧Below w.heap.size w w':=by
 obtain ⟨x1,x2,y1,y2⟩:=M.an hin;have hdb:=eD hin
 have PC:=fun W=>nl a0 b0 W hin
 clear hin;generalize M.af a0 b0=D at *
 obtain ⟨a,ha⟩:∃ a:Int,Hid (a=a0.natAbs):=⟨_,xL rfl⟩
 obtain ⟨b,hb⟩:∃ b:Int,Hid (b=b0.natAbs):=⟨_,xL rfl⟩
 obtain ⟨d,hd⟩:∃ d:Int,Hid (d=D.natAbs):=⟨_,xL rfl⟩
 rw [←ha.out,←hb.out,←hd.out]
 have a1:0≤a∧a≤1000:=by have:=ha.out;omega
 have b1:0≤b∧b≤10000:=by have:=hb.out;omega
 have d1:0≤d∧d≤6700000000:=by have:=hd.out;omega
 obtain ⟨a1,a2⟩:=a1;obtain ⟨b1,b2⟩:=b1;obtain ⟨d1,d2⟩:=d1;have bd1:0≤2*a∧2*a≤2000:=M.yE (show (0:Int)≤2∧(2:Int)≤2 from ⟨by omega,by omega⟩) (show 0≤a∧a≤1000 from ⟨by omega,by omega⟩) (by omega);have Jc:0≤8*b∧8*b≤80000:=M.yE (show (0:Int)≤8∧(8:Int)≤8 from ⟨by omega,by omega⟩) (show 0≤b∧b≤10000 from ⟨by omega,by omega⟩) (by omega);have IC:0≤a*a∧a*a≤1000000:=M.yE (show 0≤a∧a≤1000 from ⟨by omega,by omega⟩) (show 0≤a∧a≤1000 from ⟨by omega,by omega⟩) (by omega);have bd4:0≤4*d∧4*d≤26800000000:=M.yE (show (0:Int)≤4∧(4:Int)≤4 from ⟨by omega,by omega⟩) (show 0≤d∧d≤6700000000 from ⟨by omega,by omega⟩) (by omega);have IL:0≤4*a∧4*a≤4000:=M.yE (show (0:Int)≤4∧(4:Int)≤4 from ⟨by omega,by omega⟩) (show 0≤a∧a≤1000 from ⟨by omega,by omega⟩) (by omega);have IV:0≤4*a*a∧4*a*a≤4000000:=M.yE IL (show 0≤a∧a≤1000 from ⟨by omega,by omega⟩) (by omega);have bd7:0≤4*a*a*b∧4*a*a*b≤40000000000:=M.yE IV (show 0≤b∧b≤10000 from ⟨by omega,by omega⟩) (by omega);have Jd:0≤3*a∧3*a≤3000:=M.yE (show (0:Int)≤3∧(3:Int)≤3 from ⟨by omega,by omega⟩) (show 0≤a∧a≤1000 from ⟨by omega,by omega⟩) (by omega);have IW:0≤3*a*a∧3*a*a≤3000000:=M.yE Jd (show 0≤a∧a≤1000 from ⟨by omega,by omega⟩) (by omega);have Eh:0≤3*a*a*a∧3*a*a*a≤3000000000:=M.yE IW (show 0≤a∧a≤1000 from ⟨by omega,by omega⟩) (by omega);have Fv:0≤22*b∧22*b≤220000:=M.yE (show (0:Int)≤22∧(22:Int)≤22 from ⟨by omega,by omega⟩) (show 0≤b∧b≤10000 from ⟨by omega,by omega⟩) (by omega);have Fw:0≤22*b*b∧22*b*b≤2200000000:=M.yE Fv (show 0≤b∧b≤10000 from ⟨by omega,by omega⟩) (by omega);have H7:0≤4*a*(3*a*a*a+22*b*b)∧4*a*(3*a*a*a+22*b*b)≤20800000000000:=M.yE IL (show 0≤3*a*a*a+22*b*b∧3*a*a*a+22*b*b≤5200000000 from ⟨by omega,by omega⟩) (by omega);have Fx:0≤12*b∧12*b≤120000:=M.yE (show (0:Int)≤12∧(12:Int)≤12 from ⟨by omega,by omega⟩) (show 0≤b∧b≤10000 from ⟨by omega,by omega⟩) (by omega);have Fy:0≤a*a*a∧a*a*a≤1000000000:=M.yE IC (show 0≤a∧a≤1000 from ⟨by omega,by omega⟩) (by omega);have H8:0≤8*b*b∧8*b*b≤800000000:=M.yE Jc (show 0≤b∧b≤10000 from ⟨by omega,by omega⟩) (by omega);have H9:0≤12*b*(a*a*a+8*b*b)∧12*b*(a*a*a+8*b*b)≤216000000000000:=M.yE Fx (show 0≤a*a*a+8*b*b∧a*a*a+8*b*b≤1800000000 from ⟨by omega,by omega⟩) (by omega);have H_:0≤a*a*b∧a*a*b≤10000000000:=M.yE IC (show 0≤b∧b≤10000 from ⟨by omega,by omega⟩) (by omega);have Fz:0≤5*a∧5*a≤5000:=M.yE (show (0:Int)≤5∧(5:Int)≤5 from ⟨by omega,by omega⟩) (show 0≤a∧a≤1000 from ⟨by omega,by omega⟩) (by omega);have Ei:0≤5*a*a∧5*a*a≤5000000:=M.yE Fz (show 0≤a∧a≤1000 from ⟨by omega,by omega⟩) (by omega);have IA:0≤5*a*a*a∧5*a*a*a≤5000000000:=M.yE Ei (show 0≤a∧a≤1000 from ⟨by omega,by omega⟩) (by omega);have F0:0≤32*b∧32*b≤320000:=M.yE (show (0:Int)≤32∧(32:Int)≤32 from ⟨by omega,by omega⟩) (show 0≤b∧b≤10000 from ⟨by omega,by omega⟩) (by omega);have F3:0≤32*b*b∧32*b*b≤3200000000:=M.yE F0 (show 0≤b∧b≤10000 from ⟨by omega,by omega⟩) (by omega);have F4:0≤a*(5*a*a*a+32*b*b)∧a*(5*a*a*a+32*b*b)≤8200000000000:=M.yE (show 0≤a∧a≤1000 from ⟨by omega,by omega⟩) (show 0≤5*a*a*a+32*b*b∧5*a*a*a+32*b*b≤8200000000 from ⟨by omega,by omega⟩) (by omega);have Ej:0≤2*b∧2*b≤20000:=M.yE (show (0:Int)≤2∧(2:Int)≤2 from ⟨by omega,by omega⟩) (show 0≤b∧b≤10000 from ⟨by omega,by omega⟩) (by omega);have F5:0≤13*a∧13*a≤13000:=M.yE (show (0:Int)≤13∧(13:Int)≤13 from ⟨by omega,by omega⟩) (show 0≤a∧a≤1000 from ⟨by omega,by omega⟩) (by omega);have Ek:0≤13*a*a∧13*a*a≤13000000:=M.yE F5 (show 0≤a∧a≤1000 from ⟨by omega,by omega⟩) (by omega);have IB:0≤13*a*a*a∧13*a*a*a≤13000000000:=M.yE Ek (show 0≤a∧a≤1000 from ⟨by omega,by omega⟩) (by omega);have F6:0≤96*b∧96*b≤960000:=M.yE (show (0:Int)≤96∧(96:Int)≤96 from ⟨by omega,by omega⟩) (show 0≤b∧b≤10000 from ⟨by omega,by omega⟩) (by omega);have ID:0≤96*b*b∧96*b*b≤9600000000:=M.yE F6 (show 0≤b∧b≤10000 from ⟨by omega,by omega⟩) (by omega);have Kz:0≤2*b*(13*a*a*a+96*b*b)∧2*b*(13*a*a*a+96*b*b)≤452000000000000:=M.yE Ej (show 0≤13*a*a*a+96*b*b∧13*a*a*a+96*b*b≤22600000000 from ⟨by omega,by omega⟩) (by omega);have K4:0≤3*a*a*(a*a*a+8*b*b)∧3*a*a*(a*a*a+8*b*b)≤5400000000000000:=M.yE IW (show 0≤a*a*a+8*b*b∧a*a*a+8*b*b≤1800000000 from ⟨by omega,by omega⟩) (by omega);obtain ⟨bd1_1,bd1_2⟩:=bd1;obtain ⟨bd2_1,bd2_2⟩:=Jc;obtain ⟨bd3_1,bd3_2⟩:=IC;obtain ⟨bd4_1,bd4_2⟩:=bd4;obtain ⟨bd5_1,bd5_2⟩:=IL;obtain ⟨bd6_1,bd6_2⟩:=IV;obtain ⟨bd7_1,bd7_2⟩:=bd7;obtain ⟨bd8_1,bd8_2⟩:=Jd;obtain ⟨bd9_1,bd9_2⟩:=IW;obtain ⟨KI,KJ⟩:=Eh;obtain ⟨KK,KL⟩:=Fv;obtain ⟨KM,KN⟩:=Fw;obtain ⟨KO,KQ⟩:=H7;obtain ⟨KR,KS⟩:=Fx;obtain ⟨KT,KU⟩:=Fy;obtain ⟨KV,KW⟩:=H8;obtain ⟨KX,KY⟩:=H9;obtain ⟨KZ,Ka⟩:=H_;obtain ⟨Kb,Kc⟩:=Fz;obtain ⟨Kd,Ke⟩:=Ei;obtain ⟨Kf,Kg⟩:=IA;obtain ⟨Kh,Ki⟩:=F0;obtain ⟨Kj,Kk⟩:=F3;obtain ⟨Kl,Km⟩:=F4;obtain ⟨Kn,Ko⟩:=Ej;obtain ⟨Kp,Kq⟩:=F5;obtain ⟨Kr,Ks⟩:=Ek;obtain ⟨Kt,Ku⟩:=IB;obtain ⟨Kv,Kw⟩:=F6;obtain ⟨Kx,Ky⟩:=ID;obtain ⟨K0,K3⟩:=Kz;obtain ⟨K6,K7⟩:=K4;have hM:Hid (M.hM a b=max (1+2*a+8*b+a*a) (4*(1+a+b))):=xL rfl;have hK:Hid (M.hK a b d=max (12+16*a+3+5*a+27*b) (4*d+4*a*a*b+4*a*(3*a*a*a+22*b*b)+12*b*(a*a*a+8*b*b)+(a*a*b+a*(5*a*a*a+32*b*b)+2*b*(13*a*a*a+96*b*b)+3*a*a*(a*a*a+8*b*b)))):=xL (by unfold M.hK;congr 1 <;> grind);have mA:=xL (show (if a0 < -a0 then -a0 else a0)=a by have:=ha.out;split <;> omega);have mB:=xL (show (if b0 < -b0 then -b0 else b0)=b by have:=hb.out;split <;> omega);have mD:=xL (show (if D < -D then -D else D)=d by have:=hd.out;split <;> omega);have nA:=xL (show max a0 (-a0)=a by have:=ha.out;omega);have nB:=xL (show max b0 (-b0)=b by have:=hb.out;omega);have nD:=xL (show max D (-D)=d by have:=hd.out;omega)
 skip
 replace PC:=xL PC;have C:=aH.new w #[.int .i64 a0,.int .i64 b0] 25;have B:=(xO w.heap.size w).alloc (xP _) (.cells #[.int .i64 a0,.int .i64 b0] 25);generalize hw3:w.alloc (.cells #[.int .i64 a0,.int .i64 b0] 25)=wc at *;go_enter Tryz.func127,Tryz.ntmps127
 go_wp2
 go_upto_region 1 with fail
 refine Rg.bS 21 [.is (.pointer (some ⟨w.heap.size,0,none⟩)),.is (.int .i64 a0),.is (.pointer (some ⟨w.heap.size,0,none⟩)),.is (.int .i64 a0),.is (.int .i64 (-a0)),.is (.int .i64 a),.is (.pointer (some ⟨w.heap.size,1,none⟩)),.is (.int .i64 b0),.is (.pointer (some ⟨w.heap.size,1,none⟩)),.is (.int .i64 b0),.is (.int .i64 (-b0)),.is (.int .i64 b),.is (.agg #[.int .i64 a0,.int .i64 b0]),.is (.int .i64 D),.is (.agg #[.int .i64 a0,.int .i64 b0]),.is (.int .i64 D),.is (.int .i64 (-D)),.is (.int .i64 d),.is (.int .i64 a),.is (.int .i64 b),.is (.int .i64 d)] (by kernel_rfl) (by kernel_rfl) (by kernel_rfl) ⟨?_,?_,?_,?_,?_,?_,?_,?_,?_,?_,?_,?_,?_,?_,?_,?_,?_,?_,?_,?_,?_,trivial⟩ ?_
 ·intro _ zZ w_ hB hr
  have e1:zZ.tmps[1]?=some (.pointer (some ⟨w.heap.size,0,none⟩)):=hr 1 (by decide);exact Rg.aG rfl (by go_simp)
 ·intro _ zZ w_ hB hr
  have e10:=Rg.c_ (hr 10 (by decide));have k0:=aE hB C.box.c0;exact Rg.aG rfl (by go_simp)
 ·intro _ zZ w_ hB hr
  have e1:zZ.tmps[1]?=some (.pointer (some ⟨w.heap.size,0,none⟩)):=hr 1 (by decide);exact Rg.aG rfl (by go_simp)
 ·intro _ zZ w_ hB hr
  have e12:=Rg.c_ (hr 12 (by decide));have k0:=aE hB C.box.c0;exact Rg.aG rfl (by go_simp)
 ·intro _ zZ w_ hB hr
  have e13:=Rg.c_ (hr 13 (by decide));exact Rg.aG rfl (by go_simp <;> exact Rg.wo (by omega))
 ·intro _ zZ w_ hB hr
  have e11:=Rg.c_ (hr 11 (by decide));have e14:=Rg.c_ (hr 14 (by decide));exact Rg.aG rfl (by go_simp;first | done | (rw [mA.out];done) | (rw [nA.out];done) | (simp only [mA.out];done))
 ·intro _ zZ w_ hB hr
  have e1:zZ.tmps[1]?=some (.pointer (some ⟨w.heap.size,0,none⟩)):=hr 1 (by decide);exact Rg.aG rfl (by go_simp)
 ·intro _ zZ w_ hB hr
  have e16:=Rg.c_ (hr 16 (by decide));have k1:=aE hB C.box.c1;exact Rg.aG rfl (by go_simp)
 ·intro _ zZ w_ hB hr
  have e1:zZ.tmps[1]?=some (.pointer (some ⟨w.heap.size,0,none⟩)):=hr 1 (by decide);exact Rg.aG rfl (by go_simp)
 ·intro _ zZ w_ hB hr
  have e18:=Rg.c_ (hr 18 (by decide));have k1:=aE hB C.box.c1;exact Rg.aG rfl (by go_simp)
 ·intro _ zZ w_ hB hr
  have e19:=Rg.c_ (hr 19 (by decide));exact Rg.aG rfl (by go_simp <;> exact Rg.wo (by omega))
 ·intro _ zZ w_ hB hr
  have e17:=Rg.c_ (hr 17 (by decide));have e20:=Rg.c_ (hr 20 (by decide));exact Rg.aG rfl (by go_simp;first | done | (rw [mB.out];done) | (rw [nB.out];done) | (simp only [mB.out];done))
 ·intro _ zZ w_ hB hr
  have e1:zZ.tmps[1]?=some (.pointer (some ⟨w.heap.size,0,none⟩)):=hr 1 (by decide);have k0:=aE hB C.box.c0;have k1:=aE hB C.box.c1;exact Rg.aG rfl (by go_simp)
 ·intro _ zZ w_ hB hr
  have e22:=Rg.c_ (hr 22 (by decide));have ef:=Rg.ef zZ;exact Rg.bX rfl (by go_simp) (PC.out _)
 ·intro _ zZ w_ hB hr
  have e1:zZ.tmps[1]?=some (.pointer (some ⟨w.heap.size,0,none⟩)):=hr 1 (by decide);have k0:=aE hB C.box.c0;have k1:=aE hB C.box.c1;exact Rg.aG rfl (by go_simp)
 ·intro _ zZ w_ hB hr
  have e24:=Rg.c_ (hr 24 (by decide));have ef:=Rg.ef zZ;exact Rg.bX rfl (by go_simp) (PC.out _)
 ·intro _ zZ w_ hB hr
  have e25:=Rg.c_ (hr 25 (by decide));exact Rg.aG rfl (by go_simp <;> exact Rg.wo (by omega))
 ·intro _ zZ w_ hB hr
  have e23:=Rg.c_ (hr 23 (by decide));have e26:=Rg.c_ (hr 26 (by decide));exact Rg.aG rfl (by go_simp;first | done | (rw [mD.out];done) | (rw [nD.out];done) | (simp only [mD.out];done))
 ·intro _ zZ w_ hB hr
  have e15:=Rg.c_ (hr 15 (by decide));exact Rg.aG rfl (by go_simp)
 ·intro _ zZ w_ hB hr
  have e21:=Rg.c_ (hr 21 (by decide));exact Rg.aG rfl (by go_simp)
 ·intro _ zZ w_ hB hr
  have e27:=Rg.c_ (hr 27 (by decide));exact Rg.aG rfl (by go_simp)
 intro vals wz hB1 hv hne;have JK:vals 18=.int .i64 a:=hv 18 (by decide);have JL:vals 19=.int .i64 b:=hv 19 (by decide);have JN:vals 20=.int .i64 d:=hv 20 (by decide);simp only [Rg.ay,Rg.fill,Act.put,Nat.reduceAdd];clear hv;simp only [JK,JL,JN];clear JK JL JN;replace B:=d_ B hB1;clear hB1 C;unfold Rg.aX;go_wp2;go_ret2;exact ⟨by rw [hM.out,hK.out];first | rfl,B⟩
theorem lE (a0 b0:Int) (w:World) (hin:M.bM a0 b0=true) :
  Calls Tryz.prog 133 #[.agg #[.int .i64 a0,.int .i64 b0]] w fun e w'=>e=.returned (.tuple #[.int .i64 (M.hM a0.natAbs b0.natAbs),.int .i64 (M.hK a0.natAbs b0.natAbs (M.af a0 b0).natAbs)])∧Below w.heap.size w w':=by
 obtain ⟨x1,x2,y1,y2⟩:=M.an hin;have hdb:=eD hin
 have PC:=fun W=>j7 a0 b0 W hin
 clear hin
 have PA:=fun x W (h1:-9223372036854775807≤x) (h2:x≤9223372036854775807)=>dG x W h1 h2
 have PM:=fun x y W=>eN x y W
 generalize M.af a0 b0=D at *
 obtain ⟨a,ha⟩:∃ a:Int,Hid (a=a0.natAbs):=⟨_,xL rfl⟩
 obtain ⟨b,hb⟩:∃ b:Int,Hid (b=b0.natAbs):=⟨_,xL rfl⟩
 obtain ⟨d,hd⟩:∃ d:Int,Hid (d=D.natAbs):=⟨_,xL rfl⟩
 rw [←ha.out,←hb.out,←hd.out]
 have a1:0≤a∧a≤1000:=by have:=ha.out;omega
 have b1:0≤b∧b≤10000:=by have:=hb.out;omega
 have d1:0≤d∧d≤6700000000:=by have:=hd.out;omega
 obtain ⟨a1,a2⟩:=a1;obtain ⟨b1,b2⟩:=b1;obtain ⟨d1,d2⟩:=d1;have K8:0≤2*a∧2*a≤2000:=M.yE (show (0:Int)≤2∧(2:Int)≤2 from ⟨by omega,by omega⟩) (show 0≤a∧a≤1000 from ⟨by omega,by omega⟩) (by omega);have IE:0≤8*b∧8*b≤80000:=M.yE (show (0:Int)≤8∧(8:Int)≤8 from ⟨by omega,by omega⟩) (show 0≤b∧b≤10000 from ⟨by omega,by omega⟩) (by omega);have IF:0≤a*a∧a*a≤1000000:=M.yE (show 0≤a∧a≤1000 from ⟨by omega,by omega⟩) (show 0≤a∧a≤1000 from ⟨by omega,by omega⟩) (by omega);have LF:0≤4*d∧4*d≤26800000000:=M.yE (show (0:Int)≤4∧(4:Int)≤4 from ⟨by omega,by omega⟩) (show 0≤d∧d≤6700000000 from ⟨by omega,by omega⟩) (by omega);have IG:0≤5*a∧5*a≤5000:=M.yE (show (0:Int)≤5∧(5:Int)≤5 from ⟨by omega,by omega⟩) (show 0≤a∧a≤1000 from ⟨by omega,by omega⟩) (by omega);have F7:0≤5*a*a∧5*a*a≤5000000:=M.yE IG (show 0≤a∧a≤1000 from ⟨by omega,by omega⟩) (by omega);have LM:0≤5*a*a*b∧5*a*a*b≤50000000000:=M.yE F7 (show 0≤b∧b≤10000 from ⟨by omega,by omega⟩) (by omega);have IH:0≤4*a∧4*a≤4000:=M.yE (show (0:Int)≤4∧(4:Int)≤4 from ⟨by omega,by omega⟩) (show 0≤a∧a≤1000 from ⟨by omega,by omega⟩) (by omega);have II:0≤3*a∧3*a≤3000:=M.yE (show (0:Int)≤3∧(3:Int)≤3 from ⟨by omega,by omega⟩) (show 0≤a∧a≤1000 from ⟨by omega,by omega⟩) (by omega);have F8:0≤3*a*a∧3*a*a≤3000000:=M.yE II (show 0≤a∧a≤1000 from ⟨by omega,by omega⟩) (by omega);have LV:0≤3*a*a*a∧3*a*a*a≤3000000000:=M.yE F8 (show 0≤a∧a≤1000 from ⟨by omega,by omega⟩) (by omega);have IJ:0≤22*b∧22*b≤220000:=M.yE (show (0:Int)≤22∧(22:Int)≤22 from ⟨by omega,by omega⟩) (show 0≤b∧b≤10000 from ⟨by omega,by omega⟩) (by omega);have La:0≤22*b*b∧22*b*b≤2200000000:=M.yE IJ (show 0≤b∧b≤10000 from ⟨by omega,by omega⟩) (by omega);have Ld:0≤4*a*(3*a*a*a+22*b*b)∧4*a*(3*a*a*a+22*b*b)≤20800000000000:=M.yE IH (show 0≤3*a*a*a+22*b*b∧3*a*a*a+22*b*b≤5200000000 from ⟨by omega,by omega⟩) (by omega);have IK:0≤12*b∧12*b≤120000:=M.yE (show (0:Int)≤12∧(12:Int)≤12 from ⟨by omega,by omega⟩) (show 0≤b∧b≤10000 from ⟨by omega,by omega⟩) (by omega);have Li:0≤a*a*a∧a*a*a≤1000000000:=M.yE IF (show 0≤a∧a≤1000 from ⟨by omega,by omega⟩) (by omega);have Ll:0≤8*b*b∧8*b*b≤800000000:=M.yE IE (show 0≤b∧b≤10000 from ⟨by omega,by omega⟩) (by omega);have Lo:0≤12*b*(a*a*a+8*b*b)∧12*b*(a*a*a+8*b*b)≤216000000000000:=M.yE IK (show 0≤a*a*a+8*b*b∧a*a*a+8*b*b≤1800000000 from ⟨by omega,by omega⟩) (by omega);have Lr:0≤5*a*a*a∧5*a*a*a≤5000000000:=M.yE F7 (show 0≤a∧a≤1000 from ⟨by omega,by omega⟩) (by omega);have IM:0≤32*b∧32*b≤320000:=M.yE (show (0:Int)≤32∧(32:Int)≤32 from ⟨by omega,by omega⟩) (show 0≤b∧b≤10000 from ⟨by omega,by omega⟩) (by omega);have Lw:0≤32*b*b∧32*b*b≤3200000000:=M.yE IM (show 0≤b∧b≤10000 from ⟨by omega,by omega⟩) (by omega);have Lz:0≤a*(5*a*a*a+32*b*b)∧a*(5*a*a*a+32*b*b)≤8200000000000:=M.yE (show 0≤a∧a≤1000 from ⟨by omega,by omega⟩) (show 0≤5*a*a*a+32*b*b∧5*a*a*a+32*b*b≤8200000000 from ⟨by omega,by omega⟩) (by omega);have IP:0≤2*b∧2*b≤20000:=M.yE (show (0:Int)≤2∧(2:Int)≤2 from ⟨by omega,by omega⟩) (show 0≤b∧b≤10000 from ⟨by omega,by omega⟩) (by omega);have IQ:0≤13*a∧13*a≤13000:=M.yE (show (0:Int)≤13∧(13:Int)≤13 from ⟨by omega,by omega⟩) (show 0≤a∧a≤1000 from ⟨by omega,by omega⟩) (by omega);have IR:0≤13*a*a∧13*a*a≤13000000:=M.yE IQ (show 0≤a∧a≤1000 from ⟨by omega,by omega⟩) (by omega);have ME:0≤13*a*a*a∧13*a*a*a≤13000000000:=M.yE IR (show 0≤a∧a≤1000 from ⟨by omega,by omega⟩) (by omega);have IU:0≤96*b∧96*b≤960000:=M.yE (show (0:Int)≤96∧(96:Int)≤96 from ⟨by omega,by omega⟩) (show 0≤b∧b≤10000 from ⟨by omega,by omega⟩) (by omega);have MJ:0≤96*b*b∧96*b*b≤9600000000:=M.yE IU (show 0≤b∧b≤10000 from ⟨by omega,by omega⟩) (by omega);have MM:0≤2*b*(13*a*a*a+96*b*b)∧2*b*(13*a*a*a+96*b*b)≤452000000000000:=M.yE IP (show 0≤13*a*a*a+96*b*b∧13*a*a*a+96*b*b≤22600000000 from ⟨by omega,by omega⟩) (by omega);have MP:0≤3*a*a*(a*a*a+8*b*b)∧3*a*a*(a*a*a+8*b*b)≤5400000000000000:=M.yE F8 (show 0≤a*a*a+8*b*b∧a*a*a+8*b*b≤1800000000 from ⟨by omega,by omega⟩) (by omega);obtain ⟨K9,LA⟩:=K8;obtain ⟨LB,LC⟩:=IE;obtain ⟨LD,LE⟩:=IF;obtain ⟨LG,LH⟩:=LF;obtain ⟨LI,LJ⟩:=IG;obtain ⟨LK,LL⟩:=F7;obtain ⟨LN,LO⟩:=LM;obtain ⟨LP,LQ⟩:=IH;obtain ⟨LR,LS⟩:=II;obtain ⟨LT,LU⟩:=F8;obtain ⟨LW,LX⟩:=LV;obtain ⟨LY,LZ⟩:=IJ;obtain ⟨Lb,Lc⟩:=La;obtain ⟨Le,Lf⟩:=Ld;obtain ⟨Lg,Lh⟩:=IK;obtain ⟨Lj,Lk⟩:=Li;obtain ⟨Lm,Ln⟩:=Ll;obtain ⟨Lp,Lq⟩:=Lo;obtain ⟨Ls,Lt⟩:=Lr;obtain ⟨Lu,Lv⟩:=IM;obtain ⟨Lx,Ly⟩:=Lw;obtain ⟨L0,L4⟩:=Lz;obtain ⟨L5,L6⟩:=IP;obtain ⟨L7,L8⟩:=IQ;obtain ⟨L9,L_⟩:=IR;obtain ⟨MF,MG⟩:=ME;obtain ⟨MH,MI⟩:=IU;obtain ⟨MK,ML⟩:=MJ;obtain ⟨MN,MO⟩:=MM;obtain ⟨MQ,MR⟩:=MP;have hM:Hid (M.hM a b=max (1+2*a+8*b+a*a) (4*(1+a+b))):=xL rfl;have hK:Hid (M.hK a b d=max (15+21*a+27*b) (4*d+5*a*a*b+4*a*(3*a*a*a+22*b*b)+12*b*(a*a*a+8*b*b)+(a*(5*a*a*a+32*b*b)+2*b*(13*a*a*a+96*b*b)+3*a*a*(a*a*a+8*b*b)))):=xL rfl
 skip
 replace PC:=xL PC;replace PA:=xL PA;replace PM:=xL PM;have C:=aH.new w #[.int .i64 a0,.int .i64 b0] 25;have B:=(xO w.heap.size w).alloc (xP _) (.cells #[.int .i64 a0,.int .i64 b0] 25);generalize hw3:w.alloc (.cells #[.int .i64 a0,.int .i64 b0] 25)=wc at *;go_enter Tryz.func133,Tryz.ntmps133
 go_wp2
 go_upto_region 1 with fail
 refine Rg.bS 12 [.is (.pointer (some ⟨w.heap.size,0,none⟩)),.is (.int .i64 a0),.is (.int .i64 a),.is (.pointer (some ⟨w.heap.size,1,none⟩)),.is (.int .i64 b0),.is (.int .i64 b),.is (.agg #[.int .i64 a0,.int .i64 b0]),.is (.int .i64 D),.is (.int .i64 d),.is (.int .i64 a),.is (.int .i64 b),.is (.int .i64 d)] (by kernel_rfl) (by kernel_rfl) (by kernel_rfl) ⟨?_,?_,?_,?_,?_,?_,?_,?_,?_,?_,?_,?_,trivial⟩ ?_
 ·intro _ zZ w_ hB hr
  have e1:zZ.tmps[1]?=some (.pointer (some ⟨w.heap.size,0,none⟩)):=hr 1 (by decide);exact Rg.aG rfl (by go_simp)
 ·intro _ zZ w_ hB hr
  have e10:=Rg.c_ (hr 10 (by decide));have k0:=aE hB C.box.c0;exact Rg.aG rfl (by go_simp)
 ·intro _ zZ w_ hB hr
  have e11:=Rg.c_ (hr 11 (by decide));have ef:=Rg.ef zZ;refine Rg.ae rfl (by go_simp;exact ⟨rfl,rfl⟩) ?_;refine (PA.out a0 _ (by omega) (by omega)).mono ?_;rintro e w5 ⟨rfl,rfl⟩;exact ⟨_,rfl,(by rw [ha.out];rfl),xO _ _⟩
 ·intro _ zZ w_ hB hr
  have e1:zZ.tmps[1]?=some (.pointer (some ⟨w.heap.size,0,none⟩)):=hr 1 (by decide);exact Rg.aG rfl (by go_simp)
 ·intro _ zZ w_ hB hr
  have e13:=Rg.c_ (hr 13 (by decide));have k1:=aE hB C.box.c1;exact Rg.aG rfl (by go_simp)
 ·intro _ zZ w_ hB hr
  have e14:=Rg.c_ (hr 14 (by decide));have ef:=Rg.ef zZ;refine Rg.ae rfl (by go_simp;exact ⟨rfl,rfl⟩) ?_;refine (PA.out b0 _ (by omega) (by omega)).mono ?_;rintro e w5 ⟨rfl,rfl⟩;exact ⟨_,rfl,(by rw [hb.out];rfl),xO _ _⟩
 ·intro _ zZ w_ hB hr
  have e1:zZ.tmps[1]?=some (.pointer (some ⟨w.heap.size,0,none⟩)):=hr 1 (by decide);have k0:=aE hB C.box.c0;have k1:=aE hB C.box.c1;exact Rg.aG rfl (by go_simp)
 ·intro _ zZ w_ hB hr
  have e16:=Rg.c_ (hr 16 (by decide));have ef:=Rg.ef zZ;exact Rg.bX rfl (by go_simp) (PC.out _)
 ·intro _ zZ w_ hB hr
  have e17:=Rg.c_ (hr 17 (by decide));have ef:=Rg.ef zZ;refine Rg.ae rfl (by go_simp;exact ⟨rfl,rfl⟩) ?_;refine (PA.out D _ (by omega) (by omega)).mono ?_;rintro e w5 ⟨rfl,rfl⟩;exact ⟨_,rfl,(by rw [hd.out];rfl),xO _ _⟩
 ·intro _ zZ w_ hB hr
  have e12:=Rg.c_ (hr 12 (by decide));exact Rg.aG rfl (by go_simp)
 ·intro _ zZ w_ hB hr
  have e15:=Rg.c_ (hr 15 (by decide));exact Rg.aG rfl (by go_simp)
 ·intro _ zZ w_ hB hr
  have e18:=Rg.c_ (hr 18 (by decide));exact Rg.aG rfl (by go_simp)
 intro vals wz hB1 hv hne;have zV:vals 9=.int .i64 a:=hv 9 (by decide);have yH:vals 10=.int .i64 b:=hv 10 (by decide);have yR:vals 11=.int .i64 d:=hv 11 (by decide);simp only [Rg.ay,Rg.fill,Act.put,Nat.reduceAdd];clear hv;simp only [zV,yH,yR];clear zV yH yR;replace B:=d_ B hB1;clear hB1 C;unfold Rg.aX
 go_wp2_with (go_at_call 119;(with_reducible refine (PM.out _ _ _).mono ?_);rintro e w6 ⟨rfl,rfl⟩)
 go_ret2;exact ⟨by rw [hM.out,hK.out];first | rfl,B⟩
theorem M.nt {a0 b0:Int} (hin:M.bM a0 b0=true):0≤max (M.hM a0.natAbs b0.natAbs) (M.hK a0.natAbs b0.natAbs (M.af a0 b0).natAbs)∧max (M.hM a0.natAbs b0.natAbs) (M.hK a0.natAbs b0.natAbs (M.af a0 b0).natAbs)≤100000000000000000:=by
 obtain ⟨x1,x2,y1,y2⟩:=M.an hin;have hdb:=eD hin
 obtain ⟨a,ha⟩:∃ a:Int,(a=a0.natAbs):=⟨_,rfl⟩
 obtain ⟨b,hb⟩:∃ b:Int,(b=b0.natAbs):=⟨_,rfl⟩
 obtain ⟨d,hd⟩:∃ d:Int,(d=(M.af a0 b0).natAbs):=⟨_,rfl⟩
 rw [←ha,←hb,←hd]
 have a1:0≤a∧a≤1000:=by omega
 have b1:0≤b∧b≤10000:=by omega
 have d1:0≤d∧d≤6700000000:=by omega
 clear ha hb hd hdb x1 x2 y1 y2 hin;have bd1:0≤2*a∧2*a≤2000:=M.yE (show (0:Int)≤2∧(2:Int)≤2 from ⟨by omega,by omega⟩) (show 0≤a∧a≤1000 from ⟨by omega,by omega⟩) (by omega);have Jc:0≤8*b∧8*b≤80000:=M.yE (show (0:Int)≤8∧(8:Int)≤8 from ⟨by omega,by omega⟩) (show 0≤b∧b≤10000 from ⟨by omega,by omega⟩) (by omega);have IC:0≤a*a∧a*a≤1000000:=M.yE (show 0≤a∧a≤1000 from ⟨by omega,by omega⟩) (show 0≤a∧a≤1000 from ⟨by omega,by omega⟩) (by omega);have bd4:0≤4*d∧4*d≤26800000000:=M.yE (show (0:Int)≤4∧(4:Int)≤4 from ⟨by omega,by omega⟩) (show 0≤d∧d≤6700000000 from ⟨by omega,by omega⟩) (by omega);have IL:0≤5*a∧5*a≤5000:=M.yE (show (0:Int)≤5∧(5:Int)≤5 from ⟨by omega,by omega⟩) (show 0≤a∧a≤1000 from ⟨by omega,by omega⟩) (by omega);have IV:0≤5*a*a∧5*a*a≤5000000:=M.yE IL (show 0≤a∧a≤1000 from ⟨by omega,by omega⟩) (by omega);have bd7:0≤5*a*a*b∧5*a*a*b≤50000000000:=M.yE IV (show 0≤b∧b≤10000 from ⟨by omega,by omega⟩) (by omega);have Jd:0≤4*a∧4*a≤4000:=M.yE (show (0:Int)≤4∧(4:Int)≤4 from ⟨by omega,by omega⟩) (show 0≤a∧a≤1000 from ⟨by omega,by omega⟩) (by omega);have IW:0≤3*a∧3*a≤3000:=M.yE (show (0:Int)≤3∧(3:Int)≤3 from ⟨by omega,by omega⟩) (show 0≤a∧a≤1000 from ⟨by omega,by omega⟩) (by omega);have Eh:0≤3*a*a∧3*a*a≤3000000:=M.yE IW (show 0≤a∧a≤1000 from ⟨by omega,by omega⟩) (by omega);have Fv:0≤3*a*a*a∧3*a*a*a≤3000000000:=M.yE Eh (show 0≤a∧a≤1000 from ⟨by omega,by omega⟩) (by omega);have Fw:0≤22*b∧22*b≤220000:=M.yE (show (0:Int)≤22∧(22:Int)≤22 from ⟨by omega,by omega⟩) (show 0≤b∧b≤10000 from ⟨by omega,by omega⟩) (by omega);have H7:0≤22*b*b∧22*b*b≤2200000000:=M.yE Fw (show 0≤b∧b≤10000 from ⟨by omega,by omega⟩) (by omega);have Fx:0≤4*a*(3*a*a*a+22*b*b)∧4*a*(3*a*a*a+22*b*b)≤20800000000000:=M.yE Jd (show 0≤3*a*a*a+22*b*b∧3*a*a*a+22*b*b≤5200000000 from ⟨by omega,by omega⟩) (by omega);have Fy:0≤12*b∧12*b≤120000:=M.yE (show (0:Int)≤12∧(12:Int)≤12 from ⟨by omega,by omega⟩) (show 0≤b∧b≤10000 from ⟨by omega,by omega⟩) (by omega);have H8:0≤a*a*a∧a*a*a≤1000000000:=M.yE IC (show 0≤a∧a≤1000 from ⟨by omega,by omega⟩) (by omega);have H9:0≤8*b*b∧8*b*b≤800000000:=M.yE Jc (show 0≤b∧b≤10000 from ⟨by omega,by omega⟩) (by omega);have H_:0≤12*b*(a*a*a+8*b*b)∧12*b*(a*a*a+8*b*b)≤216000000000000:=M.yE Fy (show 0≤a*a*a+8*b*b∧a*a*a+8*b*b≤1800000000 from ⟨by omega,by omega⟩) (by omega);have Fz:0≤5*a*a*a∧5*a*a*a≤5000000000:=M.yE IV (show 0≤a∧a≤1000 from ⟨by omega,by omega⟩) (by omega);have Ei:0≤32*b∧32*b≤320000:=M.yE (show (0:Int)≤32∧(32:Int)≤32 from ⟨by omega,by omega⟩) (show 0≤b∧b≤10000 from ⟨by omega,by omega⟩) (by omega);have IA:0≤32*b*b∧32*b*b≤3200000000:=M.yE Ei (show 0≤b∧b≤10000 from ⟨by omega,by omega⟩) (by omega);have F0:0≤a*(5*a*a*a+32*b*b)∧a*(5*a*a*a+32*b*b)≤8200000000000:=M.yE (show 0≤a∧a≤1000 from ⟨by omega,by omega⟩) (show 0≤5*a*a*a+32*b*b∧5*a*a*a+32*b*b≤8200000000 from ⟨by omega,by omega⟩) (by omega);have F3:0≤2*b∧2*b≤20000:=M.yE (show (0:Int)≤2∧(2:Int)≤2 from ⟨by omega,by omega⟩) (show 0≤b∧b≤10000 from ⟨by omega,by omega⟩) (by omega);have F4:0≤13*a∧13*a≤13000:=M.yE (show (0:Int)≤13∧(13:Int)≤13 from ⟨by omega,by omega⟩) (show 0≤a∧a≤1000 from ⟨by omega,by omega⟩) (by omega);have Ej:0≤13*a*a∧13*a*a≤13000000:=M.yE F4 (show 0≤a∧a≤1000 from ⟨by omega,by omega⟩) (by omega);have F5:0≤13*a*a*a∧13*a*a*a≤13000000000:=M.yE Ej (show 0≤a∧a≤1000 from ⟨by omega,by omega⟩) (by omega);have Ek:0≤96*b∧96*b≤960000:=M.yE (show (0:Int)≤96∧(96:Int)≤96 from ⟨by omega,by omega⟩) (show 0≤b∧b≤10000 from ⟨by omega,by omega⟩) (by omega);have IB:0≤96*b*b∧96*b*b≤9600000000:=M.yE Ek (show 0≤b∧b≤10000 from ⟨by omega,by omega⟩) (by omega);have F6:0≤2*b*(13*a*a*a+96*b*b)∧2*b*(13*a*a*a+96*b*b)≤452000000000000:=M.yE F3 (show 0≤13*a*a*a+96*b*b∧13*a*a*a+96*b*b≤22600000000 from ⟨by omega,by omega⟩) (by omega);have ID:0≤3*a*a*(a*a*a+8*b*b)∧3*a*a*(a*a*a+8*b*b)≤5400000000000000:=M.yE Eh (show 0≤a*a*a+8*b*b∧a*a*a+8*b*b≤1800000000 from ⟨by omega,by omega⟩) (by omega);unfold M.hM M.hK;omega
theorem M.kA {a0 b0:Int} (hin:M.bM a0 b0=true):M.hC a0 b0≤60:=by
 have h:=M.nt hin;unfold M.hC Wh.bl;generalize max (M.hM a0.natAbs b0.natAbs) (M.hK a0.natAbs b0.natAbs (M.af a0 b0).natAbs)=X at *
 split
 ·omega
 rename_i h0
 have:=(Nat.log2_lt h0 (k:=59)).2 (by
                      have:(2:Nat) ^ 59=576460752303423488:=by decide
                      omega)
 omega
theorem gI (a0 b0:Int) (w:World) (hin:M.bM a0 b0=true) :
  Calls Tryz.prog 75 #[.agg #[.int .i64 a0,.int .i64 b0]] w fun e w'=>e=.returned (.int .i64 (M.hC a0 b0:Nat))∧Below w.heap.size w w':=by
 have hbd:=M.nt hin
 have PD:=fun W=>iJ a0 b0 W hin
 have hc:Hid (M.hC a0 b0=Wh.bl (max (M.hM a0.natAbs b0.natAbs) (M.hK a0.natAbs b0.natAbs (M.af a0 b0).natAbs)).toNat):=xL rfl;generalize M.hK a0.natAbs b0.natAbs (M.af a0 b0).natAbs=k,M.hM a0.natAbs b0.natAbs=m at *
 have hx:max m k=if m<k then k else m:=by split <;> omega
 have PL:=fun W=>Tryz.bits_Len (max m k) W (by omega) (by omega)
 rw [Wh.rH _ (by omega)] at PL;obtain ⟨x1,x2⟩:=hbd;replace PD:=xL PD;replace PL:=xL PL;replace hx:=xL hx;have B:=(xO w.heap.size w).alloc (xP _) (.cells #[.int .i64 a0,.int .i64 b0] 25);go_enter Tryz.func75,Tryz.ntmps75
 go_wp2_with (first
  | (go_at_call 127;(with_reducible refine (PD.out _).mono ?_);rintro e w4 ⟨rfl,hb4⟩;replace B:=d_ B hb4)
  | (go_at_call 128;(refine (PL.out _).mono ?_);rintro e w6 ⟨rfl,rfl⟩))
 go_ret;exact ⟨by rw [hc.out];rfl,B⟩
theorem k9 (a0 b0:Int) (w:World) (hin:M.bM a0 b0=true) :
  Calls Tryz.prog 80 #[.agg #[.int .i64 a0,.int .i64 b0]] w fun e w'=>e=.returned (.int .i64 (M.hC a0 b0:Nat))∧Below w.heap.size w w':=by
 have hbd:=M.nt hin;have hcb:=M.kA hin
 have PD:=fun W=>lE a0 b0 W hin
 have hc:Hid (M.hC a0 b0=Wh.bl (max (M.hM a0.natAbs b0.natAbs) (M.hK a0.natAbs b0.natAbs (M.af a0 b0).natAbs)).toNat):=xL rfl;rw [hc.out] at hcb;generalize M.hK a0.natAbs b0.natAbs (M.af a0 b0).natAbs=k,M.hM a0.natAbs b0.natAbs=m at *
 have PM:=fun W=>eN m k W
 generalize max m k=X at *;obtain ⟨x1,x2⟩:=hbd
 have hxn:X.natAbs=X.toNat:=by omega
 have PO:=fun W=>jN X W (by omega) (by omega)
 have PB:=fun v W k (h:aF W k v (Wh.a_ X.natAbs))=>jM X v W k h (Nat.le_trans (Wh.dK (k:=5) (by omega)) (by decide)) (by rw [hxn];omega)
 replace hxn:=xL hxn;generalize decide (X<0)=sX at *;replace PD:=xL PD;replace PM:=xL PM;replace PO:=xL PO;replace PB:=xL PB;clear hcb;have B:=(xO w.heap.size w).alloc (xP _) (.cells #[.int .i64 a0,.int .i64 b0] 25);go_enter Tryz.func80,Tryz.ntmps80
 go_wp2_with (first
  | (go_at_call 133;(with_reducible refine (PD.out _).mono ?_);rintro e w4 ⟨rfl,hb4⟩;replace B:=d_ B hb4)
  | (go_at_call 119;(with_reducible refine (PM.out _).mono ?_);rintro e w5 ⟨rfl,rfl⟩)
  | (go_at_call 135;(with_reducible refine (PO.out _).mono ?_);rintro e w6 ⟨v6,rfl,Fc,hb6⟩;have Ax:=(show aF _ _ _ _ from Fc);replace B:=d_ B hb6)
  | (go_at_call 134;(with_reducible refine (PB.out _ _ _ Ax).mono ?_);rintro e w8 ⟨rfl,xw⟩;replace B:=d_ B xw))
 go_ret;exact ⟨by rw [hc.out,←hxn.out];rfl,B⟩
def M.p4 (n:Nat):Int:=3*4 ^ n
theorem M.tr (n:Nat):M.p4 (n+1)=M.p4 n*4:=by unfold M.p4;rw [Int.pow_succ];omega
theorem M.pO:∀ n:Nat,n≤5→3≤M.p4 n∧M.p4 n≤3072:=by decide
theorem pw (n:Nat) (w:World) (hn:n≤5) :
  Calls Tryz.prog 81 #[.int .i64 (n:Int)] w fun e w'=>e=.returned (.int .i64 (M.p4 n))∧w=w':=by
 go_enter Tryz.func81,Tryz.ntmps81
 go_wp2
 go_loop [0,3] (fun i o=>∃ k:Nat,k≤n∧i=.int .i64 ((n - k:Nat):Int)∧o=.int .i64 (M.p4 k)) (fun i _=>(intOf i).toNat)
 case atStart=>exact ⟨0,Nat.zero_le _,rfl,rfl⟩
 case round=>
 obtain ⟨k,hk,rfl,rfl⟩:=hrel;have hb:=M.pO k (by omega);have hs:=xL (M.tr k)
 by_cases hlt:k<n
 ·obtain ⟨j,hj⟩:∃ j:Nat,n - k=j+1:=⟨n - k - 1,by omega⟩
  have hj2:=xL (show n - (k+1)=j by omega);rw [hj]
  have hjb:(j:Int)≤4:=by omega
  clear hj;go_wp2
  go_round
  case rel=>exact ⟨k+1,by omega,(by first | (rw [hj2.out];done) | (rw [hj2.out];go_num)),by rw [hs.out]⟩
  case measure=>simp [intOf] <;> omega
 obtain rfl:n=k:=by omega
 rw [Nat.sub_self];go_wp2;go_ret;exact ⟨rfl,rfl⟩
end
end Go.Proofs.YtggekfbfechonaaGreat
