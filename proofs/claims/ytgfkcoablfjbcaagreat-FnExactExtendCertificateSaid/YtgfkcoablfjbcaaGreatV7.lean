/-
  Joined texts: contracts and plain lemmas.
-/
import Derived.Test.YtgfkcoablfjbcaaGreatV1
import Derived.Test.YtgfkcoablfjbcaaGreatV6
set_option linter.unusedSimpArgs false
set_option linter.unusedVariables false
set_option maxRecDepth 100000
set_option maxHeartbeats 8000000
namespace Go.Proofs.YtgfkcoablfjbcaaGreat
section
open Go.RowKit
theorem aH.bi {W:World} {g k:Nat} {T:TypeId} {xs:Array Value} (h:aH W g T xs) (hk:g≠k) (x y:Value):aH ((W.setCell ⟨k,0,none⟩ x).setCell ⟨k,1,none⟩ y) g T xs:=(h.other hk x).other hk y
theorem dO {B:Nat} {w W:World} {k:Nat} (h:Below B w W) (hk:B≤k) (x y:Value):Below B w ((W.setCell ⟨k,0,none⟩ x).setCell ⟨k,1,none⟩ y):=(h.setCell hk x).setCell hk y
theorem aF.len {W:World} {base l c:Nat} {a:Option Addr} {xs:List Int} (h:aF W base (.slice a l c) xs):l=xs.length:=by
 obtain ⟨a',c',e,-,-⟩:=aF.view h;injection e
namespace Wh
theorem xn (D F G:Int):((BW D F G:Nat):Int) ∣ F:=Int.ofNat_dvd_left.2 (Nat.dvd_trans (Nat.gcd_dvd_left _ _) (Nat.gcd_dvd_right _ _))
theorem xo (D F G:Int):((BW D F G:Nat):Int) ∣ G:=Int.ofNat_dvd_left.2 (Nat.gcd_dvd_right _ _)
end Wh
theorem po (a b x z:Int) (vx vz:Value) (w:World) (bx bz:Nat) (hg:M.good a b=true) (hox:ag w bx vx x) (zO:ag w bz vz z) (hx:Wh.sz x 1000) (hz:Wh.sz z 1000) :
  Calls Tryz.prog 144 #[.agg #[.int .i64 a,.int .i64 b],.agg #[.bool (decide (x<0)),vx,.bool (decide (z<0)),vz]] w fun e w'=>∃ v1 v2,e=.returned (.tuple #[.agg #[.bool (decide (Wh.BU (M.bC a b) (Wh.bR a b x z) (Wh.bJ a b x z)<0)),v1,.bool (decide (Wh.BV (M.bC a b) (Wh.bR a b x z) (Wh.bJ a b x z)<0)),v2],.bool (Wh.dt (M.bC a b) (Wh.bR a b x z) (Wh.bJ a b x z))])∧ag w' w.heap.size v1 (Wh.BU (M.bC a b) (Wh.bR a b x z) (Wh.bJ a b x z))∧ag w' w.heap.size v2 (Wh.BV (M.bC a b) (Wh.bR a b x z) (Wh.bJ a b x z))∧Below w.heap.size w w':=by
 obtain ⟨ax,cx,rfl,-,-⟩:=aF.view hox;obtain ⟨az,cz,rfl,-,-⟩:=aF.view zO;have hin:=M.bM hg;obtain ⟨ha1,ha2,hb1,hb2⟩:=M.an hin;have hdn:=fR hg;have hdb:=eM hin
 have PF:=fun v v' W k k' (h1:aF W k v (Wh.d_ x.natAbs)) (h2:aF W k' v' (Wh.d_ z.natAbs))=>wC a b x z v v' W k k' h1 h2 hx hz ha1 ha2 hb1 hb2
 have PG:=fun v v' W k k' (h1:aF W k v (Wh.d_ x.natAbs)) (h2:aF W k' v' (Wh.d_ z.natAbs))=>kk a b x z v v' W k k' h1 h2 hx hz ha1 ha2 hb1 hb2
 have zF:=Wh.mr hx hz ha1 ha2 hb1 hb2;have zG:=Wh.mj hx hz ha1 ha2 hb1 hb2;have hdv:=Wh.tI (Wh.bR a b x z) (Wh.bJ a b x z) hdn;have hdF:=Wh.xn (M.bC a b) (Wh.bR a b x z) (Wh.bJ a b x z);have Me:=Wh.xo (M.bC a b) (Wh.bR a b x z) (Wh.bJ a b x z);generalize Wh.bJ a b x z=G,Wh.bR a b x z=F at *;have sF:=Wh.aV.2 (Wh.aP zF (show 5000≤9000 by omega));have sG:=Wh.aV.2 (Wh.aP zG (show 6000≤9000 by omega));have zF':=Wh.ik zF;have zG':=Wh.ik zG;have Nm:=Wh.aV.2 (Wh.aP zF' (show 5000≤9000 by omega));have Nn:=Wh.aV.2 (Wh.aP zG' (show 6000≤9000 by omega))
 have PM:=fun v W k (h:aF W k v (Wh.d_ F.natAbs))=>iN F v W k h (by omega)
 have PN:=fun v W k (h:aF W k v (Wh.d_ G.natAbs))=>iN G v W k h (by omega)
 have BN:=fun v v' W k k' (h1:aF W k v (Wh.d_ F.natAbs)) (h2:aF W k' v' (Wh.d_ G.natAbs))=>i9 a b F G v v' W k k' hg h1 h2 sF sG
 have DC:=fun v v' W k k' (h1:aF W k v (Wh.d_ (-F).natAbs)) (h2:aF W k' v' (Wh.d_ (-G).natAbs))=>i9 a b (-F) (-G) v v' W k k' hg h1 h2 Nm Nn
 simp only [Wh.uu] at BN DC;rw [Wh.ut] at DC;generalize M.bC a b=D at *;clear hin hg ha1 ha2 hb1 hb2 hdn hx hz
 obtain ⟨d,hd⟩:∃ d,Hid (Wh.BW D F G=d):=⟨_,yJ rfl⟩
 rw [hd.out] at hdv BN DC hdF Me;have hd1:1≤d:=hdv.1
 have hd2:d≤1000000000000:=by omega
 clear hdv hdb;have zN:=Wh.ml zF d;have zE:=Wh.ml zG d;have zN':=Wh.ik zN;have zE':=Wh.ik zE;have sN:=Wh.aV.2 (Wh.aP zN (show 5000+1≤9000 by omega));have sE:=Wh.aV.2 (Wh.aP zE (show 6000+1≤9000 by omega));have sN':=Wh.aV.2 (Wh.aP zN' (show 5000+1≤9000 by omega));have sE':=Wh.aV.2 (Wh.aP zE' (show 6000+1≤9000 by omega))
 have DZ:=fun v W k (h:aF W k v (Wh.d_ F.natAbs))=>eK F (d:Int) v W k h sF (by omega) (by omega)
 have DS:=fun v W k (h:aF W k v (Wh.d_ G.natAbs))=>eK G (d:Int) v W k h sG (by omega) (by omega)
 have Da:=fun v W k (h:aF W k v (Wh.d_ (-F).natAbs))=>eK (-F) (d:Int) v W k h Nm (by omega) (by omega)
 have Db:=fun v W k (h:aF W k v (Wh.d_ (-G).natAbs))=>eK (-G) (d:Int) v W k h Nn (by omega) (by omega)
 rw [Int.neg_ediv_of_dvd hdF] at Da;rw [Int.neg_ediv_of_dvd Me] at Db
 have Be:=fun v v' W k k' (h:aF W k v (Wh.d_ (F / (d:Int)).natAbs)) (h':aF W k' v' (Wh.d_ (G / (d:Int)).natAbs))=>ow (F / (d:Int)) (G / (d:Int)) v v' W k k' h h' (by omega) (by omega)
 have CX:=fun v v' W k k' (h:aF W k v (Wh.d_ (-(F / (d:Int))).natAbs)) (h':aF W k' v' (Wh.d_ (-(G / (d:Int))).natAbs))=>ow (-(F / (d:Int))) (-(G / (d:Int))) v v' W k k' h h' (by omega) (by omega)
 clear hdF Me sF sG Nm Nn zF zG zF' zG' zN zE zN' zE' sN sE sN' sE'
 have FK:G≠0→Wh.dt D F G=Wh.cY (if G<0 then -(F / (d:Int)) else F / (d:Int)) (if G<0 then -(G / (d:Int)) else G / (d:Int)):=fun hne=>by unfold Wh.dt Wh.DV Wh.DU;rw [hd.out,decide_eq_true hne];rfl
 have eX:Wh.BU D F G=if Wh.dt D F G=true then (if G<0 then -(F / (d:Int)) else F / (d:Int)) else 0:=by unfold Wh.BU Wh.DV;rw [hd.out]
 have eZ:Wh.BV D F G=if Wh.dt D F G=true then (if G<0 then -(G / (d:Int)) else G / (d:Int)) else 0:=by unfold Wh.BV Wh.DU;rw [hd.out]
 have CF:=Wh.qF (z:=G) hd1;generalize hs1:decide (x<0)=s1 at *;generalize hs2:decide (z<0)=s2 at *;clear hs1 hs2;replace hox:=yJ (show aF _ _ _ _ from hox);replace zO:=yJ (show aF _ _ _ _ from zO);generalize (Wh.d_ z.natAbs).length=lz,(Wh.d_ x.natAbs).length=lx at *;have C:=((aH.new w #[.int .i64 a,.int .i64 b] 29).alloc (.cells #[.bool s1,.slice ax lx cx,.bool s2,.slice az lz cz] 157)).alloc (.cells #[.bool false,.slice none 0 0,.bool false,.slice none 0 0] 157);have Q:=(aH.new (w.alloc (.cells #[.int .i64 a,.int .i64 b] 29)) #[.bool s1,.slice ax lx cx,.bool s2,.slice az lz cz] 157).alloc (.cells #[.bool false,.slice none 0 0,.bool false,.slice none 0 0] 157);rw [yK] at Q;have R:=aH.new ((w.alloc (.cells #[.int .i64 a,.int .i64 b] 29)).alloc (.cells #[.bool s1,.slice ax lx cx,.bool s2,.slice az lz cz] 157)) #[.bool false,.slice none 0 0,.bool false,.slice none 0 0] 157;rw [cU] at R;have B:=(((yM w.heap.size w).alloc (yN _) (.cells #[.int .i64 a,.int .i64 b] 29)).alloc (by rw [yK];omega) (.cells #[.bool s1,.slice ax lx cx,.bool s2,.slice az lz cz] 157)).alloc (by rw [cU];omega) (.cells #[.bool false,.slice none 0 0,.bool false,.slice none 0 0] 157);have ox:=yJ (aF.alloc (aF.alloc (aF.alloc hox.out (.cells #[.int .i64 a,.int .i64 b] 29)) (.cells #[.bool s1,.slice ax lx cx,.bool s2,.slice az lz cz] 157)) (.cells #[.bool false,.slice none 0 0,.bool false,.slice none 0 0] 157));have oz:=yJ (aF.alloc (aF.alloc (aF.alloc zO.out (.cells #[.int .i64 a,.int .i64 b] 29)) (.cells #[.bool s1,.slice ax lx cx,.bool s2,.slice az lz cz] 157)) (.cells #[.bool false,.slice none 0 0,.bool false,.slice none 0 0] 157))
 have DK:w.heap.size+3≤(((w.alloc (.cells #[.int .i64 a,.int .i64 b] 29)).alloc (.cells #[.bool s1,.slice ax lx cx,.bool s2,.slice az lz cz] 157)).alloc (.cells #[.bool false,.slice none 0 0,.bool false,.slice none 0 0] 157)).heap.size:=by rw [yK,cU];omega
 clear hox zO;generalize hw3:((w.alloc (.cells #[.int .i64 a,.int .i64 b] 29)).alloc (.cells #[.bool s1,.slice ax lx cx,.bool s2,.slice az lz cz] 157)).alloc (.cells #[.bool false,.slice none 0 0,.bool false,.slice none 0 0] 157)=wc at *;replace PF:=yJ PF;replace PG:=yJ PG;replace PM:=yJ PM;replace PN:=yJ PN;replace BN:=yJ BN;replace DC:=yJ DC;replace DZ:=yJ DZ;replace Da:=yJ Da;replace DS:=yJ DS;replace Db:=yJ Db;replace Be:=yJ Be;replace CX:=yJ CX;replace FK:=yJ FK;replace eX:=yJ eX;replace eZ:=yJ eZ;replace CF:=yJ CF;clear hd1 hd2;go_enter Tryz.func144,Tryz.ntmps144
 go_wp2
 go_upto_region 1 with fail
 refine Rg.bK 8 [.is (.agg #[.int .i64 a,.int .i64 b]),.is (.agg #[.bool s1,.slice ax lx cx,.bool s2,.slice az lz cz]),.at (aJ (wc.heap.size) (F)),.is (.agg #[.int .i64 a,.int .i64 b]),.is (.agg #[.bool s1,.slice ax lx cx,.bool s2,.slice az lz cz]),.at (aJ (wc.heap.size) (G)),.new (wc.heap.size) 136 #[.bool false,.slice none 0 0],.new (wc.heap.size) 136 #[.bool false,.slice none 0 0]] (by kernel_rfl) (by kernel_rfl) (by kernel_rfl) ⟨?_,?_,?_,?_,?_,?_,?_,?_,fun h_=>absurd h_ (by decide),fun h_=>absurd h_ (by decide),trivial⟩ ?_
 ·intro _ zZ w_ hB hr
  have e2:zZ.tmps[2]?=some (.pointer (some ⟨w.heap.size,0,none⟩)):=hr 2 (by decide);have k0:=aE hB C.box.c0;have k1:=aE hB C.box.c1;exact Rg.aG rfl (by go_simp)
 ·intro _ zZ w_ hB hr
  have e3:zZ.tmps[3]?=some (.pointer (some ⟨w.heap.size+1,0,none⟩)):=hr 3 (by decide);have k0:=aE hB Q.aM.c0;have k1:=aE hB Q.aM.c1;have k2:=aE hB Q.aM.c2;have k3:=aE hB Q.aM.c3;exact Rg.aG rfl (by go_simp)
 ·intro _ zZ w_ hB hr
  have e14:=Rg.a_ (hr 14 (by decide));have e15:=Rg.a_ (hr 15 (by decide));have ef:=Rg.ef zZ;refine Rg.aY rfl (by go_simp;exact ⟨rfl,rfl⟩) ?_;refine (PF.out _ _ _ _ _ (aF.below ox.out hB) (aF.below oz.out hB)).mono ?_;rintro e w5 ⟨zD,rfl,yV,hb5⟩;exact ⟨_,rfl,aJ.at yV (by have:=hB.size;omega),hb5⟩
 ·intro _ zZ w_ hB hr
  have e2:zZ.tmps[2]?=some (.pointer (some ⟨w.heap.size,0,none⟩)):=hr 2 (by decide);have k0:=aE hB C.box.c0;have k1:=aE hB C.box.c1;exact Rg.aG rfl (by go_simp)
 ·intro _ zZ w_ hB hr
  have e3:zZ.tmps[3]?=some (.pointer (some ⟨w.heap.size+1,0,none⟩)):=hr 3 (by decide);have k0:=aE hB Q.aM.c0;have k1:=aE hB Q.aM.c1;have k2:=aE hB Q.aM.c2;have k3:=aE hB Q.aM.c3;exact Rg.aG rfl (by go_simp)
 ·intro _ zZ w_ hB hr
  have e17:=Rg.a_ (hr 17 (by decide));have e18:=Rg.a_ (hr 18 (by decide));have ef:=Rg.ef zZ;refine Rg.aY rfl (by go_simp;exact ⟨rfl,rfl⟩) ?_;refine (PG.out _ _ _ _ _ (aF.below ox.out hB) (aF.below oz.out hB)).mono ?_;rintro e w5 ⟨zD,rfl,yV,hb5⟩;exact ⟨_,rfl,aJ.at yV (by have:=hB.size;omega),hb5⟩
 ·intro _ zZ w_ hB hr
  exact ⟨by have:=hB.size;omega,rfl,by first | (go_simp;done) | (go_simp;rfl)⟩
 ·intro _ zZ w_ hB hr
  exact ⟨by have:=hB.size;omega,rfl,by first | (go_simp;done) | (go_simp;rfl)⟩
 intro vals wz hB hv hne;have n6:(Rg.Val.new (wc.heap.size) 136 #[.bool false,.slice none 0 0]).ok (vals 6) wz:=hv 6 (by decide);have n7:(Rg.Val.new (wc.heap.size) 136 #[.bool false,.slice none 0 0]).ok (vals 7) wz:=hv 7 (by decide);have n16:(Rg.Val.at (aJ (wc.heap.size) (F))).ok (vals 2) wz:=hv 2 (by decide);have n19:(Rg.Val.at (aJ (wc.heap.size) (G))).ok (vals 5) wz:=hv 5 (by decide);simp only [Rg.ak,Rg.fill,Act.put,Nat.reduceAdd];clear hv;have Gp:=hne 6 7 (by decide) (by decide) (by decide) rfl rfl;obtain ⟨g6,GD,Cz,o6⟩:=n6;replace o6:aH wz g6 136 #[.bool false,.slice none 0 0]:=o6;obtain ⟨g7,Et,BS,o7⟩:=n7;replace o7:aH wz g7 136 #[.bool false,.slice none 0 0]:=o7;obtain ⟨s16,a16,Cv,c16,BP,v_2,o16⟩:=(Rg.af n16).view;obtain ⟨DM,De,DA,c19,BQ,DW,HF⟩:=(Rg.af n19).view;rw [Cz,BS] at Gp
 have Dh:g6≠g7:=fun e=>Gp (by rw [e])
 simp only [Cz,BS,v_2,DW];clear Cz BS v_2 DW;have El:=Dh.symm
 have Mh:w.heap.size+3≤g6:=by omega
 have Mi:w.heap.size+3≤g7:=by omega
 have GI:w.heap.size≤g6:=by omega
 have ID:w.heap.size≤g7:=by omega
 have hc6:w.heap.size≠g6:=by omega
 have JT:w.heap.size≠g7:=by omega
 have JX:w.heap.size+1+1≠g6:=by omega
 have JY:w.heap.size+1+1≠g7:=by omega
 have V3:aH ((wz.setCell ⟨g6,0,none⟩ (.bool s16)).setCell ⟨g6,1,none⟩ (.slice a16 Cv c16)) g7 136 #[.bool false,.slice none 0 0]:=(o7.other El _).other El _;have V:=aH.set2 V3 (.bool DM) (.slice De DA c19);have U:aH ((((wz.setCell ⟨g6,0,none⟩ (.bool s16)).setCell ⟨g6,1,none⟩ (.slice a16 Cv c16)).setCell ⟨g7,0,none⟩ (.bool DM)).setCell ⟨g7,1,none⟩ (.slice De DA c19)) g6 136 #[.bool s16,.slice a16 Cv c16]:=((aH.set2 o6 (.bool s16) (.slice a16 Cv c16)).other Dh _).other Dh _;have oF:=yJ (aF.base (aF.bF (aF.bF o16 o6 (by decide) (.bool s16) (.slice a16 Cv c16)) V3 (by decide) (.bool DM) (.slice De DA c19)) B.size);have oG:=yJ (aF.base (aF.bF (aF.bF HF o6 (by decide) (.bool s16) (.slice a16 Cv c16)) V3 (by decide) (.bool DM) (.slice De DA c19)) B.size);replace C:=((C.keep hB).bi hc6 (.bool s16) (.slice a16 Cv c16)).bi JT (.bool DM) (.slice De DA c19);replace R:=((R.keep hB).bi JX (.bool s16) (.slice a16 Cv c16)).bi JY (.bool DM) (.slice De DA c19);replace B:Below w.heap.size w ((((wz.setCell ⟨g6,0,none⟩ (.bool s16)).setCell ⟨g6,1,none⟩ (.slice a16 Cv c16)).setCell ⟨g7,0,none⟩ (.bool DM)).setCell ⟨g7,1,none⟩ (.slice De DA c19)):=yL (yL (yL (yL (i_ B hB) GI _) GI _) ID _) ID _;have ⟨p0,p1,q0,q1,_⟩:=o6.box;have ⟨p2,p3,q2,q3,_⟩:=o7.box;unfold Rg.aW Rg.aW Rg.aW Oper.wp
 go_simp
 clear p0 p1 q0 q1 p2 p3 q2 q3 V3 o6 o7 o16 HF hB Gp Q ox oz DK GD Et Mh Mi;generalize ((((wz.setCell ⟨g6,0,none⟩ (.bool s16)).setCell ⟨g6,1,none⟩ (.slice a16 Cv c16)).setCell ⟨g7,0,none⟩ (.bool DM)).setCell ⟨g7,1,none⟩ (.slice De DA c19))=wd at *;have j_:=C.box.c0;have o_:=C.box.c1;have yd:=U.box.c0;have ye:=U.box.c1;have yf:=V.box.c0;have yg:=V.box.c1;have zp:=U.box.f0;have zu:=U.box.f1;have zv:=V.box.f0;have zw:=V.box.f1;have r_:=R.aM.c0;have x_:=R.aM.f0;have s_:=R.aM.c1;have yO:=R.aM.f1;have yQ:=R.aM.c2;have yS:=R.aM.f2;have yR:=R.aM.c3;have yT:=R.aM.f3;have Dw:=BP;have Dy:=BQ;have Eu:=aF.len oG.out
 by_cases h0:G=0
 ·have hl:DA=0:=by rw [Eu,h0];exact Wh.fA.2 rfl
  have hok:Wh.dt D F G=false:=by unfold Wh.dt;rw [h0];simp
  have hX:=eX.out;have hZ:=eZ.out;rw [hok,if_neg (by decide)] at hX hZ;replace hX:=yJ hX;replace hZ:=yJ hZ;replace hok:=yJ hok;clear Eu h0 hd eX eZ FK PF PG PM PN BN DC DZ Da DS Db Be CX CF BP BQ Dw Dy hc6 JT JX JY GI ID;subst hl;go_wp2;exact bodyPost_ret (v:=.tuple #[.agg #[.bool false,.slice none 0 0,.bool false,.slice none 0 0],.bool false]) (by simp [results,Tryz.results144,go_sem, *]) rfl (⟨_,_,(by rw [hX.out,hZ.out,hok.out];rfl),(by rw [hX.out];exact fb _ _),(by rw [hZ.out];exact fb _ _),yL (yL (yL (yL B (by simp <;> omega) _) (by simp <;> omega) _) (by simp <;> omega) _) (by simp <;> omega) _⟩)
 have hlp:¬ DA=0:=fun h=>h0 (Wh.fA.1 (by rw [←Eu];exact h))
 have hlq:((DA:Int) == 0)=false:=by rw [beq_eq_false_iff_ne];omega
 have hX:=eX.out;have hZ:=eZ.out;have hO:=FK.out h0;rw [hO] at hX hZ;clear Eu h0 eX eZ FK PF PG;replace hd:=yJ hd
 by_cases hneg:G<0
 ·have hsg:decide (G<0)=true:=decide_eq_true hneg
  rw [if_pos hneg,if_pos hneg] at hX hZ hO
  obtain rfl:DM=true:=by rw [BQ.out];exact hsg
  have Cr:=CF.out;rw [hsg] at Cr;clear CF BQ Dy Dw;replace PM:=PM.out;rw [←BP.out] at PM;replace PM:=yJ PM;replace PN:=PN.out;rw [hsg] at PN;replace PN:=yJ PN;clear BN DZ DS Be;replace DC:=DC.out;replace Da:=Da.out;replace Db:=Db.out;replace CX:=CX.out;replace PN:=PN.out;replace PM:=PM.out;generalize hs5:decide (-F<0)=s5 at *;generalize hs6:decide (-G<0)=s6 at *;generalize -F % (d:Int)=rF at *;generalize -G % (d:Int)=rG at *;generalize hN:-(F / (d:Int))=N at *;generalize hE:-(G / (d:Int))=E at *;clear hN;clear hE;generalize CO:decide (N<0)=sN at *;generalize FP:decide (E<0)=sE at *;replace DC:=yJ DC;replace Da:=yJ Da;replace Db:=yJ Db;replace CX:=yJ CX;replace PM:=yJ PM;replace PN:=yJ PN;replace CO:=yJ CO;replace FP:=yJ FP;clear Cr hs5 hs6;clear hneg hsg hd
  by_cases hok:Wh.cY N E=true
  ·skip
   rw [hok] at hX hZ hO;rw [if_pos rfl] at hX hZ;have hq:=hok;replace hok:=yJ hO;replace hq:=yJ hq;replace hX:=yJ hX;replace hZ:=yJ hZ;clear hO
   go_wp2_with (first
    | (go_at_call 159;(with_reducible refine (PM.out _ _ _ oF.out).mono ?_);rintro e w4 ⟨v4,rfl,yk,hb4⟩;have yo:=B.size;replace C:=C.keep hb4;replace R:=R.keep hb4;replace U:=U.keep hb4;replace V:=V.keep hb4;replace oF:=kO oF hb4;replace oG:=kO oG hb4;replace B:=i_ B hb4;obtain ⟨a4,c4,rfl,yj,yi⟩:=aF.view yk;clear yj yi;have zy:=yJ (aF.base (show aF _ _ _ _ from yk) yo);clear yk;(generalize (Wh.d_ (-F).natAbs).length=l4 at *);clear yo;have It:=U.box.c0;have Iu:=U.box.c1;have Iv:=U.box.f0;have Iw:=U.box.f1;replace oF:=sO oF U (by decide) (.bool s5) (.slice a4 l4 c4);replace oG:=sO oG U (by decide) (.bool s5) (.slice a4 l4 c4);replace zy:=sO zy U (by decide) (.bool s5) (.slice a4 l4 c4);replace C:=C.bi hc6 (.bool s5) (.slice a4 l4 c4);replace R:=R.bi JX (.bool s5) (.slice a4 l4 c4);replace V:=V.bi El (.bool s5) (.slice a4 l4 c4);replace U:=aH.set2 U (.bool s5) (.slice a4 l4 c4);replace B:=dO B GI (.bool s5) (.slice a4 l4 c4);(replace ⟨j_,o_⟩:=C.b2);(replace ⟨r_,s_,yQ,yR,x_,yO,yS,yT⟩:=R.ym);(replace ⟨yd,ye,zp,zu⟩:=U.zY);(replace ⟨yf,yg,zv,zw⟩:=V.zY))
    | (go_at_call 159;(with_reducible refine (PN.out _ _ _ oG.out).mono ?_);rintro e w5 ⟨v5,rfl,yV,hb5⟩;have yo:=B.size;replace C:=C.keep hb5;replace R:=R.keep hb5;replace U:=U.keep hb5;replace V:=V.keep hb5;replace oF:=kO oF hb5;replace oG:=kO oG hb5;replace zy:=kO zy hb5;replace B:=i_ B hb5;obtain ⟨a5,c5,rfl,yj,yi⟩:=aF.view yV;clear yj yi;have AH:=yJ (aF.base (show aF _ _ _ _ from yV) yo);clear yV;(generalize (Wh.d_ (-G).natAbs).length=l5 at *);clear yo;have Ix:=V.box.c0;have Iy:=V.box.c1;have Iz:=V.box.f0;have I0:=V.box.f1;replace oF:=sO oF V (by decide) (.bool s6) (.slice a5 l5 c5);replace oG:=sO oG V (by decide) (.bool s6) (.slice a5 l5 c5);replace zy:=sO zy V (by decide) (.bool s6) (.slice a5 l5 c5);replace AH:=sO AH V (by decide) (.bool s6) (.slice a5 l5 c5);replace C:=C.bi JT (.bool s6) (.slice a5 l5 c5);replace R:=R.bi JY (.bool s6) (.slice a5 l5 c5);replace U:=U.bi Dh (.bool s6) (.slice a5 l5 c5);replace V:=aH.set2 V (.bool s6) (.slice a5 l5 c5);replace B:=dO B ID (.bool s6) (.slice a5 l5 c5);(replace ⟨j_,o_⟩:=C.b2);(replace ⟨r_,s_,yQ,yR,x_,yO,yS,yT⟩:=R.ym);(replace ⟨yd,ye,zp,zu⟩:=U.zY);(replace ⟨yf,yg,zv,zw⟩:=V.zY))
    | (go_at_call 160;(with_reducible refine (DC.out _ _ _ _ _ zy.out AH.out).mono ?_);rintro e w6 ⟨rfl,hb6⟩;replace C:=C.keep hb6;replace R:=R.keep hb6;replace U:=U.keep hb6;replace V:=V.keep hb6;replace oF:=kO oF hb6;replace oG:=kO oG hb6;replace zy:=kO zy hb6;replace AH:=kO AH hb6;replace B:=i_ B hb6;(replace ⟨j_,o_⟩:=C.b2);(replace ⟨r_,s_,yQ,yR,x_,yO,yS,yT⟩:=R.ym);(replace ⟨yd,ye,zp,zu⟩:=U.zY);(replace ⟨yf,yg,zv,zw⟩:=V.zY))
    | (go_at_call 161;(with_reducible refine (Da.out _ _ _ zy.out).mono ?_);rintro e w8 ⟨v8,rfl,AC,ya⟩;have yo:=B.size;replace C:=C.keep ya;replace R:=R.keep ya;replace U:=U.keep ya;replace V:=V.keep ya;replace oF:=kO oF ya;replace oG:=kO oG ya;replace zy:=kO zy ya;replace AH:=kO AH ya;replace B:=i_ B ya;obtain ⟨a8,c8,rfl,yj,yi⟩:=aF.view AC;clear yj yi;have on:=yJ (aF.base (show aF _ _ _ _ from AC) yo);clear AC;(generalize (Wh.d_ N.natAbs).length=ln at *);clear yo;have N_:=aH.new w8 #[.bool sN,.slice a8 ln c8] 136;have b_:=bA w8 (.cells #[.bool sN,.slice a8 ln c8] 136);replace C:=C.keep b_;replace R:=R.keep b_;replace U:=U.keep b_;replace V:=V.keep b_;replace oF:=kO oF b_;replace oG:=kO oG b_;replace zy:=kO zy b_;replace AH:=kO AH b_;replace on:=kO on b_;replace B:=i_ B b_;clear b_;(replace ⟨j_,o_⟩:=C.b2);(replace ⟨r_,s_,yQ,yR,x_,yO,yS,yT⟩:=R.ym);(replace ⟨yd,ye,zp,zu⟩:=U.zY);(replace ⟨yf,yg,zv,zw⟩:=V.zY);(replace ⟨AK,AM⟩:=N_.b2))
    | (go_at_call 161;(with_reducible refine (Db.out _ _ _ AH.out).mono ?_);rintro e w9 ⟨v9,rfl,Ac,yc⟩;have yo:=B.size;replace C:=C.keep yc;replace R:=R.keep yc;replace U:=U.keep yc;replace V:=V.keep yc;replace N_:=N_.keep yc;replace oF:=kO oF yc;replace oG:=kO oG yc;replace zy:=kO zy yc;replace AH:=kO AH yc;replace on:=kO on yc;replace B:=i_ B yc;obtain ⟨a9,c9,rfl,yj,yi⟩:=aF.view Ac;clear yj yi;have oe:=yJ (aF.base (show aF _ _ _ _ from Ac) yo);clear Ac;(generalize (Wh.d_ E.natAbs).length=le at *);clear yo;have E_:=aH.new w9 #[.bool sE,.slice a9 le c9] 136;have b_:=bA w9 (.cells #[.bool sE,.slice a9 le c9] 136);replace C:=C.keep b_;replace R:=R.keep b_;replace U:=U.keep b_;replace V:=V.keep b_;replace N_:=N_.keep b_;replace oF:=kO oF b_;replace oG:=kO oG b_;replace zy:=kO zy b_;replace AH:=kO AH b_;replace on:=kO on b_;replace oe:=kO oe b_;replace B:=i_ B b_;clear b_;(replace ⟨j_,o_⟩:=C.b2);(replace ⟨r_,s_,yQ,yR,x_,yO,yS,yT⟩:=R.ym);(replace ⟨yd,ye,zp,zu⟩:=U.zY);(replace ⟨yf,yg,zv,zw⟩:=V.zY);(replace ⟨AK,AM⟩:=N_.b2);(replace ⟨Ax,Ay⟩:=E_.b2);have O:=aH.new (w9.alloc (.cells #[.bool sE,.slice a9 le c9] 136)) #[.bool sN,.slice a8 ln c8,.bool sE,.slice a9 le c9] 157;have b_:=bA (w9.alloc (.cells #[.bool sE,.slice a9 le c9] 136)) (.cells #[.bool sN,.slice a8 ln c8,.bool sE,.slice a9 le c9] 157);replace C:=C.keep b_;replace R:=R.keep b_;replace U:=U.keep b_;replace V:=V.keep b_;replace N_:=N_.keep b_;replace E_:=E_.keep b_;replace oF:=kO oF b_;replace oG:=kO oG b_;replace zy:=kO zy b_;replace AH:=kO AH b_;replace on:=kO on b_;replace oe:=kO oe b_;replace B:=i_ B b_;clear b_;(rw [yK] at O))
    | (go_at_call 162;(with_reducible refine (CX.out _ _ _ _ _ on.out oe.out).mono ?_);rintro e EU ⟨rfl,yP⟩;(simp only [hq.out]);replace C:=C.keep yP;replace R:=R.keep yP;replace U:=U.keep yP;replace V:=V.keep yP;replace N_:=N_.keep yP;replace E_:=E_.keep yP;replace O:=O.keep yP;replace oF:=kO oF yP;replace oG:=kO oG yP;replace zy:=kO zy yP;replace AH:=kO AH yP;replace on:=kO on yP;replace oe:=kO oe yP;replace B:=i_ B yP;(replace ⟨j_,o_⟩:=C.b2);(replace ⟨r_,s_,yQ,yR,x_,yO,yS,yT⟩:=R.ym);(replace ⟨yd,ye⟩:=U.b2);(replace ⟨yf,yg⟩:=V.b2);(replace ⟨AK,AM⟩:=N_.b2);(replace ⟨Ax,Ay⟩:=E_.b2);(replace ⟨AY,AZ,Aa,Ab⟩:=O.b4)))
   have hr1:=aF.base (aF.dM on.out R (by decide) (.bool sN) (.slice a8 ln c8) (.bool sE) (.slice a9 le c9)) (base':=w.heap.size) (yN _);have hr2:=aF.base (aF.dM oe.out R (by decide) (.bool sN) (.slice a8 ln c8) (.bool sE) (.slice a9 le c9)) (base':=w.heap.size) (yN _);exact bodyPost_ret (v:=.tuple #[.agg #[.bool sN,.slice a8 ln c8,.bool sE,.slice a9 le c9],.bool true]) (by simp [results,Tryz.results144,go_sem, *]) rfl (⟨_,_,(by rw [hX.out,hZ.out,hok.out,CO.out,FP.out]),(by rw [hX.out];exact hr1),(by rw [hZ.out];exact hr2),yL (yL (yL (yL B (by simp <;> omega) _) (by simp <;> omega) _) (by simp <;> omega) _) (by simp <;> omega) _⟩)
  replace hok:Wh.cY N E=false:=by simpa using hok
  rw [hok] at hX hZ hO;rw [if_neg (by decide)] at hX hZ;have hq:=hok;replace hok:=yJ hO;replace hq:=yJ hq;replace hX:=yJ hX;replace hZ:=yJ hZ;clear hO
  go_wp2_with (first
   | (go_at_call 159;(with_reducible refine (PM.out _ _ _ oF.out).mono ?_);rintro e w4 ⟨v4,rfl,yk,hb4⟩;have yo:=B.size;replace C:=C.keep hb4;replace R:=R.keep hb4;replace U:=U.keep hb4;replace V:=V.keep hb4;replace oF:=kO oF hb4;replace oG:=kO oG hb4;replace B:=i_ B hb4;obtain ⟨a4,c4,rfl,yj,yi⟩:=aF.view yk;clear yj yi;have zy:=yJ (aF.base (show aF _ _ _ _ from yk) yo);clear yk;(generalize (Wh.d_ (-F).natAbs).length=l4 at *);clear yo;have It:=U.box.c0;have Iu:=U.box.c1;have Iv:=U.box.f0;have Iw:=U.box.f1;replace oF:=sO oF U (by decide) (.bool s5) (.slice a4 l4 c4);replace oG:=sO oG U (by decide) (.bool s5) (.slice a4 l4 c4);replace zy:=sO zy U (by decide) (.bool s5) (.slice a4 l4 c4);replace C:=C.bi hc6 (.bool s5) (.slice a4 l4 c4);replace R:=R.bi JX (.bool s5) (.slice a4 l4 c4);replace V:=V.bi El (.bool s5) (.slice a4 l4 c4);replace U:=aH.set2 U (.bool s5) (.slice a4 l4 c4);replace B:=dO B GI (.bool s5) (.slice a4 l4 c4);(replace ⟨j_,o_⟩:=C.b2);(replace ⟨r_,s_,yQ,yR,x_,yO,yS,yT⟩:=R.ym);(replace ⟨yd,ye,zp,zu⟩:=U.zY);(replace ⟨yf,yg,zv,zw⟩:=V.zY))
   | (go_at_call 159;(with_reducible refine (PN.out _ _ _ oG.out).mono ?_);rintro e w5 ⟨v5,rfl,yV,hb5⟩;have yo:=B.size;replace C:=C.keep hb5;replace R:=R.keep hb5;replace U:=U.keep hb5;replace V:=V.keep hb5;replace oF:=kO oF hb5;replace oG:=kO oG hb5;replace zy:=kO zy hb5;replace B:=i_ B hb5;obtain ⟨a5,c5,rfl,yj,yi⟩:=aF.view yV;clear yj yi;have AH:=yJ (aF.base (show aF _ _ _ _ from yV) yo);clear yV;(generalize (Wh.d_ (-G).natAbs).length=l5 at *);clear yo;have Ix:=V.box.c0;have Iy:=V.box.c1;have Iz:=V.box.f0;have I0:=V.box.f1;replace oF:=sO oF V (by decide) (.bool s6) (.slice a5 l5 c5);replace oG:=sO oG V (by decide) (.bool s6) (.slice a5 l5 c5);replace zy:=sO zy V (by decide) (.bool s6) (.slice a5 l5 c5);replace AH:=sO AH V (by decide) (.bool s6) (.slice a5 l5 c5);replace C:=C.bi JT (.bool s6) (.slice a5 l5 c5);replace R:=R.bi JY (.bool s6) (.slice a5 l5 c5);replace U:=U.bi Dh (.bool s6) (.slice a5 l5 c5);replace V:=aH.set2 V (.bool s6) (.slice a5 l5 c5);replace B:=dO B ID (.bool s6) (.slice a5 l5 c5);(replace ⟨j_,o_⟩:=C.b2);(replace ⟨r_,s_,yQ,yR,x_,yO,yS,yT⟩:=R.ym);(replace ⟨yd,ye,zp,zu⟩:=U.zY);(replace ⟨yf,yg,zv,zw⟩:=V.zY))
   | (go_at_call 160;(with_reducible refine (DC.out _ _ _ _ _ zy.out AH.out).mono ?_);rintro e w6 ⟨rfl,hb6⟩;replace C:=C.keep hb6;replace R:=R.keep hb6;replace U:=U.keep hb6;replace V:=V.keep hb6;replace oF:=kO oF hb6;replace oG:=kO oG hb6;replace zy:=kO zy hb6;replace AH:=kO AH hb6;replace B:=i_ B hb6;(replace ⟨j_,o_⟩:=C.b2);(replace ⟨r_,s_,yQ,yR,x_,yO,yS,yT⟩:=R.ym);(replace ⟨yd,ye,zp,zu⟩:=U.zY);(replace ⟨yf,yg,zv,zw⟩:=V.zY))
   | (go_at_call 161;(with_reducible refine (Da.out _ _ _ zy.out).mono ?_);rintro e w8 ⟨v8,rfl,AC,ya⟩;have yo:=B.size;replace C:=C.keep ya;replace R:=R.keep ya;replace U:=U.keep ya;replace V:=V.keep ya;replace oF:=kO oF ya;replace oG:=kO oG ya;replace zy:=kO zy ya;replace AH:=kO AH ya;replace B:=i_ B ya;obtain ⟨a8,c8,rfl,yj,yi⟩:=aF.view AC;clear yj yi;have on:=yJ (aF.base (show aF _ _ _ _ from AC) yo);clear AC;(generalize (Wh.d_ N.natAbs).length=ln at *);clear yo;have N_:=aH.new w8 #[.bool sN,.slice a8 ln c8] 136;have b_:=bA w8 (.cells #[.bool sN,.slice a8 ln c8] 136);replace C:=C.keep b_;replace R:=R.keep b_;replace U:=U.keep b_;replace V:=V.keep b_;replace oF:=kO oF b_;replace oG:=kO oG b_;replace zy:=kO zy b_;replace AH:=kO AH b_;replace on:=kO on b_;replace B:=i_ B b_;clear b_;(replace ⟨j_,o_⟩:=C.b2);(replace ⟨r_,s_,yQ,yR,x_,yO,yS,yT⟩:=R.ym);(replace ⟨yd,ye,zp,zu⟩:=U.zY);(replace ⟨yf,yg,zv,zw⟩:=V.zY);(replace ⟨AK,AM⟩:=N_.b2))
   | (go_at_call 161;(with_reducible refine (Db.out _ _ _ AH.out).mono ?_);rintro e w9 ⟨v9,rfl,Ac,yc⟩;have yo:=B.size;replace C:=C.keep yc;replace R:=R.keep yc;replace U:=U.keep yc;replace V:=V.keep yc;replace N_:=N_.keep yc;replace oF:=kO oF yc;replace oG:=kO oG yc;replace zy:=kO zy yc;replace AH:=kO AH yc;replace on:=kO on yc;replace B:=i_ B yc;obtain ⟨a9,c9,rfl,yj,yi⟩:=aF.view Ac;clear yj yi;have oe:=yJ (aF.base (show aF _ _ _ _ from Ac) yo);clear Ac;(generalize (Wh.d_ E.natAbs).length=le at *);clear yo;have E_:=aH.new w9 #[.bool sE,.slice a9 le c9] 136;have b_:=bA w9 (.cells #[.bool sE,.slice a9 le c9] 136);replace C:=C.keep b_;replace R:=R.keep b_;replace U:=U.keep b_;replace V:=V.keep b_;replace N_:=N_.keep b_;replace oF:=kO oF b_;replace oG:=kO oG b_;replace zy:=kO zy b_;replace AH:=kO AH b_;replace on:=kO on b_;replace oe:=kO oe b_;replace B:=i_ B b_;clear b_;(replace ⟨j_,o_⟩:=C.b2);(replace ⟨r_,s_,yQ,yR,x_,yO,yS,yT⟩:=R.ym);(replace ⟨yd,ye,zp,zu⟩:=U.zY);(replace ⟨yf,yg,zv,zw⟩:=V.zY);(replace ⟨AK,AM⟩:=N_.b2);(replace ⟨Ax,Ay⟩:=E_.b2);have O:=aH.new (w9.alloc (.cells #[.bool sE,.slice a9 le c9] 136)) #[.bool sN,.slice a8 ln c8,.bool sE,.slice a9 le c9] 157;have b_:=bA (w9.alloc (.cells #[.bool sE,.slice a9 le c9] 136)) (.cells #[.bool sN,.slice a8 ln c8,.bool sE,.slice a9 le c9] 157);replace C:=C.keep b_;replace R:=R.keep b_;replace U:=U.keep b_;replace V:=V.keep b_;replace N_:=N_.keep b_;replace E_:=E_.keep b_;replace oF:=kO oF b_;replace oG:=kO oG b_;replace zy:=kO zy b_;replace AH:=kO AH b_;replace on:=kO on b_;replace oe:=kO oe b_;replace B:=i_ B b_;clear b_;(rw [yK] at O))
   | (go_at_call 162;(with_reducible refine (CX.out _ _ _ _ _ on.out oe.out).mono ?_);rintro e EU ⟨rfl,yP⟩;(simp only [hq.out]);replace C:=C.keep yP;replace R:=R.keep yP;replace U:=U.keep yP;replace V:=V.keep yP;replace N_:=N_.keep yP;replace E_:=E_.keep yP;replace O:=O.keep yP;replace oF:=kO oF yP;replace oG:=kO oG yP;replace zy:=kO zy yP;replace AH:=kO AH yP;replace on:=kO on yP;replace oe:=kO oe yP;replace B:=i_ B yP;(replace ⟨j_,o_⟩:=C.b2);(replace ⟨r_,s_,yQ,yR,x_,yO,yS,yT⟩:=R.ym);(replace ⟨yd,ye⟩:=U.b2);(replace ⟨yf,yg⟩:=V.b2);(replace ⟨AK,AM⟩:=N_.b2);(replace ⟨Ax,Ay⟩:=E_.b2);(replace ⟨AY,AZ,Aa,Ab⟩:=O.b4)))
  exact bodyPost_ret (v:=.tuple #[.agg #[.bool false,.slice none 0 0,.bool false,.slice none 0 0],.bool false]) (by simp [results,Tryz.results144,go_sem, *]) rfl (⟨_,_,(by rw [hX.out,hZ.out,hok.out];rfl),(by rw [hX.out];exact fb _ _),(by rw [hZ.out];exact fb _ _),yL (yL (yL (yL B (by simp <;> omega) _) (by simp <;> omega) _) (by simp <;> omega) _) (by simp <;> omega) _⟩)
 have hsg:decide (G<0)=false:=decide_eq_false hneg;rw [if_neg hneg,if_neg hneg] at hX hZ hO
 obtain rfl:DM=false:=by rw [BQ.out];exact hsg
 have Cr:=CF.out;rw [hsg] at Cr;clear CF BQ Dy Dw;clear PM PN DC Da Db CX;replace BN:=BN.out;replace DZ:=DZ.out;replace DS:=DS.out;replace Be:=Be.out;simp only [←BP.out,hsg] at BN DZ;simp only [hsg] at DS;generalize F % (d:Int)=rF at *;generalize G % (d:Int)=rG at *;generalize hN:F / (d:Int)=N at *;generalize hE:G / (d:Int)=E at *;clear hN;subst hE;simp only [Cr] at DS Be;generalize hE:G / (d:Int)=E at *;clear hE;generalize CO:decide (N<0)=sN at *
 skip
 replace BN:=yJ BN;replace DZ:=yJ DZ;replace DS:=yJ DS;replace Be:=yJ Be;replace CO:=yJ CO;replace FP:=yJ Cr;clear Cr;clear hneg hsg hd
 by_cases hok:Wh.cY N E=true
 ·skip
  rw [hok] at hX hZ hO;rw [if_pos rfl] at hX hZ;have hq:=hok;replace hok:=yJ hO;replace hq:=yJ hq;replace hX:=yJ hX;replace hZ:=yJ hZ;clear hO
  go_wp2_with (first
   | (go_at_call 160;(with_reducible refine (BN.out _ _ _ _ _ oF.out oG.out).mono ?_);rintro e w6 ⟨rfl,hb6⟩;replace C:=C.keep hb6;replace R:=R.keep hb6;replace U:=U.keep hb6;replace V:=V.keep hb6;replace oF:=kO oF hb6;replace oG:=kO oG hb6;replace B:=i_ B hb6;(replace ⟨j_,o_⟩:=C.b2);(replace ⟨r_,s_,yQ,yR,x_,yO,yS,yT⟩:=R.ym);(replace ⟨yd,ye,zp,zu⟩:=U.zY);(replace ⟨yf,yg,zv,zw⟩:=V.zY))
   | (go_at_call 161;(with_reducible refine (DZ.out _ _ _ oF.out).mono ?_);rintro e w8 ⟨v8,rfl,AC,ya⟩;have yo:=B.size;replace C:=C.keep ya;replace R:=R.keep ya;replace U:=U.keep ya;replace V:=V.keep ya;replace oF:=kO oF ya;replace oG:=kO oG ya;replace B:=i_ B ya;obtain ⟨a8,c8,rfl,yj,yi⟩:=aF.view AC;clear yj yi;have on:=yJ (aF.base (show aF _ _ _ _ from AC) yo);clear AC;(generalize (Wh.d_ N.natAbs).length=ln at *);clear yo;have N_:=aH.new w8 #[.bool sN,.slice a8 ln c8] 136;have b_:=bA w8 (.cells #[.bool sN,.slice a8 ln c8] 136);replace C:=C.keep b_;replace R:=R.keep b_;replace U:=U.keep b_;replace V:=V.keep b_;replace oF:=kO oF b_;replace oG:=kO oG b_;replace on:=kO on b_;replace B:=i_ B b_;clear b_;(replace ⟨j_,o_⟩:=C.b2);(replace ⟨r_,s_,yQ,yR,x_,yO,yS,yT⟩:=R.ym);(replace ⟨yd,ye,zp,zu⟩:=U.zY);(replace ⟨yf,yg,zv,zw⟩:=V.zY);(replace ⟨AK,AM⟩:=N_.b2))
   | (go_at_call 161;(with_reducible refine (DS.out _ _ _ oG.out).mono ?_);rintro e w9 ⟨v9,rfl,Ac,yc⟩;have yo:=B.size;replace C:=C.keep yc;replace R:=R.keep yc;replace U:=U.keep yc;replace V:=V.keep yc;replace N_:=N_.keep yc;replace oF:=kO oF yc;replace oG:=kO oG yc;replace on:=kO on yc;replace B:=i_ B yc;obtain ⟨a9,c9,rfl,yj,yi⟩:=aF.view Ac;clear yj yi;have oe:=yJ (aF.base (show aF _ _ _ _ from Ac) yo);clear Ac;(generalize (Wh.d_ E.natAbs).length=le at *);clear yo;have E_:=aH.new w9 #[.bool false,.slice a9 le c9] 136;have b_:=bA w9 (.cells #[.bool false,.slice a9 le c9] 136);replace C:=C.keep b_;replace R:=R.keep b_;replace U:=U.keep b_;replace V:=V.keep b_;replace N_:=N_.keep b_;replace oF:=kO oF b_;replace oG:=kO oG b_;replace on:=kO on b_;replace oe:=kO oe b_;replace B:=i_ B b_;clear b_;(replace ⟨j_,o_⟩:=C.b2);(replace ⟨r_,s_,yQ,yR,x_,yO,yS,yT⟩:=R.ym);(replace ⟨yd,ye,zp,zu⟩:=U.zY);(replace ⟨yf,yg,zv,zw⟩:=V.zY);(replace ⟨AK,AM⟩:=N_.b2);(replace ⟨Ax,Ay⟩:=E_.b2);have O:=aH.new (w9.alloc (.cells #[.bool false,.slice a9 le c9] 136)) #[.bool sN,.slice a8 ln c8,.bool false,.slice a9 le c9] 157;have b_:=bA (w9.alloc (.cells #[.bool false,.slice a9 le c9] 136)) (.cells #[.bool sN,.slice a8 ln c8,.bool false,.slice a9 le c9] 157);replace C:=C.keep b_;replace R:=R.keep b_;replace U:=U.keep b_;replace V:=V.keep b_;replace N_:=N_.keep b_;replace E_:=E_.keep b_;replace oF:=kO oF b_;replace oG:=kO oG b_;replace on:=kO on b_;replace oe:=kO oe b_;replace B:=i_ B b_;clear b_;(rw [yK] at O))
   | (go_at_call 162;(with_reducible refine (Be.out _ _ _ _ _ on.out oe.out).mono ?_);rintro e EU ⟨rfl,yP⟩;(simp only [hq.out]);replace C:=C.keep yP;replace R:=R.keep yP;replace U:=U.keep yP;replace V:=V.keep yP;replace N_:=N_.keep yP;replace E_:=E_.keep yP;replace O:=O.keep yP;replace oF:=kO oF yP;replace oG:=kO oG yP;replace on:=kO on yP;replace oe:=kO oe yP;replace B:=i_ B yP;(replace ⟨j_,o_⟩:=C.b2);(replace ⟨r_,s_,yQ,yR,x_,yO,yS,yT⟩:=R.ym);(replace ⟨yd,ye⟩:=U.b2);(replace ⟨yf,yg⟩:=V.b2);(replace ⟨AK,AM⟩:=N_.b2);(replace ⟨Ax,Ay⟩:=E_.b2);(replace ⟨AY,AZ,Aa,Ab⟩:=O.b4)))
  have hr1:=aF.base (aF.dM on.out R (by decide) (.bool sN) (.slice a8 ln c8) (.bool false) (.slice a9 le c9)) (base':=w.heap.size) (yN _);have hr2:=aF.base (aF.dM oe.out R (by decide) (.bool sN) (.slice a8 ln c8) (.bool false) (.slice a9 le c9)) (base':=w.heap.size) (yN _);exact bodyPost_ret (v:=.tuple #[.agg #[.bool sN,.slice a8 ln c8,.bool false,.slice a9 le c9],.bool true]) (by simp [results,Tryz.results144,go_sem, *]) rfl (⟨_,_,(by rw [hX.out,hZ.out,hok.out,CO.out,FP.out]),(by rw [hX.out];exact hr1),(by rw [hZ.out];exact hr2),yL (yL (yL (yL B (by simp <;> omega) _) (by simp <;> omega) _) (by simp <;> omega) _) (by simp <;> omega) _⟩)
 replace hok:Wh.cY N E=false:=by simpa using hok
 rw [hok] at hX hZ hO;rw [if_neg (by decide)] at hX hZ;have hq:=hok;replace hok:=yJ hO;replace hq:=yJ hq;replace hX:=yJ hX;replace hZ:=yJ hZ;clear hO
 go_wp2_with (first
  | (go_at_call 160;(with_reducible refine (BN.out _ _ _ _ _ oF.out oG.out).mono ?_);rintro e w6 ⟨rfl,hb6⟩;replace C:=C.keep hb6;replace R:=R.keep hb6;replace U:=U.keep hb6;replace V:=V.keep hb6;replace oF:=kO oF hb6;replace oG:=kO oG hb6;replace B:=i_ B hb6;(replace ⟨j_,o_⟩:=C.b2);(replace ⟨r_,s_,yQ,yR,x_,yO,yS,yT⟩:=R.ym);(replace ⟨yd,ye,zp,zu⟩:=U.zY);(replace ⟨yf,yg,zv,zw⟩:=V.zY))
  | (go_at_call 161;(with_reducible refine (DZ.out _ _ _ oF.out).mono ?_);rintro e w8 ⟨v8,rfl,AC,ya⟩;have yo:=B.size;replace C:=C.keep ya;replace R:=R.keep ya;replace U:=U.keep ya;replace V:=V.keep ya;replace oF:=kO oF ya;replace oG:=kO oG ya;replace B:=i_ B ya;obtain ⟨a8,c8,rfl,yj,yi⟩:=aF.view AC;clear yj yi;have on:=yJ (aF.base (show aF _ _ _ _ from AC) yo);clear AC;(generalize (Wh.d_ N.natAbs).length=ln at *);clear yo;have N_:=aH.new w8 #[.bool sN,.slice a8 ln c8] 136;have b_:=bA w8 (.cells #[.bool sN,.slice a8 ln c8] 136);replace C:=C.keep b_;replace R:=R.keep b_;replace U:=U.keep b_;replace V:=V.keep b_;replace oF:=kO oF b_;replace oG:=kO oG b_;replace on:=kO on b_;replace B:=i_ B b_;clear b_;(replace ⟨j_,o_⟩:=C.b2);(replace ⟨r_,s_,yQ,yR,x_,yO,yS,yT⟩:=R.ym);(replace ⟨yd,ye,zp,zu⟩:=U.zY);(replace ⟨yf,yg,zv,zw⟩:=V.zY);(replace ⟨AK,AM⟩:=N_.b2))
  | (go_at_call 161;(with_reducible refine (DS.out _ _ _ oG.out).mono ?_);rintro e w9 ⟨v9,rfl,Ac,yc⟩;have yo:=B.size;replace C:=C.keep yc;replace R:=R.keep yc;replace U:=U.keep yc;replace V:=V.keep yc;replace N_:=N_.keep yc;replace oF:=kO oF yc;replace oG:=kO oG yc;replace on:=kO on yc;replace B:=i_ B yc;obtain ⟨a9,c9,rfl,yj,yi⟩:=aF.view Ac;clear yj yi;have oe:=yJ (aF.base (show aF _ _ _ _ from Ac) yo);clear Ac;(generalize (Wh.d_ E.natAbs).length=le at *);clear yo;have E_:=aH.new w9 #[.bool false,.slice a9 le c9] 136;have b_:=bA w9 (.cells #[.bool false,.slice a9 le c9] 136);replace C:=C.keep b_;replace R:=R.keep b_;replace U:=U.keep b_;replace V:=V.keep b_;replace N_:=N_.keep b_;replace oF:=kO oF b_;replace oG:=kO oG b_;replace on:=kO on b_;replace oe:=kO oe b_;replace B:=i_ B b_;clear b_;(replace ⟨j_,o_⟩:=C.b2);(replace ⟨r_,s_,yQ,yR,x_,yO,yS,yT⟩:=R.ym);(replace ⟨yd,ye,zp,zu⟩:=U.zY);(replace ⟨yf,yg,zv,zw⟩:=V.zY);(replace ⟨AK,AM⟩:=N_.b2);(replace ⟨Ax,Ay⟩:=E_.b2);have O:=aH.new (w9.alloc (.cells #[.bool false,.slice a9 le c9] 136)) #[.bool sN,.slice a8 ln c8,.bool false,.slice a9 le c9] 157;have b_:=bA (w9.alloc (.cells #[.bool false,.slice a9 le c9] 136)) (.cells #[.bool sN,.slice a8 ln c8,.bool false,.slice a9 le c9] 157);replace C:=C.keep b_;replace R:=R.keep b_;replace U:=U.keep b_;replace V:=V.keep b_;replace N_:=N_.keep b_;replace E_:=E_.keep b_;replace oF:=kO oF b_;replace oG:=kO oG b_;replace on:=kO on b_;replace oe:=kO oe b_;replace B:=i_ B b_;clear b_;(rw [yK] at O))
  | (go_at_call 162;(with_reducible refine (Be.out _ _ _ _ _ on.out oe.out).mono ?_);rintro e EU ⟨rfl,yP⟩;(simp only [hq.out]);replace C:=C.keep yP;replace R:=R.keep yP;replace U:=U.keep yP;replace V:=V.keep yP;replace N_:=N_.keep yP;replace E_:=E_.keep yP;replace O:=O.keep yP;replace oF:=kO oF yP;replace oG:=kO oG yP;replace on:=kO on yP;replace oe:=kO oe yP;replace B:=i_ B yP;(replace ⟨j_,o_⟩:=C.b2);(replace ⟨r_,s_,yQ,yR,x_,yO,yS,yT⟩:=R.ym);(replace ⟨yd,ye⟩:=U.b2);(replace ⟨yf,yg⟩:=V.b2);(replace ⟨AK,AM⟩:=N_.b2);(replace ⟨Ax,Ay⟩:=E_.b2);(replace ⟨AY,AZ,Aa,Ab⟩:=O.b4)))
 exact bodyPost_ret (v:=.tuple #[.agg #[.bool false,.slice none 0 0,.bool false,.slice none 0 0],.bool false]) (by simp [results,Tryz.results144,go_sem, *]) rfl (⟨_,_,(by rw [hX.out,hZ.out,hok.out];rfl),(by rw [hX.out];exact fb _ _),(by rw [hZ.out];exact fb _ _),yL (yL (yL (yL B (by simp <;> omega) _) (by simp <;> omega) _) (by simp <;> omega) _) (by simp <;> omega) _⟩)
namespace M
def hM (a b:Int):Int:=max (1+2*a+8*b+a*a) (4*(1+a+b))
def hK (a b d:Int):Int:=max (15+21*a+27*b) (4*d+5*a*a*b+4*a*(3*a*a*a+22*b*b)+12*b*(a*a*a+8*b*b)+(a*(5*a*a*a+32*b*b)+2*b*(13*a*a*a+96*b*b)+3*a*a*(a*a*a+8*b*b)))
def hC (a b:Int):Nat:=Wh.bl (max (hM a.natAbs b.natAbs) (hK a.natAbs b.natAbs (M.bC a b).natAbs)).toNat
theorem yl {x y m n k:Int} (hx:0≤x∧x≤m) (hy:0≤y∧y≤n) (hk:m*n≤k):0≤x*y∧x*y≤k:=
 ⟨Int.mul_nonneg hx.1 hy.1,Int.le_trans (Int.mul_le_mul hx.2 hy.2 hy.1 (Int.le_trans hx.1 hx.2)) hk⟩
end M
theorem iQ (a0 b0:Int) (w:World) (hin:M.bE a0 b0=true) :
  Calls Tryz.prog 151 #[.agg #[.int .i64 a0,.int .i64 b0]] w fun e w'=>e=.returned (.tuple #[.int .i64 (M.hM a0.natAbs b0.natAbs),.int .i64 (M.hK a0.natAbs b0.natAbs (M.bC a0 b0).natAbs)])∧Below w.heap.size w w':=by
 obtain ⟨x1,x2,y1,y2⟩:=M.an hin;have hdb:=eM hin
 have PC:=fun W=>pH a0 b0 W hin
 clear hin;generalize M.bC a0 b0=D at *
 obtain ⟨a,ha⟩:∃ a:Int,Hid (a=a0.natAbs):=⟨_,yJ rfl⟩
 obtain ⟨b,hb⟩:∃ b:Int,Hid (b=b0.natAbs):=⟨_,yJ rfl⟩
 obtain ⟨d,hd⟩:∃ d:Int,Hid (d=D.natAbs):=⟨_,yJ rfl⟩
 rw [←ha.out,←hb.out,←hd.out]
 have a1:0≤a∧a≤1000:=by have:=ha.out;omega
 have b1:0≤b∧b≤10000:=by have:=hb.out;omega
 have d1:0≤d∧d≤6700000000:=by have:=hd.out;omega
 obtain ⟨a1,a2⟩:=a1;obtain ⟨b1,b2⟩:=b1;obtain ⟨d1,d2⟩:=d1;have bd1:0≤2*a∧2*a≤2000:=M.yl (show (0:Int)≤2∧(2:Int)≤2 from ⟨by omega,by omega⟩) (show 0≤a∧a≤1000 from ⟨by omega,by omega⟩) (by omega);have JN:0≤8*b∧8*b≤80000:=M.yl (show (0:Int)≤8∧(8:Int)≤8 from ⟨by omega,by omega⟩) (show 0≤b∧b≤10000 from ⟨by omega,by omega⟩) (by omega);have Hb:0≤a*a∧a*a≤1000000:=M.yl (show 0≤a∧a≤1000 from ⟨by omega,by omega⟩) (show 0≤a∧a≤1000 from ⟨by omega,by omega⟩) (by omega);have bd4:0≤4*d∧4*d≤26800000000:=M.yl (show (0:Int)≤4∧(4:Int)≤4 from ⟨by omega,by omega⟩) (show 0≤d∧d≤6700000000 from ⟨by omega,by omega⟩) (by omega);have Hl:0≤4*a∧4*a≤4000:=M.yl (show (0:Int)≤4∧(4:Int)≤4 from ⟨by omega,by omega⟩) (show 0≤a∧a≤1000 from ⟨by omega,by omega⟩) (by omega);have Hr:0≤4*a*a∧4*a*a≤4000000:=M.yl Hl (show 0≤a∧a≤1000 from ⟨by omega,by omega⟩) (by omega);have bd7:0≤4*a*a*b∧4*a*a*b≤40000000000:=M.yl Hr (show 0≤b∧b≤10000 from ⟨by omega,by omega⟩) (by omega);have JO:0≤3*a∧3*a≤3000:=M.yl (show (0:Int)≤3∧(3:Int)≤3 from ⟨by omega,by omega⟩) (show 0≤a∧a≤1000 from ⟨by omega,by omega⟩) (by omega);have Hs:0≤3*a*a∧3*a*a≤3000000:=M.yl JO (show 0≤a∧a≤1000 from ⟨by omega,by omega⟩) (by omega);have Ec:0≤3*a*a*a∧3*a*a*a≤3000000000:=M.yl Hs (show 0≤a∧a≤1000 from ⟨by omega,by omega⟩) (by omega);have Fg:0≤22*b∧22*b≤220000:=M.yl (show (0:Int)≤22∧(22:Int)≤22 from ⟨by omega,by omega⟩) (show 0≤b∧b≤10000 from ⟨by omega,by omega⟩) (by omega);have Fh:0≤22*b*b∧22*b*b≤2200000000:=M.yl Fg (show 0≤b∧b≤10000 from ⟨by omega,by omega⟩) (by omega);have HT:0≤4*a*(3*a*a*a+22*b*b)∧4*a*(3*a*a*a+22*b*b)≤20800000000000:=M.yl Hl (show 0≤3*a*a*a+22*b*b∧3*a*a*a+22*b*b≤5200000000 from ⟨by omega,by omega⟩) (by omega);have Fi:0≤12*b∧12*b≤120000:=M.yl (show (0:Int)≤12∧(12:Int)≤12 from ⟨by omega,by omega⟩) (show 0≤b∧b≤10000 from ⟨by omega,by omega⟩) (by omega);have Fj:0≤a*a*a∧a*a*a≤1000000000:=M.yl Hb (show 0≤a∧a≤1000 from ⟨by omega,by omega⟩) (by omega);have HU:0≤8*b*b∧8*b*b≤800000000:=M.yl JN (show 0≤b∧b≤10000 from ⟨by omega,by omega⟩) (by omega);have HW:0≤12*b*(a*a*a+8*b*b)∧12*b*(a*a*a+8*b*b)≤216000000000000:=M.yl Fi (show 0≤a*a*a+8*b*b∧a*a*a+8*b*b≤1800000000 from ⟨by omega,by omega⟩) (by omega);have HY:0≤a*a*b∧a*a*b≤10000000000:=M.yl Hb (show 0≤b∧b≤10000 from ⟨by omega,by omega⟩) (by omega);have Fk:0≤5*a∧5*a≤5000:=M.yl (show (0:Int)≤5∧(5:Int)≤5 from ⟨by omega,by omega⟩) (show 0≤a∧a≤1000 from ⟨by omega,by omega⟩) (by omega);have Ed:0≤5*a*a∧5*a*a≤5000000:=M.yl Fk (show 0≤a∧a≤1000 from ⟨by omega,by omega⟩) (by omega);have HZ:0≤5*a*a*a∧5*a*a*a≤5000000000:=M.yl Ed (show 0≤a∧a≤1000 from ⟨by omega,by omega⟩) (by omega);have Fl:0≤32*b∧32*b≤320000:=M.yl (show (0:Int)≤32∧(32:Int)≤32 from ⟨by omega,by omega⟩) (show 0≤b∧b≤10000 from ⟨by omega,by omega⟩) (by omega);have Fm:0≤32*b*b∧32*b*b≤3200000000:=M.yl Fl (show 0≤b∧b≤10000 from ⟨by omega,by omega⟩) (by omega);have Fn:0≤a*(5*a*a*a+32*b*b)∧a*(5*a*a*a+32*b*b)≤8200000000000:=M.yl (show 0≤a∧a≤1000 from ⟨by omega,by omega⟩) (show 0≤5*a*a*a+32*b*b∧5*a*a*a+32*b*b≤8200000000 from ⟨by omega,by omega⟩) (by omega);have Ee:0≤2*b∧2*b≤20000:=M.yl (show (0:Int)≤2∧(2:Int)≤2 from ⟨by omega,by omega⟩) (show 0≤b∧b≤10000 from ⟨by omega,by omega⟩) (by omega);have Fo:0≤13*a∧13*a≤13000:=M.yl (show (0:Int)≤13∧(13:Int)≤13 from ⟨by omega,by omega⟩) (show 0≤a∧a≤1000 from ⟨by omega,by omega⟩) (by omega);have Ef:0≤13*a*a∧13*a*a≤13000000:=M.yl Fo (show 0≤a∧a≤1000 from ⟨by omega,by omega⟩) (by omega);have Ha:0≤13*a*a*a∧13*a*a*a≤13000000000:=M.yl Ef (show 0≤a∧a≤1000 from ⟨by omega,by omega⟩) (by omega);have Fp:0≤96*b∧96*b≤960000:=M.yl (show (0:Int)≤96∧(96:Int)≤96 from ⟨by omega,by omega⟩) (show 0≤b∧b≤10000 from ⟨by omega,by omega⟩) (by omega);have Hc:0≤96*b*b∧96*b*b≤9600000000:=M.yl Fp (show 0≤b∧b≤10000 from ⟨by omega,by omega⟩) (by omega);have Kc:0≤2*b*(13*a*a*a+96*b*b)∧2*b*(13*a*a*a+96*b*b)≤452000000000000:=M.yl Ee (show 0≤13*a*a*a+96*b*b∧13*a*a*a+96*b*b≤22600000000 from ⟨by omega,by omega⟩) (by omega);have Kf:0≤3*a*a*(a*a*a+8*b*b)∧3*a*a*(a*a*a+8*b*b)≤5400000000000000:=M.yl Hs (show 0≤a*a*a+8*b*b∧a*a*a+8*b*b≤1800000000 from ⟨by omega,by omega⟩) (by omega);obtain ⟨bd1_1,bd1_2⟩:=bd1;obtain ⟨bd2_1,bd2_2⟩:=JN;obtain ⟨bd3_1,bd3_2⟩:=Hb;obtain ⟨bd4_1,bd4_2⟩:=bd4;obtain ⟨bd5_1,bd5_2⟩:=Hl;obtain ⟨bd6_1,bd6_2⟩:=Hr;obtain ⟨bd7_1,bd7_2⟩:=bd7;obtain ⟨bd8_1,bd8_2⟩:=JO;obtain ⟨bd9_1,bd9_2⟩:=Hs;obtain ⟨Jv,Jw⟩:=Ec;obtain ⟨Jx,Jy⟩:=Fg;obtain ⟨Jz,J1⟩:=Fh;obtain ⟨J2,J3⟩:=HT;obtain ⟨J4,J5⟩:=Fi;obtain ⟨J6,J7⟩:=Fj;obtain ⟨J8,J9⟩:=HU;obtain ⟨J_,KA⟩:=HW;obtain ⟨KB,KC⟩:=HY;obtain ⟨KD,KE⟩:=Fk;obtain ⟨KF,KG⟩:=Ed;obtain ⟨KH,KI⟩:=HZ;obtain ⟨KJ,KK⟩:=Fl;obtain ⟨KL,KM⟩:=Fm;obtain ⟨KN,KO⟩:=Fn;obtain ⟨KQ,KR⟩:=Ee;obtain ⟨KS,KT⟩:=Fo;obtain ⟨KU,KV⟩:=Ef;obtain ⟨KW,KX⟩:=Ha;obtain ⟨KY,KZ⟩:=Fp;obtain ⟨Ka,Kb⟩:=Hc;obtain ⟨Kd,Ke⟩:=Kc;obtain ⟨Kg,Kh⟩:=Kf;have hM:Hid (M.hM a b=max (1+2*a+8*b+a*a) (4*(1+a+b))):=yJ rfl;have hK:Hid (M.hK a b d=max (12+16*a+3+5*a+27*b) (4*d+4*a*a*b+4*a*(3*a*a*a+22*b*b)+12*b*(a*a*a+8*b*b)+(a*a*b+a*(5*a*a*a+32*b*b)+2*b*(13*a*a*a+96*b*b)+3*a*a*(a*a*a+8*b*b)))):=yJ (by unfold M.hK;congr 1 <;> grind);have mA:=yJ (show (if a0 < -a0 then -a0 else a0)=a by have:=ha.out;split <;> omega);have mB:=yJ (show (if b0 < -b0 then -b0 else b0)=b by have:=hb.out;split <;> omega);have mD:=yJ (show (if D < -D then -D else D)=d by have:=hd.out;split <;> omega);have nA:=yJ (show max a0 (-a0)=a by have:=ha.out;omega);have nB:=yJ (show max b0 (-b0)=b by have:=hb.out;omega);have nD:=yJ (show max D (-D)=d by have:=hd.out;omega)
 skip
 replace PC:=yJ PC;have C:=aH.new w #[.int .i64 a0,.int .i64 b0] 29;have B:=(yM w.heap.size w).alloc (yN _) (.cells #[.int .i64 a0,.int .i64 b0] 29);generalize hw3:w.alloc (.cells #[.int .i64 a0,.int .i64 b0] 29)=wc at *;go_enter Tryz.func151,Tryz.ntmps151
 go_wp2
 go_upto_region 1 with fail
 refine Rg.bK 21 [.is (.pointer (some ⟨w.heap.size,0,none⟩)),.is (.int .i64 a0),.is (.pointer (some ⟨w.heap.size,0,none⟩)),.is (.int .i64 a0),.is (.int .i64 (-a0)),.is (.int .i64 a),.is (.pointer (some ⟨w.heap.size,1,none⟩)),.is (.int .i64 b0),.is (.pointer (some ⟨w.heap.size,1,none⟩)),.is (.int .i64 b0),.is (.int .i64 (-b0)),.is (.int .i64 b),.is (.agg #[.int .i64 a0,.int .i64 b0]),.is (.int .i64 D),.is (.agg #[.int .i64 a0,.int .i64 b0]),.is (.int .i64 D),.is (.int .i64 (-D)),.is (.int .i64 d),.is (.int .i64 a),.is (.int .i64 b),.is (.int .i64 d)] (by kernel_rfl) (by kernel_rfl) (by kernel_rfl) ⟨?_,?_,?_,?_,?_,?_,?_,?_,?_,?_,?_,?_,?_,?_,?_,?_,?_,?_,?_,?_,?_,trivial⟩ ?_
 ·intro _ zZ w_ hB hr
  have e1:zZ.tmps[1]?=some (.pointer (some ⟨w.heap.size,0,none⟩)):=hr 1 (by decide);exact Rg.aG rfl (by go_simp)
 ·intro _ zZ w_ hB hr
  have e10:=Rg.a_ (hr 10 (by decide));have k0:=aE hB C.box.c0;exact Rg.aG rfl (by go_simp)
 ·intro _ zZ w_ hB hr
  have e1:zZ.tmps[1]?=some (.pointer (some ⟨w.heap.size,0,none⟩)):=hr 1 (by decide);exact Rg.aG rfl (by go_simp)
 ·intro _ zZ w_ hB hr
  have e12:=Rg.a_ (hr 12 (by decide));have k0:=aE hB C.box.c0;exact Rg.aG rfl (by go_simp)
 ·intro _ zZ w_ hB hr
  have e13:=Rg.a_ (hr 13 (by decide));exact Rg.aG rfl (by go_simp <;> exact Rg.wo (by omega))
 ·intro _ zZ w_ hB hr
  have e11:=Rg.a_ (hr 11 (by decide));have e14:=Rg.a_ (hr 14 (by decide));exact Rg.aG rfl (by go_simp;first | done | (rw [mA.out];done) | (rw [nA.out];done) | (simp only [mA.out];done))
 ·intro _ zZ w_ hB hr
  have e1:zZ.tmps[1]?=some (.pointer (some ⟨w.heap.size,0,none⟩)):=hr 1 (by decide);exact Rg.aG rfl (by go_simp)
 ·intro _ zZ w_ hB hr
  have e16:=Rg.a_ (hr 16 (by decide));have k1:=aE hB C.box.c1;exact Rg.aG rfl (by go_simp)
 ·intro _ zZ w_ hB hr
  have e1:zZ.tmps[1]?=some (.pointer (some ⟨w.heap.size,0,none⟩)):=hr 1 (by decide);exact Rg.aG rfl (by go_simp)
 ·intro _ zZ w_ hB hr
  have e18:=Rg.a_ (hr 18 (by decide));have k1:=aE hB C.box.c1;exact Rg.aG rfl (by go_simp)
 ·intro _ zZ w_ hB hr
  have e19:=Rg.a_ (hr 19 (by decide));exact Rg.aG rfl (by go_simp <;> exact Rg.wo (by omega))
 ·intro _ zZ w_ hB hr
  have e17:=Rg.a_ (hr 17 (by decide));have e20:=Rg.a_ (hr 20 (by decide));exact Rg.aG rfl (by go_simp;first | done | (rw [mB.out];done) | (rw [nB.out];done) | (simp only [mB.out];done))
 ·intro _ zZ w_ hB hr
  have e1:zZ.tmps[1]?=some (.pointer (some ⟨w.heap.size,0,none⟩)):=hr 1 (by decide);have k0:=aE hB C.box.c0;have k1:=aE hB C.box.c1;exact Rg.aG rfl (by go_simp)
 ·intro _ zZ w_ hB hr
  have e22:=Rg.a_ (hr 22 (by decide));have ef:=Rg.ef zZ;exact Rg.bU rfl (by go_simp) (PC.out _)
 ·intro _ zZ w_ hB hr
  have e1:zZ.tmps[1]?=some (.pointer (some ⟨w.heap.size,0,none⟩)):=hr 1 (by decide);have k0:=aE hB C.box.c0;have k1:=aE hB C.box.c1;exact Rg.aG rfl (by go_simp)
 ·intro _ zZ w_ hB hr
  have e24:=Rg.a_ (hr 24 (by decide));have ef:=Rg.ef zZ;exact Rg.bU rfl (by go_simp) (PC.out _)
 ·intro _ zZ w_ hB hr
  have e25:=Rg.a_ (hr 25 (by decide));exact Rg.aG rfl (by go_simp <;> exact Rg.wo (by omega))
 ·intro _ zZ w_ hB hr
  have e23:=Rg.a_ (hr 23 (by decide));have e26:=Rg.a_ (hr 26 (by decide));exact Rg.aG rfl (by go_simp;first | done | (rw [mD.out];done) | (rw [nD.out];done) | (simp only [mD.out];done))
 ·intro _ zZ w_ hB hr
  have e15:=Rg.a_ (hr 15 (by decide));exact Rg.aG rfl (by go_simp)
 ·intro _ zZ w_ hB hr
  have e21:=Rg.a_ (hr 21 (by decide));exact Rg.aG rfl (by go_simp)
 ·intro _ zZ w_ hB hr
  have e27:=Rg.a_ (hr 27 (by decide));exact Rg.aG rfl (by go_simp)
 intro vals wz hB1 hv hne;have I_:vals 18=.int .i64 a:=hv 18 (by decide);have JA:vals 19=.int .i64 b:=hv 19 (by decide);have EG:vals 20=.int .i64 d:=hv 20 (by decide);simp only [Rg.ak,Rg.fill,Act.put,Nat.reduceAdd];clear hv;simp only [I_,JA,EG];clear I_ JA EG;replace B:=i_ B hB1;clear hB1 C;unfold Rg.aW;go_wp2;go_ret2;exact ⟨by rw [hM.out,hK.out];first | rfl,B⟩
theorem mM (a0 b0:Int) (w:World) (hin:M.bE a0 b0=true) :
  Calls Tryz.prog 146 #[.agg #[.int .i64 a0,.int .i64 b0]] w fun e w'=>e=.returned (.tuple #[.int .i64 (M.hM a0.natAbs b0.natAbs),.int .i64 (M.hK a0.natAbs b0.natAbs (M.bC a0 b0).natAbs)])∧Below w.heap.size w w':=by
 obtain ⟨x1,x2,y1,y2⟩:=M.an hin;have hdb:=eM hin
 have PC:=fun W=>lE a0 b0 W hin
 clear hin
 have PA:=fun x W (h1:-9223372036854775807≤x) (h2:x≤9223372036854775807)=>dL x W h1 h2
 have PM:=fun x y W=>dp x y W
 generalize M.bC a0 b0=D at *
 obtain ⟨a,ha⟩:∃ a:Int,Hid (a=a0.natAbs):=⟨_,yJ rfl⟩
 obtain ⟨b,hb⟩:∃ b:Int,Hid (b=b0.natAbs):=⟨_,yJ rfl⟩
 obtain ⟨d,hd⟩:∃ d:Int,Hid (d=D.natAbs):=⟨_,yJ rfl⟩
 rw [←ha.out,←hb.out,←hd.out]
 have a1:0≤a∧a≤1000:=by have:=ha.out;omega
 have b1:0≤b∧b≤10000:=by have:=hb.out;omega
 have d1:0≤d∧d≤6700000000:=by have:=hd.out;omega
 obtain ⟨a1,a2⟩:=a1;obtain ⟨b1,b2⟩:=b1;obtain ⟨d1,d2⟩:=d1;have Ki:0≤2*a∧2*a≤2000:=M.yl (show (0:Int)≤2∧(2:Int)≤2 from ⟨by omega,by omega⟩) (show 0≤a∧a≤1000 from ⟨by omega,by omega⟩) (by omega);have Hd:0≤8*b∧8*b≤80000:=M.yl (show (0:Int)≤8∧(8:Int)≤8 from ⟨by omega,by omega⟩) (show 0≤b∧b≤10000 from ⟨by omega,by omega⟩) (by omega);have He:0≤a*a∧a*a≤1000000:=M.yl (show 0≤a∧a≤1000 from ⟨by omega,by omega⟩) (show 0≤a∧a≤1000 from ⟨by omega,by omega⟩) (by omega);have Kp:0≤4*d∧4*d≤26800000000:=M.yl (show (0:Int)≤4∧(4:Int)≤4 from ⟨by omega,by omega⟩) (show 0≤d∧d≤6700000000 from ⟨by omega,by omega⟩) (by omega);have Hf:0≤5*a∧5*a≤5000:=M.yl (show (0:Int)≤5∧(5:Int)≤5 from ⟨by omega,by omega⟩) (show 0≤a∧a≤1000 from ⟨by omega,by omega⟩) (by omega);have Fq:0≤5*a*a∧5*a*a≤5000000:=M.yl Hf (show 0≤a∧a≤1000 from ⟨by omega,by omega⟩) (by omega);have Kw:0≤5*a*a*b∧5*a*a*b≤50000000000:=M.yl Fq (show 0≤b∧b≤10000 from ⟨by omega,by omega⟩) (by omega);have Hh:0≤4*a∧4*a≤4000:=M.yl (show (0:Int)≤4∧(4:Int)≤4 from ⟨by omega,by omega⟩) (show 0≤a∧a≤1000 from ⟨by omega,by omega⟩) (by omega);have Hi:0≤3*a∧3*a≤3000:=M.yl (show (0:Int)≤3∧(3:Int)≤3 from ⟨by omega,by omega⟩) (show 0≤a∧a≤1000 from ⟨by omega,by omega⟩) (by omega);have Fr:0≤3*a*a∧3*a*a≤3000000:=M.yl Hi (show 0≤a∧a≤1000 from ⟨by omega,by omega⟩) (by omega);have K9:0≤3*a*a*a∧3*a*a*a≤3000000000:=M.yl Fr (show 0≤a∧a≤1000 from ⟨by omega,by omega⟩) (by omega);have Hj:0≤22*b∧22*b≤220000:=M.yl (show (0:Int)≤22∧(22:Int)≤22 from ⟨by omega,by omega⟩) (show 0≤b∧b≤10000 from ⟨by omega,by omega⟩) (by omega);have LE:0≤22*b*b∧22*b*b≤2200000000:=M.yl Hj (show 0≤b∧b≤10000 from ⟨by omega,by omega⟩) (by omega);have LH:0≤4*a*(3*a*a*a+22*b*b)∧4*a*(3*a*a*a+22*b*b)≤20800000000000:=M.yl Hh (show 0≤3*a*a*a+22*b*b∧3*a*a*a+22*b*b≤5200000000 from ⟨by omega,by omega⟩) (by omega);have Hk:0≤12*b∧12*b≤120000:=M.yl (show (0:Int)≤12∧(12:Int)≤12 from ⟨by omega,by omega⟩) (show 0≤b∧b≤10000 from ⟨by omega,by omega⟩) (by omega);have LM:0≤a*a*a∧a*a*a≤1000000000:=M.yl He (show 0≤a∧a≤1000 from ⟨by omega,by omega⟩) (by omega);have LP:0≤8*b*b∧8*b*b≤800000000:=M.yl Hd (show 0≤b∧b≤10000 from ⟨by omega,by omega⟩) (by omega);have LS:0≤12*b*(a*a*a+8*b*b)∧12*b*(a*a*a+8*b*b)≤216000000000000:=M.yl Hk (show 0≤a*a*a+8*b*b∧a*a*a+8*b*b≤1800000000 from ⟨by omega,by omega⟩) (by omega);have LV:0≤5*a*a*a∧5*a*a*a≤5000000000:=M.yl Fq (show 0≤a∧a≤1000 from ⟨by omega,by omega⟩) (by omega);have Hm:0≤32*b∧32*b≤320000:=M.yl (show (0:Int)≤32∧(32:Int)≤32 from ⟨by omega,by omega⟩) (show 0≤b∧b≤10000 from ⟨by omega,by omega⟩) (by omega);have La:0≤32*b*b∧32*b*b≤3200000000:=M.yl Hm (show 0≤b∧b≤10000 from ⟨by omega,by omega⟩) (by omega);have Ld:0≤a*(5*a*a*a+32*b*b)∧a*(5*a*a*a+32*b*b)≤8200000000000:=M.yl (show 0≤a∧a≤1000 from ⟨by omega,by omega⟩) (show 0≤5*a*a*a+32*b*b∧5*a*a*a+32*b*b≤8200000000 from ⟨by omega,by omega⟩) (by omega);have Hn:0≤2*b∧2*b≤20000:=M.yl (show (0:Int)≤2∧(2:Int)≤2 from ⟨by omega,by omega⟩) (show 0≤b∧b≤10000 from ⟨by omega,by omega⟩) (by omega);have Ho:0≤13*a∧13*a≤13000:=M.yl (show (0:Int)≤13∧(13:Int)≤13 from ⟨by omega,by omega⟩) (show 0≤a∧a≤1000 from ⟨by omega,by omega⟩) (by omega);have Hp:0≤13*a*a∧13*a*a≤13000000:=M.yl Ho (show 0≤a∧a≤1000 from ⟨by omega,by omega⟩) (by omega);have Lm:0≤13*a*a*a∧13*a*a*a≤13000000000:=M.yl Hp (show 0≤a∧a≤1000 from ⟨by omega,by omega⟩) (by omega);have Hq:0≤96*b∧96*b≤960000:=M.yl (show (0:Int)≤96∧(96:Int)≤96 from ⟨by omega,by omega⟩) (show 0≤b∧b≤10000 from ⟨by omega,by omega⟩) (by omega);have Lr:0≤96*b*b∧96*b*b≤9600000000:=M.yl Hq (show 0≤b∧b≤10000 from ⟨by omega,by omega⟩) (by omega);have Lu:0≤2*b*(13*a*a*a+96*b*b)∧2*b*(13*a*a*a+96*b*b)≤452000000000000:=M.yl Hn (show 0≤13*a*a*a+96*b*b∧13*a*a*a+96*b*b≤22600000000 from ⟨by omega,by omega⟩) (by omega);have Lx:0≤3*a*a*(a*a*a+8*b*b)∧3*a*a*(a*a*a+8*b*b)≤5400000000000000:=M.yl Fr (show 0≤a*a*a+8*b*b∧a*a*a+8*b*b≤1800000000 from ⟨by omega,by omega⟩) (by omega);obtain ⟨Kj,Kk⟩:=Ki;obtain ⟨Kl,Km⟩:=Hd;obtain ⟨Kn,Ko⟩:=He;obtain ⟨Kq,Kr⟩:=Kp;obtain ⟨Ks,Kt⟩:=Hf;obtain ⟨Ku,Kv⟩:=Fq;obtain ⟨Kx,Ky⟩:=Kw;obtain ⟨Kz,K3⟩:=Hh;obtain ⟨K4,K6⟩:=Hi;obtain ⟨K7,K8⟩:=Fr;obtain ⟨LA,LB⟩:=K9;obtain ⟨LC,LD⟩:=Hj;obtain ⟨LF,LG⟩:=LE;obtain ⟨LI,LJ⟩:=LH;obtain ⟨LK,LL⟩:=Hk;obtain ⟨LN,LO⟩:=LM;obtain ⟨LQ,LR⟩:=LP;obtain ⟨LT,LU⟩:=LS;obtain ⟨LW,LX⟩:=LV;obtain ⟨LY,LZ⟩:=Hm;obtain ⟨Lb,Lc⟩:=La;obtain ⟨Le,Lf⟩:=Ld;obtain ⟨Lg,Lh⟩:=Hn;obtain ⟨Li,Lj⟩:=Ho;obtain ⟨Lk,Ll⟩:=Hp;obtain ⟨Ln,Lo⟩:=Lm;obtain ⟨Lp,Lq⟩:=Hq;obtain ⟨Ls,Lt⟩:=Lr;obtain ⟨Lv,Lw⟩:=Lu;obtain ⟨Ly,Lz⟩:=Lx;have hM:Hid (M.hM a b=max (1+2*a+8*b+a*a) (4*(1+a+b))):=yJ rfl;have hK:Hid (M.hK a b d=max (15+21*a+27*b) (4*d+5*a*a*b+4*a*(3*a*a*a+22*b*b)+12*b*(a*a*a+8*b*b)+(a*(5*a*a*a+32*b*b)+2*b*(13*a*a*a+96*b*b)+3*a*a*(a*a*a+8*b*b)))):=yJ rfl
 skip
 replace PC:=yJ PC;replace PA:=yJ PA;replace PM:=yJ PM;have C:=aH.new w #[.int .i64 a0,.int .i64 b0] 29;have B:=(yM w.heap.size w).alloc (yN _) (.cells #[.int .i64 a0,.int .i64 b0] 29);generalize hw3:w.alloc (.cells #[.int .i64 a0,.int .i64 b0] 29)=wc at *;go_enter Tryz.func146,Tryz.ntmps146
 go_wp2
 go_upto_region 1 with fail
 refine Rg.bK 12 [.is (.pointer (some ⟨w.heap.size,0,none⟩)),.is (.int .i64 a0),.is (.int .i64 a),.is (.pointer (some ⟨w.heap.size,1,none⟩)),.is (.int .i64 b0),.is (.int .i64 b),.is (.agg #[.int .i64 a0,.int .i64 b0]),.is (.int .i64 D),.is (.int .i64 d),.is (.int .i64 a),.is (.int .i64 b),.is (.int .i64 d)] (by kernel_rfl) (by kernel_rfl) (by kernel_rfl) ⟨?_,?_,?_,?_,?_,?_,?_,?_,?_,?_,?_,?_,trivial⟩ ?_
 ·intro _ zZ w_ hB hr
  have e1:zZ.tmps[1]?=some (.pointer (some ⟨w.heap.size,0,none⟩)):=hr 1 (by decide);exact Rg.aG rfl (by go_simp)
 ·intro _ zZ w_ hB hr
  have e10:=Rg.a_ (hr 10 (by decide));have k0:=aE hB C.box.c0;exact Rg.aG rfl (by go_simp)
 ·intro _ zZ w_ hB hr
  have e11:=Rg.a_ (hr 11 (by decide));have ef:=Rg.ef zZ;refine Rg.aY rfl (by go_simp;exact ⟨rfl,rfl⟩) ?_;refine (PA.out a0 _ (by omega) (by omega)).mono ?_;rintro e w5 ⟨rfl,rfl⟩;exact ⟨_,rfl,(by rw [ha.out];rfl),yM _ _⟩
 ·intro _ zZ w_ hB hr
  have e1:zZ.tmps[1]?=some (.pointer (some ⟨w.heap.size,0,none⟩)):=hr 1 (by decide);exact Rg.aG rfl (by go_simp)
 ·intro _ zZ w_ hB hr
  have e13:=Rg.a_ (hr 13 (by decide));have k1:=aE hB C.box.c1;exact Rg.aG rfl (by go_simp)
 ·intro _ zZ w_ hB hr
  have e14:=Rg.a_ (hr 14 (by decide));have ef:=Rg.ef zZ;refine Rg.aY rfl (by go_simp;exact ⟨rfl,rfl⟩) ?_;refine (PA.out b0 _ (by omega) (by omega)).mono ?_;rintro e w5 ⟨rfl,rfl⟩;exact ⟨_,rfl,(by rw [hb.out];rfl),yM _ _⟩
 ·intro _ zZ w_ hB hr
  have e1:zZ.tmps[1]?=some (.pointer (some ⟨w.heap.size,0,none⟩)):=hr 1 (by decide);have k0:=aE hB C.box.c0;have k1:=aE hB C.box.c1;exact Rg.aG rfl (by go_simp)
 ·intro _ zZ w_ hB hr
  have e16:=Rg.a_ (hr 16 (by decide));have ef:=Rg.ef zZ;exact Rg.bU rfl (by go_simp) (PC.out _)
 ·intro _ zZ w_ hB hr
  have e17:=Rg.a_ (hr 17 (by decide));have ef:=Rg.ef zZ;refine Rg.aY rfl (by go_simp;exact ⟨rfl,rfl⟩) ?_;refine (PA.out D _ (by omega) (by omega)).mono ?_;rintro e w5 ⟨rfl,rfl⟩;exact ⟨_,rfl,(by rw [hd.out];rfl),yM _ _⟩
 ·intro _ zZ w_ hB hr
  have e12:=Rg.a_ (hr 12 (by decide));exact Rg.aG rfl (by go_simp)
 ·intro _ zZ w_ hB hr
  have e15:=Rg.a_ (hr 15 (by decide));exact Rg.aG rfl (by go_simp)
 ·intro _ zZ w_ hB hr
  have e18:=Rg.a_ (hr 18 (by decide));exact Rg.aG rfl (by go_simp)
 intro vals wz hB1 hv hne;have AX:vals 9=.int .i64 a:=hv 9 (by decide);have yn:vals 10=.int .i64 b:=hv 10 (by decide);have zo:vals 11=.int .i64 d:=hv 11 (by decide);simp only [Rg.ak,Rg.fill,Act.put,Nat.reduceAdd];clear hv;simp only [AX,yn,zo];clear AX yn zo;replace B:=i_ B hB1;clear hB1 C;unfold Rg.aW
 go_wp2_with (go_at_call 91;(with_reducible refine (PM.out _ _ _).mono ?_);rintro e w6 ⟨rfl,rfl⟩)
 go_ret2;exact ⟨by rw [hM.out,hK.out];first | rfl,B⟩
theorem M.pL {a0 b0:Int} (hin:M.bE a0 b0=true):0≤max (M.hM a0.natAbs b0.natAbs) (M.hK a0.natAbs b0.natAbs (M.bC a0 b0).natAbs)∧max (M.hM a0.natAbs b0.natAbs) (M.hK a0.natAbs b0.natAbs (M.bC a0 b0).natAbs)≤100000000000000000:=by
 obtain ⟨x1,x2,y1,y2⟩:=M.an hin;have hdb:=eM hin
 obtain ⟨a,ha⟩:∃ a:Int,(a=a0.natAbs):=⟨_,rfl⟩
 obtain ⟨b,hb⟩:∃ b:Int,(b=b0.natAbs):=⟨_,rfl⟩
 obtain ⟨d,hd⟩:∃ d:Int,(d=(M.bC a0 b0).natAbs):=⟨_,rfl⟩
 rw [←ha,←hb,←hd]
 have a1:0≤a∧a≤1000:=by omega
 have b1:0≤b∧b≤10000:=by omega
 have d1:0≤d∧d≤6700000000:=by omega
 clear ha hb hd hdb x1 x2 y1 y2 hin;have bd1:0≤2*a∧2*a≤2000:=M.yl (show (0:Int)≤2∧(2:Int)≤2 from ⟨by omega,by omega⟩) (show 0≤a∧a≤1000 from ⟨by omega,by omega⟩) (by omega);have JN:0≤8*b∧8*b≤80000:=M.yl (show (0:Int)≤8∧(8:Int)≤8 from ⟨by omega,by omega⟩) (show 0≤b∧b≤10000 from ⟨by omega,by omega⟩) (by omega);have Hb:0≤a*a∧a*a≤1000000:=M.yl (show 0≤a∧a≤1000 from ⟨by omega,by omega⟩) (show 0≤a∧a≤1000 from ⟨by omega,by omega⟩) (by omega);have bd4:0≤4*d∧4*d≤26800000000:=M.yl (show (0:Int)≤4∧(4:Int)≤4 from ⟨by omega,by omega⟩) (show 0≤d∧d≤6700000000 from ⟨by omega,by omega⟩) (by omega);have Hl:0≤5*a∧5*a≤5000:=M.yl (show (0:Int)≤5∧(5:Int)≤5 from ⟨by omega,by omega⟩) (show 0≤a∧a≤1000 from ⟨by omega,by omega⟩) (by omega);have Hr:0≤5*a*a∧5*a*a≤5000000:=M.yl Hl (show 0≤a∧a≤1000 from ⟨by omega,by omega⟩) (by omega);have bd7:0≤5*a*a*b∧5*a*a*b≤50000000000:=M.yl Hr (show 0≤b∧b≤10000 from ⟨by omega,by omega⟩) (by omega);have JO:0≤4*a∧4*a≤4000:=M.yl (show (0:Int)≤4∧(4:Int)≤4 from ⟨by omega,by omega⟩) (show 0≤a∧a≤1000 from ⟨by omega,by omega⟩) (by omega);have Hs:0≤3*a∧3*a≤3000:=M.yl (show (0:Int)≤3∧(3:Int)≤3 from ⟨by omega,by omega⟩) (show 0≤a∧a≤1000 from ⟨by omega,by omega⟩) (by omega);have Ec:0≤3*a*a∧3*a*a≤3000000:=M.yl Hs (show 0≤a∧a≤1000 from ⟨by omega,by omega⟩) (by omega);have Fg:0≤3*a*a*a∧3*a*a*a≤3000000000:=M.yl Ec (show 0≤a∧a≤1000 from ⟨by omega,by omega⟩) (by omega);have Fh:0≤22*b∧22*b≤220000:=M.yl (show (0:Int)≤22∧(22:Int)≤22 from ⟨by omega,by omega⟩) (show 0≤b∧b≤10000 from ⟨by omega,by omega⟩) (by omega);have HT:0≤22*b*b∧22*b*b≤2200000000:=M.yl Fh (show 0≤b∧b≤10000 from ⟨by omega,by omega⟩) (by omega);have Fi:0≤4*a*(3*a*a*a+22*b*b)∧4*a*(3*a*a*a+22*b*b)≤20800000000000:=M.yl JO (show 0≤3*a*a*a+22*b*b∧3*a*a*a+22*b*b≤5200000000 from ⟨by omega,by omega⟩) (by omega);have Fj:0≤12*b∧12*b≤120000:=M.yl (show (0:Int)≤12∧(12:Int)≤12 from ⟨by omega,by omega⟩) (show 0≤b∧b≤10000 from ⟨by omega,by omega⟩) (by omega);have HU:0≤a*a*a∧a*a*a≤1000000000:=M.yl Hb (show 0≤a∧a≤1000 from ⟨by omega,by omega⟩) (by omega);have HW:0≤8*b*b∧8*b*b≤800000000:=M.yl JN (show 0≤b∧b≤10000 from ⟨by omega,by omega⟩) (by omega);have HY:0≤12*b*(a*a*a+8*b*b)∧12*b*(a*a*a+8*b*b)≤216000000000000:=M.yl Fj (show 0≤a*a*a+8*b*b∧a*a*a+8*b*b≤1800000000 from ⟨by omega,by omega⟩) (by omega);have Fk:0≤5*a*a*a∧5*a*a*a≤5000000000:=M.yl Hr (show 0≤a∧a≤1000 from ⟨by omega,by omega⟩) (by omega);have Ed:0≤32*b∧32*b≤320000:=M.yl (show (0:Int)≤32∧(32:Int)≤32 from ⟨by omega,by omega⟩) (show 0≤b∧b≤10000 from ⟨by omega,by omega⟩) (by omega);have HZ:0≤32*b*b∧32*b*b≤3200000000:=M.yl Ed (show 0≤b∧b≤10000 from ⟨by omega,by omega⟩) (by omega);have Fl:0≤a*(5*a*a*a+32*b*b)∧a*(5*a*a*a+32*b*b)≤8200000000000:=M.yl (show 0≤a∧a≤1000 from ⟨by omega,by omega⟩) (show 0≤5*a*a*a+32*b*b∧5*a*a*a+32*b*b≤8200000000 from ⟨by omega,by omega⟩) (by omega);have Fm:0≤2*b∧2*b≤20000:=M.yl (show (0:Int)≤2∧(2:Int)≤2 from ⟨by omega,by omega⟩) (show 0≤b∧b≤10000 from ⟨by omega,by omega⟩) (by omega);have Fn:0≤13*a∧13*a≤13000:=M.yl (show (0:Int)≤13∧(13:Int)≤13 from ⟨by omega,by omega⟩) (show 0≤a∧a≤1000 from ⟨by omega,by omega⟩) (by omega);have Ee:0≤13*a*a∧13*a*a≤13000000:=M.yl Fn (show 0≤a∧a≤1000 from ⟨by omega,by omega⟩) (by omega);have Fo:0≤13*a*a*a∧13*a*a*a≤13000000000:=M.yl Ee (show 0≤a∧a≤1000 from ⟨by omega,by omega⟩) (by omega);have Ef:0≤96*b∧96*b≤960000:=M.yl (show (0:Int)≤96∧(96:Int)≤96 from ⟨by omega,by omega⟩) (show 0≤b∧b≤10000 from ⟨by omega,by omega⟩) (by omega);have Ha:0≤96*b*b∧96*b*b≤9600000000:=M.yl Ef (show 0≤b∧b≤10000 from ⟨by omega,by omega⟩) (by omega);have Fp:0≤2*b*(13*a*a*a+96*b*b)∧2*b*(13*a*a*a+96*b*b)≤452000000000000:=M.yl Fm (show 0≤13*a*a*a+96*b*b∧13*a*a*a+96*b*b≤22600000000 from ⟨by omega,by omega⟩) (by omega);have Hc:0≤3*a*a*(a*a*a+8*b*b)∧3*a*a*(a*a*a+8*b*b)≤5400000000000000:=M.yl Ec (show 0≤a*a*a+8*b*b∧a*a*a+8*b*b≤1800000000 from ⟨by omega,by omega⟩) (by omega);unfold M.hM M.hK;omega
theorem M.nh {a0 b0:Int} (hin:M.bE a0 b0=true):M.hC a0 b0≤60:=by
 have h:=M.pL hin;unfold M.hC Wh.bl;generalize max (M.hM a0.natAbs b0.natAbs) (M.hK a0.natAbs b0.natAbs (M.bC a0 b0).natAbs)=X at *
 split
 ·omega
 rename_i h0
 have:=(Nat.log2_lt h0 (k:=59)).2 (by
                      have:(2:Nat) ^ 59=576460752303423488:=by decide
                      omega)
 omega
theorem gY (a0 b0:Int) (w:World) (hin:M.bE a0 b0=true) :
  Calls Tryz.prog 137 #[.agg #[.int .i64 a0,.int .i64 b0]] w fun e w'=>e=.returned (.int .i64 (M.hC a0 b0:Nat))∧Below w.heap.size w w':=by
 have hbd:=M.pL hin
 have PD:=fun W=>iQ a0 b0 W hin
 have hc:Hid (M.hC a0 b0=Wh.bl (max (M.hM a0.natAbs b0.natAbs) (M.hK a0.natAbs b0.natAbs (M.bC a0 b0).natAbs)).toNat):=yJ rfl;generalize M.hK a0.natAbs b0.natAbs (M.bC a0 b0).natAbs=k,M.hM a0.natAbs b0.natAbs=m at *
 have hx:max m k=if m<k then k else m:=by split <;> omega
 have PL:=fun W=>Tryz.bits_Len (max m k) W (by omega) (by omega)
 rw [Wh.si _ (by omega)] at PL;obtain ⟨x1,x2⟩:=hbd;replace PD:=yJ PD;replace PL:=yJ PL;replace hx:=yJ hx;have B:=(yM w.heap.size w).alloc (yN _) (.cells #[.int .i64 a0,.int .i64 b0] 29);go_enter Tryz.func137,Tryz.ntmps137
 go_wp2_with (first
  | (go_at_call 151;(with_reducible refine (PD.out _).mono ?_);rintro e w4 ⟨rfl,hb4⟩;replace B:=i_ B hb4)
  | (go_at_call 152;(refine (PL.out _).mono ?_);rintro e w6 ⟨rfl,rfl⟩))
 go_ret;exact ⟨by rw [hc.out];rfl,B⟩
theorem mL (a0 b0:Int) (w:World) (hin:M.bE a0 b0=true) :
  Calls Tryz.prog 133 #[.agg #[.int .i64 a0,.int .i64 b0]] w fun e w'=>e=.returned (.int .i64 (M.hC a0 b0:Nat))∧Below w.heap.size w w':=by
 have hbd:=M.pL hin;have hcb:=M.nh hin
 have PD:=fun W=>mM a0 b0 W hin
 have hc:Hid (M.hC a0 b0=Wh.bl (max (M.hM a0.natAbs b0.natAbs) (M.hK a0.natAbs b0.natAbs (M.bC a0 b0).natAbs)).toNat):=yJ rfl;rw [hc.out] at hcb;generalize M.hK a0.natAbs b0.natAbs (M.bC a0 b0).natAbs=k,M.hM a0.natAbs b0.natAbs=m at *
 have PM:=fun W=>dp m k W
 generalize max m k=X at *;obtain ⟨x1,x2⟩:=hbd
 have hxn:X.natAbs=X.toNat:=by omega
 have PO:=fun W=>jq X W (by omega) (by omega)
 have PB:=fun v W k (h:aF W k v (Wh.d_ X.natAbs))=>jp X v W k h (Nat.le_trans (Wh.dQ (k:=5) (by omega)) (by decide)) (by rw [hxn];omega)
 replace hxn:=yJ hxn;generalize decide (X<0)=sX at *;replace PD:=yJ PD;replace PM:=yJ PM;replace PO:=yJ PO;replace PB:=yJ PB;clear hcb;have B:=(yM w.heap.size w).alloc (yN _) (.cells #[.int .i64 a0,.int .i64 b0] 29);go_enter Tryz.func133,Tryz.ntmps133
 go_wp2_with (first
  | (go_at_call 146;(with_reducible refine (PD.out _).mono ?_);rintro e w4 ⟨rfl,hb4⟩;replace B:=i_ B hb4)
  | (go_at_call 91;(with_reducible refine (PM.out _).mono ?_);rintro e w5 ⟨rfl,rfl⟩)
  | (go_at_call 147;(with_reducible refine (PO.out _).mono ?_);rintro e w6 ⟨v6,rfl,FO,hb6⟩;have At:=(show aF _ _ _ _ from FO);replace B:=i_ B hb6)
  | (go_at_call 145;(with_reducible refine (PB.out _ _ _ At).mono ?_);rintro e w8 ⟨rfl,ya⟩;replace B:=i_ B ya))
 go_ret;exact ⟨by rw [hc.out,←hxn.out];rfl,B⟩
def M.p4 (n:Nat):Int:=3*4 ^ n
theorem M.vQ (n:Nat):M.p4 (n+1)=M.p4 n*4:=by unfold M.p4;rw [Int.pow_succ];omega
theorem M.qW:∀ n:Nat,n≤5→3≤M.p4 n∧M.p4 n≤3072:=by decide
theorem qx (n:Nat) (w:World) (hn:n≤5) :
  Calls Tryz.prog 134 #[.int .i64 (n:Int)] w fun e w'=>e=.returned (.int .i64 (M.p4 n))∧w=w':=by
 go_enter Tryz.func134,Tryz.ntmps134
 go_wp2
 go_loop [0,3] (fun i o=>∃ k:Nat,k≤n∧i=.int .i64 ((n - k:Nat):Int)∧o=.int .i64 (M.p4 k)) (fun i _=>(intOf i).toNat)
 case atStart=>exact ⟨0,Nat.zero_le _,rfl,rfl⟩
 case round=>
 obtain ⟨k,hk,rfl,rfl⟩:=hrel;have hb:=M.qW k (by omega);have hs:=yJ (M.vQ k)
 by_cases hlt:k<n
 ·obtain ⟨j,hj⟩:∃ j:Nat,n - k=j+1:=⟨n - k - 1,by omega⟩
  have hj2:=yJ (show n - (k+1)=j by omega);rw [hj]
  have hjb:(j:Int)≤4:=by omega
  clear hj;go_wp2
  go_round
  case rel=>exact ⟨k+1,by omega,(by first | (rw [hj2.out];done) | (rw [hj2.out];go_num)),by rw [hs.out]⟩
  case measure=>simp [intOf] <;> omega
 obtain rfl:n=k:=by omega
 rw [Nat.sub_self];go_wp2;go_ret;exact ⟨rfl,rfl⟩
end
end Go.Proofs.YtgfkcoablfjbcaaGreat
