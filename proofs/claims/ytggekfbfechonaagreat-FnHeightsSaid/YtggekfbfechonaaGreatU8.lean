/-
  Joined texts: contracts and plain lemmas.
-/
import Derived.Test.YtggekfbfechonaaGreatU1
import Derived.Test.YtggekfbfechonaaGreatU7
set_option linter.unusedSimpArgs false
set_option linter.unusedVariables false
set_option maxRecDepth 100000
set_option maxHeartbeats 8000000
namespace Go.Proofs.YtggekfbfechonaaGreat
section
open Go.RowKit
theorem aH.bW {W:World} {g k:Nat} {T:TypeId} {xs:Array Value} (h:aH W g T xs) (hk:g≠k) (x y:Value):aH ((W.setCell ⟨k,0,none⟩ x).setCell ⟨k,1,none⟩ y) g T xs:=(h.other hk x).other hk y
theorem dN {B:Nat} {w W:World} {k:Nat} (h:Below B w W) (hk:B≤k) (x y:Value):Below B w ((W.setCell ⟨k,0,none⟩ x).setCell ⟨k,1,none⟩ y):=(h.setCell hk x).setCell hk y
theorem aF.len {W:World} {base l c:Nat} {a:Option Addr} {xs:List Int} (h:aF W base (.slice a l c) xs):l=xs.length:=by
 obtain ⟨a',c',e,-,-⟩:=aF.view h;injection e
namespace Wh
theorem vQ (D F G:Int):((zj D F G:Nat):Int) ∣ F:=Int.ofNat_dvd_left.2 (Nat.dvd_trans (Nat.gcd_dvd_left _ _) (Nat.gcd_dvd_right _ _))
theorem vR (D F G:Int):((zj D F G:Nat):Int) ∣ G:=Int.ofNat_dvd_left.2 (Nat.gcd_dvd_right _ _)
end Wh
theorem nJ (a b x z:Int) (vx vz:Value) (w:World) (bx bz:Nat) (hg:M.good a b=true) (hox:ak w bx vx x) (xj:ak w bz vz z) (hx:Wh.sz x 1000) (hz:Wh.sz z 1000) :
  Calls Tryz.prog 158 #[.agg #[.int .i64 a,.int .i64 b],.agg #[.bool (decide (x<0)),vx,.bool (decide (z<0)),vz]] w fun e w'=>∃ v1 v2,e=.returned (.tuple #[.agg #[.bool (decide (Wh.AD (M.aX a b) (Wh.ay a b x z) (Wh.an a b x z)<0)),v1,.bool (decide (Wh.AE (M.aX a b) (Wh.ay a b x z) (Wh.an a b x z)<0)),v2],.bool (Wh.dW (M.aX a b) (Wh.ay a b x z) (Wh.an a b x z))])∧ak w' w.heap.size v1 (Wh.AD (M.aX a b) (Wh.ay a b x z) (Wh.an a b x z))∧ak w' w.heap.size v2 (Wh.AE (M.aX a b) (Wh.ay a b x z) (Wh.an a b x z))∧Below w.heap.size w w':=by
 obtain ⟨ax,cx,rfl,-,-⟩:=aF.view hox;obtain ⟨az,cz,rfl,-,-⟩:=aF.view xj;have hin:=M.ah hg;obtain ⟨ha1,ha2,hb1,hb2⟩:=M.ar hin;have hdn:=eW hg;have hdb:=dn hin
 have PF:=fun v v' W k k' (h1:aF W k v (Wh.a_ x.natAbs)) (h2:aF W k' v' (Wh.a_ z.natAbs))=>tZ a b x z v v' W k k' h1 h2 hx hz ha1 ha2 hb1 hb2
 have PG:=fun v v' W k k' (h1:aF W k v (Wh.a_ x.natAbs)) (h2:aF W k' v' (Wh.a_ z.natAbs))=>jQ a b x z v v' W k k' h1 h2 hx hz ha1 ha2 hb1 hb2
 have zF:=Wh.kq hx hz ha1 ha2 hb1 hb2;have zG:=Wh.kh hx hz ha1 ha2 hb1 hb2;have hdv:=Wh.qm (Wh.ay a b x z) (Wh.an a b x z) hdn;have hdF:=Wh.vQ (M.aX a b) (Wh.ay a b x z) (Wh.an a b x z);have K6:=Wh.vR (M.aX a b) (Wh.ay a b x z) (Wh.an a b x z);generalize Wh.an a b x z=G,Wh.ay a b x z=F at *;have sF:=Wh.aY.2 (Wh.aN zF (show 5000≤9000 by omega));have sG:=Wh.aY.2 (Wh.aN zG (show 6000≤9000 by omega));have zF':=Wh.gq zF;have zG':=Wh.gq zG;have MM:=Wh.aY.2 (Wh.aN zF' (show 5000≤9000 by omega));have MN:=Wh.aY.2 (Wh.aN zG' (show 6000≤9000 by omega))
 have PM:=fun v W k (h:aF W k v (Wh.a_ F.natAbs))=>gP F v W k h (by omega)
 have PN:=fun v W k (h:aF W k v (Wh.a_ G.natAbs))=>gP G v W k h (by omega)
 have zu:=fun v v' W k k' (h1:aF W k v (Wh.a_ F.natAbs)) (h2:aF W k' v' (Wh.a_ G.natAbs))=>iI a b F G v v' W k k' hg h1 h2 sF sG
 have Bh:=fun v v' W k k' (h1:aF W k v (Wh.a_ (-F).natAbs)) (h2:aF W k' v' (Wh.a_ (-G).natAbs))=>iI a b (-F) (-G) v v' W k k' hg h1 h2 MM MN
 simp only [Wh.sj] at zu Bh;rw [Wh.si] at Bh;generalize M.aX a b=D at *;clear hin hg ha1 ha2 hb1 hb2 hdn hx hz
 obtain ⟨d,hd⟩:∃ d,Hid (Wh.zj D F G=d):=⟨_,wM rfl⟩
 rw [hd.out] at hdv zu Bh hdF K6;have hd1:1≤d:=hdv.1
 have hd2:d≤1000000000000:=by omega
 clear hdv hdb;have zN:=Wh.ki zF d;have zE:=Wh.ki zG d;have zN':=Wh.gq zN;have zE':=Wh.gq zE;have sN:=Wh.aY.2 (Wh.aN zN (show 5000+1≤9000 by omega));have sE:=Wh.aY.2 (Wh.aN zE (show 6000+1≤9000 by omega));have sN':=Wh.aY.2 (Wh.aN zN' (show 5000+1≤9000 by omega));have sE':=Wh.aY.2 (Wh.aN zE' (show 6000+1≤9000 by omega))
 have CN:=fun v W k (h:aF W k v (Wh.a_ F.natAbs))=>dl F (d:Int) v W k h sF (by omega) (by omega)
 have CJ:=fun v W k (h:aF W k v (Wh.a_ G.natAbs))=>dl G (d:Int) v W k h sG (by omega) (by omega)
 have CO:=fun v W k (h:aF W k v (Wh.a_ (-F).natAbs))=>dl (-F) (d:Int) v W k h MM (by omega) (by omega)
 have CP:=fun v W k (h:aF W k v (Wh.a_ (-G).natAbs))=>dl (-G) (d:Int) v W k h MN (by omega) (by omega)
 rw [Int.neg_ediv_of_dvd hdF] at CO;rw [Int.neg_ediv_of_dvd K6] at CP
 have AF:=fun v v' W k k' (h:aF W k v (Wh.a_ (F / (d:Int)).natAbs)) (h':aF W k' v' (Wh.a_ (G / (d:Int)).natAbs))=>mS (F / (d:Int)) (G / (d:Int)) v v' W k k' h h' (by omega) (by omega)
 have At:=fun v v' W k k' (h:aF W k v (Wh.a_ (-(F / (d:Int))).natAbs)) (h':aF W k' v' (Wh.a_ (-(G / (d:Int))).natAbs))=>mS (-(F / (d:Int))) (-(G / (d:Int))) v v' W k k' h h' (by omega) (by omega)
 clear hdF K6 sF sG MM MN zF zG zF' zG' zN zE zN' zE' sN sE sN' sE'
 have EA:G≠0→Wh.dW D F G=Wh.cJ (if G<0 then -(F / (d:Int)) else F / (d:Int)) (if G<0 then -(G / (d:Int)) else G / (d:Int)):=fun hne=>by unfold Wh.dW Wh.BV Wh.BU;rw [hd.out,decide_eq_true hne];rfl
 have eX:Wh.AD D F G=if Wh.dW D F G=true then (if G<0 then -(F / (d:Int)) else F / (d:Int)) else 0:=by unfold Wh.AD Wh.BV;rw [hd.out]
 have eZ:Wh.AE D F G=if Wh.dW D F G=true then (if G<0 then -(G / (d:Int)) else G / (d:Int)) else 0:=by unfold Wh.AE Wh.BU;rw [hd.out]
 have Ak:=Wh.nY (z:=G) hd1;generalize hs1:decide (x<0)=s1 at *;generalize hs2:decide (z<0)=s2 at *;clear hs1 hs2;replace hox:=wM (show aF _ _ _ _ from hox);replace xj:=wM (show aF _ _ _ _ from xj);generalize (Wh.a_ z.natAbs).length=lz,(Wh.a_ x.natAbs).length=lx at *;have C:=((aH.new w #[.int .i64 a,.int .i64 b] 25).alloc (.cells #[.bool s1,.slice ax lx cx,.bool s2,.slice az lz cz] 127)).alloc (.cells #[.bool false,.slice none 0 0,.bool false,.slice none 0 0] 127);have Q:=(aH.new (w.alloc (.cells #[.int .i64 a,.int .i64 b] 25)) #[.bool s1,.slice ax lx cx,.bool s2,.slice az lz cz] 127).alloc (.cells #[.bool false,.slice none 0 0,.bool false,.slice none 0 0] 127);rw [wN] at Q;have R:=aH.new ((w.alloc (.cells #[.int .i64 a,.int .i64 b] 25)).alloc (.cells #[.bool s1,.slice ax lx cx,.bool s2,.slice az lz cz] 127)) #[.bool false,.slice none 0 0,.bool false,.slice none 0 0] 127;rw [cW] at R;have B:=(((wP w.heap.size w).alloc (wQ _) (.cells #[.int .i64 a,.int .i64 b] 25)).alloc (by rw [wN];omega) (.cells #[.bool s1,.slice ax lx cx,.bool s2,.slice az lz cz] 127)).alloc (by rw [cW];omega) (.cells #[.bool false,.slice none 0 0,.bool false,.slice none 0 0] 127);have ox:=wM (aF.alloc (aF.alloc (aF.alloc hox.out (.cells #[.int .i64 a,.int .i64 b] 25)) (.cells #[.bool s1,.slice ax lx cx,.bool s2,.slice az lz cz] 127)) (.cells #[.bool false,.slice none 0 0,.bool false,.slice none 0 0] 127));have oz:=wM (aF.alloc (aF.alloc (aF.alloc xj.out (.cells #[.int .i64 a,.int .i64 b] 25)) (.cells #[.bool s1,.slice ax lx cx,.bool s2,.slice az lz cz] 127)) (.cells #[.bool false,.slice none 0 0,.bool false,.slice none 0 0] 127))
 have Ba:w.heap.size+3≤(((w.alloc (.cells #[.int .i64 a,.int .i64 b] 25)).alloc (.cells #[.bool s1,.slice ax lx cx,.bool s2,.slice az lz cz] 127)).alloc (.cells #[.bool false,.slice none 0 0,.bool false,.slice none 0 0] 127)).heap.size:=by rw [wN,cW];omega
 clear hox xj;generalize hw3:((w.alloc (.cells #[.int .i64 a,.int .i64 b] 25)).alloc (.cells #[.bool s1,.slice ax lx cx,.bool s2,.slice az lz cz] 127)).alloc (.cells #[.bool false,.slice none 0 0,.bool false,.slice none 0 0] 127)=wc at *;replace PF:=wM PF;replace PG:=wM PG;replace PM:=wM PM;replace PN:=wM PN;replace zu:=wM zu;replace Bh:=wM Bh;replace CN:=wM CN;replace CO:=wM CO;replace CJ:=wM CJ;replace CP:=wM CP;replace AF:=wM AF;replace At:=wM At;replace EA:=wM EA;replace eX:=wM eX;replace eZ:=wM eZ;replace Ak:=wM Ak;clear hd1 hd2;go_enter Tryz.func158,Tryz.ntmps158
 go_wp2
 go_upto_region 1 with fail
 refine Rg.bO 8 [.is (.agg #[.int .i64 a,.int .i64 b]),.is (.agg #[.bool s1,.slice ax lx cx,.bool s2,.slice az lz cz]),.at (aJ (wc.heap.size) (F)),.is (.agg #[.int .i64 a,.int .i64 b]),.is (.agg #[.bool s1,.slice ax lx cx,.bool s2,.slice az lz cz]),.at (aJ (wc.heap.size) (G)),.new (wc.heap.size) 125 #[.bool false,.slice none 0 0],.new (wc.heap.size) 125 #[.bool false,.slice none 0 0]] (by kernel_rfl) (by kernel_rfl) (by kernel_rfl) ⟨?_,?_,?_,?_,?_,?_,?_,?_,fun h_=>absurd h_ (by decide),fun h_=>absurd h_ (by decide),trivial⟩ ?_
 ·intro _ zZ w_ hB hr
  have e2:zZ.tmps[2]?=some (.pointer (some ⟨w.heap.size,0,none⟩)):=hr 2 (by decide);have k0:=aE hB C.box.c0;have k1:=aE hB C.box.c1;exact Rg.aG rfl (by go_simp)
 ·intro _ zZ w_ hB hr
  have e3:zZ.tmps[3]?=some (.pointer (some ⟨w.heap.size+1,0,none⟩)):=hr 3 (by decide);have k0:=aE hB Q.aP.c0;have k1:=aE hB Q.aP.c1;have k2:=aE hB Q.aP.c2;have k3:=aE hB Q.aP.c3;exact Rg.aG rfl (by go_simp)
 ·intro _ zZ w_ hB hr
  have e14:=Rg.c_ (hr 14 (by decide));have e15:=Rg.c_ (hr 15 (by decide));have ef:=Rg.ef zZ;refine Rg.af rfl (by go_simp;exact ⟨rfl,rfl⟩) ?_;refine (PF.out _ _ _ _ _ (aF.below ox.out hB) (aF.below oz.out hB)).mono ?_;rintro e w5 ⟨xX,rfl,wl,hb5⟩;exact ⟨_,rfl,aJ.at wl (by have:=hB.size;omega),hb5⟩
 ·intro _ zZ w_ hB hr
  have e2:zZ.tmps[2]?=some (.pointer (some ⟨w.heap.size,0,none⟩)):=hr 2 (by decide);have k0:=aE hB C.box.c0;have k1:=aE hB C.box.c1;exact Rg.aG rfl (by go_simp)
 ·intro _ zZ w_ hB hr
  have e3:zZ.tmps[3]?=some (.pointer (some ⟨w.heap.size+1,0,none⟩)):=hr 3 (by decide);have k0:=aE hB Q.aP.c0;have k1:=aE hB Q.aP.c1;have k2:=aE hB Q.aP.c2;have k3:=aE hB Q.aP.c3;exact Rg.aG rfl (by go_simp)
 ·intro _ zZ w_ hB hr
  have e17:=Rg.c_ (hr 17 (by decide));have e18:=Rg.c_ (hr 18 (by decide));have ef:=Rg.ef zZ;refine Rg.af rfl (by go_simp;exact ⟨rfl,rfl⟩) ?_;refine (PG.out _ _ _ _ _ (aF.below ox.out hB) (aF.below oz.out hB)).mono ?_;rintro e w5 ⟨xX,rfl,wl,hb5⟩;exact ⟨_,rfl,aJ.at wl (by have:=hB.size;omega),hb5⟩
 ·intro _ zZ w_ hB hr
  exact ⟨by have:=hB.size;omega,rfl,by first | (go_simp;done) | (go_simp;rfl)⟩
 ·intro _ zZ w_ hB hr
  exact ⟨by have:=hB.size;omega,rfl,by first | (go_simp;done) | (go_simp;rfl)⟩
 intro vals wz hB hv hne;have n6:(Rg.Val.new (wc.heap.size) 125 #[.bool false,.slice none 0 0]).ok (vals 6) wz:=hv 6 (by decide);have n7:(Rg.Val.new (wc.heap.size) 125 #[.bool false,.slice none 0 0]).ok (vals 7) wz:=hv 7 (by decide);have n16:(Rg.Val.at (aJ (wc.heap.size) (F))).ok (vals 2) wz:=hv 2 (by decide);have n19:(Rg.Val.at (aJ (wc.heap.size) (G))).ok (vals 5) wz:=hv 5 (by decide);simp only [Rg.bE,Rg.fill,Act.put,Nat.reduceAdd];clear hv;have FY:=hne 6 7 (by decide) (by decide) (by decide) rfl rfl;obtain ⟨g6,CK,CL,o6⟩:=n6;replace o6:aH wz g6 125 #[.bool false,.slice none 0 0]:=o6;obtain ⟨g7,ED,AB,o7⟩:=n7;replace o7:aH wz g7 125 #[.bool false,.slice none 0 0]:=o7;obtain ⟨s16,a16,BF,c16,z8,HY,o16⟩:=(Rg.ag n16).view;obtain ⟨Bz,CT,Bb,c19,AA,BO,Fz⟩:=(Rg.ag n19).view;rw [CL,AB] at FY
 have CW:g6≠g7:=fun e=>FY (by rw [e])
 simp only [CL,AB,HY,BO];clear CL AB HY BO;have Df:=CW.symm
 have K8:w.heap.size+3≤g6:=by omega
 have K9:w.heap.size+3≤g7:=by omega
 have FC:w.heap.size≤g6:=by omega
 have Gv:w.heap.size≤g7:=by omega
 have hc6:w.heap.size≠g6:=by omega
 have H4:w.heap.size≠g7:=by omega
 have H_:w.heap.size+1+1≠g6:=by omega
 have IA:w.heap.size+1+1≠g7:=by omega
 have V3:aH ((wz.setCell ⟨g6,0,none⟩ (.bool s16)).setCell ⟨g6,1,none⟩ (.slice a16 BF c16)) g7 125 #[.bool false,.slice none 0 0]:=(o7.other Df _).other Df _;have V:=aH.set2 V3 (.bool Bz) (.slice CT Bb c19);have U:aH ((((wz.setCell ⟨g6,0,none⟩ (.bool s16)).setCell ⟨g6,1,none⟩ (.slice a16 BF c16)).setCell ⟨g7,0,none⟩ (.bool Bz)).setCell ⟨g7,1,none⟩ (.slice CT Bb c19)) g6 125 #[.bool s16,.slice a16 BF c16]:=((aH.set2 o6 (.bool s16) (.slice a16 BF c16)).other CW _).other CW _;have oF:=wM (aF.base (aF.bJ (aF.bJ o16 o6 (by decide) (.bool s16) (.slice a16 BF c16)) V3 (by decide) (.bool Bz) (.slice CT Bb c19)) B.size);have oG:=wM (aF.base (aF.bJ (aF.bJ Fz o6 (by decide) (.bool s16) (.slice a16 BF c16)) V3 (by decide) (.bool Bz) (.slice CT Bb c19)) B.size);replace C:=((C.keep hB).bW hc6 (.bool s16) (.slice a16 BF c16)).bW H4 (.bool Bz) (.slice CT Bb c19);replace R:=((R.keep hB).bW H_ (.bool s16) (.slice a16 BF c16)).bW IA (.bool Bz) (.slice CT Bb c19);replace B:Below w.heap.size w ((((wz.setCell ⟨g6,0,none⟩ (.bool s16)).setCell ⟨g6,1,none⟩ (.slice a16 BF c16)).setCell ⟨g7,0,none⟩ (.bool Bz)).setCell ⟨g7,1,none⟩ (.slice CT Bb c19)):=wO (wO (wO (wO (d_ B hB) FC _) FC _) Gv _) Gv _;have ⟨p0,p1,q0,q1,_⟩:=o6.box;have ⟨p2,p3,q2,q3,_⟩:=o7.box;unfold Rg.aZ Rg.aZ Rg.aZ Oper.wp
 go_simp
 clear p0 p1 q0 q1 p2 p3 q2 q3 V3 o6 o7 o16 Fz hB FY Q ox oz Ba CK ED K8 K9;generalize ((((wz.setCell ⟨g6,0,none⟩ (.bool s16)).setCell ⟨g6,1,none⟩ (.slice a16 BF c16)).setCell ⟨g7,0,none⟩ (.bool Bz)).setCell ⟨g7,1,none⟩ (.slice CT Bb c19))=wd at *;have f_:=C.box.c0;have g_:=C.box.c1;have xJ:=U.box.c0;have xK:=U.box.c1;have xL:=V.box.c0;have xM:=V.box.c1;have xT:=U.box.f0;have xU:=U.box.f1;have yF:=V.box.f0;have yG:=V.box.f1;have t_:=R.aP.c0;have o_:=R.aP.f0;have wR:=R.aP.c1;have p_:=R.aP.f1;have wW:=R.aP.c2;have wZ:=R.aP.f2;have wX:=R.aP.c3;have wb:=R.aP.f3;have Cg:=z8;have Ci:=AA;have Do:=aF.len oG.out
 by_cases h0:G=0
 ·have hl:Bb=0:=by rw [Do,h0];exact Wh.eB.2 rfl
  have hok:Wh.dW D F G=false:=by unfold Wh.dW;rw [h0];simp
  have hX:=eX.out;have hZ:=eZ.out;rw [hok,if_neg (by decide)] at hX hZ;replace hX:=wM hX;replace hZ:=wM hZ;replace hok:=wM hok;clear Do h0 hd eX eZ EA PF PG PM PN zu Bh CN CO CJ CP AF At Ak z8 AA Cg Ci hc6 H4 H_ IA FC Gv;subst hl;go_wp2;exact bodyPost_ret (v:=.tuple #[.agg #[.bool false,.slice none 0 0,.bool false,.slice none 0 0],.bool false]) (by simp [results,Tryz.results158,go_sem, *]) rfl (⟨_,_,(by rw [hX.out,hZ.out,hok.out];rfl),(by rw [hX.out];exact et _ _),(by rw [hZ.out];exact et _ _),wO (wO (wO (wO B (by simp <;> omega) _) (by simp <;> omega) _) (by simp <;> omega) _) (by simp <;> omega) _⟩)
 have hlp:¬ Bb=0:=fun h=>h0 (Wh.eB.1 (by rw [←Do];exact h))
 have hlq:((Bb:Int) == 0)=false:=by rw [beq_eq_false_iff_ne];omega
 have hX:=eX.out;have hZ:=eZ.out;have hO:=EA.out h0;rw [hO] at hX hZ;clear Do h0 eX eZ EA PF PG;replace hd:=wM hd
 by_cases hneg:G<0
 ·have hsg:decide (G<0)=true:=decide_eq_true hneg
  rw [if_pos hneg,if_pos hneg] at hX hZ hO
  obtain rfl:Bz=true:=by rw [AA.out];exact hsg
  have BA:=Ak.out;rw [hsg] at BA;clear Ak AA Ci Cg;replace PM:=PM.out;rw [←z8.out] at PM;replace PM:=wM PM;replace PN:=PN.out;rw [hsg] at PN;replace PN:=wM PN;clear zu CN CJ AF;replace Bh:=Bh.out;replace CO:=CO.out;replace CP:=CP.out;replace At:=At.out;replace PN:=PN.out;replace PM:=PM.out;generalize hs5:decide (-F<0)=s5 at *;generalize hs6:decide (-G<0)=s6 at *;generalize -F % (d:Int)=rF at *;generalize -G % (d:Int)=rG at *;generalize hN:-(F / (d:Int))=N at *;generalize hE:-(G / (d:Int))=E at *;clear hN;clear hE;generalize An:decide (N<0)=sN at *;generalize EH:decide (E<0)=sE at *;replace Bh:=wM Bh;replace CO:=wM CO;replace CP:=wM CP;replace At:=wM At;replace PM:=wM PM;replace PN:=wM PN;replace An:=wM An;replace EH:=wM EH;clear BA hs5 hs6;clear hneg hsg hd
  by_cases hok:Wh.cJ N E=true
  ·skip
   rw [hok] at hX hZ hO;rw [if_pos rfl] at hX hZ;have hq:=hok;replace hok:=wM hO;replace hq:=wM hq;replace hX:=wM hX;replace hZ:=wM hZ;clear hO
   go_wp2_with (first
    | (go_at_call 188;(with_reducible refine (PM.out _ _ _ oF.out).mono ?_);rintro e w4 ⟨v4,rfl,xF,hb4⟩;have xH:=B.size;replace C:=C.keep hb4;replace R:=R.keep hb4;replace U:=U.keep hb4;replace V:=V.keep hb4;replace oF:=kO oF hb4;replace oG:=kO oG hb4;replace B:=d_ B hb4;obtain ⟨a4,c4,rfl,xE,wt⟩:=aF.view xF;clear xE wt;have yI:=wM (aF.base (show aF _ _ _ _ from xF) xH);clear xF;(generalize (Wh.a_ (-F).natAbs).length=l4 at *);clear xH;have G8:=U.box.c0;have G9:=U.box.c1;have G_:=U.box.f0;have HA:=U.box.f1;replace oF:=sO oF U (by decide) (.bool s5) (.slice a4 l4 c4);replace oG:=sO oG U (by decide) (.bool s5) (.slice a4 l4 c4);replace yI:=sO yI U (by decide) (.bool s5) (.slice a4 l4 c4);replace C:=C.bW hc6 (.bool s5) (.slice a4 l4 c4);replace R:=R.bW H_ (.bool s5) (.slice a4 l4 c4);replace V:=V.bW Df (.bool s5) (.slice a4 l4 c4);replace U:=aH.set2 U (.bool s5) (.slice a4 l4 c4);replace B:=dN B FC (.bool s5) (.slice a4 l4 c4);(replace ⟨f_,g_⟩:=C.b2);(replace ⟨t_,wR,wW,wX,o_,p_,wZ,wb⟩:=R.xI);(replace ⟨xJ,xK,xT,xU⟩:=U.x9);(replace ⟨xL,xM,yF,yG⟩:=V.x9))
    | (go_at_call 188;(with_reducible refine (PN.out _ _ _ oG.out).mono ?_);rintro e w5 ⟨v5,rfl,wl,hb5⟩;have xH:=B.size;replace C:=C.keep hb5;replace R:=R.keep hb5;replace U:=U.keep hb5;replace V:=V.keep hb5;replace oF:=kO oF hb5;replace oG:=kO oG hb5;replace yI:=kO yI hb5;replace B:=d_ B hb5;obtain ⟨a5,c5,rfl,xE,wt⟩:=aF.view wl;clear xE wt;have yS:=wM (aF.base (show aF _ _ _ _ from wl) xH);clear wl;(generalize (Wh.a_ (-G).natAbs).length=l5 at *);clear xH;have HC:=V.box.c0;have HD:=V.box.c1;have HE:=V.box.f0;have HF:=V.box.f1;replace oF:=sO oF V (by decide) (.bool s6) (.slice a5 l5 c5);replace oG:=sO oG V (by decide) (.bool s6) (.slice a5 l5 c5);replace yI:=sO yI V (by decide) (.bool s6) (.slice a5 l5 c5);replace yS:=sO yS V (by decide) (.bool s6) (.slice a5 l5 c5);replace C:=C.bW H4 (.bool s6) (.slice a5 l5 c5);replace R:=R.bW IA (.bool s6) (.slice a5 l5 c5);replace U:=U.bW CW (.bool s6) (.slice a5 l5 c5);replace V:=aH.set2 V (.bool s6) (.slice a5 l5 c5);replace B:=dN B Gv (.bool s6) (.slice a5 l5 c5);(replace ⟨f_,g_⟩:=C.b2);(replace ⟨t_,wR,wW,wX,o_,p_,wZ,wb⟩:=R.xI);(replace ⟨xJ,xK,xT,xU⟩:=U.x9);(replace ⟨xL,xM,yF,yG⟩:=V.x9))
    | (go_at_call 189;(with_reducible refine (Bh.out _ _ _ _ _ yI.out yS.out).mono ?_);rintro e w6 ⟨rfl,hb6⟩;replace C:=C.keep hb6;replace R:=R.keep hb6;replace U:=U.keep hb6;replace V:=V.keep hb6;replace oF:=kO oF hb6;replace oG:=kO oG hb6;replace yI:=kO yI hb6;replace yS:=kO yS hb6;replace B:=d_ B hb6;(replace ⟨f_,g_⟩:=C.b2);(replace ⟨t_,wR,wW,wX,o_,p_,wZ,wb⟩:=R.xI);(replace ⟨xJ,xK,xT,xU⟩:=U.x9);(replace ⟨xL,xM,yF,yG⟩:=V.x9))
    | (go_at_call 169;(with_reducible refine (CO.out _ _ _ yI.out).mono ?_);rintro e w8 ⟨v8,rfl,yL,xD⟩;have xH:=B.size;replace C:=C.keep xD;replace R:=R.keep xD;replace U:=U.keep xD;replace V:=V.keep xD;replace oF:=kO oF xD;replace oG:=kO oG xD;replace yI:=kO yI xD;replace yS:=kO yS xD;replace B:=d_ B xD;obtain ⟨a8,c8,rfl,xE,wt⟩:=aF.view yL;clear xE wt;have on:=wM (aF.base (show aF _ _ _ _ from yL) xH);clear yL;(generalize (Wh.a_ N.natAbs).length=ln at *);clear xH;have N_:=aH.new w8 #[.bool sN,.slice a8 ln c8] 125;have b_:=bA w8 (.cells #[.bool sN,.slice a8 ln c8] 125);replace C:=C.keep b_;replace R:=R.keep b_;replace U:=U.keep b_;replace V:=V.keep b_;replace oF:=kO oF b_;replace oG:=kO oG b_;replace yI:=kO yI b_;replace yS:=kO yS b_;replace on:=kO on b_;replace B:=d_ B b_;clear b_;(replace ⟨f_,g_⟩:=C.b2);(replace ⟨t_,wR,wW,wX,o_,p_,wZ,wb⟩:=R.xI);(replace ⟨xJ,xK,xT,xU⟩:=U.x9);(replace ⟨xL,xM,yF,yG⟩:=V.x9);(replace ⟨yT,yU⟩:=N_.b2))
    | (go_at_call 169;(with_reducible refine (CP.out _ _ _ yS.out).mono ?_);rintro e w9 ⟨v9,rfl,yk,xA⟩;have xH:=B.size;replace C:=C.keep xA;replace R:=R.keep xA;replace U:=U.keep xA;replace V:=V.keep xA;replace N_:=N_.keep xA;replace oF:=kO oF xA;replace oG:=kO oG xA;replace yI:=kO yI xA;replace yS:=kO yS xA;replace on:=kO on xA;replace B:=d_ B xA;obtain ⟨a9,c9,rfl,xE,wt⟩:=aF.view yk;clear xE wt;have oe:=wM (aF.base (show aF _ _ _ _ from yk) xH);clear yk;(generalize (Wh.a_ E.natAbs).length=le at *);clear xH;have E_:=aH.new w9 #[.bool sE,.slice a9 le c9] 125;have b_:=bA w9 (.cells #[.bool sE,.slice a9 le c9] 125);replace C:=C.keep b_;replace R:=R.keep b_;replace U:=U.keep b_;replace V:=V.keep b_;replace N_:=N_.keep b_;replace oF:=kO oF b_;replace oG:=kO oG b_;replace yI:=kO yI b_;replace yS:=kO yS b_;replace on:=kO on b_;replace oe:=kO oe b_;replace B:=d_ B b_;clear b_;(replace ⟨f_,g_⟩:=C.b2);(replace ⟨t_,wR,wW,wX,o_,p_,wZ,wb⟩:=R.xI);(replace ⟨xJ,xK,xT,xU⟩:=U.x9);(replace ⟨xL,xM,yF,yG⟩:=V.x9);(replace ⟨yT,yU⟩:=N_.b2);(replace ⟨zL,zM⟩:=E_.b2);have O:=aH.new (w9.alloc (.cells #[.bool sE,.slice a9 le c9] 125)) #[.bool sN,.slice a8 ln c8,.bool sE,.slice a9 le c9] 127;have b_:=bA (w9.alloc (.cells #[.bool sE,.slice a9 le c9] 125)) (.cells #[.bool sN,.slice a8 ln c8,.bool sE,.slice a9 le c9] 127);replace C:=C.keep b_;replace R:=R.keep b_;replace U:=U.keep b_;replace V:=V.keep b_;replace N_:=N_.keep b_;replace E_:=E_.keep b_;replace oF:=kO oF b_;replace oG:=kO oG b_;replace yI:=kO yI b_;replace yS:=kO yS b_;replace on:=kO on b_;replace oe:=kO oe b_;replace B:=d_ B b_;clear b_;(rw [wN] at O))
    | (go_at_call 190;(with_reducible refine (At.out _ _ _ _ _ on.out oe.out).mono ?_);rintro e D7 ⟨rfl,wS⟩;(simp only [hq.out]);replace C:=C.keep wS;replace R:=R.keep wS;replace U:=U.keep wS;replace V:=V.keep wS;replace N_:=N_.keep wS;replace E_:=E_.keep wS;replace O:=O.keep wS;replace oF:=kO oF wS;replace oG:=kO oG wS;replace yI:=kO yI wS;replace yS:=kO yS wS;replace on:=kO on wS;replace oe:=kO oe wS;replace B:=d_ B wS;(replace ⟨f_,g_⟩:=C.b2);(replace ⟨t_,wR,wW,wX,o_,p_,wZ,wb⟩:=R.xI);(replace ⟨xJ,xK⟩:=U.b2);(replace ⟨xL,xM⟩:=V.b2);(replace ⟨yT,yU⟩:=N_.b2);(replace ⟨zL,zM⟩:=E_.b2);(replace ⟨yf,yg,yh,yi⟩:=O.b4)))
   have hr1:=aF.base (aF.cn on.out R (by decide) (.bool sN) (.slice a8 ln c8) (.bool sE) (.slice a9 le c9)) (base':=w.heap.size) (wQ _);have hr2:=aF.base (aF.cn oe.out R (by decide) (.bool sN) (.slice a8 ln c8) (.bool sE) (.slice a9 le c9)) (base':=w.heap.size) (wQ _);exact bodyPost_ret (v:=.tuple #[.agg #[.bool sN,.slice a8 ln c8,.bool sE,.slice a9 le c9],.bool true]) (by simp [results,Tryz.results158,go_sem, *]) rfl (⟨_,_,(by rw [hX.out,hZ.out,hok.out,An.out,EH.out]),(by rw [hX.out];exact hr1),(by rw [hZ.out];exact hr2),wO (wO (wO (wO B (by simp <;> omega) _) (by simp <;> omega) _) (by simp <;> omega) _) (by simp <;> omega) _⟩)
  replace hok:Wh.cJ N E=false:=by simpa using hok
  rw [hok] at hX hZ hO;rw [if_neg (by decide)] at hX hZ;have hq:=hok;replace hok:=wM hO;replace hq:=wM hq;replace hX:=wM hX;replace hZ:=wM hZ;clear hO
  go_wp2_with (first
   | (go_at_call 188;(with_reducible refine (PM.out _ _ _ oF.out).mono ?_);rintro e w4 ⟨v4,rfl,xF,hb4⟩;have xH:=B.size;replace C:=C.keep hb4;replace R:=R.keep hb4;replace U:=U.keep hb4;replace V:=V.keep hb4;replace oF:=kO oF hb4;replace oG:=kO oG hb4;replace B:=d_ B hb4;obtain ⟨a4,c4,rfl,xE,wt⟩:=aF.view xF;clear xE wt;have yI:=wM (aF.base (show aF _ _ _ _ from xF) xH);clear xF;(generalize (Wh.a_ (-F).natAbs).length=l4 at *);clear xH;have G8:=U.box.c0;have G9:=U.box.c1;have G_:=U.box.f0;have HA:=U.box.f1;replace oF:=sO oF U (by decide) (.bool s5) (.slice a4 l4 c4);replace oG:=sO oG U (by decide) (.bool s5) (.slice a4 l4 c4);replace yI:=sO yI U (by decide) (.bool s5) (.slice a4 l4 c4);replace C:=C.bW hc6 (.bool s5) (.slice a4 l4 c4);replace R:=R.bW H_ (.bool s5) (.slice a4 l4 c4);replace V:=V.bW Df (.bool s5) (.slice a4 l4 c4);replace U:=aH.set2 U (.bool s5) (.slice a4 l4 c4);replace B:=dN B FC (.bool s5) (.slice a4 l4 c4);(replace ⟨f_,g_⟩:=C.b2);(replace ⟨t_,wR,wW,wX,o_,p_,wZ,wb⟩:=R.xI);(replace ⟨xJ,xK,xT,xU⟩:=U.x9);(replace ⟨xL,xM,yF,yG⟩:=V.x9))
   | (go_at_call 188;(with_reducible refine (PN.out _ _ _ oG.out).mono ?_);rintro e w5 ⟨v5,rfl,wl,hb5⟩;have xH:=B.size;replace C:=C.keep hb5;replace R:=R.keep hb5;replace U:=U.keep hb5;replace V:=V.keep hb5;replace oF:=kO oF hb5;replace oG:=kO oG hb5;replace yI:=kO yI hb5;replace B:=d_ B hb5;obtain ⟨a5,c5,rfl,xE,wt⟩:=aF.view wl;clear xE wt;have yS:=wM (aF.base (show aF _ _ _ _ from wl) xH);clear wl;(generalize (Wh.a_ (-G).natAbs).length=l5 at *);clear xH;have HC:=V.box.c0;have HD:=V.box.c1;have HE:=V.box.f0;have HF:=V.box.f1;replace oF:=sO oF V (by decide) (.bool s6) (.slice a5 l5 c5);replace oG:=sO oG V (by decide) (.bool s6) (.slice a5 l5 c5);replace yI:=sO yI V (by decide) (.bool s6) (.slice a5 l5 c5);replace yS:=sO yS V (by decide) (.bool s6) (.slice a5 l5 c5);replace C:=C.bW H4 (.bool s6) (.slice a5 l5 c5);replace R:=R.bW IA (.bool s6) (.slice a5 l5 c5);replace U:=U.bW CW (.bool s6) (.slice a5 l5 c5);replace V:=aH.set2 V (.bool s6) (.slice a5 l5 c5);replace B:=dN B Gv (.bool s6) (.slice a5 l5 c5);(replace ⟨f_,g_⟩:=C.b2);(replace ⟨t_,wR,wW,wX,o_,p_,wZ,wb⟩:=R.xI);(replace ⟨xJ,xK,xT,xU⟩:=U.x9);(replace ⟨xL,xM,yF,yG⟩:=V.x9))
   | (go_at_call 189;(with_reducible refine (Bh.out _ _ _ _ _ yI.out yS.out).mono ?_);rintro e w6 ⟨rfl,hb6⟩;replace C:=C.keep hb6;replace R:=R.keep hb6;replace U:=U.keep hb6;replace V:=V.keep hb6;replace oF:=kO oF hb6;replace oG:=kO oG hb6;replace yI:=kO yI hb6;replace yS:=kO yS hb6;replace B:=d_ B hb6;(replace ⟨f_,g_⟩:=C.b2);(replace ⟨t_,wR,wW,wX,o_,p_,wZ,wb⟩:=R.xI);(replace ⟨xJ,xK,xT,xU⟩:=U.x9);(replace ⟨xL,xM,yF,yG⟩:=V.x9))
   | (go_at_call 169;(with_reducible refine (CO.out _ _ _ yI.out).mono ?_);rintro e w8 ⟨v8,rfl,yL,xD⟩;have xH:=B.size;replace C:=C.keep xD;replace R:=R.keep xD;replace U:=U.keep xD;replace V:=V.keep xD;replace oF:=kO oF xD;replace oG:=kO oG xD;replace yI:=kO yI xD;replace yS:=kO yS xD;replace B:=d_ B xD;obtain ⟨a8,c8,rfl,xE,wt⟩:=aF.view yL;clear xE wt;have on:=wM (aF.base (show aF _ _ _ _ from yL) xH);clear yL;(generalize (Wh.a_ N.natAbs).length=ln at *);clear xH;have N_:=aH.new w8 #[.bool sN,.slice a8 ln c8] 125;have b_:=bA w8 (.cells #[.bool sN,.slice a8 ln c8] 125);replace C:=C.keep b_;replace R:=R.keep b_;replace U:=U.keep b_;replace V:=V.keep b_;replace oF:=kO oF b_;replace oG:=kO oG b_;replace yI:=kO yI b_;replace yS:=kO yS b_;replace on:=kO on b_;replace B:=d_ B b_;clear b_;(replace ⟨f_,g_⟩:=C.b2);(replace ⟨t_,wR,wW,wX,o_,p_,wZ,wb⟩:=R.xI);(replace ⟨xJ,xK,xT,xU⟩:=U.x9);(replace ⟨xL,xM,yF,yG⟩:=V.x9);(replace ⟨yT,yU⟩:=N_.b2))
   | (go_at_call 169;(with_reducible refine (CP.out _ _ _ yS.out).mono ?_);rintro e w9 ⟨v9,rfl,yk,xA⟩;have xH:=B.size;replace C:=C.keep xA;replace R:=R.keep xA;replace U:=U.keep xA;replace V:=V.keep xA;replace N_:=N_.keep xA;replace oF:=kO oF xA;replace oG:=kO oG xA;replace yI:=kO yI xA;replace yS:=kO yS xA;replace on:=kO on xA;replace B:=d_ B xA;obtain ⟨a9,c9,rfl,xE,wt⟩:=aF.view yk;clear xE wt;have oe:=wM (aF.base (show aF _ _ _ _ from yk) xH);clear yk;(generalize (Wh.a_ E.natAbs).length=le at *);clear xH;have E_:=aH.new w9 #[.bool sE,.slice a9 le c9] 125;have b_:=bA w9 (.cells #[.bool sE,.slice a9 le c9] 125);replace C:=C.keep b_;replace R:=R.keep b_;replace U:=U.keep b_;replace V:=V.keep b_;replace N_:=N_.keep b_;replace oF:=kO oF b_;replace oG:=kO oG b_;replace yI:=kO yI b_;replace yS:=kO yS b_;replace on:=kO on b_;replace oe:=kO oe b_;replace B:=d_ B b_;clear b_;(replace ⟨f_,g_⟩:=C.b2);(replace ⟨t_,wR,wW,wX,o_,p_,wZ,wb⟩:=R.xI);(replace ⟨xJ,xK,xT,xU⟩:=U.x9);(replace ⟨xL,xM,yF,yG⟩:=V.x9);(replace ⟨yT,yU⟩:=N_.b2);(replace ⟨zL,zM⟩:=E_.b2);have O:=aH.new (w9.alloc (.cells #[.bool sE,.slice a9 le c9] 125)) #[.bool sN,.slice a8 ln c8,.bool sE,.slice a9 le c9] 127;have b_:=bA (w9.alloc (.cells #[.bool sE,.slice a9 le c9] 125)) (.cells #[.bool sN,.slice a8 ln c8,.bool sE,.slice a9 le c9] 127);replace C:=C.keep b_;replace R:=R.keep b_;replace U:=U.keep b_;replace V:=V.keep b_;replace N_:=N_.keep b_;replace E_:=E_.keep b_;replace oF:=kO oF b_;replace oG:=kO oG b_;replace yI:=kO yI b_;replace yS:=kO yS b_;replace on:=kO on b_;replace oe:=kO oe b_;replace B:=d_ B b_;clear b_;(rw [wN] at O))
   | (go_at_call 190;(with_reducible refine (At.out _ _ _ _ _ on.out oe.out).mono ?_);rintro e D7 ⟨rfl,wS⟩;(simp only [hq.out]);replace C:=C.keep wS;replace R:=R.keep wS;replace U:=U.keep wS;replace V:=V.keep wS;replace N_:=N_.keep wS;replace E_:=E_.keep wS;replace O:=O.keep wS;replace oF:=kO oF wS;replace oG:=kO oG wS;replace yI:=kO yI wS;replace yS:=kO yS wS;replace on:=kO on wS;replace oe:=kO oe wS;replace B:=d_ B wS;(replace ⟨f_,g_⟩:=C.b2);(replace ⟨t_,wR,wW,wX,o_,p_,wZ,wb⟩:=R.xI);(replace ⟨xJ,xK⟩:=U.b2);(replace ⟨xL,xM⟩:=V.b2);(replace ⟨yT,yU⟩:=N_.b2);(replace ⟨zL,zM⟩:=E_.b2);(replace ⟨yf,yg,yh,yi⟩:=O.b4)))
  exact bodyPost_ret (v:=.tuple #[.agg #[.bool false,.slice none 0 0,.bool false,.slice none 0 0],.bool false]) (by simp [results,Tryz.results158,go_sem, *]) rfl (⟨_,_,(by rw [hX.out,hZ.out,hok.out];rfl),(by rw [hX.out];exact et _ _),(by rw [hZ.out];exact et _ _),wO (wO (wO (wO B (by simp <;> omega) _) (by simp <;> omega) _) (by simp <;> omega) _) (by simp <;> omega) _⟩)
 have hsg:decide (G<0)=false:=decide_eq_false hneg;rw [if_neg hneg,if_neg hneg] at hX hZ hO
 obtain rfl:Bz=false:=by rw [AA.out];exact hsg
 have BA:=Ak.out;rw [hsg] at BA;clear Ak AA Ci Cg;clear PM PN Bh CO CP At;replace zu:=zu.out;replace CN:=CN.out;replace CJ:=CJ.out;replace AF:=AF.out;simp only [←z8.out,hsg] at zu CN;simp only [hsg] at CJ;generalize F % (d:Int)=rF at *;generalize G % (d:Int)=rG at *;generalize hN:F / (d:Int)=N at *;generalize hE:G / (d:Int)=E at *;clear hN;subst hE;simp only [BA] at CJ AF;generalize hE:G / (d:Int)=E at *;clear hE;generalize An:decide (N<0)=sN at *
 skip
 replace zu:=wM zu;replace CN:=wM CN;replace CJ:=wM CJ;replace AF:=wM AF;replace An:=wM An;replace EH:=wM BA;clear BA;clear hneg hsg hd
 by_cases hok:Wh.cJ N E=true
 ·skip
  rw [hok] at hX hZ hO;rw [if_pos rfl] at hX hZ;have hq:=hok;replace hok:=wM hO;replace hq:=wM hq;replace hX:=wM hX;replace hZ:=wM hZ;clear hO
  go_wp2_with (first
   | (go_at_call 189;(with_reducible refine (zu.out _ _ _ _ _ oF.out oG.out).mono ?_);rintro e w6 ⟨rfl,hb6⟩;replace C:=C.keep hb6;replace R:=R.keep hb6;replace U:=U.keep hb6;replace V:=V.keep hb6;replace oF:=kO oF hb6;replace oG:=kO oG hb6;replace B:=d_ B hb6;(replace ⟨f_,g_⟩:=C.b2);(replace ⟨t_,wR,wW,wX,o_,p_,wZ,wb⟩:=R.xI);(replace ⟨xJ,xK,xT,xU⟩:=U.x9);(replace ⟨xL,xM,yF,yG⟩:=V.x9))
   | (go_at_call 169;(with_reducible refine (CN.out _ _ _ oF.out).mono ?_);rintro e w8 ⟨v8,rfl,yL,xD⟩;have xH:=B.size;replace C:=C.keep xD;replace R:=R.keep xD;replace U:=U.keep xD;replace V:=V.keep xD;replace oF:=kO oF xD;replace oG:=kO oG xD;replace B:=d_ B xD;obtain ⟨a8,c8,rfl,xE,wt⟩:=aF.view yL;clear xE wt;have on:=wM (aF.base (show aF _ _ _ _ from yL) xH);clear yL;(generalize (Wh.a_ N.natAbs).length=ln at *);clear xH;have N_:=aH.new w8 #[.bool sN,.slice a8 ln c8] 125;have b_:=bA w8 (.cells #[.bool sN,.slice a8 ln c8] 125);replace C:=C.keep b_;replace R:=R.keep b_;replace U:=U.keep b_;replace V:=V.keep b_;replace oF:=kO oF b_;replace oG:=kO oG b_;replace on:=kO on b_;replace B:=d_ B b_;clear b_;(replace ⟨f_,g_⟩:=C.b2);(replace ⟨t_,wR,wW,wX,o_,p_,wZ,wb⟩:=R.xI);(replace ⟨xJ,xK,xT,xU⟩:=U.x9);(replace ⟨xL,xM,yF,yG⟩:=V.x9);(replace ⟨yT,yU⟩:=N_.b2))
   | (go_at_call 169;(with_reducible refine (CJ.out _ _ _ oG.out).mono ?_);rintro e w9 ⟨v9,rfl,yk,xA⟩;have xH:=B.size;replace C:=C.keep xA;replace R:=R.keep xA;replace U:=U.keep xA;replace V:=V.keep xA;replace N_:=N_.keep xA;replace oF:=kO oF xA;replace oG:=kO oG xA;replace on:=kO on xA;replace B:=d_ B xA;obtain ⟨a9,c9,rfl,xE,wt⟩:=aF.view yk;clear xE wt;have oe:=wM (aF.base (show aF _ _ _ _ from yk) xH);clear yk;(generalize (Wh.a_ E.natAbs).length=le at *);clear xH;have E_:=aH.new w9 #[.bool false,.slice a9 le c9] 125;have b_:=bA w9 (.cells #[.bool false,.slice a9 le c9] 125);replace C:=C.keep b_;replace R:=R.keep b_;replace U:=U.keep b_;replace V:=V.keep b_;replace N_:=N_.keep b_;replace oF:=kO oF b_;replace oG:=kO oG b_;replace on:=kO on b_;replace oe:=kO oe b_;replace B:=d_ B b_;clear b_;(replace ⟨f_,g_⟩:=C.b2);(replace ⟨t_,wR,wW,wX,o_,p_,wZ,wb⟩:=R.xI);(replace ⟨xJ,xK,xT,xU⟩:=U.x9);(replace ⟨xL,xM,yF,yG⟩:=V.x9);(replace ⟨yT,yU⟩:=N_.b2);(replace ⟨zL,zM⟩:=E_.b2);have O:=aH.new (w9.alloc (.cells #[.bool false,.slice a9 le c9] 125)) #[.bool sN,.slice a8 ln c8,.bool false,.slice a9 le c9] 127;have b_:=bA (w9.alloc (.cells #[.bool false,.slice a9 le c9] 125)) (.cells #[.bool sN,.slice a8 ln c8,.bool false,.slice a9 le c9] 127);replace C:=C.keep b_;replace R:=R.keep b_;replace U:=U.keep b_;replace V:=V.keep b_;replace N_:=N_.keep b_;replace E_:=E_.keep b_;replace oF:=kO oF b_;replace oG:=kO oG b_;replace on:=kO on b_;replace oe:=kO oe b_;replace B:=d_ B b_;clear b_;(rw [wN] at O))
   | (go_at_call 190;(with_reducible refine (AF.out _ _ _ _ _ on.out oe.out).mono ?_);rintro e D7 ⟨rfl,wS⟩;(simp only [hq.out]);replace C:=C.keep wS;replace R:=R.keep wS;replace U:=U.keep wS;replace V:=V.keep wS;replace N_:=N_.keep wS;replace E_:=E_.keep wS;replace O:=O.keep wS;replace oF:=kO oF wS;replace oG:=kO oG wS;replace on:=kO on wS;replace oe:=kO oe wS;replace B:=d_ B wS;(replace ⟨f_,g_⟩:=C.b2);(replace ⟨t_,wR,wW,wX,o_,p_,wZ,wb⟩:=R.xI);(replace ⟨xJ,xK⟩:=U.b2);(replace ⟨xL,xM⟩:=V.b2);(replace ⟨yT,yU⟩:=N_.b2);(replace ⟨zL,zM⟩:=E_.b2);(replace ⟨yf,yg,yh,yi⟩:=O.b4)))
  have hr1:=aF.base (aF.cn on.out R (by decide) (.bool sN) (.slice a8 ln c8) (.bool false) (.slice a9 le c9)) (base':=w.heap.size) (wQ _);have hr2:=aF.base (aF.cn oe.out R (by decide) (.bool sN) (.slice a8 ln c8) (.bool false) (.slice a9 le c9)) (base':=w.heap.size) (wQ _);exact bodyPost_ret (v:=.tuple #[.agg #[.bool sN,.slice a8 ln c8,.bool false,.slice a9 le c9],.bool true]) (by simp [results,Tryz.results158,go_sem, *]) rfl (⟨_,_,(by rw [hX.out,hZ.out,hok.out,An.out,EH.out]),(by rw [hX.out];exact hr1),(by rw [hZ.out];exact hr2),wO (wO (wO (wO B (by simp <;> omega) _) (by simp <;> omega) _) (by simp <;> omega) _) (by simp <;> omega) _⟩)
 replace hok:Wh.cJ N E=false:=by simpa using hok
 rw [hok] at hX hZ hO;rw [if_neg (by decide)] at hX hZ;have hq:=hok;replace hok:=wM hO;replace hq:=wM hq;replace hX:=wM hX;replace hZ:=wM hZ;clear hO
 go_wp2_with (first
  | (go_at_call 189;(with_reducible refine (zu.out _ _ _ _ _ oF.out oG.out).mono ?_);rintro e w6 ⟨rfl,hb6⟩;replace C:=C.keep hb6;replace R:=R.keep hb6;replace U:=U.keep hb6;replace V:=V.keep hb6;replace oF:=kO oF hb6;replace oG:=kO oG hb6;replace B:=d_ B hb6;(replace ⟨f_,g_⟩:=C.b2);(replace ⟨t_,wR,wW,wX,o_,p_,wZ,wb⟩:=R.xI);(replace ⟨xJ,xK,xT,xU⟩:=U.x9);(replace ⟨xL,xM,yF,yG⟩:=V.x9))
  | (go_at_call 169;(with_reducible refine (CN.out _ _ _ oF.out).mono ?_);rintro e w8 ⟨v8,rfl,yL,xD⟩;have xH:=B.size;replace C:=C.keep xD;replace R:=R.keep xD;replace U:=U.keep xD;replace V:=V.keep xD;replace oF:=kO oF xD;replace oG:=kO oG xD;replace B:=d_ B xD;obtain ⟨a8,c8,rfl,xE,wt⟩:=aF.view yL;clear xE wt;have on:=wM (aF.base (show aF _ _ _ _ from yL) xH);clear yL;(generalize (Wh.a_ N.natAbs).length=ln at *);clear xH;have N_:=aH.new w8 #[.bool sN,.slice a8 ln c8] 125;have b_:=bA w8 (.cells #[.bool sN,.slice a8 ln c8] 125);replace C:=C.keep b_;replace R:=R.keep b_;replace U:=U.keep b_;replace V:=V.keep b_;replace oF:=kO oF b_;replace oG:=kO oG b_;replace on:=kO on b_;replace B:=d_ B b_;clear b_;(replace ⟨f_,g_⟩:=C.b2);(replace ⟨t_,wR,wW,wX,o_,p_,wZ,wb⟩:=R.xI);(replace ⟨xJ,xK,xT,xU⟩:=U.x9);(replace ⟨xL,xM,yF,yG⟩:=V.x9);(replace ⟨yT,yU⟩:=N_.b2))
  | (go_at_call 169;(with_reducible refine (CJ.out _ _ _ oG.out).mono ?_);rintro e w9 ⟨v9,rfl,yk,xA⟩;have xH:=B.size;replace C:=C.keep xA;replace R:=R.keep xA;replace U:=U.keep xA;replace V:=V.keep xA;replace N_:=N_.keep xA;replace oF:=kO oF xA;replace oG:=kO oG xA;replace on:=kO on xA;replace B:=d_ B xA;obtain ⟨a9,c9,rfl,xE,wt⟩:=aF.view yk;clear xE wt;have oe:=wM (aF.base (show aF _ _ _ _ from yk) xH);clear yk;(generalize (Wh.a_ E.natAbs).length=le at *);clear xH;have E_:=aH.new w9 #[.bool false,.slice a9 le c9] 125;have b_:=bA w9 (.cells #[.bool false,.slice a9 le c9] 125);replace C:=C.keep b_;replace R:=R.keep b_;replace U:=U.keep b_;replace V:=V.keep b_;replace N_:=N_.keep b_;replace oF:=kO oF b_;replace oG:=kO oG b_;replace on:=kO on b_;replace oe:=kO oe b_;replace B:=d_ B b_;clear b_;(replace ⟨f_,g_⟩:=C.b2);(replace ⟨t_,wR,wW,wX,o_,p_,wZ,wb⟩:=R.xI);(replace ⟨xJ,xK,xT,xU⟩:=U.x9);(replace ⟨xL,xM,yF,yG⟩:=V.x9);(replace ⟨yT,yU⟩:=N_.b2);(replace ⟨zL,zM⟩:=E_.b2);have O:=aH.new (w9.alloc (.cells #[.bool false,.slice a9 le c9] 125)) #[.bool sN,.slice a8 ln c8,.bool false,.slice a9 le c9] 127;have b_:=bA (w9.alloc (.cells #[.bool false,.slice a9 le c9] 125)) (.cells #[.bool sN,.slice a8 ln c8,.bool false,.slice a9 le c9] 127);replace C:=C.keep b_;replace R:=R.keep b_;replace U:=U.keep b_;replace V:=V.keep b_;replace N_:=N_.keep b_;replace E_:=E_.keep b_;replace oF:=kO oF b_;replace oG:=kO oG b_;replace on:=kO on b_;replace oe:=kO oe b_;replace B:=d_ B b_;clear b_;(rw [wN] at O))
  | (go_at_call 190;(with_reducible refine (AF.out _ _ _ _ _ on.out oe.out).mono ?_);rintro e D7 ⟨rfl,wS⟩;(simp only [hq.out]);replace C:=C.keep wS;replace R:=R.keep wS;replace U:=U.keep wS;replace V:=V.keep wS;replace N_:=N_.keep wS;replace E_:=E_.keep wS;replace O:=O.keep wS;replace oF:=kO oF wS;replace oG:=kO oG wS;replace on:=kO on wS;replace oe:=kO oe wS;replace B:=d_ B wS;(replace ⟨f_,g_⟩:=C.b2);(replace ⟨t_,wR,wW,wX,o_,p_,wZ,wb⟩:=R.xI);(replace ⟨xJ,xK⟩:=U.b2);(replace ⟨xL,xM⟩:=V.b2);(replace ⟨yT,yU⟩:=N_.b2);(replace ⟨zL,zM⟩:=E_.b2);(replace ⟨yf,yg,yh,yi⟩:=O.b4)))
 exact bodyPost_ret (v:=.tuple #[.agg #[.bool false,.slice none 0 0,.bool false,.slice none 0 0],.bool false]) (by simp [results,Tryz.results158,go_sem, *]) rfl (⟨_,_,(by rw [hX.out,hZ.out,hok.out];rfl),(by rw [hX.out];exact et _ _),(by rw [hZ.out];exact et _ _),wO (wO (wO (wO B (by simp <;> omega) _) (by simp <;> omega) _) (by simp <;> omega) _) (by simp <;> omega) _⟩)
namespace M
def hM (a b:Int):Int:=max (1+2*a+8*b+a*a) (4*(1+a+b))
def hK (a b d:Int):Int:=max (15+21*a+27*b) (4*d+5*a*a*b+4*a*(3*a*a*a+22*b*b)+12*b*(a*a*a+8*b*b)+(a*(5*a*a*a+32*b*b)+2*b*(13*a*a*a+96*b*b)+3*a*a*(a*a*a+8*b*b)))
def hC (a b:Int):Nat:=Wh.bl (max (hM a.natAbs b.natAbs) (hK a.natAbs b.natAbs (M.aX a b).natAbs)).toNat
theorem xG {x y m n k:Int} (hx:0≤x∧x≤m) (hy:0≤y∧y≤n) (hk:m*n≤k):0≤x*y∧x*y≤k:=
 ⟨Int.mul_nonneg hx.1 hy.1,Int.le_trans (Int.mul_le_mul hx.2 hy.2 hy.1 (Int.le_trans hx.1 hx.2)) hk⟩
end M
theorem gR (a0 b0:Int) (w:World) (hin:M.bI a0 b0=true) :
  Calls Tryz.prog 127 #[.agg #[.int .i64 a0,.int .i64 b0]] w fun e w'=>e=.returned (.tuple #[.int .i64 (M.hM a0.natAbs b0.natAbs),.int .i64 (M.hK a0.natAbs b0.natAbs (M.aX a0 b0).natAbs)])∧Below w.heap.size w w':=by
 obtain ⟨x1,x2,y1,y2⟩:=M.ar hin;have hdb:=dn hin
 have PC:=fun W=>j8 a0 b0 W hin
 clear hin;generalize M.aX a0 b0=D at *
 obtain ⟨a,ha⟩:∃ a:Int,Hid (a=a0.natAbs):=⟨_,wM rfl⟩
 obtain ⟨b,hb⟩:∃ b:Int,Hid (b=b0.natAbs):=⟨_,wM rfl⟩
 obtain ⟨d,hd⟩:∃ d:Int,Hid (d=D.natAbs):=⟨_,wM rfl⟩
 rw [←ha.out,←hb.out,←hd.out]
 have a1:0≤a∧a≤1000:=by have:=ha.out;omega
 have b1:0≤b∧b≤10000:=by have:=hb.out;omega
 have d1:0≤d∧d≤6700000000:=by have:=hd.out;omega
 obtain ⟨a1,a2⟩:=a1;obtain ⟨b1,b2⟩:=b1;obtain ⟨d1,d2⟩:=d1;have bd1:0≤2*a∧2*a≤2000:=M.xG (show (0:Int)≤2∧(2:Int)≤2 from ⟨by omega,by omega⟩) (show 0≤a∧a≤1000 from ⟨by omega,by omega⟩) (by omega);have Hw:0≤8*b∧8*b≤80000:=M.xG (show (0:Int)≤8∧(8:Int)≤8 from ⟨by omega,by omega⟩) (show 0≤b∧b≤10000 from ⟨by omega,by omega⟩) (by omega);have GP:0≤a*a∧a*a≤1000000:=M.xG (show 0≤a∧a≤1000 from ⟨by omega,by omega⟩) (show 0≤a∧a≤1000 from ⟨by omega,by omega⟩) (by omega);have bd4:0≤4*d∧4*d≤26800000000:=M.xG (show (0:Int)≤4∧(4:Int)≤4 from ⟨by omega,by omega⟩) (show 0≤d∧d≤6700000000 from ⟨by omega,by omega⟩) (by omega);have GY:0≤4*a∧4*a≤4000:=M.xG (show (0:Int)≤4∧(4:Int)≤4 from ⟨by omega,by omega⟩) (show 0≤a∧a≤1000 from ⟨by omega,by omega⟩) (by omega);have Ge:0≤4*a*a∧4*a*a≤4000000:=M.xG GY (show 0≤a∧a≤1000 from ⟨by omega,by omega⟩) (by omega);have bd7:0≤4*a*a*b∧4*a*a*b≤40000000000:=M.xG Ge (show 0≤b∧b≤10000 from ⟨by omega,by omega⟩) (by omega);have Hx:0≤3*a∧3*a≤3000:=M.xG (show (0:Int)≤3∧(3:Int)≤3 from ⟨by omega,by omega⟩) (show 0≤a∧a≤1000 from ⟨by omega,by omega⟩) (by omega);have Gf:0≤3*a*a∧3*a*a≤3000000:=M.xG Hx (show 0≤a∧a≤1000 from ⟨by omega,by omega⟩) (by omega);have DX:0≤3*a*a*a∧3*a*a*a≤3000000000:=M.xG Gf (show 0≤a∧a≤1000 from ⟨by omega,by omega⟩) (by omega);have EW:0≤22*b∧22*b≤220000:=M.xG (show (0:Int)≤22∧(22:Int)≤22 from ⟨by omega,by omega⟩) (show 0≤b∧b≤10000 from ⟨by omega,by omega⟩) (by omega);have EX:0≤22*b*b∧22*b*b≤2200000000:=M.xG EW (show 0≤b∧b≤10000 from ⟨by omega,by omega⟩) (by omega);have GJ:0≤4*a*(3*a*a*a+22*b*b)∧4*a*(3*a*a*a+22*b*b)≤20800000000000:=M.xG GY (show 0≤3*a*a*a+22*b*b∧3*a*a*a+22*b*b≤5200000000 from ⟨by omega,by omega⟩) (by omega);have EY:0≤12*b∧12*b≤120000:=M.xG (show (0:Int)≤12∧(12:Int)≤12 from ⟨by omega,by omega⟩) (show 0≤b∧b≤10000 from ⟨by omega,by omega⟩) (by omega);have EZ:0≤a*a*a∧a*a*a≤1000000000:=M.xG GP (show 0≤a∧a≤1000 from ⟨by omega,by omega⟩) (by omega);have GK:0≤8*b*b∧8*b*b≤800000000:=M.xG Hw (show 0≤b∧b≤10000 from ⟨by omega,by omega⟩) (by omega);have GL:0≤12*b*(a*a*a+8*b*b)∧12*b*(a*a*a+8*b*b)≤216000000000000:=M.xG EY (show 0≤a*a*a+8*b*b∧a*a*a+8*b*b≤1800000000 from ⟨by omega,by omega⟩) (by omega);have GM:0≤a*a*b∧a*a*b≤10000000000:=M.xG GP (show 0≤b∧b≤10000 from ⟨by omega,by omega⟩) (by omega);have Ea:0≤5*a∧5*a≤5000:=M.xG (show (0:Int)≤5∧(5:Int)≤5 from ⟨by omega,by omega⟩) (show 0≤a∧a≤1000 from ⟨by omega,by omega⟩) (by omega);have DY:0≤5*a*a∧5*a*a≤5000000:=M.xG Ea (show 0≤a∧a≤1000 from ⟨by omega,by omega⟩) (by omega);have GN:0≤5*a*a*a∧5*a*a*a≤5000000000:=M.xG DY (show 0≤a∧a≤1000 from ⟨by omega,by omega⟩) (by omega);have Eb:0≤32*b∧32*b≤320000:=M.xG (show (0:Int)≤32∧(32:Int)≤32 from ⟨by omega,by omega⟩) (show 0≤b∧b≤10000 from ⟨by omega,by omega⟩) (by omega);have Ec:0≤32*b*b∧32*b*b≤3200000000:=M.xG Eb (show 0≤b∧b≤10000 from ⟨by omega,by omega⟩) (by omega);have Ed:0≤a*(5*a*a*a+32*b*b)∧a*(5*a*a*a+32*b*b)≤8200000000000:=M.xG (show 0≤a∧a≤1000 from ⟨by omega,by omega⟩) (show 0≤5*a*a*a+32*b*b∧5*a*a*a+32*b*b≤8200000000 from ⟨by omega,by omega⟩) (by omega);have DZ:0≤2*b∧2*b≤20000:=M.xG (show (0:Int)≤2∧(2:Int)≤2 from ⟨by omega,by omega⟩) (show 0≤b∧b≤10000 from ⟨by omega,by omega⟩) (by omega);have Ee:0≤13*a∧13*a≤13000:=M.xG (show (0:Int)≤13∧(13:Int)≤13 from ⟨by omega,by omega⟩) (show 0≤a∧a≤1000 from ⟨by omega,by omega⟩) (by omega);have Da:0≤13*a*a∧13*a*a≤13000000:=M.xG Ee (show 0≤a∧a≤1000 from ⟨by omega,by omega⟩) (by omega);have GO:0≤13*a*a*a∧13*a*a*a≤13000000000:=M.xG Da (show 0≤a∧a≤1000 from ⟨by omega,by omega⟩) (by omega);have Ef:0≤96*b∧96*b≤960000:=M.xG (show (0:Int)≤96∧(96:Int)≤96 from ⟨by omega,by omega⟩) (show 0≤b∧b≤10000 from ⟨by omega,by omega⟩) (by omega);have GQ:0≤96*b*b∧96*b*b≤9600000000:=M.xG Ef (show 0≤b∧b≤10000 from ⟨by omega,by omega⟩) (by omega);have JN:0≤2*b*(13*a*a*a+96*b*b)∧2*b*(13*a*a*a+96*b*b)≤452000000000000:=M.xG DZ (show 0≤13*a*a*a+96*b*b∧13*a*a*a+96*b*b≤22600000000 from ⟨by omega,by omega⟩) (by omega);have JQ:0≤3*a*a*(a*a*a+8*b*b)∧3*a*a*(a*a*a+8*b*b)≤5400000000000000:=M.xG Gf (show 0≤a*a*a+8*b*b∧a*a*a+8*b*b≤1800000000 from ⟨by omega,by omega⟩) (by omega);obtain ⟨bd1_1,bd1_2⟩:=bd1;obtain ⟨bd2_1,bd2_2⟩:=Hw;obtain ⟨bd3_1,bd3_2⟩:=GP;obtain ⟨bd4_1,bd4_2⟩:=bd4;obtain ⟨bd5_1,bd5_2⟩:=GY;obtain ⟨bd6_1,bd6_2⟩:=Ge;obtain ⟨bd7_1,bd7_2⟩:=bd7;obtain ⟨bd8_1,bd8_2⟩:=Hx;obtain ⟨bd9_1,bd9_2⟩:=Gf;obtain ⟨Ii,Ij⟩:=DX;obtain ⟨Ik,Il⟩:=EW;obtain ⟨Im,In⟩:=EX;obtain ⟨Io,Ip⟩:=GJ;obtain ⟨Iq,Ir⟩:=EY;obtain ⟨Is,It⟩:=EZ;obtain ⟨Iu,Iv⟩:=GK;obtain ⟨Iw,Ix⟩:=GL;obtain ⟨Iy,Iz⟩:=GM;obtain ⟨I0,I1⟩:=Ea;obtain ⟨I2,I3⟩:=DY;obtain ⟨I4,I5⟩:=GN;obtain ⟨I6,I7⟩:=Eb;obtain ⟨I8,I9⟩:=Ec;obtain ⟨I_,JA⟩:=Ed;obtain ⟨JB,JC⟩:=DZ;obtain ⟨JD,JE⟩:=Ee;obtain ⟨JF,JG⟩:=Da;obtain ⟨JH,JI⟩:=GO;obtain ⟨JJ,JK⟩:=Ef;obtain ⟨JL,JM⟩:=GQ;obtain ⟨JO,JP⟩:=JN;obtain ⟨JR,JS⟩:=JQ;have hM:Hid (M.hM a b=max (1+2*a+8*b+a*a) (4*(1+a+b))):=wM rfl;have hK:Hid (M.hK a b d=max (12+16*a+3+5*a+27*b) (4*d+4*a*a*b+4*a*(3*a*a*a+22*b*b)+12*b*(a*a*a+8*b*b)+(a*a*b+a*(5*a*a*a+32*b*b)+2*b*(13*a*a*a+96*b*b)+3*a*a*(a*a*a+8*b*b)))):=wM (by unfold M.hK;congr 1 <;> grind);have mA:=wM (show (if a0 < -a0 then -a0 else a0)=a by have:=ha.out;split <;> omega);have mB:=wM (show (if b0 < -b0 then -b0 else b0)=b by have:=hb.out;split <;> omega);have mD:=wM (show (if D < -D then -D else D)=d by have:=hd.out;split <;> omega);have nA:=wM (show max a0 (-a0)=a by have:=ha.out;omega);have nB:=wM (show max b0 (-b0)=b by have:=hb.out;omega);have nD:=wM (show max D (-D)=d by have:=hd.out;omega)
 skip
 replace PC:=wM PC;have C:=aH.new w #[.int .i64 a0,.int .i64 b0] 25;have B:=(wP w.heap.size w).alloc (wQ _) (.cells #[.int .i64 a0,.int .i64 b0] 25);generalize hw3:w.alloc (.cells #[.int .i64 a0,.int .i64 b0] 25)=wc at *;go_enter Tryz.func127,Tryz.ntmps127
 go_wp2
 go_upto_region 1 with fail
 refine Rg.bO 21 [.is (.pointer (some ⟨w.heap.size,0,none⟩)),.is (.int .i64 a0),.is (.pointer (some ⟨w.heap.size,0,none⟩)),.is (.int .i64 a0),.is (.int .i64 (-a0)),.is (.int .i64 a),.is (.pointer (some ⟨w.heap.size,1,none⟩)),.is (.int .i64 b0),.is (.pointer (some ⟨w.heap.size,1,none⟩)),.is (.int .i64 b0),.is (.int .i64 (-b0)),.is (.int .i64 b),.is (.agg #[.int .i64 a0,.int .i64 b0]),.is (.int .i64 D),.is (.agg #[.int .i64 a0,.int .i64 b0]),.is (.int .i64 D),.is (.int .i64 (-D)),.is (.int .i64 d),.is (.int .i64 a),.is (.int .i64 b),.is (.int .i64 d)] (by kernel_rfl) (by kernel_rfl) (by kernel_rfl) ⟨?_,?_,?_,?_,?_,?_,?_,?_,?_,?_,?_,?_,?_,?_,?_,?_,?_,?_,?_,?_,?_,trivial⟩ ?_
 ·intro _ zZ w_ hB hr
  have e1:zZ.tmps[1]?=some (.pointer (some ⟨w.heap.size,0,none⟩)):=hr 1 (by decide);exact Rg.aG rfl (by go_simp)
 ·intro _ zZ w_ hB hr
  have e10:=Rg.c_ (hr 10 (by decide));have k0:=aE hB C.box.c0;exact Rg.aG rfl (by go_simp)
 ·intro _ zZ w_ hB hr
  have e1:zZ.tmps[1]?=some (.pointer (some ⟨w.heap.size,0,none⟩)):=hr 1 (by decide);exact Rg.aG rfl (by go_simp)
 ·intro _ zZ w_ hB hr
  have e12:=Rg.c_ (hr 12 (by decide));have k0:=aE hB C.box.c0;exact Rg.aG rfl (by go_simp)
 ·intro _ zZ w_ hB hr
  have e13:=Rg.c_ (hr 13 (by decide));exact Rg.aG rfl (by go_simp <;> exact Rg.wo (by omega))
 ·intro _ zZ w_ hB hr
  have e11:=Rg.c_ (hr 11 (by decide));have e14:=Rg.c_ (hr 14 (by decide));exact Rg.aG rfl (by go_simp;first | done | (rw [mA.out];done) | (rw [nA.out];done) | (simp only [mA.out];done))
 ·intro _ zZ w_ hB hr
  have e1:zZ.tmps[1]?=some (.pointer (some ⟨w.heap.size,0,none⟩)):=hr 1 (by decide);exact Rg.aG rfl (by go_simp)
 ·intro _ zZ w_ hB hr
  have e16:=Rg.c_ (hr 16 (by decide));have k1:=aE hB C.box.c1;exact Rg.aG rfl (by go_simp)
 ·intro _ zZ w_ hB hr
  have e1:zZ.tmps[1]?=some (.pointer (some ⟨w.heap.size,0,none⟩)):=hr 1 (by decide);exact Rg.aG rfl (by go_simp)
 ·intro _ zZ w_ hB hr
  have e18:=Rg.c_ (hr 18 (by decide));have k1:=aE hB C.box.c1;exact Rg.aG rfl (by go_simp)
 ·intro _ zZ w_ hB hr
  have e19:=Rg.c_ (hr 19 (by decide));exact Rg.aG rfl (by go_simp <;> exact Rg.wo (by omega))
 ·intro _ zZ w_ hB hr
  have e17:=Rg.c_ (hr 17 (by decide));have e20:=Rg.c_ (hr 20 (by decide));exact Rg.aG rfl (by go_simp;first | done | (rw [mB.out];done) | (rw [nB.out];done) | (simp only [mB.out];done))
 ·intro _ zZ w_ hB hr
  have e1:zZ.tmps[1]?=some (.pointer (some ⟨w.heap.size,0,none⟩)):=hr 1 (by decide);have k0:=aE hB C.box.c0;have k1:=aE hB C.box.c1;exact Rg.aG rfl (by go_simp)
 ·intro _ zZ w_ hB hr
  have e22:=Rg.c_ (hr 22 (by decide));have ef:=Rg.ef zZ;exact Rg.bp rfl (by go_simp) (PC.out _)
 ·intro _ zZ w_ hB hr
  have e1:zZ.tmps[1]?=some (.pointer (some ⟨w.heap.size,0,none⟩)):=hr 1 (by decide);have k0:=aE hB C.box.c0;have k1:=aE hB C.box.c1;exact Rg.aG rfl (by go_simp)
 ·intro _ zZ w_ hB hr
  have e24:=Rg.c_ (hr 24 (by decide));have ef:=Rg.ef zZ;exact Rg.bp rfl (by go_simp) (PC.out _)
 ·intro _ zZ w_ hB hr
  have e25:=Rg.c_ (hr 25 (by decide));exact Rg.aG rfl (by go_simp <;> exact Rg.wo (by omega))
 ·intro _ zZ w_ hB hr
  have e23:=Rg.c_ (hr 23 (by decide));have e26:=Rg.c_ (hr 26 (by decide));exact Rg.aG rfl (by go_simp;first | done | (rw [mD.out];done) | (rw [nD.out];done) | (simp only [mD.out];done))
 ·intro _ zZ w_ hB hr
  have e15:=Rg.c_ (hr 15 (by decide));exact Rg.aG rfl (by go_simp)
 ·intro _ zZ w_ hB hr
  have e21:=Rg.c_ (hr 21 (by decide));exact Rg.aG rfl (by go_simp)
 ·intro _ zZ w_ hB hr
  have e27:=Rg.c_ (hr 27 (by decide));exact Rg.aG rfl (by go_simp)
 intro vals wz hB1 hv hne;have HW:vals 18=.int .i64 a:=hv 18 (by decide);have HX:vals 19=.int .i64 b:=hv 19 (by decide);have HZ:vals 20=.int .i64 d:=hv 20 (by decide);simp only [Rg.bE,Rg.fill,Act.put,Nat.reduceAdd];clear hv;simp only [HW,HX,HZ];clear HW HX HZ;replace B:=d_ B hB1;clear hB1 C;unfold Rg.aZ;go_wp2;go_ret2;exact ⟨by rw [hM.out,hK.out];first | rfl,B⟩
theorem kE (a0 b0:Int) (w:World) (hin:M.bI a0 b0=true) :
  Calls Tryz.prog 133 #[.agg #[.int .i64 a0,.int .i64 b0]] w fun e w'=>e=.returned (.tuple #[.int .i64 (M.hM a0.natAbs b0.natAbs),.int .i64 (M.hK a0.natAbs b0.natAbs (M.aX a0 b0).natAbs)])∧Below w.heap.size w w':=by
 obtain ⟨x1,x2,y1,y2⟩:=M.ar hin;have hdb:=dn hin
 have PC:=fun W=>jb a0 b0 W hin
 clear hin
 have PA:=fun x W (h1:-9223372036854775807≤x) (h2:x≤9223372036854775807)=>cm x W h1 h2
 have PM:=fun x y W=>dw x y W
 generalize M.aX a0 b0=D at *
 obtain ⟨a,ha⟩:∃ a:Int,Hid (a=a0.natAbs):=⟨_,wM rfl⟩
 obtain ⟨b,hb⟩:∃ b:Int,Hid (b=b0.natAbs):=⟨_,wM rfl⟩
 obtain ⟨d,hd⟩:∃ d:Int,Hid (d=D.natAbs):=⟨_,wM rfl⟩
 rw [←ha.out,←hb.out,←hd.out]
 have a1:0≤a∧a≤1000:=by have:=ha.out;omega
 have b1:0≤b∧b≤10000:=by have:=hb.out;omega
 have d1:0≤d∧d≤6700000000:=by have:=hd.out;omega
 obtain ⟨a1,a2⟩:=a1;obtain ⟨b1,b2⟩:=b1;obtain ⟨d1,d2⟩:=d1;have JT:0≤2*a∧2*a≤2000:=M.xG (show (0:Int)≤2∧(2:Int)≤2 from ⟨by omega,by omega⟩) (show 0≤a∧a≤1000 from ⟨by omega,by omega⟩) (by omega);have GR:0≤8*b∧8*b≤80000:=M.xG (show (0:Int)≤8∧(8:Int)≤8 from ⟨by omega,by omega⟩) (show 0≤b∧b≤10000 from ⟨by omega,by omega⟩) (by omega);have GS:0≤a*a∧a*a≤1000000:=M.xG (show 0≤a∧a≤1000 from ⟨by omega,by omega⟩) (show 0≤a∧a≤1000 from ⟨by omega,by omega⟩) (by omega);have Ja:0≤4*d∧4*d≤26800000000:=M.xG (show (0:Int)≤4∧(4:Int)≤4 from ⟨by omega,by omega⟩) (show 0≤d∧d≤6700000000 from ⟨by omega,by omega⟩) (by omega);have GT:0≤5*a∧5*a≤5000:=M.xG (show (0:Int)≤5∧(5:Int)≤5 from ⟨by omega,by omega⟩) (show 0≤a∧a≤1000 from ⟨by omega,by omega⟩) (by omega);have Eg:0≤5*a*a∧5*a*a≤5000000:=M.xG GT (show 0≤a∧a≤1000 from ⟨by omega,by omega⟩) (by omega);have Jh:0≤5*a*a*b∧5*a*a*b≤50000000000:=M.xG Eg (show 0≤b∧b≤10000 from ⟨by omega,by omega⟩) (by omega);have GU:0≤4*a∧4*a≤4000:=M.xG (show (0:Int)≤4∧(4:Int)≤4 from ⟨by omega,by omega⟩) (show 0≤a∧a≤1000 from ⟨by omega,by omega⟩) (by omega);have GV:0≤3*a∧3*a≤3000:=M.xG (show (0:Int)≤3∧(3:Int)≤3 from ⟨by omega,by omega⟩) (show 0≤a∧a≤1000 from ⟨by omega,by omega⟩) (by omega);have Eh:0≤3*a*a∧3*a*a≤3000000:=M.xG GV (show 0≤a∧a≤1000 from ⟨by omega,by omega⟩) (by omega);have Jq:0≤3*a*a*a∧3*a*a*a≤3000000000:=M.xG Eh (show 0≤a∧a≤1000 from ⟨by omega,by omega⟩) (by omega);have GW:0≤22*b∧22*b≤220000:=M.xG (show (0:Int)≤22∧(22:Int)≤22 from ⟨by omega,by omega⟩) (show 0≤b∧b≤10000 from ⟨by omega,by omega⟩) (by omega);have Jv:0≤22*b*b∧22*b*b≤2200000000:=M.xG GW (show 0≤b∧b≤10000 from ⟨by omega,by omega⟩) (by omega);have Jy:0≤4*a*(3*a*a*a+22*b*b)∧4*a*(3*a*a*a+22*b*b)≤20800000000000:=M.xG GU (show 0≤3*a*a*a+22*b*b∧3*a*a*a+22*b*b≤5200000000 from ⟨by omega,by omega⟩) (by omega);have GX:0≤12*b∧12*b≤120000:=M.xG (show (0:Int)≤12∧(12:Int)≤12 from ⟨by omega,by omega⟩) (show 0≤b∧b≤10000 from ⟨by omega,by omega⟩) (by omega);have J5:0≤a*a*a∧a*a*a≤1000000000:=M.xG GS (show 0≤a∧a≤1000 from ⟨by omega,by omega⟩) (by omega);have J8:0≤8*b*b∧8*b*b≤800000000:=M.xG GR (show 0≤b∧b≤10000 from ⟨by omega,by omega⟩) (by omega);have KA:0≤12*b*(a*a*a+8*b*b)∧12*b*(a*a*a+8*b*b)≤216000000000000:=M.xG GX (show 0≤a*a*a+8*b*b∧a*a*a+8*b*b≤1800000000 from ⟨by omega,by omega⟩) (by omega);have KD:0≤5*a*a*a∧5*a*a*a≤5000000000:=M.xG Eg (show 0≤a∧a≤1000 from ⟨by omega,by omega⟩) (by omega);have GZ:0≤32*b∧32*b≤320000:=M.xG (show (0:Int)≤32∧(32:Int)≤32 from ⟨by omega,by omega⟩) (show 0≤b∧b≤10000 from ⟨by omega,by omega⟩) (by omega);have KI:0≤32*b*b∧32*b*b≤3200000000:=M.xG GZ (show 0≤b∧b≤10000 from ⟨by omega,by omega⟩) (by omega);have KL:0≤a*(5*a*a*a+32*b*b)∧a*(5*a*a*a+32*b*b)≤8200000000000:=M.xG (show 0≤a∧a≤1000 from ⟨by omega,by omega⟩) (show 0≤5*a*a*a+32*b*b∧5*a*a*a+32*b*b≤8200000000 from ⟨by omega,by omega⟩) (by omega);have Ga:0≤2*b∧2*b≤20000:=M.xG (show (0:Int)≤2∧(2:Int)≤2 from ⟨by omega,by omega⟩) (show 0≤b∧b≤10000 from ⟨by omega,by omega⟩) (by omega);have Gb:0≤13*a∧13*a≤13000:=M.xG (show (0:Int)≤13∧(13:Int)≤13 from ⟨by omega,by omega⟩) (show 0≤a∧a≤1000 from ⟨by omega,by omega⟩) (by omega);have Gc:0≤13*a*a∧13*a*a≤13000000:=M.xG Gb (show 0≤a∧a≤1000 from ⟨by omega,by omega⟩) (by omega);have KV:0≤13*a*a*a∧13*a*a*a≤13000000000:=M.xG Gc (show 0≤a∧a≤1000 from ⟨by omega,by omega⟩) (by omega);have Gd:0≤96*b∧96*b≤960000:=M.xG (show (0:Int)≤96∧(96:Int)≤96 from ⟨by omega,by omega⟩) (show 0≤b∧b≤10000 from ⟨by omega,by omega⟩) (by omega);have Ka:0≤96*b*b∧96*b*b≤9600000000:=M.xG Gd (show 0≤b∧b≤10000 from ⟨by omega,by omega⟩) (by omega);have Kd:0≤2*b*(13*a*a*a+96*b*b)∧2*b*(13*a*a*a+96*b*b)≤452000000000000:=M.xG Ga (show 0≤13*a*a*a+96*b*b∧13*a*a*a+96*b*b≤22600000000 from ⟨by omega,by omega⟩) (by omega);have Kg:0≤3*a*a*(a*a*a+8*b*b)∧3*a*a*(a*a*a+8*b*b)≤5400000000000000:=M.xG Eh (show 0≤a*a*a+8*b*b∧a*a*a+8*b*b≤1800000000 from ⟨by omega,by omega⟩) (by omega);obtain ⟨JU,JV⟩:=JT;obtain ⟨JW,JX⟩:=GR;obtain ⟨JY,JZ⟩:=GS;obtain ⟨Jb,Jc⟩:=Ja;obtain ⟨Jd,Je⟩:=GT;obtain ⟨Jf,Jg⟩:=Eg;obtain ⟨Ji,Jj⟩:=Jh;obtain ⟨Jk,Jl⟩:=GU;obtain ⟨Jm,Jn⟩:=GV;obtain ⟨Jo,Jp⟩:=Eh;obtain ⟨Jr,Js⟩:=Jq;obtain ⟨Jt,Ju⟩:=GW;obtain ⟨Jw,Jx⟩:=Jv;obtain ⟨Jz,J0⟩:=Jy;obtain ⟨J3,J4⟩:=GX;obtain ⟨J6,J7⟩:=J5;obtain ⟨J9,J_⟩:=J8;obtain ⟨KB,KC⟩:=KA;obtain ⟨KE,KF⟩:=KD;obtain ⟨KG,KH⟩:=GZ;obtain ⟨KJ,KK⟩:=KI;obtain ⟨KM,KN⟩:=KL;obtain ⟨KO,KQ⟩:=Ga;obtain ⟨KR,KS⟩:=Gb;obtain ⟨KT,KU⟩:=Gc;obtain ⟨KW,KX⟩:=KV;obtain ⟨KY,KZ⟩:=Gd;obtain ⟨Kb,Kc⟩:=Ka;obtain ⟨Ke,Kf⟩:=Kd;obtain ⟨Kh,Ki⟩:=Kg;have hM:Hid (M.hM a b=max (1+2*a+8*b+a*a) (4*(1+a+b))):=wM rfl;have hK:Hid (M.hK a b d=max (15+21*a+27*b) (4*d+5*a*a*b+4*a*(3*a*a*a+22*b*b)+12*b*(a*a*a+8*b*b)+(a*(5*a*a*a+32*b*b)+2*b*(13*a*a*a+96*b*b)+3*a*a*(a*a*a+8*b*b)))):=wM rfl
 skip
 replace PC:=wM PC;replace PA:=wM PA;replace PM:=wM PM;have C:=aH.new w #[.int .i64 a0,.int .i64 b0] 25;have B:=(wP w.heap.size w).alloc (wQ _) (.cells #[.int .i64 a0,.int .i64 b0] 25);generalize hw3:w.alloc (.cells #[.int .i64 a0,.int .i64 b0] 25)=wc at *;go_enter Tryz.func133,Tryz.ntmps133
 go_wp2
 go_upto_region 1 with fail
 refine Rg.bO 12 [.is (.pointer (some ⟨w.heap.size,0,none⟩)),.is (.int .i64 a0),.is (.int .i64 a),.is (.pointer (some ⟨w.heap.size,1,none⟩)),.is (.int .i64 b0),.is (.int .i64 b),.is (.agg #[.int .i64 a0,.int .i64 b0]),.is (.int .i64 D),.is (.int .i64 d),.is (.int .i64 a),.is (.int .i64 b),.is (.int .i64 d)] (by kernel_rfl) (by kernel_rfl) (by kernel_rfl) ⟨?_,?_,?_,?_,?_,?_,?_,?_,?_,?_,?_,?_,trivial⟩ ?_
 ·intro _ zZ w_ hB hr
  have e1:zZ.tmps[1]?=some (.pointer (some ⟨w.heap.size,0,none⟩)):=hr 1 (by decide);exact Rg.aG rfl (by go_simp)
 ·intro _ zZ w_ hB hr
  have e10:=Rg.c_ (hr 10 (by decide));have k0:=aE hB C.box.c0;exact Rg.aG rfl (by go_simp)
 ·intro _ zZ w_ hB hr
  have e11:=Rg.c_ (hr 11 (by decide));have ef:=Rg.ef zZ;refine Rg.af rfl (by go_simp;exact ⟨rfl,rfl⟩) ?_;refine (PA.out a0 _ (by omega) (by omega)).mono ?_;rintro e w5 ⟨rfl,rfl⟩;exact ⟨_,rfl,(by rw [ha.out];rfl),wP _ _⟩
 ·intro _ zZ w_ hB hr
  have e1:zZ.tmps[1]?=some (.pointer (some ⟨w.heap.size,0,none⟩)):=hr 1 (by decide);exact Rg.aG rfl (by go_simp)
 ·intro _ zZ w_ hB hr
  have e13:=Rg.c_ (hr 13 (by decide));have k1:=aE hB C.box.c1;exact Rg.aG rfl (by go_simp)
 ·intro _ zZ w_ hB hr
  have e14:=Rg.c_ (hr 14 (by decide));have ef:=Rg.ef zZ;refine Rg.af rfl (by go_simp;exact ⟨rfl,rfl⟩) ?_;refine (PA.out b0 _ (by omega) (by omega)).mono ?_;rintro e w5 ⟨rfl,rfl⟩;exact ⟨_,rfl,(by rw [hb.out];rfl),wP _ _⟩
 ·intro _ zZ w_ hB hr
  have e1:zZ.tmps[1]?=some (.pointer (some ⟨w.heap.size,0,none⟩)):=hr 1 (by decide);have k0:=aE hB C.box.c0;have k1:=aE hB C.box.c1;exact Rg.aG rfl (by go_simp)
 ·intro _ zZ w_ hB hr
  have e16:=Rg.c_ (hr 16 (by decide));have ef:=Rg.ef zZ;exact Rg.bp rfl (by go_simp) (PC.out _)
 ·intro _ zZ w_ hB hr
  have e17:=Rg.c_ (hr 17 (by decide));have ef:=Rg.ef zZ;refine Rg.af rfl (by go_simp;exact ⟨rfl,rfl⟩) ?_;refine (PA.out D _ (by omega) (by omega)).mono ?_;rintro e w5 ⟨rfl,rfl⟩;exact ⟨_,rfl,(by rw [hd.out];rfl),wP _ _⟩
 ·intro _ zZ w_ hB hr
  have e12:=Rg.c_ (hr 12 (by decide));exact Rg.aG rfl (by go_simp)
 ·intro _ zZ w_ hB hr
  have e15:=Rg.c_ (hr 15 (by decide));exact Rg.aG rfl (by go_simp)
 ·intro _ zZ w_ hB hr
  have e18:=Rg.c_ (hr 18 (by decide));exact Rg.aG rfl (by go_simp)
 intro vals wz hB1 hv hne;have zB:vals 9=.int .i64 a:=hv 9 (by decide);have xV:vals 10=.int .i64 b:=hv 10 (by decide);have xu:vals 11=.int .i64 d:=hv 11 (by decide);simp only [Rg.bE,Rg.fill,Act.put,Nat.reduceAdd];clear hv;simp only [zB,xV,xu];clear zB xV xu;replace B:=d_ B hB1;clear hB1 C;unfold Rg.aZ
 go_wp2_with (go_at_call 119;(with_reducible refine (PM.out _ _ _).mono ?_);rintro e w6 ⟨rfl,rfl⟩)
 go_ret2;exact ⟨by rw [hM.out,hK.out];first | rfl,B⟩
theorem M.mg {a0 b0:Int} (hin:M.bI a0 b0=true):0≤max (M.hM a0.natAbs b0.natAbs) (M.hK a0.natAbs b0.natAbs (M.aX a0 b0).natAbs)∧max (M.hM a0.natAbs b0.natAbs) (M.hK a0.natAbs b0.natAbs (M.aX a0 b0).natAbs)≤100000000000000000:=by
 obtain ⟨x1,x2,y1,y2⟩:=M.ar hin;have hdb:=dn hin
 obtain ⟨a,ha⟩:∃ a:Int,(a=a0.natAbs):=⟨_,rfl⟩
 obtain ⟨b,hb⟩:∃ b:Int,(b=b0.natAbs):=⟨_,rfl⟩
 obtain ⟨d,hd⟩:∃ d:Int,(d=(M.aX a0 b0).natAbs):=⟨_,rfl⟩
 rw [←ha,←hb,←hd]
 have a1:0≤a∧a≤1000:=by omega
 have b1:0≤b∧b≤10000:=by omega
 have d1:0≤d∧d≤6700000000:=by omega
 clear ha hb hd hdb x1 x2 y1 y2 hin;have bd1:0≤2*a∧2*a≤2000:=M.xG (show (0:Int)≤2∧(2:Int)≤2 from ⟨by omega,by omega⟩) (show 0≤a∧a≤1000 from ⟨by omega,by omega⟩) (by omega);have Hw:0≤8*b∧8*b≤80000:=M.xG (show (0:Int)≤8∧(8:Int)≤8 from ⟨by omega,by omega⟩) (show 0≤b∧b≤10000 from ⟨by omega,by omega⟩) (by omega);have GP:0≤a*a∧a*a≤1000000:=M.xG (show 0≤a∧a≤1000 from ⟨by omega,by omega⟩) (show 0≤a∧a≤1000 from ⟨by omega,by omega⟩) (by omega);have bd4:0≤4*d∧4*d≤26800000000:=M.xG (show (0:Int)≤4∧(4:Int)≤4 from ⟨by omega,by omega⟩) (show 0≤d∧d≤6700000000 from ⟨by omega,by omega⟩) (by omega);have GY:0≤5*a∧5*a≤5000:=M.xG (show (0:Int)≤5∧(5:Int)≤5 from ⟨by omega,by omega⟩) (show 0≤a∧a≤1000 from ⟨by omega,by omega⟩) (by omega);have Ge:0≤5*a*a∧5*a*a≤5000000:=M.xG GY (show 0≤a∧a≤1000 from ⟨by omega,by omega⟩) (by omega);have bd7:0≤5*a*a*b∧5*a*a*b≤50000000000:=M.xG Ge (show 0≤b∧b≤10000 from ⟨by omega,by omega⟩) (by omega);have Hx:0≤4*a∧4*a≤4000:=M.xG (show (0:Int)≤4∧(4:Int)≤4 from ⟨by omega,by omega⟩) (show 0≤a∧a≤1000 from ⟨by omega,by omega⟩) (by omega);have Gf:0≤3*a∧3*a≤3000:=M.xG (show (0:Int)≤3∧(3:Int)≤3 from ⟨by omega,by omega⟩) (show 0≤a∧a≤1000 from ⟨by omega,by omega⟩) (by omega);have DX:0≤3*a*a∧3*a*a≤3000000:=M.xG Gf (show 0≤a∧a≤1000 from ⟨by omega,by omega⟩) (by omega);have EW:0≤3*a*a*a∧3*a*a*a≤3000000000:=M.xG DX (show 0≤a∧a≤1000 from ⟨by omega,by omega⟩) (by omega);have EX:0≤22*b∧22*b≤220000:=M.xG (show (0:Int)≤22∧(22:Int)≤22 from ⟨by omega,by omega⟩) (show 0≤b∧b≤10000 from ⟨by omega,by omega⟩) (by omega);have GJ:0≤22*b*b∧22*b*b≤2200000000:=M.xG EX (show 0≤b∧b≤10000 from ⟨by omega,by omega⟩) (by omega);have EY:0≤4*a*(3*a*a*a+22*b*b)∧4*a*(3*a*a*a+22*b*b)≤20800000000000:=M.xG Hx (show 0≤3*a*a*a+22*b*b∧3*a*a*a+22*b*b≤5200000000 from ⟨by omega,by omega⟩) (by omega);have EZ:0≤12*b∧12*b≤120000:=M.xG (show (0:Int)≤12∧(12:Int)≤12 from ⟨by omega,by omega⟩) (show 0≤b∧b≤10000 from ⟨by omega,by omega⟩) (by omega);have GK:0≤a*a*a∧a*a*a≤1000000000:=M.xG GP (show 0≤a∧a≤1000 from ⟨by omega,by omega⟩) (by omega);have GL:0≤8*b*b∧8*b*b≤800000000:=M.xG Hw (show 0≤b∧b≤10000 from ⟨by omega,by omega⟩) (by omega);have GM:0≤12*b*(a*a*a+8*b*b)∧12*b*(a*a*a+8*b*b)≤216000000000000:=M.xG EZ (show 0≤a*a*a+8*b*b∧a*a*a+8*b*b≤1800000000 from ⟨by omega,by omega⟩) (by omega);have Ea:0≤5*a*a*a∧5*a*a*a≤5000000000:=M.xG Ge (show 0≤a∧a≤1000 from ⟨by omega,by omega⟩) (by omega);have DY:0≤32*b∧32*b≤320000:=M.xG (show (0:Int)≤32∧(32:Int)≤32 from ⟨by omega,by omega⟩) (show 0≤b∧b≤10000 from ⟨by omega,by omega⟩) (by omega);have GN:0≤32*b*b∧32*b*b≤3200000000:=M.xG DY (show 0≤b∧b≤10000 from ⟨by omega,by omega⟩) (by omega);have Eb:0≤a*(5*a*a*a+32*b*b)∧a*(5*a*a*a+32*b*b)≤8200000000000:=M.xG (show 0≤a∧a≤1000 from ⟨by omega,by omega⟩) (show 0≤5*a*a*a+32*b*b∧5*a*a*a+32*b*b≤8200000000 from ⟨by omega,by omega⟩) (by omega);have Ec:0≤2*b∧2*b≤20000:=M.xG (show (0:Int)≤2∧(2:Int)≤2 from ⟨by omega,by omega⟩) (show 0≤b∧b≤10000 from ⟨by omega,by omega⟩) (by omega);have Ed:0≤13*a∧13*a≤13000:=M.xG (show (0:Int)≤13∧(13:Int)≤13 from ⟨by omega,by omega⟩) (show 0≤a∧a≤1000 from ⟨by omega,by omega⟩) (by omega);have DZ:0≤13*a*a∧13*a*a≤13000000:=M.xG Ed (show 0≤a∧a≤1000 from ⟨by omega,by omega⟩) (by omega);have Ee:0≤13*a*a*a∧13*a*a*a≤13000000000:=M.xG DZ (show 0≤a∧a≤1000 from ⟨by omega,by omega⟩) (by omega);have Da:0≤96*b∧96*b≤960000:=M.xG (show (0:Int)≤96∧(96:Int)≤96 from ⟨by omega,by omega⟩) (show 0≤b∧b≤10000 from ⟨by omega,by omega⟩) (by omega);have GO:0≤96*b*b∧96*b*b≤9600000000:=M.xG Da (show 0≤b∧b≤10000 from ⟨by omega,by omega⟩) (by omega);have Ef:0≤2*b*(13*a*a*a+96*b*b)∧2*b*(13*a*a*a+96*b*b)≤452000000000000:=M.xG Ec (show 0≤13*a*a*a+96*b*b∧13*a*a*a+96*b*b≤22600000000 from ⟨by omega,by omega⟩) (by omega);have GQ:0≤3*a*a*(a*a*a+8*b*b)∧3*a*a*(a*a*a+8*b*b)≤5400000000000000:=M.xG DX (show 0≤a*a*a+8*b*b∧a*a*a+8*b*b≤1800000000 from ⟨by omega,by omega⟩) (by omega);unfold M.hM M.hK;omega
theorem M.eI {a0 b0:Int} (hin:M.bI a0 b0=true):M.hC a0 b0≤60:=by
 have h:=M.mg hin;unfold M.hC Wh.bl;generalize max (M.hM a0.natAbs b0.natAbs) (M.hK a0.natAbs b0.natAbs (M.aX a0 b0).natAbs)=X at *
 split
 ·omega
 rename_i h0
 have:=(Nat.log2_lt h0 (k:=59)).2 (by
                      have:(2:Nat) ^ 59=576460752303423488:=by decide
                      omega)
 omega
theorem dp (a0 b0:Int) (w:World) (hin:M.bI a0 b0=true) :
  Calls Tryz.prog 75 #[.agg #[.int .i64 a0,.int .i64 b0]] w fun e w'=>e=.returned (.int .i64 (M.hC a0 b0:Nat))∧Below w.heap.size w w':=by
 have hbd:=M.mg hin
 have PD:=fun W=>gR a0 b0 W hin
 have hc:Hid (M.hC a0 b0=Wh.bl (max (M.hM a0.natAbs b0.natAbs) (M.hK a0.natAbs b0.natAbs (M.aX a0 b0).natAbs)).toNat):=wM rfl;generalize M.hK a0.natAbs b0.natAbs (M.aX a0 b0).natAbs=k,M.hM a0.natAbs b0.natAbs=m at *
 have hx:max m k=if m<k then k else m:=by split <;> omega
 have PL:=fun W=>Tryz.bits_Len (max m k) W (by omega) (by omega)
 rw [Wh.qT _ (by omega)] at PL;obtain ⟨x1,x2⟩:=hbd;replace PD:=wM PD;replace PL:=wM PL;replace hx:=wM hx;have B:=(wP w.heap.size w).alloc (wQ _) (.cells #[.int .i64 a0,.int .i64 b0] 25);go_enter Tryz.func75,Tryz.ntmps75
 go_wp2_with (first
  | (go_at_call 127;(with_reducible refine (PD.out _).mono ?_);rintro e w4 ⟨rfl,hb4⟩;replace B:=d_ B hb4)
  | (go_at_call 128;(refine (PL.out _).mono ?_);rintro e w6 ⟨rfl,rfl⟩))
 go_ret;exact ⟨by rw [hc.out];rfl,B⟩
theorem gD (a0 b0:Int) (w:World) (hin:M.bI a0 b0=true) :
  Calls Tryz.prog 80 #[.agg #[.int .i64 a0,.int .i64 b0]] w fun e w'=>e=.returned (.int .i64 (M.hC a0 b0:Nat))∧Below w.heap.size w w':=by
 have hbd:=M.mg hin;have hcb:=M.eI hin
 have PD:=fun W=>kE a0 b0 W hin
 have hc:Hid (M.hC a0 b0=Wh.bl (max (M.hM a0.natAbs b0.natAbs) (M.hK a0.natAbs b0.natAbs (M.aX a0 b0).natAbs)).toNat):=wM rfl;rw [hc.out] at hcb;generalize M.hK a0.natAbs b0.natAbs (M.aX a0 b0).natAbs=k,M.hM a0.natAbs b0.natAbs=m at *
 have PM:=fun W=>dw m k W
 generalize max m k=X at *;obtain ⟨x1,x2⟩:=hbd
 have hxn:X.natAbs=X.toNat:=by omega
 have PO:=fun W=>iq X W (by omega) (by omega)
 have PB:=fun v W k (h:aF W k v (Wh.a_ X.natAbs))=>io X v W k h (Nat.le_trans (Wh.cr (k:=5) (by omega)) (by decide)) (by rw [hxn];omega)
 replace hxn:=wM hxn;generalize decide (X<0)=sX at *;replace PD:=wM PD;replace PM:=wM PM;replace PO:=wM PO;replace PB:=wM PB;clear hcb;have B:=(wP w.heap.size w).alloc (wQ _) (.cells #[.int .i64 a0,.int .i64 b0] 25);go_enter Tryz.func80,Tryz.ntmps80
 go_wp2_with (first
  | (go_at_call 133;(with_reducible refine (PD.out _).mono ?_);rintro e w4 ⟨rfl,hb4⟩;replace B:=d_ B hb4)
  | (go_at_call 119;(with_reducible refine (PM.out _).mono ?_);rintro e w5 ⟨rfl,rfl⟩)
  | (go_at_call 135;(with_reducible refine (PO.out _).mono ?_);rintro e w6 ⟨v6,rfl,EF,hb6⟩;have zK:=(show aF _ _ _ _ from EF);replace B:=d_ B hb6)
  | (go_at_call 134;(with_reducible refine (PB.out _ _ _ zK).mono ?_);rintro e w8 ⟨rfl,xD⟩;replace B:=d_ B xD))
 go_ret;exact ⟨by rw [hc.out,←hxn.out];rfl,B⟩
def M.p4 (n:Nat):Int:=3*4 ^ n
theorem M.s8 (n:Nat):M.p4 (n+1)=M.p4 n*4:=by unfold M.p4;rw [Int.pow_succ];omega
theorem M.l6:∀ n:Nat,n≤5→3≤M.p4 n∧M.p4 n≤3072:=by decide
theorem ja (n:Nat) (w:World) (hn:n≤5) :
  Calls Tryz.prog 81 #[.int .i64 (n:Int)] w fun e w'=>e=.returned (.int .i64 (M.p4 n))∧w=w':=by
 go_enter Tryz.func81,Tryz.ntmps81
 go_wp2
 go_loop [0,3] (fun i o=>∃ k:Nat,k≤n∧i=.int .i64 ((n - k:Nat):Int)∧o=.int .i64 (M.p4 k)) (fun i _=>(intOf i).toNat)
 case atStart=>exact ⟨0,Nat.zero_le _,rfl,rfl⟩
 case round=>
 obtain ⟨k,hk,rfl,rfl⟩:=hrel;have hb:=M.l6 k (by omega);have hs:=wM (M.s8 k)
 by_cases hlt:k<n
 ·obtain ⟨j,hj⟩:∃ j:Nat,n - k=j+1:=⟨n - k - 1,by omega⟩
  have hj2:=wM (show n - (k+1)=j by omega);rw [hj]
  have hjb:(j:Int)≤4:=by omega
  clear hj;go_wp2
  go_round
  case rel=>exact ⟨k+1,by omega,(by first | (rw [hj2.out];done) | (rw [hj2.out];go_num)),by rw [hs.out]⟩
  case measure=>simp [intOf] <;> omega
 obtain rfl:n=k:=by omega
 rw [Nat.sub_self];go_wp2;go_ret;exact ⟨rfl,rfl⟩
end
end Go.Proofs.YtggekfbfechonaaGreat
