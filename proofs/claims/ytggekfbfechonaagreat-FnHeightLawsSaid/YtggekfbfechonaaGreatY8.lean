/-
  Joined texts: contracts and plain lemmas.
-/
import Derived.Test.YtggekfbfechonaaGreatY1
import Derived.Test.YtggekfbfechonaaGreatY7
set_option linter.unusedSimpArgs false
set_option linter.unusedVariables false
set_option maxRecDepth 100000
set_option maxHeartbeats 8000000
namespace Go.Proofs.YtggekfbfechonaaGreat
section
open Go.RowKit
theorem aH.bp {W:World} {g k:Nat} {T:TypeId} {xs:Array Value} (h:aH W g T xs) (hk:g≠k) (x y:Value):aH ((W.setCell ⟨k,0,none⟩ x).setCell ⟨k,1,none⟩ y) g T xs:=(h.other hk x).other hk y
theorem dY {B:Nat} {w W:World} {k:Nat} (h:Below B w W) (hk:B≤k) (x y:Value):Below B w ((W.setCell ⟨k,0,none⟩ x).setCell ⟨k,1,none⟩ y):=(h.setCell hk x).setCell hk y
theorem aF.len {W:World} {base l c:Nat} {a:Option Addr} {xs:List Int} (h:aF W base (.slice a l c) xs):l=xs.length:=by
 obtain ⟨a',c',e,-,-⟩:=aF.view h;injection e
namespace Wh
theorem vN (D F G:Int):((Ah D F G:Nat):Int) ∣ F:=Int.ofNat_dvd_left.2 (Nat.dvd_trans (Nat.gcd_dvd_left _ _) (Nat.gcd_dvd_right _ _))
theorem vO (D F G:Int):((Ah D F G:Nat):Int) ∣ G:=Int.ofNat_dvd_left.2 (Nat.gcd_dvd_right _ _)
end Wh
theorem jy (a b x z:Int) (vx vz:Value) (w:World) (bx bz:Nat) (hg:M.good a b=true) (hox:ak w bx vx x) (xZ:ak w bz vz z) (hx:Wh.sz x 1000) (hz:Wh.sz z 1000) :
  Calls Tryz.prog 158 #[.agg #[.int .i64 a,.int .i64 b],.agg #[.bool (decide (x<0)),vx,.bool (decide (z<0)),vz]] w fun e w'=>∃ v1 v2,e=.returned (.tuple #[.agg #[.bool (decide (Wh.AE (M.ae a b) (Wh.aw a b x z) (Wh.am a b x z)<0)),v1,.bool (decide (Wh.AF (M.ae a b) (Wh.aw a b x z) (Wh.am a b x z)<0)),v2],.bool (Wh.dU (M.ae a b) (Wh.aw a b x z) (Wh.am a b x z))])∧ak w' w.heap.size v1 (Wh.AE (M.ae a b) (Wh.aw a b x z) (Wh.am a b x z))∧ak w' w.heap.size v2 (Wh.AF (M.ae a b) (Wh.aw a b x z) (Wh.am a b x z))∧Below w.heap.size w w':=by
 obtain ⟨ax,cx,rfl,-,-⟩:=aF.view hox;obtain ⟨az,cz,rfl,-,-⟩:=aF.view xZ;have hin:=M.ag hg;obtain ⟨ha1,ha2,hb1,hb2⟩:=M.an hin;have hdn:=et hg;have hdb:=dy hin
 have PF:=fun v v' W k k' (h1:aF W k v (Wh.a_ x.natAbs)) (h2:aF W k' v' (Wh.a_ z.natAbs))=>tq a b x z v v' W k k' h1 h2 hx hz ha1 ha2 hb1 hb2
 have PG:=fun v v' W k k' (h1:aF W k v (Wh.a_ x.natAbs)) (h2:aF W k' v' (Wh.a_ z.natAbs))=>gU a b x z v v' W k k' h1 h2 hx hz ha1 ha2 hb1 hb2
 have zF:=Wh.lY hx hz ha1 ha2 hb1 hb2;have zG:=Wh.lU hx hz ha1 ha2 hb1 hb2;have hdv:=Wh.rH (Wh.aw a b x z) (Wh.am a b x z) hdn;have hdF:=Wh.vN (M.ae a b) (Wh.aw a b x z) (Wh.am a b x z);have Ml:=Wh.vO (M.ae a b) (Wh.aw a b x z) (Wh.am a b x z);generalize Wh.am a b x z=G,Wh.aw a b x z=F at *;have sF:=Wh.aY.2 (Wh.aN zF (show 5000≤9000 by omega));have sG:=Wh.aY.2 (Wh.aN zG (show 6000≤9000 by omega));have zF':=Wh.ie zF;have zG':=Wh.ie zG;have OP:=Wh.aY.2 (Wh.aN zF' (show 5000≤9000 by omega));have OQ:=Wh.aY.2 (Wh.aN zG' (show 6000≤9000 by omega))
 have PM:=fun v W k (h:aF W k v (Wh.a_ F.natAbs))=>iJ F v W k h (by omega)
 have PN:=fun v W k (h:aF W k v (Wh.a_ G.natAbs))=>iJ G v W k h (by omega)
 have AD:=fun v v' W k k' (h1:aF W k v (Wh.a_ F.natAbs)) (h2:aF W k' v' (Wh.a_ G.natAbs))=>iy a b F G v v' W k k' hg h1 h2 sF sG
 have Ck:=fun v v' W k k' (h1:aF W k v (Wh.a_ (-F).natAbs)) (h2:aF W k' v' (Wh.a_ (-G).natAbs))=>iy a b (-F) (-G) v v' W k k' hg h1 h2 OP OQ
 simp only [Wh.s8] at AD Ck;rw [Wh.sy] at Ck;generalize M.ae a b=D at *;clear hin hg ha1 ha2 hb1 hb2 hdn hx hz
 obtain ⟨d,hd⟩:∃ d,Hid (Wh.Ah D F G=d):=⟨_,wH rfl⟩
 rw [hd.out] at hdv AD Ck hdF Ml;have hd1:1≤d:=hdv.1
 have hd2:d≤1000000000000:=by omega
 clear hdv hdb;have zN:=Wh.lV zF d;have zE:=Wh.lV zG d;have zN':=Wh.ie zN;have zE':=Wh.ie zE;have sN:=Wh.aY.2 (Wh.aN zN (show 5000+1≤9000 by omega));have sE:=Wh.aY.2 (Wh.aN zE (show 6000+1≤9000 by omega));have sN':=Wh.aY.2 (Wh.aN zN' (show 5000+1≤9000 by omega));have sE':=Wh.aY.2 (Wh.aN zE' (show 6000+1≤9000 by omega))
 have DT:=fun v W k (h:aF W k v (Wh.a_ F.natAbs))=>dw F (d:Int) v W k h sF (by omega) (by omega)
 have yO:=fun v W k (h:aF W k v (Wh.a_ G.natAbs))=>dw G (d:Int) v W k h sG (by omega) (by omega)
 have DU:=fun v W k (h:aF W k v (Wh.a_ (-F).natAbs))=>dw (-F) (d:Int) v W k h OP (by omega) (by omega)
 have yR:=fun v W k (h:aF W k v (Wh.a_ (-G).natAbs))=>dw (-G) (d:Int) v W k h OQ (by omega) (by omega)
 rw [Int.neg_ediv_of_dvd hdF] at DU;rw [Int.neg_ediv_of_dvd Ml] at yR
 have Az:=fun v v' W k k' (h:aF W k v (Wh.a_ (F / (d:Int)).natAbs)) (h':aF W k' v' (Wh.a_ (G / (d:Int)).natAbs))=>nP (F / (d:Int)) (G / (d:Int)) v v' W k k' h h' (by omega) (by omega)
 have BW:=fun v v' W k k' (h:aF W k v (Wh.a_ (-(F / (d:Int))).natAbs)) (h':aF W k' v' (Wh.a_ (-(G / (d:Int))).natAbs))=>nP (-(F / (d:Int))) (-(G / (d:Int))) v v' W k k' h h' (by omega) (by omega)
 clear hdF Ml sF sG OP OQ zF zG zF' zG' zN zE zN' zE' sN sE sN' sE'
 have Fa:G≠0→Wh.dU D F G=Wh.cV (if G<0 then -(F / (d:Int)) else F / (d:Int)) (if G<0 then -(G / (d:Int)) else G / (d:Int)):=fun hne=>by unfold Wh.dU Wh.Bd Wh.Bc;rw [hd.out,decide_eq_true hne];rfl
 have eX:Wh.AE D F G=if Wh.dU D F G=true then (if G<0 then -(F / (d:Int)) else F / (d:Int)) else 0:=by unfold Wh.AE Wh.Bd;rw [hd.out]
 have eZ:Wh.AF D F G=if Wh.dU D F G=true then (if G<0 then -(G / (d:Int)) else G / (d:Int)) else 0:=by unfold Wh.AF Wh.Bc;rw [hd.out]
 have BQ:=Wh.oX (z:=G) hd1;generalize hs1:decide (x<0)=s1 at *;generalize hs2:decide (z<0)=s2 at *;clear hs1 hs2;replace hox:=wH (show aF _ _ _ _ from hox);replace xZ:=wH (show aF _ _ _ _ from xZ);generalize (Wh.a_ z.natAbs).length=lz,(Wh.a_ x.natAbs).length=lx at *;have C:=((aH.new w #[.int .i64 a,.int .i64 b] 25).alloc (.cells #[.bool s1,.slice ax lx cx,.bool s2,.slice az lz cz] 127)).alloc (.cells #[.bool false,.slice none 0 0,.bool false,.slice none 0 0] 127);have Q:=(aH.new (w.alloc (.cells #[.int .i64 a,.int .i64 b] 25)) #[.bool s1,.slice ax lx cx,.bool s2,.slice az lz cz] 127).alloc (.cells #[.bool false,.slice none 0 0,.bool false,.slice none 0 0] 127);rw [wI] at Q;have R:=aH.new ((w.alloc (.cells #[.int .i64 a,.int .i64 b] 25)).alloc (.cells #[.bool s1,.slice ax lx cx,.bool s2,.slice az lz cz] 127)) #[.bool false,.slice none 0 0,.bool false,.slice none 0 0] 127;rw [cr] at R;have B:=(((wK w.heap.size w).alloc (wL _) (.cells #[.int .i64 a,.int .i64 b] 25)).alloc (by rw [wI];omega) (.cells #[.bool s1,.slice ax lx cx,.bool s2,.slice az lz cz] 127)).alloc (by rw [cr];omega) (.cells #[.bool false,.slice none 0 0,.bool false,.slice none 0 0] 127);have ox:=wH (aF.alloc (aF.alloc (aF.alloc hox.out (.cells #[.int .i64 a,.int .i64 b] 25)) (.cells #[.bool s1,.slice ax lx cx,.bool s2,.slice az lz cz] 127)) (.cells #[.bool false,.slice none 0 0,.bool false,.slice none 0 0] 127));have oz:=wH (aF.alloc (aF.alloc (aF.alloc xZ.out (.cells #[.int .i64 a,.int .i64 b] 25)) (.cells #[.bool s1,.slice ax lx cx,.bool s2,.slice az lz cz] 127)) (.cells #[.bool false,.slice none 0 0,.bool false,.slice none 0 0] 127))
 have BG:w.heap.size+3≤(((w.alloc (.cells #[.int .i64 a,.int .i64 b] 25)).alloc (.cells #[.bool s1,.slice ax lx cx,.bool s2,.slice az lz cz] 127)).alloc (.cells #[.bool false,.slice none 0 0,.bool false,.slice none 0 0] 127)).heap.size:=by rw [wI,cr];omega
 clear hox xZ;generalize hw3:((w.alloc (.cells #[.int .i64 a,.int .i64 b] 25)).alloc (.cells #[.bool s1,.slice ax lx cx,.bool s2,.slice az lz cz] 127)).alloc (.cells #[.bool false,.slice none 0 0,.bool false,.slice none 0 0] 127)=wc at *;replace PF:=wH PF;replace PG:=wH PG;replace PM:=wH PM;replace PN:=wH PN;replace AD:=wH AD;replace Ck:=wH Ck;replace DT:=wH DT;replace DU:=wH DU;replace yO:=wH yO;replace yR:=wH yR;replace Az:=wH Az;replace BW:=wH BW;replace Fa:=wH Fa;replace eX:=wH eX;replace eZ:=wH eZ;replace BQ:=wH BQ;clear hd1 hd2;go_enter Tryz.func158,Tryz.ntmps158
 go_wp2
 go_upto_region 1 with fail
 refine Rg.bO 8 [.is (.agg #[.int .i64 a,.int .i64 b]),.is (.agg #[.bool s1,.slice ax lx cx,.bool s2,.slice az lz cz]),.at (aJ (wc.heap.size) (F)),.is (.agg #[.int .i64 a,.int .i64 b]),.is (.agg #[.bool s1,.slice ax lx cx,.bool s2,.slice az lz cz]),.at (aJ (wc.heap.size) (G)),.new (wc.heap.size) 125 #[.bool false,.slice none 0 0],.new (wc.heap.size) 125 #[.bool false,.slice none 0 0]] (by kernel_rfl) (by kernel_rfl) (by kernel_rfl) ⟨?_,?_,?_,?_,?_,?_,?_,?_,fun h_=>absurd h_ (by decide),fun h_=>absurd h_ (by decide),trivial⟩ ?_
 ·intro _ zZ w_ hB hr
  have e2:zZ.tmps[2]?=some (.pointer (some ⟨w.heap.size,0,none⟩)):=hr 2 (by decide);have k0:=aE hB C.box.c0;have k1:=aE hB C.box.c1;exact Rg.aG rfl (by go_simp)
 ·intro _ zZ w_ hB hr
  have e3:zZ.tmps[3]?=some (.pointer (some ⟨w.heap.size+1,0,none⟩)):=hr 3 (by decide);have k0:=aE hB Q.aP.c0;have k1:=aE hB Q.aP.c1;have k2:=aE hB Q.aP.c2;have k3:=aE hB Q.aP.c3;exact Rg.aG rfl (by go_simp)
 ·intro _ zZ w_ hB hr
  have e14:=Rg.c_ (hr 14 (by decide));have e15:=Rg.c_ (hr 15 (by decide));have ef:=Rg.ef zZ;refine Rg.ah rfl (by go_simp;exact ⟨rfl,rfl⟩) ?_;refine (PF.out _ _ _ _ _ (aF.below ox.out hB) (aF.below oz.out hB)).mono ?_;rintro e w5 ⟨xX,rfl,wW,hb5⟩;exact ⟨_,rfl,aJ.at wW (by have:=hB.size;omega),hb5⟩
 ·intro _ zZ w_ hB hr
  have e2:zZ.tmps[2]?=some (.pointer (some ⟨w.heap.size,0,none⟩)):=hr 2 (by decide);have k0:=aE hB C.box.c0;have k1:=aE hB C.box.c1;exact Rg.aG rfl (by go_simp)
 ·intro _ zZ w_ hB hr
  have e3:zZ.tmps[3]?=some (.pointer (some ⟨w.heap.size+1,0,none⟩)):=hr 3 (by decide);have k0:=aE hB Q.aP.c0;have k1:=aE hB Q.aP.c1;have k2:=aE hB Q.aP.c2;have k3:=aE hB Q.aP.c3;exact Rg.aG rfl (by go_simp)
 ·intro _ zZ w_ hB hr
  have e17:=Rg.c_ (hr 17 (by decide));have e18:=Rg.c_ (hr 18 (by decide));have ef:=Rg.ef zZ;refine Rg.ah rfl (by go_simp;exact ⟨rfl,rfl⟩) ?_;refine (PG.out _ _ _ _ _ (aF.below ox.out hB) (aF.below oz.out hB)).mono ?_;rintro e w5 ⟨xX,rfl,wW,hb5⟩;exact ⟨_,rfl,aJ.at wW (by have:=hB.size;omega),hb5⟩
 ·intro _ zZ w_ hB hr
  exact ⟨by have:=hB.size;omega,rfl,by first | (go_simp;done) | (go_simp;rfl)⟩
 ·intro _ zZ w_ hB hr
  exact ⟨by have:=hB.size;omega,rfl,by first | (go_simp;done) | (go_simp;rfl)⟩
 intro vals wz hB hv hne;have n6:(Rg.Val.new (wc.heap.size) 125 #[.bool false,.slice none 0 0]).ok (vals 6) wz:=hv 6 (by decide);have n7:(Rg.Val.new (wc.heap.size) 125 #[.bool false,.slice none 0 0]).ok (vals 7) wz:=hv 7 (by decide);have n16:(Rg.Val.at (aJ (wc.heap.size) (F))).ok (vals 2) wz:=hv 2 (by decide);have n19:(Rg.Val.at (aJ (wc.heap.size) (G))).ok (vals 5) wz:=hv 5 (by decide);simp only [Rg.ay,Rg.fill,Act.put,Nat.reduceAdd];clear hv;have Gp:=hne 6 7 (by decide) (by decide) (by decide) rfl rfl;obtain ⟨g6,zL,DK,o6⟩:=n6;replace o6:aH wz g6 125 #[.bool false,.slice none 0 0]:=o6;obtain ⟨g7,Ff,At,o7⟩:=n7;replace o7:aH wz g7 125 #[.bool false,.slice none 0 0]:=o7;obtain ⟨s16,a16,CB,c16,Ap,I4,o16⟩:=(Rg.aj n16).view;obtain ⟨C0,DY,Cc,c19,Ar,DJ,HS⟩:=(Rg.aj n19).view;rw [DK,At] at Gp
 have Db:g6≠g7:=fun e=>Gp (by rw [e])
 simp only [DK,At,I4,DJ];clear DK At I4 DJ;have Ep:=Db.symm
 have Mn:w.heap.size+3≤g6:=by omega
 have Mo:w.heap.size+3≤g7:=by omega
 have GR:w.heap.size≤g6:=by omega
 have II:w.heap.size≤g7:=by omega
 have hc6:w.heap.size≠g6:=by omega
 have JU:w.heap.size≠g7:=by omega
 have JZ:w.heap.size+1+1≠g6:=by omega
 have EL:w.heap.size+1+1≠g7:=by omega
 have V3:aH ((wz.setCell ⟨g6,0,none⟩ (.bool s16)).setCell ⟨g6,1,none⟩ (.slice a16 CB c16)) g7 125 #[.bool false,.slice none 0 0]:=(o7.other Ep _).other Ep _;have V:=aH.set2 V3 (.bool C0) (.slice DY Cc c19);have U:aH ((((wz.setCell ⟨g6,0,none⟩ (.bool s16)).setCell ⟨g6,1,none⟩ (.slice a16 CB c16)).setCell ⟨g7,0,none⟩ (.bool C0)).setCell ⟨g7,1,none⟩ (.slice DY Cc c19)) g6 125 #[.bool s16,.slice a16 CB c16]:=((aH.set2 o6 (.bool s16) (.slice a16 CB c16)).other Db _).other Db _;have oF:=wH (aF.base (aF.bM (aF.bM o16 o6 (by decide) (.bool s16) (.slice a16 CB c16)) V3 (by decide) (.bool C0) (.slice DY Cc c19)) B.size);have oG:=wH (aF.base (aF.bM (aF.bM HS o6 (by decide) (.bool s16) (.slice a16 CB c16)) V3 (by decide) (.bool C0) (.slice DY Cc c19)) B.size);replace C:=((C.keep hB).bp hc6 (.bool s16) (.slice a16 CB c16)).bp JU (.bool C0) (.slice DY Cc c19);replace R:=((R.keep hB).bp JZ (.bool s16) (.slice a16 CB c16)).bp EL (.bool C0) (.slice DY Cc c19);replace B:Below w.heap.size w ((((wz.setCell ⟨g6,0,none⟩ (.bool s16)).setCell ⟨g6,1,none⟩ (.slice a16 CB c16)).setCell ⟨g7,0,none⟩ (.bool C0)).setCell ⟨g7,1,none⟩ (.slice DY Cc c19)):=wJ (wJ (wJ (wJ (d_ B hB) GR _) GR _) II _) II _;have ⟨p0,p1,q0,q1,_⟩:=o6.box;have ⟨p2,p3,q2,q3,_⟩:=o7.box;unfold Rg.aZ Rg.aZ Rg.aZ Oper.wp
 go_simp
 clear p0 p1 q0 q1 p2 p3 q2 q3 V3 o6 o7 o16 HS hB Gp Q ox oz BG zL Ff Mn Mo;generalize ((((wz.setCell ⟨g6,0,none⟩ (.bool s16)).setCell ⟨g6,1,none⟩ (.slice a16 CB c16)).setCell ⟨g7,0,none⟩ (.bool C0)).setCell ⟨g7,1,none⟩ (.slice DY Cc c19))=wd at *;have f_:=C.box.c0;have g_:=C.box.c1;have xK:=U.box.c0;have xL:=U.box.c1;have xM:=V.box.c0;have xN:=V.box.c1;have xS:=U.box.f0;have xT:=U.box.f1;have yC:=V.box.f0;have yD:=V.box.f1;have wP:=R.aP.c0;have wM:=R.aP.f0;have wQ:=R.aP.c1;have wN:=R.aP.f1;have wU:=R.aP.c2;have wT:=R.aP.f2;have wV:=R.aP.c3;have wY:=R.aP.f3;have Dq:=Ap;have Ds:=Ar;have FC:=aF.len oG.out
 by_cases h0:G=0
 ·have hl:Cc=0:=by rw [FC,h0];exact Wh.dx.2 rfl
  have hok:Wh.dU D F G=false:=by unfold Wh.dU;rw [h0];simp
  have hX:=eX.out;have hZ:=eZ.out;rw [hok,if_neg (by decide)] at hX hZ;replace hX:=wH hX;replace hZ:=wH hZ;replace hok:=wH hok;clear FC h0 hd eX eZ Fa PF PG PM PN AD Ck DT DU yO yR Az BW BQ Ap Ar Dq Ds hc6 JU JZ EL GR II;subst hl;go_wp2;exact bodyPost_ret (v:=.tuple #[.agg #[.bool false,.slice none 0 0,.bool false,.slice none 0 0],.bool false]) (by simp [results,Tryz.results158,go_sem, *]) rfl (⟨_,_,(by rw [hX.out,hZ.out,hok.out];rfl),(by rw [hX.out];exact fJ _ _),(by rw [hZ.out];exact fJ _ _),wJ (wJ (wJ (wJ B (by simp <;> omega) _) (by simp <;> omega) _) (by simp <;> omega) _) (by simp <;> omega) _⟩)
 have hlp:¬ Cc=0:=fun h=>h0 (Wh.dx.1 (by rw [←FC];exact h))
 have hlq:((Cc:Int) == 0)=false:=by rw [beq_eq_false_iff_ne];omega
 have hX:=eX.out;have hZ:=eZ.out;have hO:=Fa.out h0;rw [hO] at hX hZ;clear FC h0 eX eZ Fa PF PG;replace hd:=wH hd
 by_cases hneg:G<0
 ·have hsg:decide (G<0)=true:=decide_eq_true hneg
  rw [if_pos hneg,if_pos hneg] at hX hZ hO
  obtain rfl:C0=true:=by rw [Ar.out];exact hsg
  have Bx:=BQ.out;rw [hsg] at Bx;clear BQ Ar Ds Dq;replace PM:=PM.out;rw [←Ap.out] at PM;replace PM:=wH PM;replace PN:=PN.out;rw [hsg] at PN;replace PN:=wH PN;clear AD DT yO Az;replace Ck:=Ck.out;replace DU:=DU.out;replace yR:=yR.out;replace BW:=BW.out;replace PN:=PN.out;replace PM:=PM.out;generalize hs5:decide (-F<0)=s5 at *;generalize hs6:decide (-G<0)=s6 at *;generalize -F % (d:Int)=rF at *;generalize -G % (d:Int)=rG at *;generalize hN:-(F / (d:Int))=N at *;generalize hE:-(G / (d:Int))=E at *;clear hN;clear hE;generalize BS:decide (N<0)=sN at *;generalize Fj:decide (E<0)=sE at *;replace Ck:=wH Ck;replace DU:=wH DU;replace yR:=wH yR;replace BW:=wH BW;replace PM:=wH PM;replace PN:=wH PN;replace BS:=wH BS;replace Fj:=wH Fj;clear Bx hs5 hs6;clear hneg hsg hd
  by_cases hok:Wh.cV N E=true
  ·skip
   rw [hok] at hX hZ hO;rw [if_pos rfl] at hX hZ;have hq:=hok;replace hok:=wH hO;replace hq:=wH hq;replace hX:=wH hX;replace hZ:=wH hZ;clear hO
   go_wp2_with (first
    | (go_at_call 188;(with_reducible refine (PM.out _ _ _ oF.out).mono ?_);rintro e w4 ⟨v4,rfl,xF,hb4⟩;have xH:=B.size;replace C:=C.keep hb4;replace R:=R.keep hb4;replace U:=U.keep hb4;replace V:=V.keep hb4;replace oF:=kO oF hb4;replace oG:=kO oG hb4;replace B:=d_ B hb4;obtain ⟨a4,c4,rfl,xD,wS⟩:=aF.view xF;clear xD wS;have yF:=wH (aF.base (show aF _ _ _ _ from xF) xH);clear xF;(generalize (Wh.a_ (-F).natAbs).length=l4 at *);clear xH;have Id:=U.box.c0;have Ie:=U.box.c1;have Ig:=U.box.f0;have Ih:=U.box.f1;replace oF:=sO oF U (by decide) (.bool s5) (.slice a4 l4 c4);replace oG:=sO oG U (by decide) (.bool s5) (.slice a4 l4 c4);replace yF:=sO yF U (by decide) (.bool s5) (.slice a4 l4 c4);replace C:=C.bp hc6 (.bool s5) (.slice a4 l4 c4);replace R:=R.bp JZ (.bool s5) (.slice a4 l4 c4);replace V:=V.bp Ep (.bool s5) (.slice a4 l4 c4);replace U:=aH.set2 U (.bool s5) (.slice a4 l4 c4);replace B:=dY B GR (.bool s5) (.slice a4 l4 c4);(replace ⟨f_,g_⟩:=C.b2);(replace ⟨wP,wQ,wU,wV,wM,wN,wT,wY⟩:=R.xJ);(replace ⟨xK,xL,xS,xT⟩:=U.xu);(replace ⟨xM,xN,yC,yD⟩:=V.xu))
    | (go_at_call 188;(with_reducible refine (PN.out _ _ _ oG.out).mono ?_);rintro e w5 ⟨v5,rfl,wW,hb5⟩;have xH:=B.size;replace C:=C.keep hb5;replace R:=R.keep hb5;replace U:=U.keep hb5;replace V:=V.keep hb5;replace oF:=kO oF hb5;replace oG:=kO oG hb5;replace yF:=kO yF hb5;replace B:=d_ B hb5;obtain ⟨a5,c5,rfl,xD,wS⟩:=aF.view wW;clear xD wS;have yQ:=wH (aF.base (show aF _ _ _ _ from wW) xH);clear wW;(generalize (Wh.a_ (-G).natAbs).length=l5 at *);clear xH;have Ii:=V.box.c0;have Ij:=V.box.c1;have Ik:=V.box.f0;have Il:=V.box.f1;replace oF:=sO oF V (by decide) (.bool s6) (.slice a5 l5 c5);replace oG:=sO oG V (by decide) (.bool s6) (.slice a5 l5 c5);replace yF:=sO yF V (by decide) (.bool s6) (.slice a5 l5 c5);replace yQ:=sO yQ V (by decide) (.bool s6) (.slice a5 l5 c5);replace C:=C.bp JU (.bool s6) (.slice a5 l5 c5);replace R:=R.bp EL (.bool s6) (.slice a5 l5 c5);replace U:=U.bp Db (.bool s6) (.slice a5 l5 c5);replace V:=aH.set2 V (.bool s6) (.slice a5 l5 c5);replace B:=dY B II (.bool s6) (.slice a5 l5 c5);(replace ⟨f_,g_⟩:=C.b2);(replace ⟨wP,wQ,wU,wV,wM,wN,wT,wY⟩:=R.xJ);(replace ⟨xK,xL,xS,xT⟩:=U.xu);(replace ⟨xM,xN,yC,yD⟩:=V.xu))
    | (go_at_call 189;(with_reducible refine (Ck.out _ _ _ _ _ yF.out yQ.out).mono ?_);rintro e w6 ⟨rfl,hb6⟩;replace C:=C.keep hb6;replace R:=R.keep hb6;replace U:=U.keep hb6;replace V:=V.keep hb6;replace oF:=kO oF hb6;replace oG:=kO oG hb6;replace yF:=kO yF hb6;replace yQ:=kO yQ hb6;replace B:=d_ B hb6;(replace ⟨f_,g_⟩:=C.b2);(replace ⟨wP,wQ,wU,wV,wM,wN,wT,wY⟩:=R.xJ);(replace ⟨xK,xL,xS,xT⟩:=U.xu);(replace ⟨xM,xN,yC,yD⟩:=V.xu))
    | (go_at_call 169;(with_reducible refine (DU.out _ _ _ yF.out).mono ?_);rintro e w8 ⟨v8,rfl,yM,xB⟩;have xH:=B.size;replace C:=C.keep xB;replace R:=R.keep xB;replace U:=U.keep xB;replace V:=V.keep xB;replace oF:=kO oF xB;replace oG:=kO oG xB;replace yF:=kO yF xB;replace yQ:=kO yQ xB;replace B:=d_ B xB;obtain ⟨a8,c8,rfl,xD,wS⟩:=aF.view yM;clear xD wS;have on:=wH (aF.base (show aF _ _ _ _ from yM) xH);clear yM;(generalize (Wh.a_ N.natAbs).length=ln at *);clear xH;have N_:=aH.new w8 #[.bool sN,.slice a8 ln c8] 125;have b_:=bA w8 (.cells #[.bool sN,.slice a8 ln c8] 125);replace C:=C.keep b_;replace R:=R.keep b_;replace U:=U.keep b_;replace V:=V.keep b_;replace oF:=kO oF b_;replace oG:=kO oG b_;replace yF:=kO yF b_;replace yQ:=kO yQ b_;replace on:=kO on b_;replace B:=d_ B b_;clear b_;(replace ⟨f_,g_⟩:=C.b2);(replace ⟨wP,wQ,wU,wV,wM,wN,wT,wY⟩:=R.xJ);(replace ⟨xK,xL,xS,xT⟩:=U.xu);(replace ⟨xM,xN,yC,yD⟩:=V.xu);(replace ⟨yZ,ya⟩:=N_.b2))
    | (go_at_call 169;(with_reducible refine (yR.out _ _ _ yQ.out).mono ?_);rintro e w9 ⟨v9,rfl,y_,wb⟩;have xH:=B.size;replace C:=C.keep wb;replace R:=R.keep wb;replace U:=U.keep wb;replace V:=V.keep wb;replace N_:=N_.keep wb;replace oF:=kO oF wb;replace oG:=kO oG wb;replace yF:=kO yF wb;replace yQ:=kO yQ wb;replace on:=kO on wb;replace B:=d_ B wb;obtain ⟨a9,c9,rfl,xD,wS⟩:=aF.view y_;clear xD wS;have oe:=wH (aF.base (show aF _ _ _ _ from y_) xH);clear y_;(generalize (Wh.a_ E.natAbs).length=le at *);clear xH;have E_:=aH.new w9 #[.bool sE,.slice a9 le c9] 125;have b_:=bA w9 (.cells #[.bool sE,.slice a9 le c9] 125);replace C:=C.keep b_;replace R:=R.keep b_;replace U:=U.keep b_;replace V:=V.keep b_;replace N_:=N_.keep b_;replace oF:=kO oF b_;replace oG:=kO oG b_;replace yF:=kO yF b_;replace yQ:=kO yQ b_;replace on:=kO on b_;replace oe:=kO oe b_;replace B:=d_ B b_;clear b_;(replace ⟨f_,g_⟩:=C.b2);(replace ⟨wP,wQ,wU,wV,wM,wN,wT,wY⟩:=R.xJ);(replace ⟨xK,xL,xS,xT⟩:=U.xu);(replace ⟨xM,xN,yC,yD⟩:=V.xu);(replace ⟨yZ,ya⟩:=N_.b2);(replace ⟨AO,AP⟩:=E_.b2);have O:=aH.new (w9.alloc (.cells #[.bool sE,.slice a9 le c9] 125)) #[.bool sN,.slice a8 ln c8,.bool sE,.slice a9 le c9] 127;have b_:=bA (w9.alloc (.cells #[.bool sE,.slice a9 le c9] 125)) (.cells #[.bool sN,.slice a8 ln c8,.bool sE,.slice a9 le c9] 127);replace C:=C.keep b_;replace R:=R.keep b_;replace U:=U.keep b_;replace V:=V.keep b_;replace N_:=N_.keep b_;replace E_:=E_.keep b_;replace oF:=kO oF b_;replace oG:=kO oG b_;replace yF:=kO yF b_;replace yQ:=kO yQ b_;replace on:=kO on b_;replace oe:=kO oe b_;replace B:=d_ B b_;clear b_;(rw [wI] at O))
    | (go_at_call 190;(with_reducible refine (BW.out _ _ _ _ _ on.out oe.out).mono ?_);rintro e EP ⟨rfl,wR⟩;(simp only [hq.out]);replace C:=C.keep wR;replace R:=R.keep wR;replace U:=U.keep wR;replace V:=V.keep wR;replace N_:=N_.keep wR;replace E_:=E_.keep wR;replace O:=O.keep wR;replace oF:=kO oF wR;replace oG:=kO oG wR;replace yF:=kO yF wR;replace yQ:=kO yQ wR;replace on:=kO on wR;replace oe:=kO oe wR;replace B:=d_ B wR;(replace ⟨f_,g_⟩:=C.b2);(replace ⟨wP,wQ,wU,wV,wM,wN,wT,wY⟩:=R.xJ);(replace ⟨xK,xL⟩:=U.b2);(replace ⟨xM,xN⟩:=V.b2);(replace ⟨yZ,ya⟩:=N_.b2);(replace ⟨AO,AP⟩:=E_.b2);(replace ⟨yu,yv,yw,yx⟩:=O.b4)))
   have hr1:=aF.base (aF.dF on.out R (by decide) (.bool sN) (.slice a8 ln c8) (.bool sE) (.slice a9 le c9)) (base':=w.heap.size) (wL _);have hr2:=aF.base (aF.dF oe.out R (by decide) (.bool sN) (.slice a8 ln c8) (.bool sE) (.slice a9 le c9)) (base':=w.heap.size) (wL _);exact bodyPost_ret (v:=.tuple #[.agg #[.bool sN,.slice a8 ln c8,.bool sE,.slice a9 le c9],.bool true]) (by simp [results,Tryz.results158,go_sem, *]) rfl (⟨_,_,(by rw [hX.out,hZ.out,hok.out,BS.out,Fj.out]),(by rw [hX.out];exact hr1),(by rw [hZ.out];exact hr2),wJ (wJ (wJ (wJ B (by simp <;> omega) _) (by simp <;> omega) _) (by simp <;> omega) _) (by simp <;> omega) _⟩)
  replace hok:Wh.cV N E=false:=by simpa using hok
  rw [hok] at hX hZ hO;rw [if_neg (by decide)] at hX hZ;have hq:=hok;replace hok:=wH hO;replace hq:=wH hq;replace hX:=wH hX;replace hZ:=wH hZ;clear hO
  go_wp2_with (first
   | (go_at_call 188;(with_reducible refine (PM.out _ _ _ oF.out).mono ?_);rintro e w4 ⟨v4,rfl,xF,hb4⟩;have xH:=B.size;replace C:=C.keep hb4;replace R:=R.keep hb4;replace U:=U.keep hb4;replace V:=V.keep hb4;replace oF:=kO oF hb4;replace oG:=kO oG hb4;replace B:=d_ B hb4;obtain ⟨a4,c4,rfl,xD,wS⟩:=aF.view xF;clear xD wS;have yF:=wH (aF.base (show aF _ _ _ _ from xF) xH);clear xF;(generalize (Wh.a_ (-F).natAbs).length=l4 at *);clear xH;have Id:=U.box.c0;have Ie:=U.box.c1;have Ig:=U.box.f0;have Ih:=U.box.f1;replace oF:=sO oF U (by decide) (.bool s5) (.slice a4 l4 c4);replace oG:=sO oG U (by decide) (.bool s5) (.slice a4 l4 c4);replace yF:=sO yF U (by decide) (.bool s5) (.slice a4 l4 c4);replace C:=C.bp hc6 (.bool s5) (.slice a4 l4 c4);replace R:=R.bp JZ (.bool s5) (.slice a4 l4 c4);replace V:=V.bp Ep (.bool s5) (.slice a4 l4 c4);replace U:=aH.set2 U (.bool s5) (.slice a4 l4 c4);replace B:=dY B GR (.bool s5) (.slice a4 l4 c4);(replace ⟨f_,g_⟩:=C.b2);(replace ⟨wP,wQ,wU,wV,wM,wN,wT,wY⟩:=R.xJ);(replace ⟨xK,xL,xS,xT⟩:=U.xu);(replace ⟨xM,xN,yC,yD⟩:=V.xu))
   | (go_at_call 188;(with_reducible refine (PN.out _ _ _ oG.out).mono ?_);rintro e w5 ⟨v5,rfl,wW,hb5⟩;have xH:=B.size;replace C:=C.keep hb5;replace R:=R.keep hb5;replace U:=U.keep hb5;replace V:=V.keep hb5;replace oF:=kO oF hb5;replace oG:=kO oG hb5;replace yF:=kO yF hb5;replace B:=d_ B hb5;obtain ⟨a5,c5,rfl,xD,wS⟩:=aF.view wW;clear xD wS;have yQ:=wH (aF.base (show aF _ _ _ _ from wW) xH);clear wW;(generalize (Wh.a_ (-G).natAbs).length=l5 at *);clear xH;have Ii:=V.box.c0;have Ij:=V.box.c1;have Ik:=V.box.f0;have Il:=V.box.f1;replace oF:=sO oF V (by decide) (.bool s6) (.slice a5 l5 c5);replace oG:=sO oG V (by decide) (.bool s6) (.slice a5 l5 c5);replace yF:=sO yF V (by decide) (.bool s6) (.slice a5 l5 c5);replace yQ:=sO yQ V (by decide) (.bool s6) (.slice a5 l5 c5);replace C:=C.bp JU (.bool s6) (.slice a5 l5 c5);replace R:=R.bp EL (.bool s6) (.slice a5 l5 c5);replace U:=U.bp Db (.bool s6) (.slice a5 l5 c5);replace V:=aH.set2 V (.bool s6) (.slice a5 l5 c5);replace B:=dY B II (.bool s6) (.slice a5 l5 c5);(replace ⟨f_,g_⟩:=C.b2);(replace ⟨wP,wQ,wU,wV,wM,wN,wT,wY⟩:=R.xJ);(replace ⟨xK,xL,xS,xT⟩:=U.xu);(replace ⟨xM,xN,yC,yD⟩:=V.xu))
   | (go_at_call 189;(with_reducible refine (Ck.out _ _ _ _ _ yF.out yQ.out).mono ?_);rintro e w6 ⟨rfl,hb6⟩;replace C:=C.keep hb6;replace R:=R.keep hb6;replace U:=U.keep hb6;replace V:=V.keep hb6;replace oF:=kO oF hb6;replace oG:=kO oG hb6;replace yF:=kO yF hb6;replace yQ:=kO yQ hb6;replace B:=d_ B hb6;(replace ⟨f_,g_⟩:=C.b2);(replace ⟨wP,wQ,wU,wV,wM,wN,wT,wY⟩:=R.xJ);(replace ⟨xK,xL,xS,xT⟩:=U.xu);(replace ⟨xM,xN,yC,yD⟩:=V.xu))
   | (go_at_call 169;(with_reducible refine (DU.out _ _ _ yF.out).mono ?_);rintro e w8 ⟨v8,rfl,yM,xB⟩;have xH:=B.size;replace C:=C.keep xB;replace R:=R.keep xB;replace U:=U.keep xB;replace V:=V.keep xB;replace oF:=kO oF xB;replace oG:=kO oG xB;replace yF:=kO yF xB;replace yQ:=kO yQ xB;replace B:=d_ B xB;obtain ⟨a8,c8,rfl,xD,wS⟩:=aF.view yM;clear xD wS;have on:=wH (aF.base (show aF _ _ _ _ from yM) xH);clear yM;(generalize (Wh.a_ N.natAbs).length=ln at *);clear xH;have N_:=aH.new w8 #[.bool sN,.slice a8 ln c8] 125;have b_:=bA w8 (.cells #[.bool sN,.slice a8 ln c8] 125);replace C:=C.keep b_;replace R:=R.keep b_;replace U:=U.keep b_;replace V:=V.keep b_;replace oF:=kO oF b_;replace oG:=kO oG b_;replace yF:=kO yF b_;replace yQ:=kO yQ b_;replace on:=kO on b_;replace B:=d_ B b_;clear b_;(replace ⟨f_,g_⟩:=C.b2);(replace ⟨wP,wQ,wU,wV,wM,wN,wT,wY⟩:=R.xJ);(replace ⟨xK,xL,xS,xT⟩:=U.xu);(replace ⟨xM,xN,yC,yD⟩:=V.xu);(replace ⟨yZ,ya⟩:=N_.b2))
   | (go_at_call 169;(with_reducible refine (yR.out _ _ _ yQ.out).mono ?_);rintro e w9 ⟨v9,rfl,y_,wb⟩;have xH:=B.size;replace C:=C.keep wb;replace R:=R.keep wb;replace U:=U.keep wb;replace V:=V.keep wb;replace N_:=N_.keep wb;replace oF:=kO oF wb;replace oG:=kO oG wb;replace yF:=kO yF wb;replace yQ:=kO yQ wb;replace on:=kO on wb;replace B:=d_ B wb;obtain ⟨a9,c9,rfl,xD,wS⟩:=aF.view y_;clear xD wS;have oe:=wH (aF.base (show aF _ _ _ _ from y_) xH);clear y_;(generalize (Wh.a_ E.natAbs).length=le at *);clear xH;have E_:=aH.new w9 #[.bool sE,.slice a9 le c9] 125;have b_:=bA w9 (.cells #[.bool sE,.slice a9 le c9] 125);replace C:=C.keep b_;replace R:=R.keep b_;replace U:=U.keep b_;replace V:=V.keep b_;replace N_:=N_.keep b_;replace oF:=kO oF b_;replace oG:=kO oG b_;replace yF:=kO yF b_;replace yQ:=kO yQ b_;replace on:=kO on b_;replace oe:=kO oe b_;replace B:=d_ B b_;clear b_;(replace ⟨f_,g_⟩:=C.b2);(replace ⟨wP,wQ,wU,wV,wM,wN,wT,wY⟩:=R.xJ);(replace ⟨xK,xL,xS,xT⟩:=U.xu);(replace ⟨xM,xN,yC,yD⟩:=V.xu);(replace ⟨yZ,ya⟩:=N_.b2);(replace ⟨AO,AP⟩:=E_.b2);have O:=aH.new (w9.alloc (.cells #[.bool sE,.slice a9 le c9] 125)) #[.bool sN,.slice a8 ln c8,.bool sE,.slice a9 le c9] 127;have b_:=bA (w9.alloc (.cells #[.bool sE,.slice a9 le c9] 125)) (.cells #[.bool sN,.slice a8 ln c8,.bool sE,.slice a9 le c9] 127);replace C:=C.keep b_;replace R:=R.keep b_;replace U:=U.keep b_;replace V:=V.keep b_;replace N_:=N_.keep b_;replace E_:=E_.keep b_;replace oF:=kO oF b_;replace oG:=kO oG b_;replace yF:=kO yF b_;replace yQ:=kO yQ b_;replace on:=kO on b_;replace oe:=kO oe b_;replace B:=d_ B b_;clear b_;(rw [wI] at O))
   | (go_at_call 190;(with_reducible refine (BW.out _ _ _ _ _ on.out oe.out).mono ?_);rintro e EP ⟨rfl,wR⟩;(simp only [hq.out]);replace C:=C.keep wR;replace R:=R.keep wR;replace U:=U.keep wR;replace V:=V.keep wR;replace N_:=N_.keep wR;replace E_:=E_.keep wR;replace O:=O.keep wR;replace oF:=kO oF wR;replace oG:=kO oG wR;replace yF:=kO yF wR;replace yQ:=kO yQ wR;replace on:=kO on wR;replace oe:=kO oe wR;replace B:=d_ B wR;(replace ⟨f_,g_⟩:=C.b2);(replace ⟨wP,wQ,wU,wV,wM,wN,wT,wY⟩:=R.xJ);(replace ⟨xK,xL⟩:=U.b2);(replace ⟨xM,xN⟩:=V.b2);(replace ⟨yZ,ya⟩:=N_.b2);(replace ⟨AO,AP⟩:=E_.b2);(replace ⟨yu,yv,yw,yx⟩:=O.b4)))
  exact bodyPost_ret (v:=.tuple #[.agg #[.bool false,.slice none 0 0,.bool false,.slice none 0 0],.bool false]) (by simp [results,Tryz.results158,go_sem, *]) rfl (⟨_,_,(by rw [hX.out,hZ.out,hok.out];rfl),(by rw [hX.out];exact fJ _ _),(by rw [hZ.out];exact fJ _ _),wJ (wJ (wJ (wJ B (by simp <;> omega) _) (by simp <;> omega) _) (by simp <;> omega) _) (by simp <;> omega) _⟩)
 have hsg:decide (G<0)=false:=decide_eq_false hneg;rw [if_neg hneg,if_neg hneg] at hX hZ hO
 obtain rfl:C0=false:=by rw [Ar.out];exact hsg
 have Bx:=BQ.out;rw [hsg] at Bx;clear BQ Ar Ds Dq;clear PM PN Ck DU yR BW;replace AD:=AD.out;replace DT:=DT.out;replace yO:=yO.out;replace Az:=Az.out;simp only [←Ap.out,hsg] at AD DT;simp only [hsg] at yO;generalize F % (d:Int)=rF at *;generalize G % (d:Int)=rG at *;generalize hN:F / (d:Int)=N at *;generalize hE:G / (d:Int)=E at *;clear hN;subst hE;simp only [Bx] at yO Az;generalize hE:G / (d:Int)=E at *;clear hE;generalize BS:decide (N<0)=sN at *
 skip
 replace AD:=wH AD;replace DT:=wH DT;replace yO:=wH yO;replace Az:=wH Az;replace BS:=wH BS;replace Fj:=wH Bx;clear Bx;clear hneg hsg hd
 by_cases hok:Wh.cV N E=true
 ·skip
  rw [hok] at hX hZ hO;rw [if_pos rfl] at hX hZ;have hq:=hok;replace hok:=wH hO;replace hq:=wH hq;replace hX:=wH hX;replace hZ:=wH hZ;clear hO
  go_wp2_with (first
   | (go_at_call 189;(with_reducible refine (AD.out _ _ _ _ _ oF.out oG.out).mono ?_);rintro e w6 ⟨rfl,hb6⟩;replace C:=C.keep hb6;replace R:=R.keep hb6;replace U:=U.keep hb6;replace V:=V.keep hb6;replace oF:=kO oF hb6;replace oG:=kO oG hb6;replace B:=d_ B hb6;(replace ⟨f_,g_⟩:=C.b2);(replace ⟨wP,wQ,wU,wV,wM,wN,wT,wY⟩:=R.xJ);(replace ⟨xK,xL,xS,xT⟩:=U.xu);(replace ⟨xM,xN,yC,yD⟩:=V.xu))
   | (go_at_call 169;(with_reducible refine (DT.out _ _ _ oF.out).mono ?_);rintro e w8 ⟨v8,rfl,yM,xB⟩;have xH:=B.size;replace C:=C.keep xB;replace R:=R.keep xB;replace U:=U.keep xB;replace V:=V.keep xB;replace oF:=kO oF xB;replace oG:=kO oG xB;replace B:=d_ B xB;obtain ⟨a8,c8,rfl,xD,wS⟩:=aF.view yM;clear xD wS;have on:=wH (aF.base (show aF _ _ _ _ from yM) xH);clear yM;(generalize (Wh.a_ N.natAbs).length=ln at *);clear xH;have N_:=aH.new w8 #[.bool sN,.slice a8 ln c8] 125;have b_:=bA w8 (.cells #[.bool sN,.slice a8 ln c8] 125);replace C:=C.keep b_;replace R:=R.keep b_;replace U:=U.keep b_;replace V:=V.keep b_;replace oF:=kO oF b_;replace oG:=kO oG b_;replace on:=kO on b_;replace B:=d_ B b_;clear b_;(replace ⟨f_,g_⟩:=C.b2);(replace ⟨wP,wQ,wU,wV,wM,wN,wT,wY⟩:=R.xJ);(replace ⟨xK,xL,xS,xT⟩:=U.xu);(replace ⟨xM,xN,yC,yD⟩:=V.xu);(replace ⟨yZ,ya⟩:=N_.b2))
   | (go_at_call 169;(with_reducible refine (yO.out _ _ _ oG.out).mono ?_);rintro e w9 ⟨v9,rfl,y_,wb⟩;have xH:=B.size;replace C:=C.keep wb;replace R:=R.keep wb;replace U:=U.keep wb;replace V:=V.keep wb;replace N_:=N_.keep wb;replace oF:=kO oF wb;replace oG:=kO oG wb;replace on:=kO on wb;replace B:=d_ B wb;obtain ⟨a9,c9,rfl,xD,wS⟩:=aF.view y_;clear xD wS;have oe:=wH (aF.base (show aF _ _ _ _ from y_) xH);clear y_;(generalize (Wh.a_ E.natAbs).length=le at *);clear xH;have E_:=aH.new w9 #[.bool false,.slice a9 le c9] 125;have b_:=bA w9 (.cells #[.bool false,.slice a9 le c9] 125);replace C:=C.keep b_;replace R:=R.keep b_;replace U:=U.keep b_;replace V:=V.keep b_;replace N_:=N_.keep b_;replace oF:=kO oF b_;replace oG:=kO oG b_;replace on:=kO on b_;replace oe:=kO oe b_;replace B:=d_ B b_;clear b_;(replace ⟨f_,g_⟩:=C.b2);(replace ⟨wP,wQ,wU,wV,wM,wN,wT,wY⟩:=R.xJ);(replace ⟨xK,xL,xS,xT⟩:=U.xu);(replace ⟨xM,xN,yC,yD⟩:=V.xu);(replace ⟨yZ,ya⟩:=N_.b2);(replace ⟨AO,AP⟩:=E_.b2);have O:=aH.new (w9.alloc (.cells #[.bool false,.slice a9 le c9] 125)) #[.bool sN,.slice a8 ln c8,.bool false,.slice a9 le c9] 127;have b_:=bA (w9.alloc (.cells #[.bool false,.slice a9 le c9] 125)) (.cells #[.bool sN,.slice a8 ln c8,.bool false,.slice a9 le c9] 127);replace C:=C.keep b_;replace R:=R.keep b_;replace U:=U.keep b_;replace V:=V.keep b_;replace N_:=N_.keep b_;replace E_:=E_.keep b_;replace oF:=kO oF b_;replace oG:=kO oG b_;replace on:=kO on b_;replace oe:=kO oe b_;replace B:=d_ B b_;clear b_;(rw [wI] at O))
   | (go_at_call 190;(with_reducible refine (Az.out _ _ _ _ _ on.out oe.out).mono ?_);rintro e EP ⟨rfl,wR⟩;(simp only [hq.out]);replace C:=C.keep wR;replace R:=R.keep wR;replace U:=U.keep wR;replace V:=V.keep wR;replace N_:=N_.keep wR;replace E_:=E_.keep wR;replace O:=O.keep wR;replace oF:=kO oF wR;replace oG:=kO oG wR;replace on:=kO on wR;replace oe:=kO oe wR;replace B:=d_ B wR;(replace ⟨f_,g_⟩:=C.b2);(replace ⟨wP,wQ,wU,wV,wM,wN,wT,wY⟩:=R.xJ);(replace ⟨xK,xL⟩:=U.b2);(replace ⟨xM,xN⟩:=V.b2);(replace ⟨yZ,ya⟩:=N_.b2);(replace ⟨AO,AP⟩:=E_.b2);(replace ⟨yu,yv,yw,yx⟩:=O.b4)))
  have hr1:=aF.base (aF.dF on.out R (by decide) (.bool sN) (.slice a8 ln c8) (.bool false) (.slice a9 le c9)) (base':=w.heap.size) (wL _);have hr2:=aF.base (aF.dF oe.out R (by decide) (.bool sN) (.slice a8 ln c8) (.bool false) (.slice a9 le c9)) (base':=w.heap.size) (wL _);exact bodyPost_ret (v:=.tuple #[.agg #[.bool sN,.slice a8 ln c8,.bool false,.slice a9 le c9],.bool true]) (by simp [results,Tryz.results158,go_sem, *]) rfl (⟨_,_,(by rw [hX.out,hZ.out,hok.out,BS.out,Fj.out]),(by rw [hX.out];exact hr1),(by rw [hZ.out];exact hr2),wJ (wJ (wJ (wJ B (by simp <;> omega) _) (by simp <;> omega) _) (by simp <;> omega) _) (by simp <;> omega) _⟩)
 replace hok:Wh.cV N E=false:=by simpa using hok
 rw [hok] at hX hZ hO;rw [if_neg (by decide)] at hX hZ;have hq:=hok;replace hok:=wH hO;replace hq:=wH hq;replace hX:=wH hX;replace hZ:=wH hZ;clear hO
 go_wp2_with (first
  | (go_at_call 189;(with_reducible refine (AD.out _ _ _ _ _ oF.out oG.out).mono ?_);rintro e w6 ⟨rfl,hb6⟩;replace C:=C.keep hb6;replace R:=R.keep hb6;replace U:=U.keep hb6;replace V:=V.keep hb6;replace oF:=kO oF hb6;replace oG:=kO oG hb6;replace B:=d_ B hb6;(replace ⟨f_,g_⟩:=C.b2);(replace ⟨wP,wQ,wU,wV,wM,wN,wT,wY⟩:=R.xJ);(replace ⟨xK,xL,xS,xT⟩:=U.xu);(replace ⟨xM,xN,yC,yD⟩:=V.xu))
  | (go_at_call 169;(with_reducible refine (DT.out _ _ _ oF.out).mono ?_);rintro e w8 ⟨v8,rfl,yM,xB⟩;have xH:=B.size;replace C:=C.keep xB;replace R:=R.keep xB;replace U:=U.keep xB;replace V:=V.keep xB;replace oF:=kO oF xB;replace oG:=kO oG xB;replace B:=d_ B xB;obtain ⟨a8,c8,rfl,xD,wS⟩:=aF.view yM;clear xD wS;have on:=wH (aF.base (show aF _ _ _ _ from yM) xH);clear yM;(generalize (Wh.a_ N.natAbs).length=ln at *);clear xH;have N_:=aH.new w8 #[.bool sN,.slice a8 ln c8] 125;have b_:=bA w8 (.cells #[.bool sN,.slice a8 ln c8] 125);replace C:=C.keep b_;replace R:=R.keep b_;replace U:=U.keep b_;replace V:=V.keep b_;replace oF:=kO oF b_;replace oG:=kO oG b_;replace on:=kO on b_;replace B:=d_ B b_;clear b_;(replace ⟨f_,g_⟩:=C.b2);(replace ⟨wP,wQ,wU,wV,wM,wN,wT,wY⟩:=R.xJ);(replace ⟨xK,xL,xS,xT⟩:=U.xu);(replace ⟨xM,xN,yC,yD⟩:=V.xu);(replace ⟨yZ,ya⟩:=N_.b2))
  | (go_at_call 169;(with_reducible refine (yO.out _ _ _ oG.out).mono ?_);rintro e w9 ⟨v9,rfl,y_,wb⟩;have xH:=B.size;replace C:=C.keep wb;replace R:=R.keep wb;replace U:=U.keep wb;replace V:=V.keep wb;replace N_:=N_.keep wb;replace oF:=kO oF wb;replace oG:=kO oG wb;replace on:=kO on wb;replace B:=d_ B wb;obtain ⟨a9,c9,rfl,xD,wS⟩:=aF.view y_;clear xD wS;have oe:=wH (aF.base (show aF _ _ _ _ from y_) xH);clear y_;(generalize (Wh.a_ E.natAbs).length=le at *);clear xH;have E_:=aH.new w9 #[.bool false,.slice a9 le c9] 125;have b_:=bA w9 (.cells #[.bool false,.slice a9 le c9] 125);replace C:=C.keep b_;replace R:=R.keep b_;replace U:=U.keep b_;replace V:=V.keep b_;replace N_:=N_.keep b_;replace oF:=kO oF b_;replace oG:=kO oG b_;replace on:=kO on b_;replace oe:=kO oe b_;replace B:=d_ B b_;clear b_;(replace ⟨f_,g_⟩:=C.b2);(replace ⟨wP,wQ,wU,wV,wM,wN,wT,wY⟩:=R.xJ);(replace ⟨xK,xL,xS,xT⟩:=U.xu);(replace ⟨xM,xN,yC,yD⟩:=V.xu);(replace ⟨yZ,ya⟩:=N_.b2);(replace ⟨AO,AP⟩:=E_.b2);have O:=aH.new (w9.alloc (.cells #[.bool false,.slice a9 le c9] 125)) #[.bool sN,.slice a8 ln c8,.bool false,.slice a9 le c9] 127;have b_:=bA (w9.alloc (.cells #[.bool false,.slice a9 le c9] 125)) (.cells #[.bool sN,.slice a8 ln c8,.bool false,.slice a9 le c9] 127);replace C:=C.keep b_;replace R:=R.keep b_;replace U:=U.keep b_;replace V:=V.keep b_;replace N_:=N_.keep b_;replace E_:=E_.keep b_;replace oF:=kO oF b_;replace oG:=kO oG b_;replace on:=kO on b_;replace oe:=kO oe b_;replace B:=d_ B b_;clear b_;(rw [wI] at O))
  | (go_at_call 190;(with_reducible refine (Az.out _ _ _ _ _ on.out oe.out).mono ?_);rintro e EP ⟨rfl,wR⟩;(simp only [hq.out]);replace C:=C.keep wR;replace R:=R.keep wR;replace U:=U.keep wR;replace V:=V.keep wR;replace N_:=N_.keep wR;replace E_:=E_.keep wR;replace O:=O.keep wR;replace oF:=kO oF wR;replace oG:=kO oG wR;replace on:=kO on wR;replace oe:=kO oe wR;replace B:=d_ B wR;(replace ⟨f_,g_⟩:=C.b2);(replace ⟨wP,wQ,wU,wV,wM,wN,wT,wY⟩:=R.xJ);(replace ⟨xK,xL⟩:=U.b2);(replace ⟨xM,xN⟩:=V.b2);(replace ⟨yZ,ya⟩:=N_.b2);(replace ⟨AO,AP⟩:=E_.b2);(replace ⟨yu,yv,yw,yx⟩:=O.b4)))
 exact bodyPost_ret (v:=.tuple #[.agg #[.bool false,.slice none 0 0,.bool false,.slice none 0 0],.bool false]) (by simp [results,Tryz.results158,go_sem, *]) rfl (⟨_,_,(by rw [hX.out,hZ.out,hok.out];rfl),(by rw [hX.out];exact fJ _ _),(by rw [hZ.out];exact fJ _ _),wJ (wJ (wJ (wJ B (by simp <;> omega) _) (by simp <;> omega) _) (by simp <;> omega) _) (by simp <;> omega) _⟩)
namespace M
def hM (a b:Int):Int:=max (1+2*a+8*b+a*a) (4*(1+a+b))
def hK (a b d:Int):Int:=max (15+21*a+27*b) (4*d+5*a*a*b+4*a*(3*a*a*a+22*b*b)+12*b*(a*a*a+8*b*b)+(a*(5*a*a*a+32*b*b)+2*b*(13*a*a*a+96*b*b)+3*a*a*(a*a*a+8*b*b)))
def hC (a b:Int):Nat:=Wh.bl (max (hM a.natAbs b.natAbs) (hK a.natAbs b.natAbs (M.ae a b).natAbs)).toNat
theorem xG {x y m n k:Int} (hx:0≤x∧x≤m) (hy:0≤y∧y≤n) (hk:m*n≤k):0≤x*y∧x*y≤k:=
 ⟨Int.mul_nonneg hx.1 hy.1,Int.le_trans (Int.mul_le_mul hx.2 hy.2 hy.1 (Int.le_trans hx.1 hx.2)) hk⟩
end M
theorem iM (a0 b0:Int) (w:World) (hin:M.bK a0 b0=true) :
  Calls Tryz.prog 127 #[.agg #[.int .i64 a0,.int .i64 b0]] w fun e w'=>e=.returned (.tuple #[.int .i64 (M.hM a0.natAbs b0.natAbs),.int .i64 (M.hK a0.natAbs b0.natAbs (M.ae a0 b0).natAbs)])∧Below w.heap.size w w':=by
 obtain ⟨x1,x2,y1,y2⟩:=M.an hin;have hdb:=dy hin
 have PC:=fun W=>nh a0 b0 W hin
 clear hin;generalize M.ae a0 b0=D at *
 obtain ⟨a,ha⟩:∃ a:Int,Hid (a=a0.natAbs):=⟨_,wH rfl⟩
 obtain ⟨b,hb⟩:∃ b:Int,Hid (b=b0.natAbs):=⟨_,wH rfl⟩
 obtain ⟨d,hd⟩:∃ d:Int,Hid (d=D.natAbs):=⟨_,wH rfl⟩
 rw [←ha.out,←hb.out,←hd.out]
 have a1:0≤a∧a≤1000:=by have:=ha.out;omega
 have b1:0≤b∧b≤10000:=by have:=hb.out;omega
 have d1:0≤d∧d≤6700000000:=by have:=hd.out;omega
 obtain ⟨a1,a2⟩:=a1;obtain ⟨b1,b2⟩:=b1;obtain ⟨d1,d2⟩:=d1;have JM:0≤2*a∧2*a≤2000:=M.xG (show (0:Int)≤2∧(2:Int)≤2 from ⟨by omega,by omega⟩) (show 0≤a∧a≤1000 from ⟨by omega,by omega⟩) (by omega);have HK:0≤8*b∧8*b≤80000:=M.xG (show (0:Int)≤8∧(8:Int)≤8 from ⟨by omega,by omega⟩) (show 0≤b∧b≤10000 from ⟨by omega,by omega⟩) (by omega);have Hk:0≤a*a∧a*a≤1000000:=M.xG (show 0≤a∧a≤1000 from ⟨by omega,by omega⟩) (show 0≤a∧a≤1000 from ⟨by omega,by omega⟩) (by omega);have bd4:0≤4*d∧4*d≤26800000000:=M.xG (show (0:Int)≤4∧(4:Int)≤4 from ⟨by omega,by omega⟩) (show 0≤d∧d≤6700000000 from ⟨by omega,by omega⟩) (by omega);have Hw:0≤4*a∧4*a≤4000:=M.xG (show (0:Int)≤4∧(4:Int)≤4 from ⟨by omega,by omega⟩) (show 0≤a∧a≤1000 from ⟨by omega,by omega⟩) (by omega);have H4:0≤4*a*a∧4*a*a≤4000000:=M.xG Hw (show 0≤a∧a≤1000 from ⟨by omega,by omega⟩) (by omega);have bd7:0≤4*a*a*b∧4*a*a*b≤40000000000:=M.xG H4 (show 0≤b∧b≤10000 from ⟨by omega,by omega⟩) (by omega);have JN:0≤3*a∧3*a≤3000:=M.xG (show (0:Int)≤3∧(3:Int)≤3 from ⟨by omega,by omega⟩) (show 0≤a∧a≤1000 from ⟨by omega,by omega⟩) (by omega);have H5:0≤3*a*a∧3*a*a≤3000000:=M.xG JN (show 0≤a∧a≤1000 from ⟨by omega,by omega⟩) (by omega);have Eh:0≤3*a*a*a∧3*a*a*a≤3000000000:=M.xG H5 (show 0≤a∧a≤1000 from ⟨by omega,by omega⟩) (by omega);have Fv:0≤22*b∧22*b≤220000:=M.xG (show (0:Int)≤22∧(22:Int)≤22 from ⟨by omega,by omega⟩) (show 0≤b∧b≤10000 from ⟨by omega,by omega⟩) (by omega);have Fw:0≤22*b*b∧22*b*b≤2200000000:=M.xG Fv (show 0≤b∧b≤10000 from ⟨by omega,by omega⟩) (by omega);have Hd:0≤4*a*(3*a*a*a+22*b*b)∧4*a*(3*a*a*a+22*b*b)≤20800000000000:=M.xG Hw (show 0≤3*a*a*a+22*b*b∧3*a*a*a+22*b*b≤5200000000 from ⟨by omega,by omega⟩) (by omega);have Fx:0≤12*b∧12*b≤120000:=M.xG (show (0:Int)≤12∧(12:Int)≤12 from ⟨by omega,by omega⟩) (show 0≤b∧b≤10000 from ⟨by omega,by omega⟩) (by omega);have Fy:0≤a*a*a∧a*a*a≤1000000000:=M.xG Hk (show 0≤a∧a≤1000 from ⟨by omega,by omega⟩) (by omega);have He:0≤8*b*b∧8*b*b≤800000000:=M.xG HK (show 0≤b∧b≤10000 from ⟨by omega,by omega⟩) (by omega);have Hf:0≤12*b*(a*a*a+8*b*b)∧12*b*(a*a*a+8*b*b)≤216000000000000:=M.xG Fx (show 0≤a*a*a+8*b*b∧a*a*a+8*b*b≤1800000000 from ⟨by omega,by omega⟩) (by omega);have Hh:0≤a*a*b∧a*a*b≤10000000000:=M.xG Hk (show 0≤b∧b≤10000 from ⟨by omega,by omega⟩) (by omega);have Fz:0≤5*a∧5*a≤5000:=M.xG (show (0:Int)≤5∧(5:Int)≤5 from ⟨by omega,by omega⟩) (show 0≤a∧a≤1000 from ⟨by omega,by omega⟩) (by omega);have Ei:0≤5*a*a∧5*a*a≤5000000:=M.xG Fz (show 0≤a∧a≤1000 from ⟨by omega,by omega⟩) (by omega);have Hi:0≤5*a*a*a∧5*a*a*a≤5000000000:=M.xG Ei (show 0≤a∧a≤1000 from ⟨by omega,by omega⟩) (by omega);have F0:0≤32*b∧32*b≤320000:=M.xG (show (0:Int)≤32∧(32:Int)≤32 from ⟨by omega,by omega⟩) (show 0≤b∧b≤10000 from ⟨by omega,by omega⟩) (by omega);have F3:0≤32*b*b∧32*b*b≤3200000000:=M.xG F0 (show 0≤b∧b≤10000 from ⟨by omega,by omega⟩) (by omega);have F4:0≤a*(5*a*a*a+32*b*b)∧a*(5*a*a*a+32*b*b)≤8200000000000:=M.xG (show 0≤a∧a≤1000 from ⟨by omega,by omega⟩) (show 0≤5*a*a*a+32*b*b∧5*a*a*a+32*b*b≤8200000000 from ⟨by omega,by omega⟩) (by omega);have Ej:0≤2*b∧2*b≤20000:=M.xG (show (0:Int)≤2∧(2:Int)≤2 from ⟨by omega,by omega⟩) (show 0≤b∧b≤10000 from ⟨by omega,by omega⟩) (by omega);have F5:0≤13*a∧13*a≤13000:=M.xG (show (0:Int)≤13∧(13:Int)≤13 from ⟨by omega,by omega⟩) (show 0≤a∧a≤1000 from ⟨by omega,by omega⟩) (by omega);have Ek:0≤13*a*a∧13*a*a≤13000000:=M.xG F5 (show 0≤a∧a≤1000 from ⟨by omega,by omega⟩) (by omega);have Hj:0≤13*a*a*a∧13*a*a*a≤13000000000:=M.xG Ek (show 0≤a∧a≤1000 from ⟨by omega,by omega⟩) (by omega);have F6:0≤96*b∧96*b≤960000:=M.xG (show (0:Int)≤96∧(96:Int)≤96 from ⟨by omega,by omega⟩) (show 0≤b∧b≤10000 from ⟨by omega,by omega⟩) (by omega);have Hl:0≤96*b*b∧96*b*b≤9600000000:=M.xG F6 (show 0≤b∧b≤10000 from ⟨by omega,by omega⟩) (by omega);have Kq:0≤2*b*(13*a*a*a+96*b*b)∧2*b*(13*a*a*a+96*b*b)≤452000000000000:=M.xG Ej (show 0≤13*a*a*a+96*b*b∧13*a*a*a+96*b*b≤22600000000 from ⟨by omega,by omega⟩) (by omega);have Kt:0≤3*a*a*(a*a*a+8*b*b)∧3*a*a*(a*a*a+8*b*b)≤5400000000000000:=M.xG H5 (show 0≤a*a*a+8*b*b∧a*a*a+8*b*b≤1800000000 from ⟨by omega,by omega⟩) (by omega);obtain ⟨bd1_1,bd1_2⟩:=JM;obtain ⟨bd2_1,bd2_2⟩:=HK;obtain ⟨bd3_1,bd3_2⟩:=Hk;obtain ⟨bd4_1,bd4_2⟩:=bd4;obtain ⟨bd5_1,bd5_2⟩:=Hw;obtain ⟨bd6_1,bd6_2⟩:=H4;obtain ⟨bd7_1,bd7_2⟩:=bd7;obtain ⟨bd8_1,bd8_2⟩:=JN;obtain ⟨bd9_1,bd9_2⟩:=H5;obtain ⟨J_,KA⟩:=Eh;obtain ⟨KB,KC⟩:=Fv;obtain ⟨KD,KE⟩:=Fw;obtain ⟨KF,KG⟩:=Hd;obtain ⟨KH,KI⟩:=Fx;obtain ⟨KJ,KK⟩:=Fy;obtain ⟨KL,KM⟩:=He;obtain ⟨KN,KO⟩:=Hf;obtain ⟨KQ,KR⟩:=Hh;obtain ⟨KS,KT⟩:=Fz;obtain ⟨KU,KV⟩:=Ei;obtain ⟨KW,KX⟩:=Hi;obtain ⟨KY,KZ⟩:=F0;obtain ⟨Ka,Kb⟩:=F3;obtain ⟨Kc,Kd⟩:=F4;obtain ⟨Ke,Kf⟩:=Ej;obtain ⟨Kg,Kh⟩:=F5;obtain ⟨Ki,Kj⟩:=Ek;obtain ⟨Kk,Kl⟩:=Hj;obtain ⟨Km,Kn⟩:=F6;obtain ⟨Ko,Kp⟩:=Hl;obtain ⟨Kr,Ks⟩:=Kq;obtain ⟨Ku,Kv⟩:=Kt;have hM:Hid (M.hM a b=max (1+2*a+8*b+a*a) (4*(1+a+b))):=wH rfl;have hK:Hid (M.hK a b d=max (12+16*a+3+5*a+27*b) (4*d+4*a*a*b+4*a*(3*a*a*a+22*b*b)+12*b*(a*a*a+8*b*b)+(a*a*b+a*(5*a*a*a+32*b*b)+2*b*(13*a*a*a+96*b*b)+3*a*a*(a*a*a+8*b*b)))):=wH (by unfold M.hK;congr 1 <;> grind);have mA:=wH (show (if a0 < -a0 then -a0 else a0)=a by have:=ha.out;split <;> omega);have mB:=wH (show (if b0 < -b0 then -b0 else b0)=b by have:=hb.out;split <;> omega);have mD:=wH (show (if D < -D then -D else D)=d by have:=hd.out;split <;> omega);have nA:=wH (show max a0 (-a0)=a by have:=ha.out;omega);have nB:=wH (show max b0 (-b0)=b by have:=hb.out;omega);have nD:=wH (show max D (-D)=d by have:=hd.out;omega)
 skip
 replace PC:=wH PC;have C:=aH.new w #[.int .i64 a0,.int .i64 b0] 25;have B:=(wK w.heap.size w).alloc (wL _) (.cells #[.int .i64 a0,.int .i64 b0] 25);generalize hw3:w.alloc (.cells #[.int .i64 a0,.int .i64 b0] 25)=wc at *;go_enter Tryz.func127,Tryz.ntmps127
 go_wp2
 go_upto_region 1 with fail
 refine Rg.bO 21 [.is (.pointer (some ⟨w.heap.size,0,none⟩)),.is (.int .i64 a0),.is (.pointer (some ⟨w.heap.size,0,none⟩)),.is (.int .i64 a0),.is (.int .i64 (-a0)),.is (.int .i64 a),.is (.pointer (some ⟨w.heap.size,1,none⟩)),.is (.int .i64 b0),.is (.pointer (some ⟨w.heap.size,1,none⟩)),.is (.int .i64 b0),.is (.int .i64 (-b0)),.is (.int .i64 b),.is (.agg #[.int .i64 a0,.int .i64 b0]),.is (.int .i64 D),.is (.agg #[.int .i64 a0,.int .i64 b0]),.is (.int .i64 D),.is (.int .i64 (-D)),.is (.int .i64 d),.is (.int .i64 a),.is (.int .i64 b),.is (.int .i64 d)] (by kernel_rfl) (by kernel_rfl) (by kernel_rfl) ⟨?_,?_,?_,?_,?_,?_,?_,?_,?_,?_,?_,?_,?_,?_,?_,?_,?_,?_,?_,?_,?_,trivial⟩ ?_
 ·intro _ zZ w_ hB hr
  have e1:zZ.tmps[1]?=some (.pointer (some ⟨w.heap.size,0,none⟩)):=hr 1 (by decide);exact Rg.aG rfl (by go_simp)
 ·intro _ zZ w_ hB hr
  have e10:=Rg.c_ (hr 10 (by decide));have k0:=aE hB C.box.c0;exact Rg.aG rfl (by go_simp)
 ·intro _ zZ w_ hB hr
  have e1:zZ.tmps[1]?=some (.pointer (some ⟨w.heap.size,0,none⟩)):=hr 1 (by decide);exact Rg.aG rfl (by go_simp)
 ·intro _ zZ w_ hB hr
  have e12:=Rg.c_ (hr 12 (by decide));have k0:=aE hB C.box.c0;exact Rg.aG rfl (by go_simp)
 ·intro _ zZ w_ hB hr
  have e13:=Rg.c_ (hr 13 (by decide));exact Rg.aG rfl (by go_simp <;> exact Rg.wo (by omega))
 ·intro _ zZ w_ hB hr
  have e11:=Rg.c_ (hr 11 (by decide));have e14:=Rg.c_ (hr 14 (by decide));exact Rg.aG rfl (by go_simp;first | done | (rw [mA.out];done) | (rw [nA.out];done) | (simp only [mA.out];done))
 ·intro _ zZ w_ hB hr
  have e1:zZ.tmps[1]?=some (.pointer (some ⟨w.heap.size,0,none⟩)):=hr 1 (by decide);exact Rg.aG rfl (by go_simp)
 ·intro _ zZ w_ hB hr
  have e16:=Rg.c_ (hr 16 (by decide));have k1:=aE hB C.box.c1;exact Rg.aG rfl (by go_simp)
 ·intro _ zZ w_ hB hr
  have e1:zZ.tmps[1]?=some (.pointer (some ⟨w.heap.size,0,none⟩)):=hr 1 (by decide);exact Rg.aG rfl (by go_simp)
 ·intro _ zZ w_ hB hr
  have e18:=Rg.c_ (hr 18 (by decide));have k1:=aE hB C.box.c1;exact Rg.aG rfl (by go_simp)
 ·intro _ zZ w_ hB hr
  have e19:=Rg.c_ (hr 19 (by decide));exact Rg.aG rfl (by go_simp <;> exact Rg.wo (by omega))
 ·intro _ zZ w_ hB hr
  have e17:=Rg.c_ (hr 17 (by decide));have e20:=Rg.c_ (hr 20 (by decide));exact Rg.aG rfl (by go_simp;first | done | (rw [mB.out];done) | (rw [nB.out];done) | (simp only [mB.out];done))
 ·intro _ zZ w_ hB hr
  have e1:zZ.tmps[1]?=some (.pointer (some ⟨w.heap.size,0,none⟩)):=hr 1 (by decide);have k0:=aE hB C.box.c0;have k1:=aE hB C.box.c1;exact Rg.aG rfl (by go_simp)
 ·intro _ zZ w_ hB hr
  have e22:=Rg.c_ (hr 22 (by decide));have ef:=Rg.ef zZ;exact Rg.bo rfl (by go_simp) (PC.out _)
 ·intro _ zZ w_ hB hr
  have e1:zZ.tmps[1]?=some (.pointer (some ⟨w.heap.size,0,none⟩)):=hr 1 (by decide);have k0:=aE hB C.box.c0;have k1:=aE hB C.box.c1;exact Rg.aG rfl (by go_simp)
 ·intro _ zZ w_ hB hr
  have e24:=Rg.c_ (hr 24 (by decide));have ef:=Rg.ef zZ;exact Rg.bo rfl (by go_simp) (PC.out _)
 ·intro _ zZ w_ hB hr
  have e25:=Rg.c_ (hr 25 (by decide));exact Rg.aG rfl (by go_simp <;> exact Rg.wo (by omega))
 ·intro _ zZ w_ hB hr
  have e23:=Rg.c_ (hr 23 (by decide));have e26:=Rg.c_ (hr 26 (by decide));exact Rg.aG rfl (by go_simp;first | done | (rw [mD.out];done) | (rw [nD.out];done) | (simp only [mD.out];done))
 ·intro _ zZ w_ hB hr
  have e15:=Rg.c_ (hr 15 (by decide));exact Rg.aG rfl (by go_simp)
 ·intro _ zZ w_ hB hr
  have e21:=Rg.c_ (hr 21 (by decide));exact Rg.aG rfl (by go_simp)
 ·intro _ zZ w_ hB hr
  have e27:=Rg.c_ (hr 27 (by decide));exact Rg.aG rfl (by go_simp)
 intro vals wz hB1 hv hne;have I2:vals 18=.int .i64 a:=hv 18 (by decide);have I3:vals 19=.int .i64 b:=hv 19 (by decide);have I5:vals 20=.int .i64 d:=hv 20 (by decide);simp only [Rg.ay,Rg.fill,Act.put,Nat.reduceAdd];clear hv;simp only [I2,I3,I5];clear I2 I3 I5;replace B:=d_ B hB1;clear hB1 C;unfold Rg.aZ;go_wp2;go_ret2;exact ⟨by rw [hM.out,hK.out];first | rfl,B⟩
theorem kx (a0 b0:Int) (w:World) (hin:M.bK a0 b0=true) :
  Calls Tryz.prog 133 #[.agg #[.int .i64 a0,.int .i64 b0]] w fun e w'=>e=.returned (.tuple #[.int .i64 (M.hM a0.natAbs b0.natAbs),.int .i64 (M.hK a0.natAbs b0.natAbs (M.ae a0 b0).natAbs)])∧Below w.heap.size w w':=by
 obtain ⟨x1,x2,y1,y2⟩:=M.an hin;have hdb:=dy hin
 have PC:=fun W=>kG a0 b0 W hin
 clear hin
 have PA:=fun x W (h1:-9223372036854775807≤x) (h2:x≤9223372036854775807)=>dE x W h1 h2
 have PM:=fun x y W=>d9 x y W
 generalize M.ae a0 b0=D at *
 obtain ⟨a,ha⟩:∃ a:Int,Hid (a=a0.natAbs):=⟨_,wH rfl⟩
 obtain ⟨b,hb⟩:∃ b:Int,Hid (b=b0.natAbs):=⟨_,wH rfl⟩
 obtain ⟨d,hd⟩:∃ d:Int,Hid (d=D.natAbs):=⟨_,wH rfl⟩
 rw [←ha.out,←hb.out,←hd.out]
 have a1:0≤a∧a≤1000:=by have:=ha.out;omega
 have b1:0≤b∧b≤10000:=by have:=hb.out;omega
 have d1:0≤d∧d≤6700000000:=by have:=hd.out;omega
 obtain ⟨a1,a2⟩:=a1;obtain ⟨b1,b2⟩:=b1;obtain ⟨d1,d2⟩:=d1;have Kw:0≤2*a∧2*a≤2000:=M.xG (show (0:Int)≤2∧(2:Int)≤2 from ⟨by omega,by omega⟩) (show 0≤a∧a≤1000 from ⟨by omega,by omega⟩) (by omega);have Hn:0≤8*b∧8*b≤80000:=M.xG (show (0:Int)≤8∧(8:Int)≤8 from ⟨by omega,by omega⟩) (show 0≤b∧b≤10000 from ⟨by omega,by omega⟩) (by omega);have Ho:0≤a*a∧a*a≤1000000:=M.xG (show 0≤a∧a≤1000 from ⟨by omega,by omega⟩) (show 0≤a∧a≤1000 from ⟨by omega,by omega⟩) (by omega);have K4:0≤4*d∧4*d≤26800000000:=M.xG (show (0:Int)≤4∧(4:Int)≤4 from ⟨by omega,by omega⟩) (show 0≤d∧d≤6700000000 from ⟨by omega,by omega⟩) (by omega);have Hp:0≤5*a∧5*a≤5000:=M.xG (show (0:Int)≤5∧(5:Int)≤5 from ⟨by omega,by omega⟩) (show 0≤a∧a≤1000 from ⟨by omega,by omega⟩) (by omega);have F7:0≤5*a*a∧5*a*a≤5000000:=M.xG Hp (show 0≤a∧a≤1000 from ⟨by omega,by omega⟩) (by omega);have LA:0≤5*a*a*b∧5*a*a*b≤50000000000:=M.xG F7 (show 0≤b∧b≤10000 from ⟨by omega,by omega⟩) (by omega);have Hq:0≤4*a∧4*a≤4000:=M.xG (show (0:Int)≤4∧(4:Int)≤4 from ⟨by omega,by omega⟩) (show 0≤a∧a≤1000 from ⟨by omega,by omega⟩) (by omega);have Hr:0≤3*a∧3*a≤3000:=M.xG (show (0:Int)≤3∧(3:Int)≤3 from ⟨by omega,by omega⟩) (show 0≤a∧a≤1000 from ⟨by omega,by omega⟩) (by omega);have F8:0≤3*a*a∧3*a*a≤3000000:=M.xG Hr (show 0≤a∧a≤1000 from ⟨by omega,by omega⟩) (by omega);have LJ:0≤3*a*a*a∧3*a*a*a≤3000000000:=M.xG F8 (show 0≤a∧a≤1000 from ⟨by omega,by omega⟩) (by omega);have Hs:0≤22*b∧22*b≤220000:=M.xG (show (0:Int)≤22∧(22:Int)≤22 from ⟨by omega,by omega⟩) (show 0≤b∧b≤10000 from ⟨by omega,by omega⟩) (by omega);have LO:0≤22*b*b∧22*b*b≤2200000000:=M.xG Hs (show 0≤b∧b≤10000 from ⟨by omega,by omega⟩) (by omega);have LR:0≤4*a*(3*a*a*a+22*b*b)∧4*a*(3*a*a*a+22*b*b)≤20800000000000:=M.xG Hq (show 0≤3*a*a*a+22*b*b∧3*a*a*a+22*b*b≤5200000000 from ⟨by omega,by omega⟩) (by omega);have Ht:0≤12*b∧12*b≤120000:=M.xG (show (0:Int)≤12∧(12:Int)≤12 from ⟨by omega,by omega⟩) (show 0≤b∧b≤10000 from ⟨by omega,by omega⟩) (by omega);have LW:0≤a*a*a∧a*a*a≤1000000000:=M.xG Ho (show 0≤a∧a≤1000 from ⟨by omega,by omega⟩) (by omega);have LZ:0≤8*b*b∧8*b*b≤800000000:=M.xG Hn (show 0≤b∧b≤10000 from ⟨by omega,by omega⟩) (by omega);have Lc:0≤12*b*(a*a*a+8*b*b)∧12*b*(a*a*a+8*b*b)≤216000000000000:=M.xG Ht (show 0≤a*a*a+8*b*b∧a*a*a+8*b*b≤1800000000 from ⟨by omega,by omega⟩) (by omega);have Lf:0≤5*a*a*a∧5*a*a*a≤5000000000:=M.xG F7 (show 0≤a∧a≤1000 from ⟨by omega,by omega⟩) (by omega);have Hx:0≤32*b∧32*b≤320000:=M.xG (show (0:Int)≤32∧(32:Int)≤32 from ⟨by omega,by omega⟩) (show 0≤b∧b≤10000 from ⟨by omega,by omega⟩) (by omega);have Lk:0≤32*b*b∧32*b*b≤3200000000:=M.xG Hx (show 0≤b∧b≤10000 from ⟨by omega,by omega⟩) (by omega);have Ln:0≤a*(5*a*a*a+32*b*b)∧a*(5*a*a*a+32*b*b)≤8200000000000:=M.xG (show 0≤a∧a≤1000 from ⟨by omega,by omega⟩) (show 0≤5*a*a*a+32*b*b∧5*a*a*a+32*b*b≤8200000000 from ⟨by omega,by omega⟩) (by omega);have Hy:0≤2*b∧2*b≤20000:=M.xG (show (0:Int)≤2∧(2:Int)≤2 from ⟨by omega,by omega⟩) (show 0≤b∧b≤10000 from ⟨by omega,by omega⟩) (by omega);have Hz:0≤13*a∧13*a≤13000:=M.xG (show (0:Int)≤13∧(13:Int)≤13 from ⟨by omega,by omega⟩) (show 0≤a∧a≤1000 from ⟨by omega,by omega⟩) (by omega);have H0:0≤13*a*a∧13*a*a≤13000000:=M.xG Hz (show 0≤a∧a≤1000 from ⟨by omega,by omega⟩) (by omega);have Lw:0≤13*a*a*a∧13*a*a*a≤13000000000:=M.xG H0 (show 0≤a∧a≤1000 from ⟨by omega,by omega⟩) (by omega);have H3:0≤96*b∧96*b≤960000:=M.xG (show (0:Int)≤96∧(96:Int)≤96 from ⟨by omega,by omega⟩) (show 0≤b∧b≤10000 from ⟨by omega,by omega⟩) (by omega);have L4:0≤96*b*b∧96*b*b≤9600000000:=M.xG H3 (show 0≤b∧b≤10000 from ⟨by omega,by omega⟩) (by omega);have L7:0≤2*b*(13*a*a*a+96*b*b)∧2*b*(13*a*a*a+96*b*b)≤452000000000000:=M.xG Hy (show 0≤13*a*a*a+96*b*b∧13*a*a*a+96*b*b≤22600000000 from ⟨by omega,by omega⟩) (by omega);have L_:0≤3*a*a*(a*a*a+8*b*b)∧3*a*a*(a*a*a+8*b*b)≤5400000000000000:=M.xG F8 (show 0≤a*a*a+8*b*b∧a*a*a+8*b*b≤1800000000 from ⟨by omega,by omega⟩) (by omega);obtain ⟨Kx,Ky⟩:=Kw;obtain ⟨Kz,K0⟩:=Hn;obtain ⟨K2,K3⟩:=Ho;obtain ⟨K5,K6⟩:=K4;obtain ⟨K7,K8⟩:=Hp;obtain ⟨K9,K_⟩:=F7;obtain ⟨LB,LC⟩:=LA;obtain ⟨LD,LE⟩:=Hq;obtain ⟨LF,LG⟩:=Hr;obtain ⟨LH,LI⟩:=F8;obtain ⟨LK,LL⟩:=LJ;obtain ⟨LM,LN⟩:=Hs;obtain ⟨LP,LQ⟩:=LO;obtain ⟨LS,LT⟩:=LR;obtain ⟨LU,LV⟩:=Ht;obtain ⟨LX,LY⟩:=LW;obtain ⟨La,Lb⟩:=LZ;obtain ⟨Ld,Le⟩:=Lc;obtain ⟨Lg,Lh⟩:=Lf;obtain ⟨Li,Lj⟩:=Hx;obtain ⟨Ll,Lm⟩:=Lk;obtain ⟨Lo,Lp⟩:=Ln;obtain ⟨Lq,Lr⟩:=Hy;obtain ⟨Ls,Lt⟩:=Hz;obtain ⟨Lu,Lv⟩:=H0;obtain ⟨Lx,Ly⟩:=Lw;obtain ⟨Lz,L0⟩:=H3;obtain ⟨L5,L6⟩:=L4;obtain ⟨L8,L9⟩:=L7;obtain ⟨ME,MF⟩:=L_;have hM:Hid (M.hM a b=max (1+2*a+8*b+a*a) (4*(1+a+b))):=wH rfl;have hK:Hid (M.hK a b d=max (15+21*a+27*b) (4*d+5*a*a*b+4*a*(3*a*a*a+22*b*b)+12*b*(a*a*a+8*b*b)+(a*(5*a*a*a+32*b*b)+2*b*(13*a*a*a+96*b*b)+3*a*a*(a*a*a+8*b*b)))):=wH rfl
 skip
 replace PC:=wH PC;replace PA:=wH PA;replace PM:=wH PM;have C:=aH.new w #[.int .i64 a0,.int .i64 b0] 25;have B:=(wK w.heap.size w).alloc (wL _) (.cells #[.int .i64 a0,.int .i64 b0] 25);generalize hw3:w.alloc (.cells #[.int .i64 a0,.int .i64 b0] 25)=wc at *;go_enter Tryz.func133,Tryz.ntmps133
 go_wp2
 go_upto_region 1 with fail
 refine Rg.bO 12 [.is (.pointer (some ⟨w.heap.size,0,none⟩)),.is (.int .i64 a0),.is (.int .i64 a),.is (.pointer (some ⟨w.heap.size,1,none⟩)),.is (.int .i64 b0),.is (.int .i64 b),.is (.agg #[.int .i64 a0,.int .i64 b0]),.is (.int .i64 D),.is (.int .i64 d),.is (.int .i64 a),.is (.int .i64 b),.is (.int .i64 d)] (by kernel_rfl) (by kernel_rfl) (by kernel_rfl) ⟨?_,?_,?_,?_,?_,?_,?_,?_,?_,?_,?_,?_,trivial⟩ ?_
 ·intro _ zZ w_ hB hr
  have e1:zZ.tmps[1]?=some (.pointer (some ⟨w.heap.size,0,none⟩)):=hr 1 (by decide);exact Rg.aG rfl (by go_simp)
 ·intro _ zZ w_ hB hr
  have e10:=Rg.c_ (hr 10 (by decide));have k0:=aE hB C.box.c0;exact Rg.aG rfl (by go_simp)
 ·intro _ zZ w_ hB hr
  have e11:=Rg.c_ (hr 11 (by decide));have ef:=Rg.ef zZ;refine Rg.ah rfl (by go_simp;exact ⟨rfl,rfl⟩) ?_;refine (PA.out a0 _ (by omega) (by omega)).mono ?_;rintro e w5 ⟨rfl,rfl⟩;exact ⟨_,rfl,(by rw [ha.out];rfl),wK _ _⟩
 ·intro _ zZ w_ hB hr
  have e1:zZ.tmps[1]?=some (.pointer (some ⟨w.heap.size,0,none⟩)):=hr 1 (by decide);exact Rg.aG rfl (by go_simp)
 ·intro _ zZ w_ hB hr
  have e13:=Rg.c_ (hr 13 (by decide));have k1:=aE hB C.box.c1;exact Rg.aG rfl (by go_simp)
 ·intro _ zZ w_ hB hr
  have e14:=Rg.c_ (hr 14 (by decide));have ef:=Rg.ef zZ;refine Rg.ah rfl (by go_simp;exact ⟨rfl,rfl⟩) ?_;refine (PA.out b0 _ (by omega) (by omega)).mono ?_;rintro e w5 ⟨rfl,rfl⟩;exact ⟨_,rfl,(by rw [hb.out];rfl),wK _ _⟩
 ·intro _ zZ w_ hB hr
  have e1:zZ.tmps[1]?=some (.pointer (some ⟨w.heap.size,0,none⟩)):=hr 1 (by decide);have k0:=aE hB C.box.c0;have k1:=aE hB C.box.c1;exact Rg.aG rfl (by go_simp)
 ·intro _ zZ w_ hB hr
  have e16:=Rg.c_ (hr 16 (by decide));have ef:=Rg.ef zZ;exact Rg.bo rfl (by go_simp) (PC.out _)
 ·intro _ zZ w_ hB hr
  have e17:=Rg.c_ (hr 17 (by decide));have ef:=Rg.ef zZ;refine Rg.ah rfl (by go_simp;exact ⟨rfl,rfl⟩) ?_;refine (PA.out D _ (by omega) (by omega)).mono ?_;rintro e w5 ⟨rfl,rfl⟩;exact ⟨_,rfl,(by rw [hd.out];rfl),wK _ _⟩
 ·intro _ zZ w_ hB hr
  have e12:=Rg.c_ (hr 12 (by decide));exact Rg.aG rfl (by go_simp)
 ·intro _ zZ w_ hB hr
  have e15:=Rg.c_ (hr 15 (by decide));exact Rg.aG rfl (by go_simp)
 ·intro _ zZ w_ hB hr
  have e18:=Rg.c_ (hr 18 (by decide));exact Rg.aG rfl (by go_simp)
 intro vals wz hB1 hv hne;have yp:vals 9=.int .i64 a:=hv 9 (by decide);have xU:vals 10=.int .i64 b:=hv 10 (by decide);have xI:vals 11=.int .i64 d:=hv 11 (by decide);simp only [Rg.ay,Rg.fill,Act.put,Nat.reduceAdd];clear hv;simp only [yp,xU,xI];clear yp xU xI;replace B:=d_ B hB1;clear hB1 C;unfold Rg.aZ
 go_wp2_with (go_at_call 119;(with_reducible refine (PM.out _ _ _).mono ?_);rintro e w6 ⟨rfl,rfl⟩)
 go_ret2;exact ⟨by rw [hM.out,hK.out];first | rfl,B⟩
theorem M.nl {a0 b0:Int} (hin:M.bK a0 b0=true):0≤max (M.hM a0.natAbs b0.natAbs) (M.hK a0.natAbs b0.natAbs (M.ae a0 b0).natAbs)∧max (M.hM a0.natAbs b0.natAbs) (M.hK a0.natAbs b0.natAbs (M.ae a0 b0).natAbs)≤100000000000000000:=by
 obtain ⟨x1,x2,y1,y2⟩:=M.an hin;have hdb:=dy hin
 obtain ⟨a,ha⟩:∃ a:Int,(a=a0.natAbs):=⟨_,rfl⟩
 obtain ⟨b,hb⟩:∃ b:Int,(b=b0.natAbs):=⟨_,rfl⟩
 obtain ⟨d,hd⟩:∃ d:Int,(d=(M.ae a0 b0).natAbs):=⟨_,rfl⟩
 rw [←ha,←hb,←hd]
 have a1:0≤a∧a≤1000:=by omega
 have b1:0≤b∧b≤10000:=by omega
 have d1:0≤d∧d≤6700000000:=by omega
 clear ha hb hd hdb x1 x2 y1 y2 hin;have JM:0≤2*a∧2*a≤2000:=M.xG (show (0:Int)≤2∧(2:Int)≤2 from ⟨by omega,by omega⟩) (show 0≤a∧a≤1000 from ⟨by omega,by omega⟩) (by omega);have HK:0≤8*b∧8*b≤80000:=M.xG (show (0:Int)≤8∧(8:Int)≤8 from ⟨by omega,by omega⟩) (show 0≤b∧b≤10000 from ⟨by omega,by omega⟩) (by omega);have Hk:0≤a*a∧a*a≤1000000:=M.xG (show 0≤a∧a≤1000 from ⟨by omega,by omega⟩) (show 0≤a∧a≤1000 from ⟨by omega,by omega⟩) (by omega);have bd4:0≤4*d∧4*d≤26800000000:=M.xG (show (0:Int)≤4∧(4:Int)≤4 from ⟨by omega,by omega⟩) (show 0≤d∧d≤6700000000 from ⟨by omega,by omega⟩) (by omega);have Hw:0≤5*a∧5*a≤5000:=M.xG (show (0:Int)≤5∧(5:Int)≤5 from ⟨by omega,by omega⟩) (show 0≤a∧a≤1000 from ⟨by omega,by omega⟩) (by omega);have H4:0≤5*a*a∧5*a*a≤5000000:=M.xG Hw (show 0≤a∧a≤1000 from ⟨by omega,by omega⟩) (by omega);have bd7:0≤5*a*a*b∧5*a*a*b≤50000000000:=M.xG H4 (show 0≤b∧b≤10000 from ⟨by omega,by omega⟩) (by omega);have JN:0≤4*a∧4*a≤4000:=M.xG (show (0:Int)≤4∧(4:Int)≤4 from ⟨by omega,by omega⟩) (show 0≤a∧a≤1000 from ⟨by omega,by omega⟩) (by omega);have H5:0≤3*a∧3*a≤3000:=M.xG (show (0:Int)≤3∧(3:Int)≤3 from ⟨by omega,by omega⟩) (show 0≤a∧a≤1000 from ⟨by omega,by omega⟩) (by omega);have Eh:0≤3*a*a∧3*a*a≤3000000:=M.xG H5 (show 0≤a∧a≤1000 from ⟨by omega,by omega⟩) (by omega);have Fv:0≤3*a*a*a∧3*a*a*a≤3000000000:=M.xG Eh (show 0≤a∧a≤1000 from ⟨by omega,by omega⟩) (by omega);have Fw:0≤22*b∧22*b≤220000:=M.xG (show (0:Int)≤22∧(22:Int)≤22 from ⟨by omega,by omega⟩) (show 0≤b∧b≤10000 from ⟨by omega,by omega⟩) (by omega);have Hd:0≤22*b*b∧22*b*b≤2200000000:=M.xG Fw (show 0≤b∧b≤10000 from ⟨by omega,by omega⟩) (by omega);have Fx:0≤4*a*(3*a*a*a+22*b*b)∧4*a*(3*a*a*a+22*b*b)≤20800000000000:=M.xG JN (show 0≤3*a*a*a+22*b*b∧3*a*a*a+22*b*b≤5200000000 from ⟨by omega,by omega⟩) (by omega);have Fy:0≤12*b∧12*b≤120000:=M.xG (show (0:Int)≤12∧(12:Int)≤12 from ⟨by omega,by omega⟩) (show 0≤b∧b≤10000 from ⟨by omega,by omega⟩) (by omega);have He:0≤a*a*a∧a*a*a≤1000000000:=M.xG Hk (show 0≤a∧a≤1000 from ⟨by omega,by omega⟩) (by omega);have Hf:0≤8*b*b∧8*b*b≤800000000:=M.xG HK (show 0≤b∧b≤10000 from ⟨by omega,by omega⟩) (by omega);have Hh:0≤12*b*(a*a*a+8*b*b)∧12*b*(a*a*a+8*b*b)≤216000000000000:=M.xG Fy (show 0≤a*a*a+8*b*b∧a*a*a+8*b*b≤1800000000 from ⟨by omega,by omega⟩) (by omega);have Fz:0≤5*a*a*a∧5*a*a*a≤5000000000:=M.xG H4 (show 0≤a∧a≤1000 from ⟨by omega,by omega⟩) (by omega);have Ei:0≤32*b∧32*b≤320000:=M.xG (show (0:Int)≤32∧(32:Int)≤32 from ⟨by omega,by omega⟩) (show 0≤b∧b≤10000 from ⟨by omega,by omega⟩) (by omega);have Hi:0≤32*b*b∧32*b*b≤3200000000:=M.xG Ei (show 0≤b∧b≤10000 from ⟨by omega,by omega⟩) (by omega);have F0:0≤a*(5*a*a*a+32*b*b)∧a*(5*a*a*a+32*b*b)≤8200000000000:=M.xG (show 0≤a∧a≤1000 from ⟨by omega,by omega⟩) (show 0≤5*a*a*a+32*b*b∧5*a*a*a+32*b*b≤8200000000 from ⟨by omega,by omega⟩) (by omega);have F3:0≤2*b∧2*b≤20000:=M.xG (show (0:Int)≤2∧(2:Int)≤2 from ⟨by omega,by omega⟩) (show 0≤b∧b≤10000 from ⟨by omega,by omega⟩) (by omega);have F4:0≤13*a∧13*a≤13000:=M.xG (show (0:Int)≤13∧(13:Int)≤13 from ⟨by omega,by omega⟩) (show 0≤a∧a≤1000 from ⟨by omega,by omega⟩) (by omega);have Ej:0≤13*a*a∧13*a*a≤13000000:=M.xG F4 (show 0≤a∧a≤1000 from ⟨by omega,by omega⟩) (by omega);have F5:0≤13*a*a*a∧13*a*a*a≤13000000000:=M.xG Ej (show 0≤a∧a≤1000 from ⟨by omega,by omega⟩) (by omega);have Ek:0≤96*b∧96*b≤960000:=M.xG (show (0:Int)≤96∧(96:Int)≤96 from ⟨by omega,by omega⟩) (show 0≤b∧b≤10000 from ⟨by omega,by omega⟩) (by omega);have Hj:0≤96*b*b∧96*b*b≤9600000000:=M.xG Ek (show 0≤b∧b≤10000 from ⟨by omega,by omega⟩) (by omega);have F6:0≤2*b*(13*a*a*a+96*b*b)∧2*b*(13*a*a*a+96*b*b)≤452000000000000:=M.xG F3 (show 0≤13*a*a*a+96*b*b∧13*a*a*a+96*b*b≤22600000000 from ⟨by omega,by omega⟩) (by omega);have Hl:0≤3*a*a*(a*a*a+8*b*b)∧3*a*a*(a*a*a+8*b*b)≤5400000000000000:=M.xG Eh (show 0≤a*a*a+8*b*b∧a*a*a+8*b*b≤1800000000 from ⟨by omega,by omega⟩) (by omega);unfold M.hM M.hK;omega
theorem M.iu {a0 b0:Int} (hin:M.bK a0 b0=true):M.hC a0 b0≤60:=by
 have h:=M.nl hin;unfold M.hC Wh.bl;generalize max (M.hM a0.natAbs b0.natAbs) (M.hK a0.natAbs b0.natAbs (M.ae a0 b0).natAbs)=X at *
 split
 ·omega
 rename_i h0
 have:=(Nat.log2_lt h0 (k:=59)).2 (by
                      have:(2:Nat) ^ 59=576460752303423488:=by decide
                      omega)
 omega
theorem dz (a0 b0:Int) (w:World) (hin:M.bK a0 b0=true) :
  Calls Tryz.prog 75 #[.agg #[.int .i64 a0,.int .i64 b0]] w fun e w'=>e=.returned (.int .i64 (M.hC a0 b0:Nat))∧Below w.heap.size w w':=by
 have hbd:=M.nl hin
 have PD:=fun W=>iM a0 b0 W hin
 have hc:Hid (M.hC a0 b0=Wh.bl (max (M.hM a0.natAbs b0.natAbs) (M.hK a0.natAbs b0.natAbs (M.ae a0 b0).natAbs)).toNat):=wH rfl;generalize M.hK a0.natAbs b0.natAbs (M.ae a0 b0).natAbs=k,M.hM a0.natAbs b0.natAbs=m at *
 have hx:max m k=if m<k then k else m:=by split <;> omega
 have PL:=fun W=>Tryz.bits_Len (max m k) W (by omega) (by omega)
 rw [Wh.qn _ (by omega)] at PL;obtain ⟨x1,x2⟩:=hbd;replace PD:=wH PD;replace PL:=wH PL;replace hx:=wH hx;have B:=(wK w.heap.size w).alloc (wL _) (.cells #[.int .i64 a0,.int .i64 b0] 25);go_enter Tryz.func75,Tryz.ntmps75
 go_wp2_with (first
  | (go_at_call 127;(with_reducible refine (PD.out _).mono ?_);rintro e w4 ⟨rfl,hb4⟩;replace B:=d_ B hb4)
  | (go_at_call 128;(refine (PL.out _).mono ?_);rintro e w6 ⟨rfl,rfl⟩))
 go_ret;exact ⟨by rw [hc.out];rfl,B⟩
theorem gi (a0 b0:Int) (w:World) (hin:M.bK a0 b0=true) :
  Calls Tryz.prog 80 #[.agg #[.int .i64 a0,.int .i64 b0]] w fun e w'=>e=.returned (.int .i64 (M.hC a0 b0:Nat))∧Below w.heap.size w w':=by
 have hbd:=M.nl hin;have hcb:=M.iu hin
 have PD:=fun W=>kx a0 b0 W hin
 have hc:Hid (M.hC a0 b0=Wh.bl (max (M.hM a0.natAbs b0.natAbs) (M.hK a0.natAbs b0.natAbs (M.ae a0 b0).natAbs)).toNat):=wH rfl;rw [hc.out] at hcb;generalize M.hK a0.natAbs b0.natAbs (M.ae a0 b0).natAbs=k,M.hM a0.natAbs b0.natAbs=m at *
 have PM:=fun W=>d9 m k W
 generalize max m k=X at *;obtain ⟨x1,x2⟩:=hbd
 have hxn:X.natAbs=X.toNat:=by omega
 have PO:=fun W=>jY X W (by omega) (by omega)
 have PB:=fun v W k (h:aF W k v (Wh.a_ X.natAbs))=>jX X v W k h (Nat.le_trans (Wh.dJ (k:=5) (by omega)) (by decide)) (by rw [hxn];omega)
 replace hxn:=wH hxn;generalize decide (X<0)=sX at *;replace PD:=wH PD;replace PM:=wH PM;replace PO:=wH PO;replace PB:=wH PB;clear hcb;have B:=(wK w.heap.size w).alloc (wL _) (.cells #[.int .i64 a0,.int .i64 b0] 25);go_enter Tryz.func80,Tryz.ntmps80
 go_wp2_with (first
  | (go_at_call 133;(with_reducible refine (PD.out _).mono ?_);rintro e w4 ⟨rfl,hb4⟩;replace B:=d_ B hb4)
  | (go_at_call 119;(with_reducible refine (PM.out _).mono ?_);rintro e w5 ⟨rfl,rfl⟩)
  | (go_at_call 135;(with_reducible refine (PO.out _).mono ?_);rintro e w6 ⟨v6,rfl,Fh,hb6⟩;have AM:=(show aF _ _ _ _ from Fh);replace B:=d_ B hb6)
  | (go_at_call 134;(with_reducible refine (PB.out _ _ _ AM).mono ?_);rintro e w8 ⟨rfl,xB⟩;replace B:=d_ B xB))
 go_ret;exact ⟨by rw [hc.out,←hxn.out];rfl,B⟩
def M.p4 (n:Nat):Int:=3*4 ^ n
theorem M.tK (n:Nat):M.p4 (n+1)=M.p4 n*4:=by unfold M.p4;rw [Int.pow_succ];omega
theorem M.pC:∀ n:Nat,n≤5→3≤M.p4 n∧M.p4 n≤3072:=by decide
theorem pk (n:Nat) (w:World) (hn:n≤5) :
  Calls Tryz.prog 81 #[.int .i64 (n:Int)] w fun e w'=>e=.returned (.int .i64 (M.p4 n))∧w=w':=by
 go_enter Tryz.func81,Tryz.ntmps81
 go_wp2
 go_loop [0,3] (fun i o=>∃ k:Nat,k≤n∧i=.int .i64 ((n - k:Nat):Int)∧o=.int .i64 (M.p4 k)) (fun i _=>(intOf i).toNat)
 case atStart=>exact ⟨0,Nat.zero_le _,rfl,rfl⟩
 case round=>
 obtain ⟨k,hk,rfl,rfl⟩:=hrel;have hb:=M.pC k (by omega);have hs:=wH (M.tK k)
 by_cases hlt:k<n
 ·obtain ⟨j,hj⟩:∃ j:Nat,n - k=j+1:=⟨n - k - 1,by omega⟩
  have hj2:=wH (show n - (k+1)=j by omega);rw [hj]
  have hjb:(j:Int)≤4:=by omega
  clear hj;go_wp2
  go_round
  case rel=>exact ⟨k+1,by omega,(by first | (rw [hj2.out];done) | (rw [hj2.out];go_num)),by rw [hs.out]⟩
  case measure=>simp [intOf] <;> omega
 obtain rfl:n=k:=by omega
 rw [Nat.sub_self];go_wp2;go_ret;exact ⟨rfl,rfl⟩
end
end Go.Proofs.YtggekfbfechonaaGreat
