/-
  Joined texts: contracts and plain lemmas.
-/
import Derived.Test.YtgfkcoablfjbcaaGreatU1
import Derived.Test.YtgfkcoablfjbcaaGreatU6
set_option linter.unusedSimpArgs false
set_option linter.unusedVariables false
set_option maxRecDepth 100000
set_option maxHeartbeats 8000000
namespace Go.Proofs.YtgfkcoablfjbcaaGreat
section
open Go.RowKit
theorem aH.bg {W:World} {g k:Nat} {T:TypeId} {xs:Array Value} (h:aH W g T xs) (hk:g≠k) (x y:Value):aH ((W.setCell ⟨k,0,none⟩ x).setCell ⟨k,1,none⟩ y) g T xs:=(h.other hk x).other hk y
theorem dL {B:Nat} {w W:World} {k:Nat} (h:Below B w W) (hk:B≤k) (x y:Value):Below B w ((W.setCell ⟨k,0,none⟩ x).setCell ⟨k,1,none⟩ y):=(h.setCell hk x).setCell hk y
theorem aF.len {W:World} {base l c:Nat} {a:Option Addr} {xs:List Int} (h:aF W base (.slice a l c) xs):l=xs.length:=by
 obtain ⟨a',c',e,-,-⟩:=aF.view h;injection e
namespace Wh
theorem xg (D F G:Int):((BM D F G:Nat):Int) ∣ F:=Int.ofNat_dvd_left.2 (Nat.dvd_trans (Nat.gcd_dvd_left _ _) (Nat.gcd_dvd_right _ _))
theorem xh (D F G:Int):((BM D F G:Nat):Int) ∣ G:=Int.ofNat_dvd_left.2 (Nat.gcd_dvd_right _ _)
end Wh
theorem pr (a b x z:Int) (vx vz:Value) (w:World) (bx bz:Nat) (hg:M.good a b=true) (hox:ah w bx vx x) (zJ:ah w bz vz z) (hx:Wh.sz x 1000) (hz:Wh.sz z 1000) :
  Calls Tryz.prog 144 #[.agg #[.int .i64 a,.int .i64 b],.agg #[.bool (decide (x<0)),vx,.bool (decide (z<0)),vz]] w fun e w'=>∃ v1 v2,e=.returned (.tuple #[.agg #[.bool (decide (Wh.BK (M.bC a b) (Wh.bQ a b x z) (Wh.bI a b x z)<0)),v1,.bool (decide (Wh.BL (M.bC a b) (Wh.bQ a b x z) (Wh.bI a b x z)<0)),v2],.bool (Wh.dp (M.bC a b) (Wh.bQ a b x z) (Wh.bI a b x z))])∧ah w' w.heap.size v1 (Wh.BK (M.bC a b) (Wh.bQ a b x z) (Wh.bI a b x z))∧ah w' w.heap.size v2 (Wh.BL (M.bC a b) (Wh.bQ a b x z) (Wh.bI a b x z))∧Below w.heap.size w w':=by
 obtain ⟨ax,cx,rfl,-,-⟩:=aF.view hox;obtain ⟨az,cz,rfl,-,-⟩:=aF.view zJ;have hin:=M.bK hg;obtain ⟨ha1,ha2,hb1,hb2⟩:=M.am hin;have hdn:=fO hg;have hdb:=eJ hin
 have PF:=fun v v' W k k' (h1:aF W k v (Wh.d_ x.natAbs)) (h2:aF W k' v' (Wh.d_ z.natAbs))=>vj a b x z v v' W k k' h1 h2 hx hz ha1 ha2 hb1 hb2
 have PG:=fun v v' W k k' (h1:aF W k v (Wh.d_ x.natAbs)) (h2:aF W k' v' (Wh.d_ z.natAbs))=>kh a b x z v v' W k k' h1 h2 hx hz ha1 ha2 hb1 hb2
 have zF:=Wh.mo hx hz ha1 ha2 hb1 hb2;have zG:=Wh.mh hx hz ha1 ha2 hb1 hb2;have hdv:=Wh.tK (Wh.bQ a b x z) (Wh.bI a b x z) hdn;have hdF:=Wh.xg (M.bC a b) (Wh.bQ a b x z) (Wh.bI a b x z);have L9:=Wh.xh (M.bC a b) (Wh.bQ a b x z) (Wh.bI a b x z);generalize Wh.bI a b x z=G,Wh.bQ a b x z=F at *;have sF:=Wh.aW.2 (Wh.aP zF (show 5000≤9000 by omega));have sG:=Wh.aW.2 (Wh.aP zG (show 6000≤9000 by omega));have zF':=Wh.ik zF;have zG':=Wh.ik zG;have NO:=Wh.aW.2 (Wh.aP zF' (show 5000≤9000 by omega));have NP:=Wh.aW.2 (Wh.aP zG' (show 6000≤9000 by omega))
 have PM:=fun v W k (h:aF W k v (Wh.d_ F.natAbs))=>iO F v W k h (by omega)
 have PN:=fun v W k (h:aF W k v (Wh.d_ G.natAbs))=>iO G v W k h (by omega)
 have BD:=fun v v' W k k' (h1:aF W k v (Wh.d_ F.natAbs)) (h2:aF W k' v' (Wh.d_ G.natAbs))=>i9 a b F G v v' W k k' hg h1 h2 sF sG
 have Cu:=fun v v' W k k' (h1:aF W k v (Wh.d_ (-F).natAbs)) (h2:aF W k' v' (Wh.d_ (-G).natAbs))=>i9 a b (-F) (-G) v v' W k k' hg h1 h2 NO NP
 simp only [Wh.uo] at BD Cu;rw [Wh.um] at Cu;generalize M.bC a b=D at *;clear hin hg ha1 ha2 hb1 hb2 hdn hx hz
 obtain ⟨d,hd⟩:∃ d,Hid (Wh.BM D F G=d):=⟨_,yI rfl⟩
 rw [hd.out] at hdv BD Cu hdF L9;have hd1:1≤d:=hdv.1
 have hd2:d≤1000000000000:=by omega
 clear hdv hdb;have zN:=Wh.mj zF d;have zE:=Wh.mj zG d;have zN':=Wh.ik zN;have zE':=Wh.ik zE;have sN:=Wh.aW.2 (Wh.aP zN (show 5000+1≤9000 by omega));have sE:=Wh.aW.2 (Wh.aP zE (show 6000+1≤9000 by omega));have sN':=Wh.aW.2 (Wh.aP zN' (show 5000+1≤9000 by omega));have sE':=Wh.aW.2 (Wh.aP zE' (show 6000+1≤9000 by omega))
 have DR:=fun v W k (h:aF W k v (Wh.d_ F.natAbs))=>eG F (d:Int) v W k h sF (by omega) (by omega)
 have DF:=fun v W k (h:aF W k v (Wh.d_ G.natAbs))=>eG G (d:Int) v W k h sG (by omega) (by omega)
 have DS:=fun v W k (h:aF W k v (Wh.d_ (-F).natAbs))=>eG (-F) (d:Int) v W k h NO (by omega) (by omega)
 have DT:=fun v W k (h:aF W k v (Wh.d_ (-G).natAbs))=>eG (-G) (d:Int) v W k h NP (by omega) (by omega)
 rw [Int.neg_ediv_of_dvd hdF] at DS;rw [Int.neg_ediv_of_dvd L9] at DT
 have BP:=fun v v' W k k' (h:aF W k v (Wh.d_ (F / (d:Int)).natAbs)) (h':aF W k' v' (Wh.d_ (G / (d:Int)).natAbs))=>ov (F / (d:Int)) (G / (d:Int)) v v' W k k' h h' (by omega) (by omega)
 have CH:=fun v v' W k k' (h:aF W k v (Wh.d_ (-(F / (d:Int))).natAbs)) (h':aF W k' v' (Wh.d_ (-(G / (d:Int))).natAbs))=>ov (-(F / (d:Int))) (-(G / (d:Int))) v v' W k k' h h' (by omega) (by omega)
 clear hdF L9 sF sG NO NP zF zG zF' zG' zN zE zN' zE' sN sE sN' sE'
 have E9:G≠0→Wh.dp D F G=Wh.cg (if G<0 then -(F / (d:Int)) else F / (d:Int)) (if G<0 then -(G / (d:Int)) else G / (d:Int)):=fun hne=>by unfold Wh.dp Wh.DI Wh.DH;rw [hd.out,decide_eq_true hne];rfl
 have eX:Wh.BK D F G=if Wh.dp D F G=true then (if G<0 then -(F / (d:Int)) else F / (d:Int)) else 0:=by unfold Wh.BK Wh.DI;rw [hd.out]
 have eZ:Wh.BL D F G=if Wh.dp D F G=true then (if G<0 then -(G / (d:Int)) else G / (d:Int)) else 0:=by unfold Wh.BL Wh.DH;rw [hd.out]
 have Bk:=Wh.qF (z:=G) hd1;generalize hs1:decide (x<0)=s1 at *;generalize hs2:decide (z<0)=s2 at *;clear hs1 hs2;replace hox:=yI (show aF _ _ _ _ from hox);replace zJ:=yI (show aF _ _ _ _ from zJ);generalize (Wh.d_ z.natAbs).length=lz,(Wh.d_ x.natAbs).length=lx at *;have C:=((aH.new w #[.int .i64 a,.int .i64 b] 29).alloc (.cells #[.bool s1,.slice ax lx cx,.bool s2,.slice az lz cz] 157)).alloc (.cells #[.bool false,.slice none 0 0,.bool false,.slice none 0 0] 157);have Q:=(aH.new (w.alloc (.cells #[.int .i64 a,.int .i64 b] 29)) #[.bool s1,.slice ax lx cx,.bool s2,.slice az lz cz] 157).alloc (.cells #[.bool false,.slice none 0 0,.bool false,.slice none 0 0] 157);rw [yJ] at Q;have R:=aH.new ((w.alloc (.cells #[.int .i64 a,.int .i64 b] 29)).alloc (.cells #[.bool s1,.slice ax lx cx,.bool s2,.slice az lz cz] 157)) #[.bool false,.slice none 0 0,.bool false,.slice none 0 0] 157;rw [cW] at R;have B:=(((yL w.heap.size w).alloc (yM _) (.cells #[.int .i64 a,.int .i64 b] 29)).alloc (by rw [yJ];omega) (.cells #[.bool s1,.slice ax lx cx,.bool s2,.slice az lz cz] 157)).alloc (by rw [cW];omega) (.cells #[.bool false,.slice none 0 0,.bool false,.slice none 0 0] 157);have ox:=yI (aF.alloc (aF.alloc (aF.alloc hox.out (.cells #[.int .i64 a,.int .i64 b] 29)) (.cells #[.bool s1,.slice ax lx cx,.bool s2,.slice az lz cz] 157)) (.cells #[.bool false,.slice none 0 0,.bool false,.slice none 0 0] 157));have oz:=yI (aF.alloc (aF.alloc (aF.alloc zJ.out (.cells #[.int .i64 a,.int .i64 b] 29)) (.cells #[.bool s1,.slice ax lx cx,.bool s2,.slice az lz cz] 157)) (.cells #[.bool false,.slice none 0 0,.bool false,.slice none 0 0] 157))
 have C8:w.heap.size+3≤(((w.alloc (.cells #[.int .i64 a,.int .i64 b] 29)).alloc (.cells #[.bool s1,.slice ax lx cx,.bool s2,.slice az lz cz] 157)).alloc (.cells #[.bool false,.slice none 0 0,.bool false,.slice none 0 0] 157)).heap.size:=by rw [yJ,cW];omega
 clear hox zJ;generalize hw3:((w.alloc (.cells #[.int .i64 a,.int .i64 b] 29)).alloc (.cells #[.bool s1,.slice ax lx cx,.bool s2,.slice az lz cz] 157)).alloc (.cells #[.bool false,.slice none 0 0,.bool false,.slice none 0 0] 157)=wc at *;replace PF:=yI PF;replace PG:=yI PG;replace PM:=yI PM;replace PN:=yI PN;replace BD:=yI BD;replace Cu:=yI Cu;replace DR:=yI DR;replace DS:=yI DS;replace DF:=yI DF;replace DT:=yI DT;replace BP:=yI BP;replace CH:=yI CH;replace E9:=yI E9;replace eX:=yI eX;replace eZ:=yI eZ;replace Bk:=yI Bk;clear hd1 hd2;go_enter Tryz.func144,Tryz.ntmps144
 go_wp2
 go_upto_region 1 with fail
 refine Rg.bJ 8 [.is (.agg #[.int .i64 a,.int .i64 b]),.is (.agg #[.bool s1,.slice ax lx cx,.bool s2,.slice az lz cz]),.at (aJ (wc.heap.size) (F)),.is (.agg #[.int .i64 a,.int .i64 b]),.is (.agg #[.bool s1,.slice ax lx cx,.bool s2,.slice az lz cz]),.at (aJ (wc.heap.size) (G)),.new (wc.heap.size) 136 #[.bool false,.slice none 0 0],.new (wc.heap.size) 136 #[.bool false,.slice none 0 0]] (by kernel_rfl) (by kernel_rfl) (by kernel_rfl) ⟨?_,?_,?_,?_,?_,?_,?_,?_,fun h_=>absurd h_ (by decide),fun h_=>absurd h_ (by decide),trivial⟩ ?_
 ·intro _ zZ w_ hB hr
  have e2:zZ.tmps[2]?=some (.pointer (some ⟨w.heap.size,0,none⟩)):=hr 2 (by decide);have k0:=aE hB C.box.c0;have k1:=aE hB C.box.c1;exact Rg.aG rfl (by go_simp)
 ·intro _ zZ w_ hB hr
  have e3:zZ.tmps[3]?=some (.pointer (some ⟨w.heap.size+1,0,none⟩)):=hr 3 (by decide);have k0:=aE hB Q.aM.c0;have k1:=aE hB Q.aM.c1;have k2:=aE hB Q.aM.c2;have k3:=aE hB Q.aM.c3;exact Rg.aG rfl (by go_simp)
 ·intro _ zZ w_ hB hr
  have e14:=Rg.a_ (hr 14 (by decide));have e15:=Rg.a_ (hr 15 (by decide));have ef:=Rg.ef zZ;refine Rg.aZ rfl (by go_simp;exact ⟨rfl,rfl⟩) ?_;refine (PF.out _ _ _ _ _ (aF.below ox.out hB) (aF.below oz.out hB)).mono ?_;rintro e w5 ⟨y_,rfl,yT,hb5⟩;exact ⟨_,rfl,aJ.at yT (by have:=hB.size;omega),hb5⟩
 ·intro _ zZ w_ hB hr
  have e2:zZ.tmps[2]?=some (.pointer (some ⟨w.heap.size,0,none⟩)):=hr 2 (by decide);have k0:=aE hB C.box.c0;have k1:=aE hB C.box.c1;exact Rg.aG rfl (by go_simp)
 ·intro _ zZ w_ hB hr
  have e3:zZ.tmps[3]?=some (.pointer (some ⟨w.heap.size+1,0,none⟩)):=hr 3 (by decide);have k0:=aE hB Q.aM.c0;have k1:=aE hB Q.aM.c1;have k2:=aE hB Q.aM.c2;have k3:=aE hB Q.aM.c3;exact Rg.aG rfl (by go_simp)
 ·intro _ zZ w_ hB hr
  have e17:=Rg.a_ (hr 17 (by decide));have e18:=Rg.a_ (hr 18 (by decide));have ef:=Rg.ef zZ;refine Rg.aZ rfl (by go_simp;exact ⟨rfl,rfl⟩) ?_;refine (PG.out _ _ _ _ _ (aF.below ox.out hB) (aF.below oz.out hB)).mono ?_;rintro e w5 ⟨y_,rfl,yT,hb5⟩;exact ⟨_,rfl,aJ.at yT (by have:=hB.size;omega),hb5⟩
 ·intro _ zZ w_ hB hr
  exact ⟨by have:=hB.size;omega,rfl,by first | (go_simp;done) | (go_simp;rfl)⟩
 ·intro _ zZ w_ hB hr
  exact ⟨by have:=hB.size;omega,rfl,by first | (go_simp;done) | (go_simp;rfl)⟩
 intro vals wz hB hv hne;have n6:(Rg.Val.new (wc.heap.size) 136 #[.bool false,.slice none 0 0]).ok (vals 6) wz:=hv 6 (by decide);have n7:(Rg.Val.new (wc.heap.size) 136 #[.bool false,.slice none 0 0]).ok (vals 7) wz:=hv 7 (by decide);have n16:(Rg.Val.at (aJ (wc.heap.size) (F))).ok (vals 2) wz:=hv 2 (by decide);have n19:(Rg.Val.at (aJ (wc.heap.size) (G))).ok (vals 5) wz:=hv 5 (by decide);simp only [Rg.ak,Rg.fill,Act.put,Nat.reduceAdd];clear hv;have GY:=hne 6 7 (by decide) (by decide) (by decide) rfl rfl;obtain ⟨g6,Fz,Cl,o6⟩:=n6;replace o6:aH wz g6 136 #[.bool false,.slice none 0 0]:=o6;obtain ⟨g7,FC,BI,o7⟩:=n7;replace o7:aH wz g7 136 #[.bool false,.slice none 0 0]:=o7;obtain ⟨s16,a16,Ci,c16,BF,v_2,o16⟩:=(Rg.ag n16).view;obtain ⟨C_,DW,Cs,c19,BG,DK,Gz⟩:=(Rg.ag n19).view;rw [Cl,BI] at GY
 have DZ:g6≠g7:=fun e=>GY (by rw [e])
 simp only [Cl,BI,v_2,DK];clear Cl BI v_2 DK;have Ed:=DZ.symm
 have MH:w.heap.size+3≤g6:=by omega
 have MI:w.heap.size+3≤g7:=by omega
 have F6:w.heap.size≤g6:=by omega
 have Hs:w.heap.size≤g7:=by omega
 have hc6:w.heap.size≠g6:=by omega
 have JB:w.heap.size≠g7:=by omega
 have JE:w.heap.size+1+1≠g6:=by omega
 have JF:w.heap.size+1+1≠g7:=by omega
 have V3:aH ((wz.setCell ⟨g6,0,none⟩ (.bool s16)).setCell ⟨g6,1,none⟩ (.slice a16 Ci c16)) g7 136 #[.bool false,.slice none 0 0]:=(o7.other Ed _).other Ed _;have V:=aH.set2 V3 (.bool C_) (.slice DW Cs c19);have U:aH ((((wz.setCell ⟨g6,0,none⟩ (.bool s16)).setCell ⟨g6,1,none⟩ (.slice a16 Ci c16)).setCell ⟨g7,0,none⟩ (.bool C_)).setCell ⟨g7,1,none⟩ (.slice DW Cs c19)) g6 136 #[.bool s16,.slice a16 Ci c16]:=((aH.set2 o6 (.bool s16) (.slice a16 Ci c16)).other DZ _).other DZ _;have oF:=yI (aF.base (aF.bE (aF.bE o16 o6 (by decide) (.bool s16) (.slice a16 Ci c16)) V3 (by decide) (.bool C_) (.slice DW Cs c19)) B.size);have oG:=yI (aF.base (aF.bE (aF.bE Gz o6 (by decide) (.bool s16) (.slice a16 Ci c16)) V3 (by decide) (.bool C_) (.slice DW Cs c19)) B.size);replace C:=((C.keep hB).bg hc6 (.bool s16) (.slice a16 Ci c16)).bg JB (.bool C_) (.slice DW Cs c19);replace R:=((R.keep hB).bg JE (.bool s16) (.slice a16 Ci c16)).bg JF (.bool C_) (.slice DW Cs c19);replace B:Below w.heap.size w ((((wz.setCell ⟨g6,0,none⟩ (.bool s16)).setCell ⟨g6,1,none⟩ (.slice a16 Ci c16)).setCell ⟨g7,0,none⟩ (.bool C_)).setCell ⟨g7,1,none⟩ (.slice DW Cs c19)):=yK (yK (yK (yK (f_ B hB) F6 _) F6 _) Hs _) Hs _;have ⟨p0,p1,q0,q1,_⟩:=o6.box;have ⟨p2,p3,q2,q3,_⟩:=o7.box;unfold Rg.aX Rg.aX Rg.aX Oper.wp
 go_simp
 clear p0 p1 q0 q1 p2 p3 q2 q3 V3 o6 o7 o16 Gz hB GY Q ox oz C8 Fz FC MH MI;generalize ((((wz.setCell ⟨g6,0,none⟩ (.bool s16)).setCell ⟨g6,1,none⟩ (.slice a16 Ci c16)).setCell ⟨g7,0,none⟩ (.bool C_)).setCell ⟨g7,1,none⟩ (.slice DW Cs c19))=wd at *;have j_:=C.box.c0;have l_:=C.box.c1;have ya:=U.box.c0;have yc:=U.box.c1;have yd:=V.box.c0;have ye:=V.box.c1;have zh:=U.box.f0;have zi:=U.box.f1;have zj:=V.box.f0;have zk:=V.box.f1;have p_:=R.aM.c0;have t_:=R.aM.f0;have r_:=R.aM.c1;have x_:=R.aM.f1;have yO:=R.aM.c2;have yQ:=R.aM.f2;have yP:=R.aM.c3;have yR:=R.aM.f3;have Dn:=BF;have Dp:=BG;have Ej:=aF.len oG.out
 by_cases h0:G=0
 ·have hl:Cs=0:=by rw [Ej,h0];exact Wh.eu.2 rfl
  have hok:Wh.dp D F G=false:=by unfold Wh.dp;rw [h0];simp
  have hX:=eX.out;have hZ:=eZ.out;rw [hok,if_neg (by decide)] at hX hZ;replace hX:=yI hX;replace hZ:=yI hZ;replace hok:=yI hok;clear Ej h0 hd eX eZ E9 PF PG PM PN BD Cu DR DS DF DT BP CH Bk BF BG Dn Dp hc6 JB JE JF F6 Hs;subst hl;go_wp2;exact bodyPost_ret (v:=.tuple #[.agg #[.bool false,.slice none 0 0,.bool false,.slice none 0 0],.bool false]) (by simp [results,Tryz.results144,go_sem, *]) rfl (⟨_,_,(by rw [hX.out,hZ.out,hok.out];rfl),(by rw [hX.out];exact fa _ _),(by rw [hZ.out];exact fa _ _),yK (yK (yK (yK B (by simp <;> omega) _) (by simp <;> omega) _) (by simp <;> omega) _) (by simp <;> omega) _⟩)
 have hlp:¬ Cs=0:=fun h=>h0 (Wh.eu.1 (by rw [←Ej];exact h))
 have hlq:((Cs:Int) == 0)=false:=by rw [beq_eq_false_iff_ne];omega
 have hX:=eX.out;have hZ:=eZ.out;have hO:=E9.out h0;rw [hO] at hX hZ;clear Ej h0 eX eZ E9 PF PG;replace hd:=yI hd
 by_cases hneg:G<0
 ·have hsg:decide (G<0)=true:=decide_eq_true hneg
  rw [if_pos hneg,if_pos hneg] at hX hZ hO
  obtain rfl:C_=true:=by rw [BG.out];exact hsg
  have Cd:=Bk.out;rw [hsg] at Cd;clear Bk BG Dp Dn;replace PM:=PM.out;rw [←BF.out] at PM;replace PM:=yI PM;replace PN:=PN.out;rw [hsg] at PN;replace PN:=yI PN;clear BD DR DF BP;replace Cu:=Cu.out;replace DS:=DS.out;replace DT:=DT.out;replace CH:=CH.out;replace PN:=PN.out;replace PM:=PM.out;generalize hs5:decide (-F<0)=s5 at *;generalize hs6:decide (-G<0)=s6 at *;generalize -F % (d:Int)=rF at *;generalize -G % (d:Int)=rG at *;generalize hN:-(F / (d:Int))=N at *;generalize hE:-(G / (d:Int))=E at *;clear hN;clear hE;generalize B_:decide (N<0)=sN at *;generalize FF:decide (E<0)=sE at *;replace Cu:=yI Cu;replace DS:=yI DS;replace DT:=yI DT;replace CH:=yI CH;replace PM:=yI PM;replace PN:=yI PN;replace B_:=yI B_;replace FF:=yI FF;clear Cd hs5 hs6;clear hneg hsg hd
  by_cases hok:Wh.cg N E=true
  ·skip
   rw [hok] at hX hZ hO;rw [if_pos rfl] at hX hZ;have hq:=hok;replace hok:=yI hO;replace hq:=yI hq;replace hX:=yI hX;replace hZ:=yI hZ;clear hO
   go_wp2_with (first
    | (go_at_call 159;(with_reducible refine (PM.out _ _ _ oF.out).mono ?_);rintro e w4 ⟨v4,rfl,yh,hb4⟩;have yl:=B.size;replace C:=C.keep hb4;replace R:=R.keep hb4;replace U:=U.keep hb4;replace V:=V.keep hb4;replace oF:=kO oF hb4;replace oG:=kO oG hb4;replace B:=f_ B hb4;obtain ⟨a4,c4,rfl,yg,yf⟩:=aF.view yh;clear yg yf;have zl:=yI (aF.base (show aF _ _ _ _ from yh) yl);clear yh;(generalize (Wh.d_ (-F).natAbs).length=l4 at *);clear yl;have IZ:=U.box.c0;have Ia:=U.box.c1;have Ib:=U.box.f0;have Ic:=U.box.f1;replace oF:=sO oF U (by decide) (.bool s5) (.slice a4 l4 c4);replace oG:=sO oG U (by decide) (.bool s5) (.slice a4 l4 c4);replace zl:=sO zl U (by decide) (.bool s5) (.slice a4 l4 c4);replace C:=C.bg hc6 (.bool s5) (.slice a4 l4 c4);replace R:=R.bg JE (.bool s5) (.slice a4 l4 c4);replace V:=V.bg Ed (.bool s5) (.slice a4 l4 c4);replace U:=aH.set2 U (.bool s5) (.slice a4 l4 c4);replace B:=dL B F6 (.bool s5) (.slice a4 l4 c4);(replace ⟨j_,l_⟩:=C.b2);(replace ⟨p_,r_,yO,yP,t_,x_,yQ,yR⟩:=R.yk);(replace ⟨ya,yc,zh,zi⟩:=U.zT);(replace ⟨yd,ye,zj,zk⟩:=V.zT))
    | (go_at_call 159;(with_reducible refine (PN.out _ _ _ oG.out).mono ?_);rintro e w5 ⟨v5,rfl,yT,hb5⟩;have yl:=B.size;replace C:=C.keep hb5;replace R:=R.keep hb5;replace U:=U.keep hb5;replace V:=V.keep hb5;replace oF:=kO oF hb5;replace oG:=kO oG hb5;replace zl:=kO zl hb5;replace B:=f_ B hb5;obtain ⟨a5,c5,rfl,yg,yf⟩:=aF.view yT;clear yg yf;have AD:=yI (aF.base (show aF _ _ _ _ from yT) yl);clear yT;(generalize (Wh.d_ (-G).natAbs).length=l5 at *);clear yl;have Id:=V.box.c0;have Ie:=V.box.c1;have Ig:=V.box.f0;have Ih:=V.box.f1;replace oF:=sO oF V (by decide) (.bool s6) (.slice a5 l5 c5);replace oG:=sO oG V (by decide) (.bool s6) (.slice a5 l5 c5);replace zl:=sO zl V (by decide) (.bool s6) (.slice a5 l5 c5);replace AD:=sO AD V (by decide) (.bool s6) (.slice a5 l5 c5);replace C:=C.bg JB (.bool s6) (.slice a5 l5 c5);replace R:=R.bg JF (.bool s6) (.slice a5 l5 c5);replace U:=U.bg DZ (.bool s6) (.slice a5 l5 c5);replace V:=aH.set2 V (.bool s6) (.slice a5 l5 c5);replace B:=dL B Hs (.bool s6) (.slice a5 l5 c5);(replace ⟨j_,l_⟩:=C.b2);(replace ⟨p_,r_,yO,yP,t_,x_,yQ,yR⟩:=R.yk);(replace ⟨ya,yc,zh,zi⟩:=U.zT);(replace ⟨yd,ye,zj,zk⟩:=V.zT))
    | (go_at_call 160;(with_reducible refine (Cu.out _ _ _ _ _ zl.out AD.out).mono ?_);rintro e w6 ⟨rfl,hb6⟩;replace C:=C.keep hb6;replace R:=R.keep hb6;replace U:=U.keep hb6;replace V:=V.keep hb6;replace oF:=kO oF hb6;replace oG:=kO oG hb6;replace zl:=kO zl hb6;replace AD:=kO AD hb6;replace B:=f_ B hb6;(replace ⟨j_,l_⟩:=C.b2);(replace ⟨p_,r_,yO,yP,t_,x_,yQ,yR⟩:=R.yk);(replace ⟨ya,yc,zh,zi⟩:=U.zT);(replace ⟨yd,ye,zj,zk⟩:=V.zT))
    | (go_at_call 161;(with_reducible refine (DS.out _ _ _ zl.out).mono ?_);rintro e w8 ⟨v8,rfl,zw,yY⟩;have yl:=B.size;replace C:=C.keep yY;replace R:=R.keep yY;replace U:=U.keep yY;replace V:=V.keep yY;replace oF:=kO oF yY;replace oG:=kO oG yY;replace zl:=kO zl yY;replace AD:=kO AD yY;replace B:=f_ B yY;obtain ⟨a8,c8,rfl,yg,yf⟩:=aF.view zw;clear yg yf;have on:=yI (aF.base (show aF _ _ _ _ from zw) yl);clear zw;(generalize (Wh.d_ N.natAbs).length=ln at *);clear yl;have N_:=aH.new w8 #[.bool sN,.slice a8 ln c8] 136;have b_:=bA w8 (.cells #[.bool sN,.slice a8 ln c8] 136);replace C:=C.keep b_;replace R:=R.keep b_;replace U:=U.keep b_;replace V:=V.keep b_;replace oF:=kO oF b_;replace oG:=kO oG b_;replace zl:=kO zl b_;replace AD:=kO AD b_;replace on:=kO on b_;replace B:=f_ B b_;clear b_;(replace ⟨j_,l_⟩:=C.b2);(replace ⟨p_,r_,yO,yP,t_,x_,yQ,yR⟩:=R.yk);(replace ⟨ya,yc,zh,zi⟩:=U.zT);(replace ⟨yd,ye,zj,zk⟩:=V.zT);(replace ⟨AF,AG⟩:=N_.b2))
    | (go_at_call 161;(with_reducible refine (DT.out _ _ _ AD.out).mono ?_);rintro e w9 ⟨v9,rfl,AY,yZ⟩;have yl:=B.size;replace C:=C.keep yZ;replace R:=R.keep yZ;replace U:=U.keep yZ;replace V:=V.keep yZ;replace N_:=N_.keep yZ;replace oF:=kO oF yZ;replace oG:=kO oG yZ;replace zl:=kO zl yZ;replace AD:=kO AD yZ;replace on:=kO on yZ;replace B:=f_ B yZ;obtain ⟨a9,c9,rfl,yg,yf⟩:=aF.view AY;clear yg yf;have oe:=yI (aF.base (show aF _ _ _ _ from AY) yl);clear AY;(generalize (Wh.d_ E.natAbs).length=le at *);clear yl;have E_:=aH.new w9 #[.bool sE,.slice a9 le c9] 136;have b_:=bA w9 (.cells #[.bool sE,.slice a9 le c9] 136);replace C:=C.keep b_;replace R:=R.keep b_;replace U:=U.keep b_;replace V:=V.keep b_;replace N_:=N_.keep b_;replace oF:=kO oF b_;replace oG:=kO oG b_;replace zl:=kO zl b_;replace AD:=kO AD b_;replace on:=kO on b_;replace oe:=kO oe b_;replace B:=f_ B b_;clear b_;(replace ⟨j_,l_⟩:=C.b2);(replace ⟨p_,r_,yO,yP,t_,x_,yQ,yR⟩:=R.yk);(replace ⟨ya,yc,zh,zi⟩:=U.zT);(replace ⟨yd,ye,zj,zk⟩:=V.zT);(replace ⟨AF,AG⟩:=N_.b2);(replace ⟨Ar,As⟩:=E_.b2);have O:=aH.new (w9.alloc (.cells #[.bool sE,.slice a9 le c9] 136)) #[.bool sN,.slice a8 ln c8,.bool sE,.slice a9 le c9] 157;have b_:=bA (w9.alloc (.cells #[.bool sE,.slice a9 le c9] 136)) (.cells #[.bool sN,.slice a8 ln c8,.bool sE,.slice a9 le c9] 157);replace C:=C.keep b_;replace R:=R.keep b_;replace U:=U.keep b_;replace V:=V.keep b_;replace N_:=N_.keep b_;replace E_:=E_.keep b_;replace oF:=kO oF b_;replace oG:=kO oG b_;replace zl:=kO zl b_;replace AD:=kO AD b_;replace on:=kO on b_;replace oe:=kO oe b_;replace B:=f_ B b_;clear b_;(rw [yJ] at O))
    | (go_at_call 162;(with_reducible refine (CH.out _ _ _ _ _ on.out oe.out).mono ?_);rintro e EJ ⟨rfl,yN⟩;(simp only [hq.out]);replace C:=C.keep yN;replace R:=R.keep yN;replace U:=U.keep yN;replace V:=V.keep yN;replace N_:=N_.keep yN;replace E_:=E_.keep yN;replace O:=O.keep yN;replace oF:=kO oF yN;replace oG:=kO oG yN;replace zl:=kO zl yN;replace AD:=kO AD yN;replace on:=kO on yN;replace oe:=kO oe yN;replace B:=f_ B yN;(replace ⟨j_,l_⟩:=C.b2);(replace ⟨p_,r_,yO,yP,t_,x_,yQ,yR⟩:=R.yk);(replace ⟨ya,yc⟩:=U.b2);(replace ⟨yd,ye⟩:=V.b2);(replace ⟨AF,AG⟩:=N_.b2);(replace ⟨Ar,As⟩:=E_.b2);(replace ⟨AU,AV,AW,AX⟩:=O.b4)))
   have hr1:=aF.base (aF.dK on.out R (by decide) (.bool sN) (.slice a8 ln c8) (.bool sE) (.slice a9 le c9)) (base':=w.heap.size) (yM _);have hr2:=aF.base (aF.dK oe.out R (by decide) (.bool sN) (.slice a8 ln c8) (.bool sE) (.slice a9 le c9)) (base':=w.heap.size) (yM _);exact bodyPost_ret (v:=.tuple #[.agg #[.bool sN,.slice a8 ln c8,.bool sE,.slice a9 le c9],.bool true]) (by simp [results,Tryz.results144,go_sem, *]) rfl (⟨_,_,(by rw [hX.out,hZ.out,hok.out,B_.out,FF.out]),(by rw [hX.out];exact hr1),(by rw [hZ.out];exact hr2),yK (yK (yK (yK B (by simp <;> omega) _) (by simp <;> omega) _) (by simp <;> omega) _) (by simp <;> omega) _⟩)
  replace hok:Wh.cg N E=false:=by simpa using hok
  rw [hok] at hX hZ hO;rw [if_neg (by decide)] at hX hZ;have hq:=hok;replace hok:=yI hO;replace hq:=yI hq;replace hX:=yI hX;replace hZ:=yI hZ;clear hO
  go_wp2_with (first
   | (go_at_call 159;(with_reducible refine (PM.out _ _ _ oF.out).mono ?_);rintro e w4 ⟨v4,rfl,yh,hb4⟩;have yl:=B.size;replace C:=C.keep hb4;replace R:=R.keep hb4;replace U:=U.keep hb4;replace V:=V.keep hb4;replace oF:=kO oF hb4;replace oG:=kO oG hb4;replace B:=f_ B hb4;obtain ⟨a4,c4,rfl,yg,yf⟩:=aF.view yh;clear yg yf;have zl:=yI (aF.base (show aF _ _ _ _ from yh) yl);clear yh;(generalize (Wh.d_ (-F).natAbs).length=l4 at *);clear yl;have IZ:=U.box.c0;have Ia:=U.box.c1;have Ib:=U.box.f0;have Ic:=U.box.f1;replace oF:=sO oF U (by decide) (.bool s5) (.slice a4 l4 c4);replace oG:=sO oG U (by decide) (.bool s5) (.slice a4 l4 c4);replace zl:=sO zl U (by decide) (.bool s5) (.slice a4 l4 c4);replace C:=C.bg hc6 (.bool s5) (.slice a4 l4 c4);replace R:=R.bg JE (.bool s5) (.slice a4 l4 c4);replace V:=V.bg Ed (.bool s5) (.slice a4 l4 c4);replace U:=aH.set2 U (.bool s5) (.slice a4 l4 c4);replace B:=dL B F6 (.bool s5) (.slice a4 l4 c4);(replace ⟨j_,l_⟩:=C.b2);(replace ⟨p_,r_,yO,yP,t_,x_,yQ,yR⟩:=R.yk);(replace ⟨ya,yc,zh,zi⟩:=U.zT);(replace ⟨yd,ye,zj,zk⟩:=V.zT))
   | (go_at_call 159;(with_reducible refine (PN.out _ _ _ oG.out).mono ?_);rintro e w5 ⟨v5,rfl,yT,hb5⟩;have yl:=B.size;replace C:=C.keep hb5;replace R:=R.keep hb5;replace U:=U.keep hb5;replace V:=V.keep hb5;replace oF:=kO oF hb5;replace oG:=kO oG hb5;replace zl:=kO zl hb5;replace B:=f_ B hb5;obtain ⟨a5,c5,rfl,yg,yf⟩:=aF.view yT;clear yg yf;have AD:=yI (aF.base (show aF _ _ _ _ from yT) yl);clear yT;(generalize (Wh.d_ (-G).natAbs).length=l5 at *);clear yl;have Id:=V.box.c0;have Ie:=V.box.c1;have Ig:=V.box.f0;have Ih:=V.box.f1;replace oF:=sO oF V (by decide) (.bool s6) (.slice a5 l5 c5);replace oG:=sO oG V (by decide) (.bool s6) (.slice a5 l5 c5);replace zl:=sO zl V (by decide) (.bool s6) (.slice a5 l5 c5);replace AD:=sO AD V (by decide) (.bool s6) (.slice a5 l5 c5);replace C:=C.bg JB (.bool s6) (.slice a5 l5 c5);replace R:=R.bg JF (.bool s6) (.slice a5 l5 c5);replace U:=U.bg DZ (.bool s6) (.slice a5 l5 c5);replace V:=aH.set2 V (.bool s6) (.slice a5 l5 c5);replace B:=dL B Hs (.bool s6) (.slice a5 l5 c5);(replace ⟨j_,l_⟩:=C.b2);(replace ⟨p_,r_,yO,yP,t_,x_,yQ,yR⟩:=R.yk);(replace ⟨ya,yc,zh,zi⟩:=U.zT);(replace ⟨yd,ye,zj,zk⟩:=V.zT))
   | (go_at_call 160;(with_reducible refine (Cu.out _ _ _ _ _ zl.out AD.out).mono ?_);rintro e w6 ⟨rfl,hb6⟩;replace C:=C.keep hb6;replace R:=R.keep hb6;replace U:=U.keep hb6;replace V:=V.keep hb6;replace oF:=kO oF hb6;replace oG:=kO oG hb6;replace zl:=kO zl hb6;replace AD:=kO AD hb6;replace B:=f_ B hb6;(replace ⟨j_,l_⟩:=C.b2);(replace ⟨p_,r_,yO,yP,t_,x_,yQ,yR⟩:=R.yk);(replace ⟨ya,yc,zh,zi⟩:=U.zT);(replace ⟨yd,ye,zj,zk⟩:=V.zT))
   | (go_at_call 161;(with_reducible refine (DS.out _ _ _ zl.out).mono ?_);rintro e w8 ⟨v8,rfl,zw,yY⟩;have yl:=B.size;replace C:=C.keep yY;replace R:=R.keep yY;replace U:=U.keep yY;replace V:=V.keep yY;replace oF:=kO oF yY;replace oG:=kO oG yY;replace zl:=kO zl yY;replace AD:=kO AD yY;replace B:=f_ B yY;obtain ⟨a8,c8,rfl,yg,yf⟩:=aF.view zw;clear yg yf;have on:=yI (aF.base (show aF _ _ _ _ from zw) yl);clear zw;(generalize (Wh.d_ N.natAbs).length=ln at *);clear yl;have N_:=aH.new w8 #[.bool sN,.slice a8 ln c8] 136;have b_:=bA w8 (.cells #[.bool sN,.slice a8 ln c8] 136);replace C:=C.keep b_;replace R:=R.keep b_;replace U:=U.keep b_;replace V:=V.keep b_;replace oF:=kO oF b_;replace oG:=kO oG b_;replace zl:=kO zl b_;replace AD:=kO AD b_;replace on:=kO on b_;replace B:=f_ B b_;clear b_;(replace ⟨j_,l_⟩:=C.b2);(replace ⟨p_,r_,yO,yP,t_,x_,yQ,yR⟩:=R.yk);(replace ⟨ya,yc,zh,zi⟩:=U.zT);(replace ⟨yd,ye,zj,zk⟩:=V.zT);(replace ⟨AF,AG⟩:=N_.b2))
   | (go_at_call 161;(with_reducible refine (DT.out _ _ _ AD.out).mono ?_);rintro e w9 ⟨v9,rfl,AY,yZ⟩;have yl:=B.size;replace C:=C.keep yZ;replace R:=R.keep yZ;replace U:=U.keep yZ;replace V:=V.keep yZ;replace N_:=N_.keep yZ;replace oF:=kO oF yZ;replace oG:=kO oG yZ;replace zl:=kO zl yZ;replace AD:=kO AD yZ;replace on:=kO on yZ;replace B:=f_ B yZ;obtain ⟨a9,c9,rfl,yg,yf⟩:=aF.view AY;clear yg yf;have oe:=yI (aF.base (show aF _ _ _ _ from AY) yl);clear AY;(generalize (Wh.d_ E.natAbs).length=le at *);clear yl;have E_:=aH.new w9 #[.bool sE,.slice a9 le c9] 136;have b_:=bA w9 (.cells #[.bool sE,.slice a9 le c9] 136);replace C:=C.keep b_;replace R:=R.keep b_;replace U:=U.keep b_;replace V:=V.keep b_;replace N_:=N_.keep b_;replace oF:=kO oF b_;replace oG:=kO oG b_;replace zl:=kO zl b_;replace AD:=kO AD b_;replace on:=kO on b_;replace oe:=kO oe b_;replace B:=f_ B b_;clear b_;(replace ⟨j_,l_⟩:=C.b2);(replace ⟨p_,r_,yO,yP,t_,x_,yQ,yR⟩:=R.yk);(replace ⟨ya,yc,zh,zi⟩:=U.zT);(replace ⟨yd,ye,zj,zk⟩:=V.zT);(replace ⟨AF,AG⟩:=N_.b2);(replace ⟨Ar,As⟩:=E_.b2);have O:=aH.new (w9.alloc (.cells #[.bool sE,.slice a9 le c9] 136)) #[.bool sN,.slice a8 ln c8,.bool sE,.slice a9 le c9] 157;have b_:=bA (w9.alloc (.cells #[.bool sE,.slice a9 le c9] 136)) (.cells #[.bool sN,.slice a8 ln c8,.bool sE,.slice a9 le c9] 157);replace C:=C.keep b_;replace R:=R.keep b_;replace U:=U.keep b_;replace V:=V.keep b_;replace N_:=N_.keep b_;replace E_:=E_.keep b_;replace oF:=kO oF b_;replace oG:=kO oG b_;replace zl:=kO zl b_;replace AD:=kO AD b_;replace on:=kO on b_;replace oe:=kO oe b_;replace B:=f_ B b_;clear b_;(rw [yJ] at O))
   | (go_at_call 162;(with_reducible refine (CH.out _ _ _ _ _ on.out oe.out).mono ?_);rintro e EJ ⟨rfl,yN⟩;(simp only [hq.out]);replace C:=C.keep yN;replace R:=R.keep yN;replace U:=U.keep yN;replace V:=V.keep yN;replace N_:=N_.keep yN;replace E_:=E_.keep yN;replace O:=O.keep yN;replace oF:=kO oF yN;replace oG:=kO oG yN;replace zl:=kO zl yN;replace AD:=kO AD yN;replace on:=kO on yN;replace oe:=kO oe yN;replace B:=f_ B yN;(replace ⟨j_,l_⟩:=C.b2);(replace ⟨p_,r_,yO,yP,t_,x_,yQ,yR⟩:=R.yk);(replace ⟨ya,yc⟩:=U.b2);(replace ⟨yd,ye⟩:=V.b2);(replace ⟨AF,AG⟩:=N_.b2);(replace ⟨Ar,As⟩:=E_.b2);(replace ⟨AU,AV,AW,AX⟩:=O.b4)))
  exact bodyPost_ret (v:=.tuple #[.agg #[.bool false,.slice none 0 0,.bool false,.slice none 0 0],.bool false]) (by simp [results,Tryz.results144,go_sem, *]) rfl (⟨_,_,(by rw [hX.out,hZ.out,hok.out];rfl),(by rw [hX.out];exact fa _ _),(by rw [hZ.out];exact fa _ _),yK (yK (yK (yK B (by simp <;> omega) _) (by simp <;> omega) _) (by simp <;> omega) _) (by simp <;> omega) _⟩)
 have hsg:decide (G<0)=false:=decide_eq_false hneg;rw [if_neg hneg,if_neg hneg] at hX hZ hO
 obtain rfl:C_=false:=by rw [BG.out];exact hsg
 have Cd:=Bk.out;rw [hsg] at Cd;clear Bk BG Dp Dn;clear PM PN Cu DS DT CH;replace BD:=BD.out;replace DR:=DR.out;replace DF:=DF.out;replace BP:=BP.out;simp only [←BF.out,hsg] at BD DR;simp only [hsg] at DF;generalize F % (d:Int)=rF at *;generalize G % (d:Int)=rG at *;generalize hN:F / (d:Int)=N at *;generalize hE:G / (d:Int)=E at *;clear hN;subst hE;simp only [Cd] at DF BP;generalize hE:G / (d:Int)=E at *;clear hE;generalize B_:decide (N<0)=sN at *
 skip
 replace BD:=yI BD;replace DR:=yI DR;replace DF:=yI DF;replace BP:=yI BP;replace B_:=yI B_;replace FF:=yI Cd;clear Cd;clear hneg hsg hd
 by_cases hok:Wh.cg N E=true
 ·skip
  rw [hok] at hX hZ hO;rw [if_pos rfl] at hX hZ;have hq:=hok;replace hok:=yI hO;replace hq:=yI hq;replace hX:=yI hX;replace hZ:=yI hZ;clear hO
  go_wp2_with (first
   | (go_at_call 160;(with_reducible refine (BD.out _ _ _ _ _ oF.out oG.out).mono ?_);rintro e w6 ⟨rfl,hb6⟩;replace C:=C.keep hb6;replace R:=R.keep hb6;replace U:=U.keep hb6;replace V:=V.keep hb6;replace oF:=kO oF hb6;replace oG:=kO oG hb6;replace B:=f_ B hb6;(replace ⟨j_,l_⟩:=C.b2);(replace ⟨p_,r_,yO,yP,t_,x_,yQ,yR⟩:=R.yk);(replace ⟨ya,yc,zh,zi⟩:=U.zT);(replace ⟨yd,ye,zj,zk⟩:=V.zT))
   | (go_at_call 161;(with_reducible refine (DR.out _ _ _ oF.out).mono ?_);rintro e w8 ⟨v8,rfl,zw,yY⟩;have yl:=B.size;replace C:=C.keep yY;replace R:=R.keep yY;replace U:=U.keep yY;replace V:=V.keep yY;replace oF:=kO oF yY;replace oG:=kO oG yY;replace B:=f_ B yY;obtain ⟨a8,c8,rfl,yg,yf⟩:=aF.view zw;clear yg yf;have on:=yI (aF.base (show aF _ _ _ _ from zw) yl);clear zw;(generalize (Wh.d_ N.natAbs).length=ln at *);clear yl;have N_:=aH.new w8 #[.bool sN,.slice a8 ln c8] 136;have b_:=bA w8 (.cells #[.bool sN,.slice a8 ln c8] 136);replace C:=C.keep b_;replace R:=R.keep b_;replace U:=U.keep b_;replace V:=V.keep b_;replace oF:=kO oF b_;replace oG:=kO oG b_;replace on:=kO on b_;replace B:=f_ B b_;clear b_;(replace ⟨j_,l_⟩:=C.b2);(replace ⟨p_,r_,yO,yP,t_,x_,yQ,yR⟩:=R.yk);(replace ⟨ya,yc,zh,zi⟩:=U.zT);(replace ⟨yd,ye,zj,zk⟩:=V.zT);(replace ⟨AF,AG⟩:=N_.b2))
   | (go_at_call 161;(with_reducible refine (DF.out _ _ _ oG.out).mono ?_);rintro e w9 ⟨v9,rfl,AY,yZ⟩;have yl:=B.size;replace C:=C.keep yZ;replace R:=R.keep yZ;replace U:=U.keep yZ;replace V:=V.keep yZ;replace N_:=N_.keep yZ;replace oF:=kO oF yZ;replace oG:=kO oG yZ;replace on:=kO on yZ;replace B:=f_ B yZ;obtain ⟨a9,c9,rfl,yg,yf⟩:=aF.view AY;clear yg yf;have oe:=yI (aF.base (show aF _ _ _ _ from AY) yl);clear AY;(generalize (Wh.d_ E.natAbs).length=le at *);clear yl;have E_:=aH.new w9 #[.bool false,.slice a9 le c9] 136;have b_:=bA w9 (.cells #[.bool false,.slice a9 le c9] 136);replace C:=C.keep b_;replace R:=R.keep b_;replace U:=U.keep b_;replace V:=V.keep b_;replace N_:=N_.keep b_;replace oF:=kO oF b_;replace oG:=kO oG b_;replace on:=kO on b_;replace oe:=kO oe b_;replace B:=f_ B b_;clear b_;(replace ⟨j_,l_⟩:=C.b2);(replace ⟨p_,r_,yO,yP,t_,x_,yQ,yR⟩:=R.yk);(replace ⟨ya,yc,zh,zi⟩:=U.zT);(replace ⟨yd,ye,zj,zk⟩:=V.zT);(replace ⟨AF,AG⟩:=N_.b2);(replace ⟨Ar,As⟩:=E_.b2);have O:=aH.new (w9.alloc (.cells #[.bool false,.slice a9 le c9] 136)) #[.bool sN,.slice a8 ln c8,.bool false,.slice a9 le c9] 157;have b_:=bA (w9.alloc (.cells #[.bool false,.slice a9 le c9] 136)) (.cells #[.bool sN,.slice a8 ln c8,.bool false,.slice a9 le c9] 157);replace C:=C.keep b_;replace R:=R.keep b_;replace U:=U.keep b_;replace V:=V.keep b_;replace N_:=N_.keep b_;replace E_:=E_.keep b_;replace oF:=kO oF b_;replace oG:=kO oG b_;replace on:=kO on b_;replace oe:=kO oe b_;replace B:=f_ B b_;clear b_;(rw [yJ] at O))
   | (go_at_call 162;(with_reducible refine (BP.out _ _ _ _ _ on.out oe.out).mono ?_);rintro e EJ ⟨rfl,yN⟩;(simp only [hq.out]);replace C:=C.keep yN;replace R:=R.keep yN;replace U:=U.keep yN;replace V:=V.keep yN;replace N_:=N_.keep yN;replace E_:=E_.keep yN;replace O:=O.keep yN;replace oF:=kO oF yN;replace oG:=kO oG yN;replace on:=kO on yN;replace oe:=kO oe yN;replace B:=f_ B yN;(replace ⟨j_,l_⟩:=C.b2);(replace ⟨p_,r_,yO,yP,t_,x_,yQ,yR⟩:=R.yk);(replace ⟨ya,yc⟩:=U.b2);(replace ⟨yd,ye⟩:=V.b2);(replace ⟨AF,AG⟩:=N_.b2);(replace ⟨Ar,As⟩:=E_.b2);(replace ⟨AU,AV,AW,AX⟩:=O.b4)))
  have hr1:=aF.base (aF.dK on.out R (by decide) (.bool sN) (.slice a8 ln c8) (.bool false) (.slice a9 le c9)) (base':=w.heap.size) (yM _);have hr2:=aF.base (aF.dK oe.out R (by decide) (.bool sN) (.slice a8 ln c8) (.bool false) (.slice a9 le c9)) (base':=w.heap.size) (yM _);exact bodyPost_ret (v:=.tuple #[.agg #[.bool sN,.slice a8 ln c8,.bool false,.slice a9 le c9],.bool true]) (by simp [results,Tryz.results144,go_sem, *]) rfl (⟨_,_,(by rw [hX.out,hZ.out,hok.out,B_.out,FF.out]),(by rw [hX.out];exact hr1),(by rw [hZ.out];exact hr2),yK (yK (yK (yK B (by simp <;> omega) _) (by simp <;> omega) _) (by simp <;> omega) _) (by simp <;> omega) _⟩)
 replace hok:Wh.cg N E=false:=by simpa using hok
 rw [hok] at hX hZ hO;rw [if_neg (by decide)] at hX hZ;have hq:=hok;replace hok:=yI hO;replace hq:=yI hq;replace hX:=yI hX;replace hZ:=yI hZ;clear hO
 go_wp2_with (first
  | (go_at_call 160;(with_reducible refine (BD.out _ _ _ _ _ oF.out oG.out).mono ?_);rintro e w6 ⟨rfl,hb6⟩;replace C:=C.keep hb6;replace R:=R.keep hb6;replace U:=U.keep hb6;replace V:=V.keep hb6;replace oF:=kO oF hb6;replace oG:=kO oG hb6;replace B:=f_ B hb6;(replace ⟨j_,l_⟩:=C.b2);(replace ⟨p_,r_,yO,yP,t_,x_,yQ,yR⟩:=R.yk);(replace ⟨ya,yc,zh,zi⟩:=U.zT);(replace ⟨yd,ye,zj,zk⟩:=V.zT))
  | (go_at_call 161;(with_reducible refine (DR.out _ _ _ oF.out).mono ?_);rintro e w8 ⟨v8,rfl,zw,yY⟩;have yl:=B.size;replace C:=C.keep yY;replace R:=R.keep yY;replace U:=U.keep yY;replace V:=V.keep yY;replace oF:=kO oF yY;replace oG:=kO oG yY;replace B:=f_ B yY;obtain ⟨a8,c8,rfl,yg,yf⟩:=aF.view zw;clear yg yf;have on:=yI (aF.base (show aF _ _ _ _ from zw) yl);clear zw;(generalize (Wh.d_ N.natAbs).length=ln at *);clear yl;have N_:=aH.new w8 #[.bool sN,.slice a8 ln c8] 136;have b_:=bA w8 (.cells #[.bool sN,.slice a8 ln c8] 136);replace C:=C.keep b_;replace R:=R.keep b_;replace U:=U.keep b_;replace V:=V.keep b_;replace oF:=kO oF b_;replace oG:=kO oG b_;replace on:=kO on b_;replace B:=f_ B b_;clear b_;(replace ⟨j_,l_⟩:=C.b2);(replace ⟨p_,r_,yO,yP,t_,x_,yQ,yR⟩:=R.yk);(replace ⟨ya,yc,zh,zi⟩:=U.zT);(replace ⟨yd,ye,zj,zk⟩:=V.zT);(replace ⟨AF,AG⟩:=N_.b2))
  | (go_at_call 161;(with_reducible refine (DF.out _ _ _ oG.out).mono ?_);rintro e w9 ⟨v9,rfl,AY,yZ⟩;have yl:=B.size;replace C:=C.keep yZ;replace R:=R.keep yZ;replace U:=U.keep yZ;replace V:=V.keep yZ;replace N_:=N_.keep yZ;replace oF:=kO oF yZ;replace oG:=kO oG yZ;replace on:=kO on yZ;replace B:=f_ B yZ;obtain ⟨a9,c9,rfl,yg,yf⟩:=aF.view AY;clear yg yf;have oe:=yI (aF.base (show aF _ _ _ _ from AY) yl);clear AY;(generalize (Wh.d_ E.natAbs).length=le at *);clear yl;have E_:=aH.new w9 #[.bool false,.slice a9 le c9] 136;have b_:=bA w9 (.cells #[.bool false,.slice a9 le c9] 136);replace C:=C.keep b_;replace R:=R.keep b_;replace U:=U.keep b_;replace V:=V.keep b_;replace N_:=N_.keep b_;replace oF:=kO oF b_;replace oG:=kO oG b_;replace on:=kO on b_;replace oe:=kO oe b_;replace B:=f_ B b_;clear b_;(replace ⟨j_,l_⟩:=C.b2);(replace ⟨p_,r_,yO,yP,t_,x_,yQ,yR⟩:=R.yk);(replace ⟨ya,yc,zh,zi⟩:=U.zT);(replace ⟨yd,ye,zj,zk⟩:=V.zT);(replace ⟨AF,AG⟩:=N_.b2);(replace ⟨Ar,As⟩:=E_.b2);have O:=aH.new (w9.alloc (.cells #[.bool false,.slice a9 le c9] 136)) #[.bool sN,.slice a8 ln c8,.bool false,.slice a9 le c9] 157;have b_:=bA (w9.alloc (.cells #[.bool false,.slice a9 le c9] 136)) (.cells #[.bool sN,.slice a8 ln c8,.bool false,.slice a9 le c9] 157);replace C:=C.keep b_;replace R:=R.keep b_;replace U:=U.keep b_;replace V:=V.keep b_;replace N_:=N_.keep b_;replace E_:=E_.keep b_;replace oF:=kO oF b_;replace oG:=kO oG b_;replace on:=kO on b_;replace oe:=kO oe b_;replace B:=f_ B b_;clear b_;(rw [yJ] at O))
  | (go_at_call 162;(with_reducible refine (BP.out _ _ _ _ _ on.out oe.out).mono ?_);rintro e EJ ⟨rfl,yN⟩;(simp only [hq.out]);replace C:=C.keep yN;replace R:=R.keep yN;replace U:=U.keep yN;replace V:=V.keep yN;replace N_:=N_.keep yN;replace E_:=E_.keep yN;replace O:=O.keep yN;replace oF:=kO oF yN;replace oG:=kO oG yN;replace on:=kO on yN;replace oe:=kO oe yN;replace B:=f_ B yN;(replace ⟨j_,l_⟩:=C.b2);(replace ⟨p_,r_,yO,yP,t_,x_,yQ,yR⟩:=R.yk);(replace ⟨ya,yc⟩:=U.b2);(replace ⟨yd,ye⟩:=V.b2);(replace ⟨AF,AG⟩:=N_.b2);(replace ⟨Ar,As⟩:=E_.b2);(replace ⟨AU,AV,AW,AX⟩:=O.b4)))
 exact bodyPost_ret (v:=.tuple #[.agg #[.bool false,.slice none 0 0,.bool false,.slice none 0 0],.bool false]) (by simp [results,Tryz.results144,go_sem, *]) rfl (⟨_,_,(by rw [hX.out,hZ.out,hok.out];rfl),(by rw [hX.out];exact fa _ _),(by rw [hZ.out];exact fa _ _),yK (yK (yK (yK B (by simp <;> omega) _) (by simp <;> omega) _) (by simp <;> omega) _) (by simp <;> omega) _⟩)
namespace M
def hM (a b:Int):Int:=max (1+2*a+8*b+a*a) (4*(1+a+b))
def hK (a b d:Int):Int:=max (15+21*a+27*b) (4*d+5*a*a*b+4*a*(3*a*a*a+22*b*b)+12*b*(a*a*a+8*b*b)+(a*(5*a*a*a+32*b*b)+2*b*(13*a*a*a+96*b*b)+3*a*a*(a*a*a+8*b*b)))
def hC (a b:Int):Nat:=Wh.bl (max (hM a.natAbs b.natAbs) (hK a.natAbs b.natAbs (M.bC a b).natAbs)).toNat
theorem yj {x y m n k:Int} (hx:0≤x∧x≤m) (hy:0≤y∧y≤n) (hk:m*n≤k):0≤x*y∧x*y≤k:=
 ⟨Int.mul_nonneg hx.1 hy.1,Int.le_trans (Int.mul_le_mul hx.2 hy.2 hy.1 (Int.le_trans hx.1 hx.2)) hk⟩
end M
theorem iQ (a0 b0:Int) (w:World) (hin:M.bD a0 b0=true) :
  Calls Tryz.prog 151 #[.agg #[.int .i64 a0,.int .i64 b0]] w fun e w'=>e=.returned (.tuple #[.int .i64 (M.hM a0.natAbs b0.natAbs),.int .i64 (M.hK a0.natAbs b0.natAbs (M.bC a0 b0).natAbs)])∧Below w.heap.size w w':=by
 obtain ⟨x1,x2,y1,y2⟩:=M.am hin;have hdb:=eJ hin
 have PC:=fun W=>pG a0 b0 W hin
 clear hin;generalize M.bC a0 b0=D at *
 obtain ⟨a,ha⟩:∃ a:Int,Hid (a=a0.natAbs):=⟨_,yI rfl⟩
 obtain ⟨b,hb⟩:∃ b:Int,Hid (b=b0.natAbs):=⟨_,yI rfl⟩
 obtain ⟨d,hd⟩:∃ d:Int,Hid (d=D.natAbs):=⟨_,yI rfl⟩
 rw [←ha.out,←hb.out,←hd.out]
 have a1:0≤a∧a≤1000:=by have:=ha.out;omega
 have b1:0≤b∧b≤10000:=by have:=hb.out;omega
 have d1:0≤d∧d≤6700000000:=by have:=hd.out;omega
 obtain ⟨a1,a2⟩:=a1;obtain ⟨b1,b2⟩:=b1;obtain ⟨d1,d2⟩:=d1;have bd1:0≤2*a∧2*a≤2000:=M.yj (show (0:Int)≤2∧(2:Int)≤2 from ⟨by omega,by omega⟩) (show 0≤a∧a≤1000 from ⟨by omega,by omega⟩) (by omega);have I6:0≤8*b∧8*b≤80000:=M.yj (show (0:Int)≤8∧(8:Int)≤8 from ⟨by omega,by omega⟩) (show 0≤b∧b≤10000 from ⟨by omega,by omega⟩) (by omega);have HI:0≤a*a∧a*a≤1000000:=M.yj (show 0≤a∧a≤1000 from ⟨by omega,by omega⟩) (show 0≤a∧a≤1000 from ⟨by omega,by omega⟩) (by omega);have bd4:0≤4*d∧4*d≤26800000000:=M.yj (show (0:Int)≤4∧(4:Int)≤4 from ⟨by omega,by omega⟩) (show 0≤d∧d≤6700000000 from ⟨by omega,by omega⟩) (by omega);have HU:0≤4*a∧4*a≤4000:=M.yj (show (0:Int)≤4∧(4:Int)≤4 from ⟨by omega,by omega⟩) (show 0≤a∧a≤1000 from ⟨by omega,by omega⟩) (by omega);have Hc:0≤4*a*a∧4*a*a≤4000000:=M.yj HU (show 0≤a∧a≤1000 from ⟨by omega,by omega⟩) (by omega);have bd7:0≤4*a*a*b∧4*a*a*b≤40000000000:=M.yj Hc (show 0≤b∧b≤10000 from ⟨by omega,by omega⟩) (by omega);have I7:0≤3*a∧3*a≤3000:=M.yj (show (0:Int)≤3∧(3:Int)≤3 from ⟨by omega,by omega⟩) (show 0≤a∧a≤1000 from ⟨by omega,by omega⟩) (by omega);have Hd:0≤3*a*a∧3*a*a≤3000000:=M.yj I7 (show 0≤a∧a≤1000 from ⟨by omega,by omega⟩) (by omega);have EU:0≤3*a*a*a∧3*a*a*a≤3000000000:=M.yj Hd (show 0≤a∧a≤1000 from ⟨by omega,by omega⟩) (by omega);have FV:0≤22*b∧22*b≤220000:=M.yj (show (0:Int)≤22∧(22:Int)≤22 from ⟨by omega,by omega⟩) (show 0≤b∧b≤10000 from ⟨by omega,by omega⟩) (by omega);have FW:0≤22*b*b∧22*b*b≤2200000000:=M.yj FV (show 0≤b∧b≤10000 from ⟨by omega,by omega⟩) (by omega);have HA:0≤4*a*(3*a*a*a+22*b*b)∧4*a*(3*a*a*a+22*b*b)≤20800000000000:=M.yj HU (show 0≤3*a*a*a+22*b*b∧3*a*a*a+22*b*b≤5200000000 from ⟨by omega,by omega⟩) (by omega);have FX:0≤12*b∧12*b≤120000:=M.yj (show (0:Int)≤12∧(12:Int)≤12 from ⟨by omega,by omega⟩) (show 0≤b∧b≤10000 from ⟨by omega,by omega⟩) (by omega);have FY:0≤a*a*a∧a*a*a≤1000000000:=M.yj HI (show 0≤a∧a≤1000 from ⟨by omega,by omega⟩) (by omega);have HB:0≤8*b*b∧8*b*b≤800000000:=M.yj I6 (show 0≤b∧b≤10000 from ⟨by omega,by omega⟩) (by omega);have HC:0≤12*b*(a*a*a+8*b*b)∧12*b*(a*a*a+8*b*b)≤216000000000000:=M.yj FX (show 0≤a*a*a+8*b*b∧a*a*a+8*b*b≤1800000000 from ⟨by omega,by omega⟩) (by omega);have HD:0≤a*a*b∧a*a*b≤10000000000:=M.yj HI (show 0≤b∧b≤10000 from ⟨by omega,by omega⟩) (by omega);have FZ:0≤5*a∧5*a≤5000:=M.yj (show (0:Int)≤5∧(5:Int)≤5 from ⟨by omega,by omega⟩) (show 0≤a∧a≤1000 from ⟨by omega,by omega⟩) (by omega);have EW:0≤5*a*a∧5*a*a≤5000000:=M.yj FZ (show 0≤a∧a≤1000 from ⟨by omega,by omega⟩) (by omega);have HF:0≤5*a*a*a∧5*a*a*a≤5000000000:=M.yj EW (show 0≤a∧a≤1000 from ⟨by omega,by omega⟩) (by omega);have Fa:0≤32*b∧32*b≤320000:=M.yj (show (0:Int)≤32∧(32:Int)≤32 from ⟨by omega,by omega⟩) (show 0≤b∧b≤10000 from ⟨by omega,by omega⟩) (by omega);have Fb:0≤32*b*b∧32*b*b≤3200000000:=M.yj Fa (show 0≤b∧b≤10000 from ⟨by omega,by omega⟩) (by omega);have Fc:0≤a*(5*a*a*a+32*b*b)∧a*(5*a*a*a+32*b*b)≤8200000000000:=M.yj (show 0≤a∧a≤1000 from ⟨by omega,by omega⟩) (show 0≤5*a*a*a+32*b*b∧5*a*a*a+32*b*b≤8200000000 from ⟨by omega,by omega⟩) (by omega);have EX:0≤2*b∧2*b≤20000:=M.yj (show (0:Int)≤2∧(2:Int)≤2 from ⟨by omega,by omega⟩) (show 0≤b∧b≤10000 from ⟨by omega,by omega⟩) (by omega);have Fd:0≤13*a∧13*a≤13000:=M.yj (show (0:Int)≤13∧(13:Int)≤13 from ⟨by omega,by omega⟩) (show 0≤a∧a≤1000 from ⟨by omega,by omega⟩) (by omega);have EY:0≤13*a*a∧13*a*a≤13000000:=M.yj Fd (show 0≤a∧a≤1000 from ⟨by omega,by omega⟩) (by omega);have HG:0≤13*a*a*a∧13*a*a*a≤13000000000:=M.yj EY (show 0≤a∧a≤1000 from ⟨by omega,by omega⟩) (by omega);have Fe:0≤96*b∧96*b≤960000:=M.yj (show (0:Int)≤96∧(96:Int)≤96 from ⟨by omega,by omega⟩) (show 0≤b∧b≤10000 from ⟨by omega,by omega⟩) (by omega);have HJ:0≤96*b*b∧96*b*b≤9600000000:=M.yj Fe (show 0≤b∧b≤10000 from ⟨by omega,by omega⟩) (by omega);have KH:0≤2*b*(13*a*a*a+96*b*b)∧2*b*(13*a*a*a+96*b*b)≤452000000000000:=M.yj EX (show 0≤13*a*a*a+96*b*b∧13*a*a*a+96*b*b≤22600000000 from ⟨by omega,by omega⟩) (by omega);have KK:0≤3*a*a*(a*a*a+8*b*b)∧3*a*a*(a*a*a+8*b*b)≤5400000000000000:=M.yj Hd (show 0≤a*a*a+8*b*b∧a*a*a+8*b*b≤1800000000 from ⟨by omega,by omega⟩) (by omega);obtain ⟨bd1_1,bd1_2⟩:=bd1;obtain ⟨bd2_1,bd2_2⟩:=I6;obtain ⟨bd3_1,bd3_2⟩:=HI;obtain ⟨bd4_1,bd4_2⟩:=bd4;obtain ⟨bd5_1,bd5_2⟩:=HU;obtain ⟨bd6_1,bd6_2⟩:=Hc;obtain ⟨bd7_1,bd7_2⟩:=bd7;obtain ⟨bd8_1,bd8_2⟩:=I7;obtain ⟨bd9_1,bd9_2⟩:=Hd;obtain ⟨Jb,Jc⟩:=EU;obtain ⟨Jd,Je⟩:=FV;obtain ⟨Jf,Jg⟩:=FW;obtain ⟨Jh,Ji⟩:=HA;obtain ⟨Jj,Jk⟩:=FX;obtain ⟨Jl,Jm⟩:=FY;obtain ⟨Jn,Jo⟩:=HB;obtain ⟨Jp,Jq⟩:=HC;obtain ⟨Jr,Js⟩:=HD;obtain ⟨Jt,Ju⟩:=FZ;obtain ⟨Jv,Jw⟩:=EW;obtain ⟨Jx,Jy⟩:=HF;obtain ⟨Jz,J1⟩:=Fa;obtain ⟨J2,J3⟩:=Fb;obtain ⟨J4,J5⟩:=Fc;obtain ⟨J6,J7⟩:=EX;obtain ⟨J8,J9⟩:=Fd;obtain ⟨J_,KA⟩:=EY;obtain ⟨KB,KC⟩:=HG;obtain ⟨KD,KE⟩:=Fe;obtain ⟨KF,KG⟩:=HJ;obtain ⟨KI,KJ⟩:=KH;obtain ⟨KL,KM⟩:=KK;have hM:Hid (M.hM a b=max (1+2*a+8*b+a*a) (4*(1+a+b))):=yI rfl;have hK:Hid (M.hK a b d=max (12+16*a+3+5*a+27*b) (4*d+4*a*a*b+4*a*(3*a*a*a+22*b*b)+12*b*(a*a*a+8*b*b)+(a*a*b+a*(5*a*a*a+32*b*b)+2*b*(13*a*a*a+96*b*b)+3*a*a*(a*a*a+8*b*b)))):=yI (by unfold M.hK;congr 1 <;> grind);have mA:=yI (show (if a0 < -a0 then -a0 else a0)=a by have:=ha.out;split <;> omega);have mB:=yI (show (if b0 < -b0 then -b0 else b0)=b by have:=hb.out;split <;> omega);have mD:=yI (show (if D < -D then -D else D)=d by have:=hd.out;split <;> omega);have nA:=yI (show max a0 (-a0)=a by have:=ha.out;omega);have nB:=yI (show max b0 (-b0)=b by have:=hb.out;omega);have nD:=yI (show max D (-D)=d by have:=hd.out;omega)
 skip
 replace PC:=yI PC;have C:=aH.new w #[.int .i64 a0,.int .i64 b0] 29;have B:=(yL w.heap.size w).alloc (yM _) (.cells #[.int .i64 a0,.int .i64 b0] 29);generalize hw3:w.alloc (.cells #[.int .i64 a0,.int .i64 b0] 29)=wc at *;go_enter Tryz.func151,Tryz.ntmps151
 go_wp2
 go_upto_region 1 with fail
 refine Rg.bJ 21 [.is (.pointer (some ⟨w.heap.size,0,none⟩)),.is (.int .i64 a0),.is (.pointer (some ⟨w.heap.size,0,none⟩)),.is (.int .i64 a0),.is (.int .i64 (-a0)),.is (.int .i64 a),.is (.pointer (some ⟨w.heap.size,1,none⟩)),.is (.int .i64 b0),.is (.pointer (some ⟨w.heap.size,1,none⟩)),.is (.int .i64 b0),.is (.int .i64 (-b0)),.is (.int .i64 b),.is (.agg #[.int .i64 a0,.int .i64 b0]),.is (.int .i64 D),.is (.agg #[.int .i64 a0,.int .i64 b0]),.is (.int .i64 D),.is (.int .i64 (-D)),.is (.int .i64 d),.is (.int .i64 a),.is (.int .i64 b),.is (.int .i64 d)] (by kernel_rfl) (by kernel_rfl) (by kernel_rfl) ⟨?_,?_,?_,?_,?_,?_,?_,?_,?_,?_,?_,?_,?_,?_,?_,?_,?_,?_,?_,?_,?_,trivial⟩ ?_
 ·intro _ zZ w_ hB hr
  have e1:zZ.tmps[1]?=some (.pointer (some ⟨w.heap.size,0,none⟩)):=hr 1 (by decide);exact Rg.aG rfl (by go_simp)
 ·intro _ zZ w_ hB hr
  have e10:=Rg.a_ (hr 10 (by decide));have k0:=aE hB C.box.c0;exact Rg.aG rfl (by go_simp)
 ·intro _ zZ w_ hB hr
  have e1:zZ.tmps[1]?=some (.pointer (some ⟨w.heap.size,0,none⟩)):=hr 1 (by decide);exact Rg.aG rfl (by go_simp)
 ·intro _ zZ w_ hB hr
  have e12:=Rg.a_ (hr 12 (by decide));have k0:=aE hB C.box.c0;exact Rg.aG rfl (by go_simp)
 ·intro _ zZ w_ hB hr
  have e13:=Rg.a_ (hr 13 (by decide));exact Rg.aG rfl (by go_simp <;> exact Rg.wo (by omega))
 ·intro _ zZ w_ hB hr
  have e11:=Rg.a_ (hr 11 (by decide));have e14:=Rg.a_ (hr 14 (by decide));exact Rg.aG rfl (by go_simp;first | done | (rw [mA.out];done) | (rw [nA.out];done) | (simp only [mA.out];done))
 ·intro _ zZ w_ hB hr
  have e1:zZ.tmps[1]?=some (.pointer (some ⟨w.heap.size,0,none⟩)):=hr 1 (by decide);exact Rg.aG rfl (by go_simp)
 ·intro _ zZ w_ hB hr
  have e16:=Rg.a_ (hr 16 (by decide));have k1:=aE hB C.box.c1;exact Rg.aG rfl (by go_simp)
 ·intro _ zZ w_ hB hr
  have e1:zZ.tmps[1]?=some (.pointer (some ⟨w.heap.size,0,none⟩)):=hr 1 (by decide);exact Rg.aG rfl (by go_simp)
 ·intro _ zZ w_ hB hr
  have e18:=Rg.a_ (hr 18 (by decide));have k1:=aE hB C.box.c1;exact Rg.aG rfl (by go_simp)
 ·intro _ zZ w_ hB hr
  have e19:=Rg.a_ (hr 19 (by decide));exact Rg.aG rfl (by go_simp <;> exact Rg.wo (by omega))
 ·intro _ zZ w_ hB hr
  have e17:=Rg.a_ (hr 17 (by decide));have e20:=Rg.a_ (hr 20 (by decide));exact Rg.aG rfl (by go_simp;first | done | (rw [mB.out];done) | (rw [nB.out];done) | (simp only [mB.out];done))
 ·intro _ zZ w_ hB hr
  have e1:zZ.tmps[1]?=some (.pointer (some ⟨w.heap.size,0,none⟩)):=hr 1 (by decide);have k0:=aE hB C.box.c0;have k1:=aE hB C.box.c1;exact Rg.aG rfl (by go_simp)
 ·intro _ zZ w_ hB hr
  have e22:=Rg.a_ (hr 22 (by decide));have ef:=Rg.ef zZ;exact Rg.bU rfl (by go_simp) (PC.out _)
 ·intro _ zZ w_ hB hr
  have e1:zZ.tmps[1]?=some (.pointer (some ⟨w.heap.size,0,none⟩)):=hr 1 (by decide);have k0:=aE hB C.box.c0;have k1:=aE hB C.box.c1;exact Rg.aG rfl (by go_simp)
 ·intro _ zZ w_ hB hr
  have e24:=Rg.a_ (hr 24 (by decide));have ef:=Rg.ef zZ;exact Rg.bU rfl (by go_simp) (PC.out _)
 ·intro _ zZ w_ hB hr
  have e25:=Rg.a_ (hr 25 (by decide));exact Rg.aG rfl (by go_simp <;> exact Rg.wo (by omega))
 ·intro _ zZ w_ hB hr
  have e23:=Rg.a_ (hr 23 (by decide));have e26:=Rg.a_ (hr 26 (by decide));exact Rg.aG rfl (by go_simp;first | done | (rw [mD.out];done) | (rw [nD.out];done) | (simp only [mD.out];done))
 ·intro _ zZ w_ hB hr
  have e15:=Rg.a_ (hr 15 (by decide));exact Rg.aG rfl (by go_simp)
 ·intro _ zZ w_ hB hr
  have e21:=Rg.a_ (hr 21 (by decide));exact Rg.aG rfl (by go_simp)
 ·intro _ zZ w_ hB hr
  have e27:=Rg.a_ (hr 27 (by decide));exact Rg.aG rfl (by go_simp)
 intro vals wz hB1 hv hne;have D7:vals 18=.int .i64 a:=hv 18 (by decide);have Is:vals 19=.int .i64 b:=hv 19 (by decide);have D8:vals 20=.int .i64 d:=hv 20 (by decide);simp only [Rg.ak,Rg.fill,Act.put,Nat.reduceAdd];clear hv;simp only [D7,Is,D8];clear D7 Is D8;replace B:=f_ B hB1;clear hB1 C;unfold Rg.aX;go_wp2;go_ret2;exact ⟨by rw [hM.out,hK.out];first | rfl,B⟩
theorem mK (a0 b0:Int) (w:World) (hin:M.bD a0 b0=true) :
  Calls Tryz.prog 146 #[.agg #[.int .i64 a0,.int .i64 b0]] w fun e w'=>e=.returned (.tuple #[.int .i64 (M.hM a0.natAbs b0.natAbs),.int .i64 (M.hK a0.natAbs b0.natAbs (M.bC a0 b0).natAbs)])∧Below w.heap.size w w':=by
 obtain ⟨x1,x2,y1,y2⟩:=M.am hin;have hdb:=eJ hin
 have PC:=fun W=>lE a0 b0 W hin
 clear hin
 have PA:=fun x W (h1:-9223372036854775807≤x) (h2:x≤9223372036854775807)=>dJ x W h1 h2
 have PM:=fun x y W=>dn x y W
 generalize M.bC a0 b0=D at *
 obtain ⟨a,ha⟩:∃ a:Int,Hid (a=a0.natAbs):=⟨_,yI rfl⟩
 obtain ⟨b,hb⟩:∃ b:Int,Hid (b=b0.natAbs):=⟨_,yI rfl⟩
 obtain ⟨d,hd⟩:∃ d:Int,Hid (d=D.natAbs):=⟨_,yI rfl⟩
 rw [←ha.out,←hb.out,←hd.out]
 have a1:0≤a∧a≤1000:=by have:=ha.out;omega
 have b1:0≤b∧b≤10000:=by have:=hb.out;omega
 have d1:0≤d∧d≤6700000000:=by have:=hd.out;omega
 obtain ⟨a1,a2⟩:=a1;obtain ⟨b1,b2⟩:=b1;obtain ⟨d1,d2⟩:=d1;have KN:0≤2*a∧2*a≤2000:=M.yj (show (0:Int)≤2∧(2:Int)≤2 from ⟨by omega,by omega⟩) (show 0≤a∧a≤1000 from ⟨by omega,by omega⟩) (by omega);have HK:0≤8*b∧8*b≤80000:=M.yj (show (0:Int)≤8∧(8:Int)≤8 from ⟨by omega,by omega⟩) (show 0≤b∧b≤10000 from ⟨by omega,by omega⟩) (by omega);have HM:0≤a*a∧a*a≤1000000:=M.yj (show 0≤a∧a≤1000 from ⟨by omega,by omega⟩) (show 0≤a∧a≤1000 from ⟨by omega,by omega⟩) (by omega);have KV:0≤4*d∧4*d≤26800000000:=M.yj (show (0:Int)≤4∧(4:Int)≤4 from ⟨by omega,by omega⟩) (show 0≤d∧d≤6700000000 from ⟨by omega,by omega⟩) (by omega);have HN:0≤5*a∧5*a≤5000:=M.yj (show (0:Int)≤5∧(5:Int)≤5 from ⟨by omega,by omega⟩) (show 0≤a∧a≤1000 from ⟨by omega,by omega⟩) (by omega);have Ff:0≤5*a*a∧5*a*a≤5000000:=M.yj HN (show 0≤a∧a≤1000 from ⟨by omega,by omega⟩) (by omega);have Kc:0≤5*a*a*b∧5*a*a*b≤50000000000:=M.yj Ff (show 0≤b∧b≤10000 from ⟨by omega,by omega⟩) (by omega);have HO:0≤4*a∧4*a≤4000:=M.yj (show (0:Int)≤4∧(4:Int)≤4 from ⟨by omega,by omega⟩) (show 0≤a∧a≤1000 from ⟨by omega,by omega⟩) (by omega);have HQ:0≤3*a∧3*a≤3000:=M.yj (show (0:Int)≤3∧(3:Int)≤3 from ⟨by omega,by omega⟩) (show 0≤a∧a≤1000 from ⟨by omega,by omega⟩) (by omega);have Fg:0≤3*a*a∧3*a*a≤3000000:=M.yj HQ (show 0≤a∧a≤1000 from ⟨by omega,by omega⟩) (by omega);have Kl:0≤3*a*a*a∧3*a*a*a≤3000000000:=M.yj Fg (show 0≤a∧a≤1000 from ⟨by omega,by omega⟩) (by omega);have HR:0≤22*b∧22*b≤220000:=M.yj (show (0:Int)≤22∧(22:Int)≤22 from ⟨by omega,by omega⟩) (show 0≤b∧b≤10000 from ⟨by omega,by omega⟩) (by omega);have Kq:0≤22*b*b∧22*b*b≤2200000000:=M.yj HR (show 0≤b∧b≤10000 from ⟨by omega,by omega⟩) (by omega);have Kt:0≤4*a*(3*a*a*a+22*b*b)∧4*a*(3*a*a*a+22*b*b)≤20800000000000:=M.yj HO (show 0≤3*a*a*a+22*b*b∧3*a*a*a+22*b*b≤5200000000 from ⟨by omega,by omega⟩) (by omega);have HT:0≤12*b∧12*b≤120000:=M.yj (show (0:Int)≤12∧(12:Int)≤12 from ⟨by omega,by omega⟩) (show 0≤b∧b≤10000 from ⟨by omega,by omega⟩) (by omega);have Ky:0≤a*a*a∧a*a*a≤1000000000:=M.yj HM (show 0≤a∧a≤1000 from ⟨by omega,by omega⟩) (by omega);have K4:0≤8*b*b∧8*b*b≤800000000:=M.yj HK (show 0≤b∧b≤10000 from ⟨by omega,by omega⟩) (by omega);have K8:0≤12*b*(a*a*a+8*b*b)∧12*b*(a*a*a+8*b*b)≤216000000000000:=M.yj HT (show 0≤a*a*a+8*b*b∧a*a*a+8*b*b≤1800000000 from ⟨by omega,by omega⟩) (by omega);have LB:0≤5*a*a*a∧5*a*a*a≤5000000000:=M.yj Ff (show 0≤a∧a≤1000 from ⟨by omega,by omega⟩) (by omega);have HW:0≤32*b∧32*b≤320000:=M.yj (show (0:Int)≤32∧(32:Int)≤32 from ⟨by omega,by omega⟩) (show 0≤b∧b≤10000 from ⟨by omega,by omega⟩) (by omega);have LG:0≤32*b*b∧32*b*b≤3200000000:=M.yj HW (show 0≤b∧b≤10000 from ⟨by omega,by omega⟩) (by omega);have LJ:0≤a*(5*a*a*a+32*b*b)∧a*(5*a*a*a+32*b*b)≤8200000000000:=M.yj (show 0≤a∧a≤1000 from ⟨by omega,by omega⟩) (show 0≤5*a*a*a+32*b*b∧5*a*a*a+32*b*b≤8200000000 from ⟨by omega,by omega⟩) (by omega);have HY:0≤2*b∧2*b≤20000:=M.yj (show (0:Int)≤2∧(2:Int)≤2 from ⟨by omega,by omega⟩) (show 0≤b∧b≤10000 from ⟨by omega,by omega⟩) (by omega);have HZ:0≤13*a∧13*a≤13000:=M.yj (show (0:Int)≤13∧(13:Int)≤13 from ⟨by omega,by omega⟩) (show 0≤a∧a≤1000 from ⟨by omega,by omega⟩) (by omega);have Ha:0≤13*a*a∧13*a*a≤13000000:=M.yj HZ (show 0≤a∧a≤1000 from ⟨by omega,by omega⟩) (by omega);have LS:0≤13*a*a*a∧13*a*a*a≤13000000000:=M.yj Ha (show 0≤a∧a≤1000 from ⟨by omega,by omega⟩) (by omega);have Hb:0≤96*b∧96*b≤960000:=M.yj (show (0:Int)≤96∧(96:Int)≤96 from ⟨by omega,by omega⟩) (show 0≤b∧b≤10000 from ⟨by omega,by omega⟩) (by omega);have LX:0≤96*b*b∧96*b*b≤9600000000:=M.yj Hb (show 0≤b∧b≤10000 from ⟨by omega,by omega⟩) (by omega);have La:0≤2*b*(13*a*a*a+96*b*b)∧2*b*(13*a*a*a+96*b*b)≤452000000000000:=M.yj HY (show 0≤13*a*a*a+96*b*b∧13*a*a*a+96*b*b≤22600000000 from ⟨by omega,by omega⟩) (by omega);have Ld:0≤3*a*a*(a*a*a+8*b*b)∧3*a*a*(a*a*a+8*b*b)≤5400000000000000:=M.yj Fg (show 0≤a*a*a+8*b*b∧a*a*a+8*b*b≤1800000000 from ⟨by omega,by omega⟩) (by omega);obtain ⟨KO,KQ⟩:=KN;obtain ⟨KR,KS⟩:=HK;obtain ⟨KT,KU⟩:=HM;obtain ⟨KW,KX⟩:=KV;obtain ⟨KY,KZ⟩:=HN;obtain ⟨Ka,Kb⟩:=Ff;obtain ⟨Kd,Ke⟩:=Kc;obtain ⟨Kf,Kg⟩:=HO;obtain ⟨Kh,Ki⟩:=HQ;obtain ⟨Kj,Kk⟩:=Fg;obtain ⟨Km,Kn⟩:=Kl;obtain ⟨Ko,Kp⟩:=HR;obtain ⟨Kr,Ks⟩:=Kq;obtain ⟨Ku,Kv⟩:=Kt;obtain ⟨Kw,Kx⟩:=HT;obtain ⟨Kz,K3⟩:=Ky;obtain ⟨K6,K7⟩:=K4;obtain ⟨K9,LA⟩:=K8;obtain ⟨LC,LD⟩:=LB;obtain ⟨LE,LF⟩:=HW;obtain ⟨LH,LI⟩:=LG;obtain ⟨LK,LL⟩:=LJ;obtain ⟨LM,LN⟩:=HY;obtain ⟨LO,LP⟩:=HZ;obtain ⟨LQ,LR⟩:=Ha;obtain ⟨LT,LU⟩:=LS;obtain ⟨LV,LW⟩:=Hb;obtain ⟨LY,LZ⟩:=LX;obtain ⟨Lb,Lc⟩:=La;obtain ⟨Le,Lf⟩:=Ld;have hM:Hid (M.hM a b=max (1+2*a+8*b+a*a) (4*(1+a+b))):=yI rfl;have hK:Hid (M.hK a b d=max (15+21*a+27*b) (4*d+5*a*a*b+4*a*(3*a*a*a+22*b*b)+12*b*(a*a*a+8*b*b)+(a*(5*a*a*a+32*b*b)+2*b*(13*a*a*a+96*b*b)+3*a*a*(a*a*a+8*b*b)))):=yI rfl
 skip
 replace PC:=yI PC;replace PA:=yI PA;replace PM:=yI PM;have C:=aH.new w #[.int .i64 a0,.int .i64 b0] 29;have B:=(yL w.heap.size w).alloc (yM _) (.cells #[.int .i64 a0,.int .i64 b0] 29);generalize hw3:w.alloc (.cells #[.int .i64 a0,.int .i64 b0] 29)=wc at *;go_enter Tryz.func146,Tryz.ntmps146
 go_wp2
 go_upto_region 1 with fail
 refine Rg.bJ 12 [.is (.pointer (some ⟨w.heap.size,0,none⟩)),.is (.int .i64 a0),.is (.int .i64 a),.is (.pointer (some ⟨w.heap.size,1,none⟩)),.is (.int .i64 b0),.is (.int .i64 b),.is (.agg #[.int .i64 a0,.int .i64 b0]),.is (.int .i64 D),.is (.int .i64 d),.is (.int .i64 a),.is (.int .i64 b),.is (.int .i64 d)] (by kernel_rfl) (by kernel_rfl) (by kernel_rfl) ⟨?_,?_,?_,?_,?_,?_,?_,?_,?_,?_,?_,?_,trivial⟩ ?_
 ·intro _ zZ w_ hB hr
  have e1:zZ.tmps[1]?=some (.pointer (some ⟨w.heap.size,0,none⟩)):=hr 1 (by decide);exact Rg.aG rfl (by go_simp)
 ·intro _ zZ w_ hB hr
  have e10:=Rg.a_ (hr 10 (by decide));have k0:=aE hB C.box.c0;exact Rg.aG rfl (by go_simp)
 ·intro _ zZ w_ hB hr
  have e11:=Rg.a_ (hr 11 (by decide));have ef:=Rg.ef zZ;refine Rg.aZ rfl (by go_simp;exact ⟨rfl,rfl⟩) ?_;refine (PA.out a0 _ (by omega) (by omega)).mono ?_;rintro e w5 ⟨rfl,rfl⟩;exact ⟨_,rfl,(by rw [ha.out];rfl),yL _ _⟩
 ·intro _ zZ w_ hB hr
  have e1:zZ.tmps[1]?=some (.pointer (some ⟨w.heap.size,0,none⟩)):=hr 1 (by decide);exact Rg.aG rfl (by go_simp)
 ·intro _ zZ w_ hB hr
  have e13:=Rg.a_ (hr 13 (by decide));have k1:=aE hB C.box.c1;exact Rg.aG rfl (by go_simp)
 ·intro _ zZ w_ hB hr
  have e14:=Rg.a_ (hr 14 (by decide));have ef:=Rg.ef zZ;refine Rg.aZ rfl (by go_simp;exact ⟨rfl,rfl⟩) ?_;refine (PA.out b0 _ (by omega) (by omega)).mono ?_;rintro e w5 ⟨rfl,rfl⟩;exact ⟨_,rfl,(by rw [hb.out];rfl),yL _ _⟩
 ·intro _ zZ w_ hB hr
  have e1:zZ.tmps[1]?=some (.pointer (some ⟨w.heap.size,0,none⟩)):=hr 1 (by decide);have k0:=aE hB C.box.c0;have k1:=aE hB C.box.c1;exact Rg.aG rfl (by go_simp)
 ·intro _ zZ w_ hB hr
  have e16:=Rg.a_ (hr 16 (by decide));have ef:=Rg.ef zZ;exact Rg.bU rfl (by go_simp) (PC.out _)
 ·intro _ zZ w_ hB hr
  have e17:=Rg.a_ (hr 17 (by decide));have ef:=Rg.ef zZ;refine Rg.aZ rfl (by go_simp;exact ⟨rfl,rfl⟩) ?_;refine (PA.out D _ (by omega) (by omega)).mono ?_;rintro e w5 ⟨rfl,rfl⟩;exact ⟨_,rfl,(by rw [hd.out];rfl),yL _ _⟩
 ·intro _ zZ w_ hB hr
  have e12:=Rg.a_ (hr 12 (by decide));exact Rg.aG rfl (by go_simp)
 ·intro _ zZ w_ hB hr
  have e15:=Rg.a_ (hr 15 (by decide));exact Rg.aG rfl (by go_simp)
 ·intro _ zZ w_ hB hr
  have e18:=Rg.a_ (hr 18 (by decide));exact Rg.aG rfl (by go_simp)
 intro vals wz hB1 hv hne;have Ad:vals 9=.int .i64 a:=hv 9 (by decide);have yt:vals 10=.int .i64 b:=hv 10 (by decide);have zg:vals 11=.int .i64 d:=hv 11 (by decide);simp only [Rg.ak,Rg.fill,Act.put,Nat.reduceAdd];clear hv;simp only [Ad,yt,zg];clear Ad yt zg;replace B:=f_ B hB1;clear hB1 C;unfold Rg.aX
 go_wp2_with (go_at_call 91;(with_reducible refine (PM.out _ _ _).mono ?_);rintro e w6 ⟨rfl,rfl⟩)
 go_ret2;exact ⟨by rw [hM.out,hK.out];first | rfl,B⟩
theorem M.pL {a0 b0:Int} (hin:M.bD a0 b0=true):0≤max (M.hM a0.natAbs b0.natAbs) (M.hK a0.natAbs b0.natAbs (M.bC a0 b0).natAbs)∧max (M.hM a0.natAbs b0.natAbs) (M.hK a0.natAbs b0.natAbs (M.bC a0 b0).natAbs)≤100000000000000000:=by
 obtain ⟨x1,x2,y1,y2⟩:=M.am hin;have hdb:=eJ hin
 obtain ⟨a,ha⟩:∃ a:Int,(a=a0.natAbs):=⟨_,rfl⟩
 obtain ⟨b,hb⟩:∃ b:Int,(b=b0.natAbs):=⟨_,rfl⟩
 obtain ⟨d,hd⟩:∃ d:Int,(d=(M.bC a0 b0).natAbs):=⟨_,rfl⟩
 rw [←ha,←hb,←hd]
 have a1:0≤a∧a≤1000:=by omega
 have b1:0≤b∧b≤10000:=by omega
 have d1:0≤d∧d≤6700000000:=by omega
 clear ha hb hd hdb x1 x2 y1 y2 hin;have bd1:0≤2*a∧2*a≤2000:=M.yj (show (0:Int)≤2∧(2:Int)≤2 from ⟨by omega,by omega⟩) (show 0≤a∧a≤1000 from ⟨by omega,by omega⟩) (by omega);have I6:0≤8*b∧8*b≤80000:=M.yj (show (0:Int)≤8∧(8:Int)≤8 from ⟨by omega,by omega⟩) (show 0≤b∧b≤10000 from ⟨by omega,by omega⟩) (by omega);have HI:0≤a*a∧a*a≤1000000:=M.yj (show 0≤a∧a≤1000 from ⟨by omega,by omega⟩) (show 0≤a∧a≤1000 from ⟨by omega,by omega⟩) (by omega);have bd4:0≤4*d∧4*d≤26800000000:=M.yj (show (0:Int)≤4∧(4:Int)≤4 from ⟨by omega,by omega⟩) (show 0≤d∧d≤6700000000 from ⟨by omega,by omega⟩) (by omega);have HU:0≤5*a∧5*a≤5000:=M.yj (show (0:Int)≤5∧(5:Int)≤5 from ⟨by omega,by omega⟩) (show 0≤a∧a≤1000 from ⟨by omega,by omega⟩) (by omega);have Hc:0≤5*a*a∧5*a*a≤5000000:=M.yj HU (show 0≤a∧a≤1000 from ⟨by omega,by omega⟩) (by omega);have bd7:0≤5*a*a*b∧5*a*a*b≤50000000000:=M.yj Hc (show 0≤b∧b≤10000 from ⟨by omega,by omega⟩) (by omega);have I7:0≤4*a∧4*a≤4000:=M.yj (show (0:Int)≤4∧(4:Int)≤4 from ⟨by omega,by omega⟩) (show 0≤a∧a≤1000 from ⟨by omega,by omega⟩) (by omega);have Hd:0≤3*a∧3*a≤3000:=M.yj (show (0:Int)≤3∧(3:Int)≤3 from ⟨by omega,by omega⟩) (show 0≤a∧a≤1000 from ⟨by omega,by omega⟩) (by omega);have EU:0≤3*a*a∧3*a*a≤3000000:=M.yj Hd (show 0≤a∧a≤1000 from ⟨by omega,by omega⟩) (by omega);have FV:0≤3*a*a*a∧3*a*a*a≤3000000000:=M.yj EU (show 0≤a∧a≤1000 from ⟨by omega,by omega⟩) (by omega);have FW:0≤22*b∧22*b≤220000:=M.yj (show (0:Int)≤22∧(22:Int)≤22 from ⟨by omega,by omega⟩) (show 0≤b∧b≤10000 from ⟨by omega,by omega⟩) (by omega);have HA:0≤22*b*b∧22*b*b≤2200000000:=M.yj FW (show 0≤b∧b≤10000 from ⟨by omega,by omega⟩) (by omega);have FX:0≤4*a*(3*a*a*a+22*b*b)∧4*a*(3*a*a*a+22*b*b)≤20800000000000:=M.yj I7 (show 0≤3*a*a*a+22*b*b∧3*a*a*a+22*b*b≤5200000000 from ⟨by omega,by omega⟩) (by omega);have FY:0≤12*b∧12*b≤120000:=M.yj (show (0:Int)≤12∧(12:Int)≤12 from ⟨by omega,by omega⟩) (show 0≤b∧b≤10000 from ⟨by omega,by omega⟩) (by omega);have HB:0≤a*a*a∧a*a*a≤1000000000:=M.yj HI (show 0≤a∧a≤1000 from ⟨by omega,by omega⟩) (by omega);have HC:0≤8*b*b∧8*b*b≤800000000:=M.yj I6 (show 0≤b∧b≤10000 from ⟨by omega,by omega⟩) (by omega);have HD:0≤12*b*(a*a*a+8*b*b)∧12*b*(a*a*a+8*b*b)≤216000000000000:=M.yj FY (show 0≤a*a*a+8*b*b∧a*a*a+8*b*b≤1800000000 from ⟨by omega,by omega⟩) (by omega);have FZ:0≤5*a*a*a∧5*a*a*a≤5000000000:=M.yj Hc (show 0≤a∧a≤1000 from ⟨by omega,by omega⟩) (by omega);have EW:0≤32*b∧32*b≤320000:=M.yj (show (0:Int)≤32∧(32:Int)≤32 from ⟨by omega,by omega⟩) (show 0≤b∧b≤10000 from ⟨by omega,by omega⟩) (by omega);have HF:0≤32*b*b∧32*b*b≤3200000000:=M.yj EW (show 0≤b∧b≤10000 from ⟨by omega,by omega⟩) (by omega);have Fa:0≤a*(5*a*a*a+32*b*b)∧a*(5*a*a*a+32*b*b)≤8200000000000:=M.yj (show 0≤a∧a≤1000 from ⟨by omega,by omega⟩) (show 0≤5*a*a*a+32*b*b∧5*a*a*a+32*b*b≤8200000000 from ⟨by omega,by omega⟩) (by omega);have Fb:0≤2*b∧2*b≤20000:=M.yj (show (0:Int)≤2∧(2:Int)≤2 from ⟨by omega,by omega⟩) (show 0≤b∧b≤10000 from ⟨by omega,by omega⟩) (by omega);have Fc:0≤13*a∧13*a≤13000:=M.yj (show (0:Int)≤13∧(13:Int)≤13 from ⟨by omega,by omega⟩) (show 0≤a∧a≤1000 from ⟨by omega,by omega⟩) (by omega);have EX:0≤13*a*a∧13*a*a≤13000000:=M.yj Fc (show 0≤a∧a≤1000 from ⟨by omega,by omega⟩) (by omega);have Fd:0≤13*a*a*a∧13*a*a*a≤13000000000:=M.yj EX (show 0≤a∧a≤1000 from ⟨by omega,by omega⟩) (by omega);have EY:0≤96*b∧96*b≤960000:=M.yj (show (0:Int)≤96∧(96:Int)≤96 from ⟨by omega,by omega⟩) (show 0≤b∧b≤10000 from ⟨by omega,by omega⟩) (by omega);have HG:0≤96*b*b∧96*b*b≤9600000000:=M.yj EY (show 0≤b∧b≤10000 from ⟨by omega,by omega⟩) (by omega);have Fe:0≤2*b*(13*a*a*a+96*b*b)∧2*b*(13*a*a*a+96*b*b)≤452000000000000:=M.yj Fb (show 0≤13*a*a*a+96*b*b∧13*a*a*a+96*b*b≤22600000000 from ⟨by omega,by omega⟩) (by omega);have HJ:0≤3*a*a*(a*a*a+8*b*b)∧3*a*a*(a*a*a+8*b*b)≤5400000000000000:=M.yj EU (show 0≤a*a*a+8*b*b∧a*a*a+8*b*b≤1800000000 from ⟨by omega,by omega⟩) (by omega);unfold M.hM M.hK;omega
theorem M.ng {a0 b0:Int} (hin:M.bD a0 b0=true):M.hC a0 b0≤60:=by
 have h:=M.pL hin;unfold M.hC Wh.bl;generalize max (M.hM a0.natAbs b0.natAbs) (M.hK a0.natAbs b0.natAbs (M.bC a0 b0).natAbs)=X at *
 split
 ·omega
 rename_i h0
 have:=(Nat.log2_lt h0 (k:=59)).2 (by
                      have:(2:Nat) ^ 59=576460752303423488:=by decide
                      omega)
 omega
theorem gh (a0 b0:Int) (w:World) (hin:M.bD a0 b0=true) :
  Calls Tryz.prog 137 #[.agg #[.int .i64 a0,.int .i64 b0]] w fun e w'=>e=.returned (.int .i64 (M.hC a0 b0:Nat))∧Below w.heap.size w w':=by
 have hbd:=M.pL hin
 have PD:=fun W=>iQ a0 b0 W hin
 have hc:Hid (M.hC a0 b0=Wh.bl (max (M.hM a0.natAbs b0.natAbs) (M.hK a0.natAbs b0.natAbs (M.bC a0 b0).natAbs)).toNat):=yI rfl;generalize M.hK a0.natAbs b0.natAbs (M.bC a0 b0).natAbs=k,M.hM a0.natAbs b0.natAbs=m at *
 have hx:max m k=if m<k then k else m:=by split <;> omega
 have PL:=fun W=>Tryz.bits_Len (max m k) W (by omega) (by omega)
 rw [Wh.sk _ (by omega)] at PL;obtain ⟨x1,x2⟩:=hbd;replace PD:=yI PD;replace PL:=yI PL;replace hx:=yI hx;have B:=(yL w.heap.size w).alloc (yM _) (.cells #[.int .i64 a0,.int .i64 b0] 29);go_enter Tryz.func137,Tryz.ntmps137
 go_wp2_with (first
  | (go_at_call 151;(with_reducible refine (PD.out _).mono ?_);rintro e w4 ⟨rfl,hb4⟩;replace B:=f_ B hb4)
  | (go_at_call 152;(refine (PL.out _).mono ?_);rintro e w6 ⟨rfl,rfl⟩))
 go_ret;exact ⟨by rw [hc.out];rfl,B⟩
theorem mJ (a0 b0:Int) (w:World) (hin:M.bD a0 b0=true) :
  Calls Tryz.prog 133 #[.agg #[.int .i64 a0,.int .i64 b0]] w fun e w'=>e=.returned (.int .i64 (M.hC a0 b0:Nat))∧Below w.heap.size w w':=by
 have hbd:=M.pL hin;have hcb:=M.ng hin
 have PD:=fun W=>mK a0 b0 W hin
 have hc:Hid (M.hC a0 b0=Wh.bl (max (M.hM a0.natAbs b0.natAbs) (M.hK a0.natAbs b0.natAbs (M.bC a0 b0).natAbs)).toNat):=yI rfl;rw [hc.out] at hcb;generalize M.hK a0.natAbs b0.natAbs (M.bC a0 b0).natAbs=k,M.hM a0.natAbs b0.natAbs=m at *
 have PM:=fun W=>dn m k W
 generalize max m k=X at *;obtain ⟨x1,x2⟩:=hbd
 have hxn:X.natAbs=X.toNat:=by omega
 have PO:=fun W=>jo X W (by omega) (by omega)
 have PB:=fun v W k (h:aF W k v (Wh.d_ X.natAbs))=>jl X v W k h (Nat.le_trans (Wh.dN (k:=5) (by omega)) (by decide)) (by rw [hxn];omega)
 replace hxn:=yI hxn;generalize decide (X<0)=sX at *;replace PD:=yI PD;replace PM:=yI PM;replace PO:=yI PO;replace PB:=yI PB;clear hcb;have B:=(yL w.heap.size w).alloc (yM _) (.cells #[.int .i64 a0,.int .i64 b0] 29);go_enter Tryz.func133,Tryz.ntmps133
 go_wp2_with (first
  | (go_at_call 146;(with_reducible refine (PD.out _).mono ?_);rintro e w4 ⟨rfl,hb4⟩;replace B:=f_ B hb4)
  | (go_at_call 91;(with_reducible refine (PM.out _).mono ?_);rintro e w5 ⟨rfl,rfl⟩)
  | (go_at_call 147;(with_reducible refine (PO.out _).mono ?_);rintro e w6 ⟨v6,rfl,FE,hb6⟩;have Ap:=(show aF _ _ _ _ from FE);replace B:=f_ B hb6)
  | (go_at_call 145;(with_reducible refine (PB.out _ _ _ Ap).mono ?_);rintro e w8 ⟨rfl,yY⟩;replace B:=f_ B yY))
 go_ret;exact ⟨by rw [hc.out,←hxn.out];rfl,B⟩
def M.p4 (n:Nat):Int:=3*4 ^ n
theorem M.vL (n:Nat):M.p4 (n+1)=M.p4 n*4:=by unfold M.p4;rw [Int.pow_succ];omega
theorem M.qW:∀ n:Nat,n≤5→3≤M.p4 n∧M.p4 n≤3072:=by decide
theorem qx (n:Nat) (w:World) (hn:n≤5) :
  Calls Tryz.prog 134 #[.int .i64 (n:Int)] w fun e w'=>e=.returned (.int .i64 (M.p4 n))∧w=w':=by
 go_enter Tryz.func134,Tryz.ntmps134
 go_wp2
 go_loop [0,3] (fun i o=>∃ k:Nat,k≤n∧i=.int .i64 ((n - k:Nat):Int)∧o=.int .i64 (M.p4 k)) (fun i _=>(intOf i).toNat)
 case atStart=>exact ⟨0,Nat.zero_le _,rfl,rfl⟩
 case round=>
 obtain ⟨k,hk,rfl,rfl⟩:=hrel;have hb:=M.qW k (by omega);have hs:=yI (M.vL k)
 by_cases hlt:k<n
 ·obtain ⟨j,hj⟩:∃ j:Nat,n - k=j+1:=⟨n - k - 1,by omega⟩
  have hj2:=yI (show n - (k+1)=j by omega);rw [hj]
  have hjb:(j:Int)≤4:=by omega
  clear hj;go_wp2
  go_round
  case rel=>exact ⟨k+1,by omega,(by first | (rw [hj2.out];done) | (rw [hj2.out];go_num)),by rw [hs.out]⟩
  case measure=>simp [intOf] <;> omega
 obtain rfl:n=k:=by omega
 rw [Nat.sub_self];go_wp2;go_ret;exact ⟨rfl,rfl⟩
end
end Go.Proofs.YtgfkcoablfjbcaaGreat
