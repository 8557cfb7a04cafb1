/-
  Joined texts: contracts and plain lemmas.
-/
import Derived.Test.YtgfkcoablfjbcaaGreatDoorB1
import Derived.Test.YtgfkcoablfjbcaaGreatDoorB11
set_option linter.unusedSimpArgs false
set_option linter.unusedVariables false
set_option maxRecDepth 100000
set_option maxHeartbeats 8000000
namespace Go.Proofs.YtgfkcoablfjbcaaGreatDoor
section
open Go.RowKit
theorem aH.bW {W:World} {g k:Nat} {T:TypeId} {xs:Array Value} (h:aH W g T xs) (hk:g≠k) (x y:Value):aH ((W.setCell ⟨k,0,none⟩ x).setCell ⟨k,1,none⟩ y) g T xs:=(h.other hk x).other hk y
theorem dC {B:Nat} {w W:World} {k:Nat} (h:Below B w W) (hk:B≤k) (x y:Value):Below B w ((W.setCell ⟨k,0,none⟩ x).setCell ⟨k,1,none⟩ y):=(h.setCell hk x).setCell hk y
theorem aF.len {W:World} {base l c:Nat} {a:Option Addr} {xs:List Int} (h:aF W base (.slice a l c) xs):l=xs.length:=by
 obtain ⟨a',c',e,-,-⟩:=aF.view h
 injection e
namespace Wh
theorem uN (D F G:Int):((dvs D F G:Nat):Int) ∣ F:=Int.ofNat_dvd_left.2 (Nat.dvd_trans (Nat.gcd_dvd_left _ _) (Nat.gcd_dvd_right _ _))
theorem uO (D F G:Int):((dvs D F G:Nat):Int) ∣ G:=Int.ofNat_dvd_left.2 (Nat.gcd_dvd_right _ _)
end Wh
theorem nI (a b x z:Int) (vx vz:Value) (w:World) (bx bz:Nat) (hg:M.good a b=true) (hox:ae w bx vx x) (hoz:ae w bz vz z) (hx:Wh.sz x 1000) (hz:Wh.sz z 1000) :
  Calls Tryz.prog 107 #[.agg #[.int .i64 a,.int .i64 b],.agg #[.bool (decide (x<0)),vx,.bool (decide (z<0)),vz]] w fun e w'=>∃ v1 v2,e=.returned (.tuple #[.agg #[.bool (decide (Wh.dbX (M.ay a b) (Wh.bJ a b x z) (Wh.bD a b x z)<0)),v1,.bool (decide (Wh.dbZ (M.ay a b) (Wh.bJ a b x z) (Wh.bD a b x z)<0)),v2],.bool (Wh.dX (M.ay a b) (Wh.bJ a b x z) (Wh.bD a b x z))])∧ae w' w.heap.size v1 (Wh.dbX (M.ay a b) (Wh.bJ a b x z) (Wh.bD a b x z))∧ae w' w.heap.size v2 (Wh.dbZ (M.ay a b) (Wh.bJ a b x z) (Wh.bD a b x z))∧Below w.heap.size w w':=by
 obtain ⟨ax,cx,rfl,-,-⟩:=aF.view hox
 obtain ⟨az,cz,rfl,-,-⟩:=aF.view hoz
 have hin:=M.bE hg
 obtain ⟨ha1,ha2,hb1,hb2⟩:=M.ah hin
 have hdn:=eT hg
 have hdb:=dr hin
 have PF:=fun v v' W k k' (h1:aF W k v (Wh.dig x.natAbs)) (h2:aF W k' v' (Wh.dig z.natAbs))=>su a b x z v v' W k k' h1 h2 hx hz ha1 ha2 hb1 hb2
 have PG:=fun v v' W k k' (h1:aF W k v (Wh.dig x.natAbs)) (h2:aF W k' v' (Wh.dig z.natAbs))=>jP a b x z v v' W k k' h1 h2 hx hz ha1 ha2 hb1 hb2
 have zF:=Wh.kd hx hz ha1 ha2 hb1 hb2
 have zG:=Wh.kX hx hz ha1 ha2 hb1 hb2
 have hdv:=Wh.qN (Wh.bJ a b x z) (Wh.bD a b x z) hdn
 have hdF:=Wh.uN (M.ay a b) (Wh.bJ a b x z) (Wh.bD a b x z)
 have hdG:=Wh.uO (M.ay a b) (Wh.bJ a b x z) (Wh.bD a b x z)
 generalize Wh.bJ a b x z=F at *
 generalize Wh.bD a b x z=G at *
 have sF:=Wh.aU.2 (Wh.aN zF (show 5000≤9000 by omega))
 have sG:=Wh.aU.2 (Wh.aN zG (show 6000≤9000 by omega))
 have zF':=Wh.ge zF
 have zG':=Wh.ge zG
 have sF':=Wh.aU.2 (Wh.aN zF' (show 5000≤9000 by omega))
 have sG':=Wh.aU.2 (Wh.aN zG' (show 6000≤9000 by omega))
 have PM:=fun v W k (h:aF W k v (Wh.dig F.natAbs))=>gM F v W k h (by omega)
 have PN:=fun v W k (h:aF W k v (Wh.dig G.natAbs))=>gM G v W k h (by omega)
 have PD1:=fun v v' W k k' (h1:aF W k v (Wh.dig F.natAbs)) (h2:aF W k' v' (Wh.dig G.natAbs))=>gw a b F G v v' W k k' hg h1 h2 sF sG
 have PD2:=fun v v' W k k' (h1:aF W k v (Wh.dig (-F).natAbs)) (h2:aF W k' v' (Wh.dig (-G).natAbs))=>gw a b (-F) (-G) v v' W k k' hg h1 h2 sF' sG'
 simp only [Wh.ro] at PD1 PD2
 rw [Wh.rm] at PD2
 generalize M.ay a b=D at *
 clear hin hg ha1 ha2 hb1 hb2 hdn hx hz
 obtain ⟨d,hd⟩:∃ d,Hid (Wh.dvs D F G=d):=⟨_,uh rfl⟩
 rw [hd.out] at hdv PD1 PD2 hdF hdG
 have hd1:1≤d:=hdv.1
 have hd2:d≤1000000000000:=by omega
 clear hdv hdb
 have zN:=Wh.kY zF d
 have zE:=Wh.kY zG d
 have zN':=Wh.ge zN
 have zE':=Wh.ge zE
 have sN:=Wh.aU.2 (Wh.aN zN (show 5000+1≤9000 by omega))
 have sE:=Wh.aU.2 (Wh.aN zE (show 6000+1≤9000 by omega))
 have sN':=Wh.aU.2 (Wh.aN zN' (show 5000+1≤9000 by omega))
 have sE':=Wh.aU.2 (Wh.aN zE' (show 6000+1≤9000 by omega))
 have PQ1:=fun v W k (h:aF W k v (Wh.dig F.natAbs))=>dq F (d:Int) v W k h sF (by omega) (by omega)
 have PR1:=fun v W k (h:aF W k v (Wh.dig G.natAbs))=>dq G (d:Int) v W k h sG (by omega) (by omega)
 have PQ2:=fun v W k (h:aF W k v (Wh.dig (-F).natAbs))=>dq (-F) (d:Int) v W k h sF' (by omega) (by omega)
 have PR2:=fun v W k (h:aF W k v (Wh.dig (-G).natAbs))=>dq (-G) (d:Int) v W k h sG' (by omega) (by omega)
 rw [Int.neg_ediv_of_dvd hdF] at PQ2
 rw [Int.neg_ediv_of_dvd hdG] at PR2
 have PI1:=fun v v' W k k' (h:aF W k v (Wh.dig (F / (d:Int)).natAbs)) (h':aF W k' v' (Wh.dig (G / (d:Int)).natAbs))=>mO (F / (d:Int)) (G / (d:Int)) v v' W k k' h h' (by omega) (by omega)
 have PI2:=fun v v' W k k' (h:aF W k v (Wh.dig (-(F / (d:Int))).natAbs)) (h':aF W k' v' (Wh.dig (-(G / (d:Int))).natAbs))=>mO (-(F / (d:Int))) (-(G / (d:Int))) v v' W k k' h h' (by omega) (by omega)
 clear hdF hdG sF sG sF' sG' zF zG zF' zG' zN zE zN' zE' sN sE sN' sE'
 have eOk:G≠0→Wh.dX D F G=Wh.cR (if G<0 then -(F / (d:Int)) else F / (d:Int)) (if G<0 then -(G / (d:Int)) else G / (d:Int)):=fun hne=>by unfold Wh.dX Wh.dbN Wh.dbD;rw [hd.out,decide_eq_true hne];rfl
 have eX:Wh.dbX D F G=if Wh.dX D F G=true then (if G<0 then -(F / (d:Int)) else F / (d:Int)) else 0:=by unfold Wh.dbX Wh.dbN;rw [hd.out]
 have eZ:Wh.dbZ D F G=if Wh.dX D F G=true then (if G<0 then -(G / (d:Int)) else G / (d:Int)) else 0:=by unfold Wh.dbZ Wh.dbD;rw [hd.out]
 have hES:=Wh.nZ (z:=G) hd1
 generalize hs1:decide (x<0)=s1 at *
 generalize hs2:decide (z<0)=s2 at *
 clear hs1 hs2
 replace hox:=uh (show aF _ _ _ _ from hox)
 replace hoz:=uh (show aF _ _ _ _ from hoz)
 generalize (Wh.dig x.natAbs).length=lx at *
 generalize (Wh.dig z.natAbs).length=lz at *
 have C:=((aH.new w #[.int .i64 a,.int .i64 b] 28).alloc (.cells #[.bool s1,.slice ax lx cx,.bool s2,.slice az lz cz] 120)).alloc (.cells #[.bool false,.slice none 0 0,.bool false,.slice none 0 0] 120)
 have Q:=(aH.new (w.alloc (.cells #[.int .i64 a,.int .i64 b] 28)) #[.bool s1,.slice ax lx cx,.bool s2,.slice az lz cz] 120).alloc (.cells #[.bool false,.slice none 0 0,.bool false,.slice none 0 0] 120)
 rw [ui] at Q
 have R:=aH.new ((w.alloc (.cells #[.int .i64 a,.int .i64 b] 28)).alloc (.cells #[.bool s1,.slice ax lx cx,.bool s2,.slice az lz cz] 120)) #[.bool false,.slice none 0 0,.bool false,.slice none 0 0] 120
 rw [cZ] at R
 have B:=(((uk w.heap.size w).alloc (ul _) (.cells #[.int .i64 a,.int .i64 b] 28)).alloc (by rw [ui];omega) (.cells #[.bool s1,.slice ax lx cx,.bool s2,.slice az lz cz] 120)).alloc (by rw [cZ];omega) (.cells #[.bool false,.slice none 0 0,.bool false,.slice none 0 0] 120)
 have ox:=uh (aF.alloc (aF.alloc (aF.alloc hox.out (.cells #[.int .i64 a,.int .i64 b] 28)) (.cells #[.bool s1,.slice ax lx cx,.bool s2,.slice az lz cz] 120)) (.cells #[.bool false,.slice none 0 0,.bool false,.slice none 0 0] 120))
 have oz:=uh (aF.alloc (aF.alloc (aF.alloc hoz.out (.cells #[.int .i64 a,.int .i64 b] 28)) (.cells #[.bool s1,.slice ax lx cx,.bool s2,.slice az lz cz] 120)) (.cells #[.bool false,.slice none 0 0,.bool false,.slice none 0 0] 120))
 have hzw:w.heap.size+3≤(((w.alloc (.cells #[.int .i64 a,.int .i64 b] 28)).alloc (.cells #[.bool s1,.slice ax lx cx,.bool s2,.slice az lz cz] 120)).alloc (.cells #[.bool false,.slice none 0 0,.bool false,.slice none 0 0] 120)).heap.size:=by rw [ui,cZ];omega
 clear hox hoz
 generalize hw3:((w.alloc (.cells #[.int .i64 a,.int .i64 b] 28)).alloc (.cells #[.bool s1,.slice ax lx cx,.bool s2,.slice az lz cz] 120)).alloc (.cells #[.bool false,.slice none 0 0,.bool false,.slice none 0 0] 120)=wc at *
 replace PF:=uh PF
 replace PG:=uh PG
 replace PM:=uh PM
 replace PN:=uh PN
 replace PD1:=uh PD1
 replace PD2:=uh PD2
 replace PQ1:=uh PQ1
 replace PQ2:=uh PQ2
 replace PR1:=uh PR1
 replace PR2:=uh PR2
 replace PI1:=uh PI1
 replace PI2:=uh PI2
 replace eOk:=uh eOk
 replace eX:=uh eX
 replace eZ:=uh eZ
 replace hES:=uh hES
 clear hd1 hd2
 go_enter Tryz.func107,Tryz.ntmps107
 go_wp2
 go_upto_region 1 with fail
 refine Rg.bF 8 [.is (.agg #[.int .i64 a,.int .i64 b]),.is (.agg #[.bool s1,.slice ax lx cx,.bool s2,.slice az lz cz]),.at (aJ (wc.heap.size) (F)),.is (.agg #[.int .i64 a,.int .i64 b]),.is (.agg #[.bool s1,.slice ax lx cx,.bool s2,.slice az lz cz]),.at (aJ (wc.heap.size) (G)),.new (wc.heap.size) 106 #[.bool false,.slice none 0 0],.new (wc.heap.size) 106 #[.bool false,.slice none 0 0]] (by kernel_rfl) (by kernel_rfl) (by kernel_rfl) ⟨?_,?_,?_,?_,?_,?_,?_,?_,fun h_=>absurd h_ (by decide),fun h_=>absurd h_ (by decide),trivial⟩ ?_
 ·intro _ ac_ w_ hB hr
  have e2:ac_.tmps[2]?=some (.pointer (some ⟨w.heap.size,0,none⟩)):=hr 2 (by decide)
  have k0:=aE hB C.box.c0
  have k1:=aE hB C.box.c1
  exact Rg.aG rfl (by go_simp)
 ·intro _ ac_ w_ hB hr
  have e3:ac_.tmps[3]?=some (.pointer (some ⟨w.heap.size+1,0,none⟩)):=hr 3 (by decide)
  have k0:=aE hB Q.aR.c0
  have k1:=aE hB Q.aR.c1
  have k2:=aE hB Q.aR.c2
  have k3:=aE hB Q.aR.c3
  exact Rg.aG rfl (by go_simp)
 ·intro _ ac_ w_ hB hr
  have e14:=Rg.ev1 (hr 14 (by decide))
  have e15:=Rg.ev1 (hr 15 (by decide))
  have ef:=Rg.ef ac_
  refine Rg.aX rfl (by go_simp;exact ⟨rfl,rfl⟩) ?_
  refine (PF.out _ _ _ _ _ (aF.below ox.out hB) (aF.below oz.out hB)).mono ?_
  rintro e w5 ⟨sl5,rfl,ho5,hb5⟩
  exact ⟨_,rfl,aJ.at ho5 (by have:=hB.size;omega),hb5⟩
 ·intro _ ac_ w_ hB hr
  have e2:ac_.tmps[2]?=some (.pointer (some ⟨w.heap.size,0,none⟩)):=hr 2 (by decide)
  have k0:=aE hB C.box.c0
  have k1:=aE hB C.box.c1
  exact Rg.aG rfl (by go_simp)
 ·intro _ ac_ w_ hB hr
  have e3:ac_.tmps[3]?=some (.pointer (some ⟨w.heap.size+1,0,none⟩)):=hr 3 (by decide)
  have k0:=aE hB Q.aR.c0
  have k1:=aE hB Q.aR.c1
  have k2:=aE hB Q.aR.c2
  have k3:=aE hB Q.aR.c3
  exact Rg.aG rfl (by go_simp)
 ·intro _ ac_ w_ hB hr
  have e17:=Rg.ev1 (hr 17 (by decide))
  have e18:=Rg.ev1 (hr 18 (by decide))
  have ef:=Rg.ef ac_
  refine Rg.aX rfl (by go_simp;exact ⟨rfl,rfl⟩) ?_
  refine (PG.out _ _ _ _ _ (aF.below ox.out hB) (aF.below oz.out hB)).mono ?_
  rintro e w5 ⟨sl5,rfl,ho5,hb5⟩
  exact ⟨_,rfl,aJ.at ho5 (by have:=hB.size;omega),hb5⟩
 ·intro _ ac_ w_ hB hr
  exact ⟨by have:=hB.size;omega,rfl,by first | (go_simp;done) | (go_simp;rfl)⟩
 ·intro _ ac_ w_ hB hr
  exact ⟨by have:=hB.size;omega,rfl,by first | (go_simp;done) | (go_simp;rfl)⟩
 intro vals wz hB hv hne
 have n6:(Rg.Val.new (wc.heap.size) 106 #[.bool false,.slice none 0 0]).ok (vals 6) wz:=hv 6 (by decide)
 have n7:(Rg.Val.new (wc.heap.size) 106 #[.bool false,.slice none 0 0]).ok (vals 7) wz:=hv 7 (by decide)
 have n16:(Rg.Val.at (aJ (wc.heap.size) (F))).ok (vals 2) wz:=hv 2 (by decide)
 have n19:(Rg.Val.at (aJ (wc.heap.size) (G))).ok (vals 5) wz:=hv 5 (by decide)
 simp only [Rg.am,Rg.fill,Act.put,Nat.reduceAdd]
 clear hv
 have q6_7:=hne 6 7 (by decide) (by decide) (by decide) rfl rfl
 obtain ⟨g6,hg6,v_6,o6⟩:=n6
 replace o6:aH wz g6 106 #[.bool false,.slice none 0 0]:=o6
 obtain ⟨g7,hg7,v_7,o7⟩:=n7
 replace o7:aH wz g7 106 #[.bool false,.slice none 0 0]:=o7
 obtain ⟨s16,a16,l16,c16,hs16,v_2,o16⟩:=(Rg.aZ n16).view
 obtain ⟨s19,a19,l19,c19,hs19,v_5,o19⟩:=(Rg.aZ n19).view
 rw [v_6,v_7] at q6_7
 have d6_7:g6≠g7:=fun e=>q6_7 (by rw [e])
 simp only [v_6,v_7,v_2,v_5]
 clear v_6 v_7 v_2 v_5
 have d7_6:=d6_7.symm
 have hg6w:w.heap.size+3≤g6:=by omega
 have hg7w:w.heap.size+3≤g7:=by omega
 have hk6:w.heap.size≤g6:=by omega
 have hk7:w.heap.size≤g7:=by omega
 have hc6:w.heap.size≠g6:=by omega
 have hc7:w.heap.size≠g7:=by omega
 have hr6:w.heap.size+1+1≠g6:=by omega
 have hr7:w.heap.size+1+1≠g7:=by omega
 have V3:aH ((wz.setCell ⟨g6,0,none⟩ (.bool s16)).setCell ⟨g6,1,none⟩ (.slice a16 l16 c16)) g7 106 #[.bool false,.slice none 0 0]:=(o7.other d7_6 _).other d7_6 _
 have V:=aH.set2 V3 (.bool s19) (.slice a19 l19 c19)
 have U:aH ((((wz.setCell ⟨g6,0,none⟩ (.bool s16)).setCell ⟨g6,1,none⟩ (.slice a16 l16 c16)).setCell ⟨g7,0,none⟩ (.bool s19)).setCell ⟨g7,1,none⟩ (.slice a19 l19 c19)) g6 106 #[.bool s16,.slice a16 l16 c16]:=((aH.set2 o6 (.bool s16) (.slice a16 l16 c16)).other d6_7 _).other d6_7 _
 have oF:=uh (aF.base (aF.bC (aF.bC o16 o6 (by decide) (.bool s16) (.slice a16 l16 c16)) V3 (by decide) (.bool s19) (.slice a19 l19 c19)) B.size)
 have oG:=uh (aF.base (aF.bC (aF.bC o19 o6 (by decide) (.bool s16) (.slice a16 l16 c16)) V3 (by decide) (.bool s19) (.slice a19 l19 c19)) B.size)
 replace C:=((C.keep hB).bW hc6 (.bool s16) (.slice a16 l16 c16)).bW hc7 (.bool s19) (.slice a19 l19 c19)
 replace R:=((R.keep hB).bW hr6 (.bool s16) (.slice a16 l16 c16)).bW hr7 (.bool s19) (.slice a19 l19 c19)
 replace B:Below w.heap.size w ((((wz.setCell ⟨g6,0,none⟩ (.bool s16)).setCell ⟨g6,1,none⟩ (.slice a16 l16 c16)).setCell ⟨g7,0,none⟩ (.bool s19)).setCell ⟨g7,1,none⟩ (.slice a19 l19 c19)):=uj (uj (uj (uj (B.trans (hB.mono B.size)) hk6 _) hk6 _) hk7 _) hk7 _
 have ⟨p0,p1,q0,q1,_⟩:=o6.box
 have ⟨p2,p3,q2,q3,_⟩:=o7.box
 unfold Rg.aV Rg.aV Rg.aV Oper.wp
 go_simp
 clear p0 p1 q0 q1 p2 p3 q2 q3 V3 o6 o7 o16 o19 hB q6_7 Q ox oz hzw hg6 hg7 hg6w hg7w
 generalize ((((wz.setCell ⟨g6,0,none⟩ (.bool s16)).setCell ⟨g6,1,none⟩ (.slice a16 l16 c16)).setCell ⟨g7,0,none⟩ (.bool s19)).setCell ⟨g7,1,none⟩ (.slice a19 l19 c19))=wd at *
 have C_c0:=C.box.c0
 have C_c1:=C.box.c1
 have U_c0:=U.box.c0
 have U_c1:=U.box.c1
 have V_c0:=V.box.c0
 have V_c1:=V.box.c1
 have U_f0:=U.box.f0
 have U_f1:=U.box.f1
 have V_f0:=V.box.f0
 have V_f1:=V.box.f1
 have R_c0:=R.aR.c0
 have R_f0:=R.aR.f0
 have R_c1:=R.aR.c1
 have R_f1:=R.aR.f1
 have R_c2:=R.aR.c2
 have R_f2:=R.aR.f2
 have R_c3:=R.aR.c3
 have R_f3:=R.aR.f3
 have hs16n:=hs16
 have hs19n:=hs19
 have hl19:=aF.len oG.out
 by_cases h0:G=0
 ·have hl:l19=0:=by rw [hl19,h0];exact Wh.eG.2 rfl
  have hok:Wh.dX D F G=false:=by unfold Wh.dX;rw [h0];simp
  have hX:=eX.out
  have hZ:=eZ.out
  rw [hok,if_neg (by decide)] at hX hZ
  replace hX:=uh hX
  replace hZ:=uh hZ
  replace hok:=uh hok
  clear hl19 h0 hd eX eZ eOk PF PG PM PN PD1 PD2 PQ1 PQ2 PR1 PR2 PI1 PI2 hES hs16 hs19 hs16n hs19n hc6 hc7 hr6 hr7 hk6 hk7
  subst hl
  go_wp2
  exact bodyPost_ret (v:=.tuple #[.agg #[.bool false,.slice none 0 0,.bool false,.slice none 0 0],.bool false]) (by simp [results,Tryz.results107,go_sem, *]) rfl (⟨_,_,(by rw [hX.out,hZ.out,hok.out];rfl),(by rw [hX.out];exact eo _ _),(by rw [hZ.out];exact eo _ _),uj (uj (uj (uj B (by simp <;> omega) _) (by simp <;> omega) _) (by simp <;> omega) _) (by simp <;> omega) _⟩)
 have hlp:¬ l19=0:=fun h=>h0 (Wh.eG.1 (by rw [←hl19];exact h))
 have hlq:((l19:Int) == 0)=false:=by rw [beq_eq_false_iff_ne];omega
 have hX:=eX.out
 have hZ:=eZ.out
 have hO:=eOk.out h0
 rw [hO] at hX hZ
 clear hl19 h0 eX eZ eOk PF PG
 replace hd:=uh hd
 by_cases hneg:G<0
 ·have hsg:decide (G<0)=true:=decide_eq_true hneg
  rw [if_pos hneg,if_pos hneg] at hX hZ hO
  obtain rfl:s19=true:=by rw [hs19.out];exact hsg
  have hES2:=hES.out
  rw [hsg] at hES2
  clear hES hs19 hs19n hs16n
  replace PM:=PM.out
  rw [←hs16.out] at PM
  replace PM:=uh PM
  replace PN:=PN.out
  rw [hsg] at PN
  replace PN:=uh PN
  clear PD1 PQ1 PR1 PI1
  replace PD2:=PD2.out
  replace PQ2:=PQ2.out
  replace PR2:=PR2.out
  replace PI2:=PI2.out
  replace PN:=PN.out
  replace PM:=PM.out
  generalize hs5:decide (-F<0)=s5 at *
  generalize hs6:decide (-G<0)=s6 at *
  generalize -F % (d:Int)=rF at *
  generalize -G % (d:Int)=rG at *
  generalize hN:-(F / (d:Int))=N at *
  generalize hE:-(G / (d:Int))=E at *
  clear hN
  clear hE
  generalize hsN:decide (N<0)=sN at *
  generalize hsE:decide (E<0)=sE at *
  replace PD2:=uh PD2
  replace PQ2:=uh PQ2
  replace PR2:=uh PR2
  replace PI2:=uh PI2
  replace PM:=uh PM
  replace PN:=uh PN
  replace hsN:=uh hsN
  replace hsE:=uh hsE
  clear hES2 hs5 hs6
  clear hneg hsg hd
  by_cases hok:Wh.cR N E=true
  ·skip
   rw [hok] at hX hZ hO
   rw [if_pos rfl] at hX hZ
   have hq:=hok
   replace hok:=uh hO
   replace hq:=uh hq
   replace hX:=uh hX
   replace hZ:=uh hZ
   clear hO
   go_wp2_with (first
    | (go_at_call 129;(with_reducible refine (PM.out _ _ _ oF.out).mono ?_);rintro e w4 ⟨v4,rfl,ho4,hb4⟩;(have zb_:=B.size);(replace C:=C.keep hb4);(replace R:=R.keep hb4);(replace U:=U.keep hb4);(replace V:=V.keep hb4);(replace oF:=kO oF hb4);(replace oG:=kO oG hb4);(replace B:=B.trans (hb4.mono B.size));obtain ⟨a4,c4,rfl,hm_,hv_⟩:=aF.view ho4;(clear hm_ hv_);(have oF2:=uh (aF.base (show aF _ _ _ _ from ho4) zb_));(clear ho4);(generalize (Wh.dig (-F).natAbs).length=l4 at *);(clear zb_);(have pU_c0:=U.box.c0);(have pU_c1:=U.box.c1);(have pU_f0:=U.box.f0);(have pU_f1:=U.box.f1);(replace oF:=sO oF U (by decide) (.bool s5) (.slice a4 l4 c4));(replace oG:=sO oG U (by decide) (.bool s5) (.slice a4 l4 c4));(replace oF2:=sO oF2 U (by decide) (.bool s5) (.slice a4 l4 c4));(replace C:=C.bW hc6 (.bool s5) (.slice a4 l4 c4));(replace R:=R.bW hr6 (.bool s5) (.slice a4 l4 c4));(replace V:=V.bW d7_6 (.bool s5) (.slice a4 l4 c4));(replace U:=aH.set2 U (.bool s5) (.slice a4 l4 c4));(replace B:=dC B hk6 (.bool s5) (.slice a4 l4 c4));(replace ⟨C_c0,C_c1⟩:=C.b2);(replace ⟨R_c0,R_c1,R_c2,R_c3,R_f0,R_f1,R_f2,R_f3⟩:=R.b4f);(replace ⟨U_c0,U_c1,U_f0,U_f1⟩:=U.b2f);(replace ⟨V_c0,V_c1,V_f0,V_f1⟩:=V.b2f))
    | (go_at_call 129;(with_reducible refine (PN.out _ _ _ oG.out).mono ?_);rintro e w5 ⟨v5,rfl,ho5,hb5⟩;(have zb_:=B.size);(replace C:=C.keep hb5);(replace R:=R.keep hb5);(replace U:=U.keep hb5);(replace V:=V.keep hb5);(replace oF:=kO oF hb5);(replace oG:=kO oG hb5);(replace oF2:=kO oF2 hb5);(replace B:=B.trans (hb5.mono B.size));obtain ⟨a5,c5,rfl,hm_,hv_⟩:=aF.view ho5;(clear hm_ hv_);(have oG2:=uh (aF.base (show aF _ _ _ _ from ho5) zb_));(clear ho5);(generalize (Wh.dig (-G).natAbs).length=l5 at *);(clear zb_);(have pV_c0:=V.box.c0);(have pV_c1:=V.box.c1);(have pV_f0:=V.box.f0);(have pV_f1:=V.box.f1);(replace oF:=sO oF V (by decide) (.bool s6) (.slice a5 l5 c5));(replace oG:=sO oG V (by decide) (.bool s6) (.slice a5 l5 c5));(replace oF2:=sO oF2 V (by decide) (.bool s6) (.slice a5 l5 c5));(replace oG2:=sO oG2 V (by decide) (.bool s6) (.slice a5 l5 c5));(replace C:=C.bW hc7 (.bool s6) (.slice a5 l5 c5));(replace R:=R.bW hr7 (.bool s6) (.slice a5 l5 c5));(replace U:=U.bW d6_7 (.bool s6) (.slice a5 l5 c5));(replace V:=aH.set2 V (.bool s6) (.slice a5 l5 c5));(replace B:=dC B hk7 (.bool s6) (.slice a5 l5 c5));(replace ⟨C_c0,C_c1⟩:=C.b2);(replace ⟨R_c0,R_c1,R_c2,R_c3,R_f0,R_f1,R_f2,R_f3⟩:=R.b4f);(replace ⟨U_c0,U_c1,U_f0,U_f1⟩:=U.b2f);(replace ⟨V_c0,V_c1,V_f0,V_f1⟩:=V.b2f))
    | (go_at_call 130;(with_reducible refine (PD2.out _ _ _ _ _ oF2.out oG2.out).mono ?_);rintro e w6 ⟨rfl,hb6⟩;(replace C:=C.keep hb6);(replace R:=R.keep hb6);(replace U:=U.keep hb6);(replace V:=V.keep hb6);(replace oF:=kO oF hb6);(replace oG:=kO oG hb6);(replace oF2:=kO oF2 hb6);(replace oG2:=kO oG2 hb6);(replace B:=B.trans (hb6.mono B.size));(replace ⟨C_c0,C_c1⟩:=C.b2);(replace ⟨R_c0,R_c1,R_c2,R_c3,R_f0,R_f1,R_f2,R_f3⟩:=R.b4f);(replace ⟨U_c0,U_c1,U_f0,U_f1⟩:=U.b2f);(replace ⟨V_c0,V_c1,V_f0,V_f1⟩:=V.b2f))
    | (go_at_call 131;(with_reducible refine (PQ2.out _ _ _ oF2.out).mono ?_);rintro e w8 ⟨v8,rfl,ho8,hb8⟩;(have zb_:=B.size);(replace C:=C.keep hb8);(replace R:=R.keep hb8);(replace U:=U.keep hb8);(replace V:=V.keep hb8);(replace oF:=kO oF hb8);(replace oG:=kO oG hb8);(replace oF2:=kO oF2 hb8);(replace oG2:=kO oG2 hb8);(replace B:=B.trans (hb8.mono B.size));obtain ⟨a8,c8,rfl,hm_,hv_⟩:=aF.view ho8;(clear hm_ hv_);(have on:=uh (aF.base (show aF _ _ _ _ from ho8) zb_));(clear ho8);(generalize (Wh.dig N.natAbs).length=ln at *);(clear zb_);(have N_:=aH.new w8 #[.bool sN,.slice a8 ln c8] 106);(have b_:=bA w8 (.cells #[.bool sN,.slice a8 ln c8] 106));(replace C:=C.keep b_);(replace R:=R.keep b_);(replace U:=U.keep b_);(replace V:=V.keep b_);(replace oF:=kO oF b_);(replace oG:=kO oG b_);(replace oF2:=kO oF2 b_);(replace oG2:=kO oG2 b_);(replace on:=kO on b_);(replace B:=B.trans (b_.mono B.size));(clear b_);(replace ⟨C_c0,C_c1⟩:=C.b2);(replace ⟨R_c0,R_c1,R_c2,R_c3,R_f0,R_f1,R_f2,R_f3⟩:=R.b4f);(replace ⟨U_c0,U_c1,U_f0,U_f1⟩:=U.b2f);(replace ⟨V_c0,V_c1,V_f0,V_f1⟩:=V.b2f);(replace ⟨N__c0,N__c1⟩:=N_.b2))
    | (go_at_call 131;(with_reducible refine (PR2.out _ _ _ oG2.out).mono ?_);rintro e w9 ⟨v9,rfl,ho9,hb9⟩;(have zb_:=B.size);(replace C:=C.keep hb9);(replace R:=R.keep hb9);(replace U:=U.keep hb9);(replace V:=V.keep hb9);(replace N_:=N_.keep hb9);(replace oF:=kO oF hb9);(replace oG:=kO oG hb9);(replace oF2:=kO oF2 hb9);(replace oG2:=kO oG2 hb9);(replace on:=kO on hb9);(replace B:=B.trans (hb9.mono B.size));obtain ⟨a9,c9,rfl,hm_,hv_⟩:=aF.view ho9;(clear hm_ hv_);(have oe:=uh (aF.base (show aF _ _ _ _ from ho9) zb_));(clear ho9);(generalize (Wh.dig E.natAbs).length=le at *);(clear zb_);(have E_:=aH.new w9 #[.bool sE,.slice a9 le c9] 106);(have b_:=bA w9 (.cells #[.bool sE,.slice a9 le c9] 106));(replace C:=C.keep b_);(replace R:=R.keep b_);(replace U:=U.keep b_);(replace V:=V.keep b_);(replace N_:=N_.keep b_);(replace oF:=kO oF b_);(replace oG:=kO oG b_);(replace oF2:=kO oF2 b_);(replace oG2:=kO oG2 b_);(replace on:=kO on b_);(replace oe:=kO oe b_);(replace B:=B.trans (b_.mono B.size));(clear b_);(replace ⟨C_c0,C_c1⟩:=C.b2);(replace ⟨R_c0,R_c1,R_c2,R_c3,R_f0,R_f1,R_f2,R_f3⟩:=R.b4f);(replace ⟨U_c0,U_c1,U_f0,U_f1⟩:=U.b2f);(replace ⟨V_c0,V_c1,V_f0,V_f1⟩:=V.b2f);(replace ⟨N__c0,N__c1⟩:=N_.b2);(replace ⟨E__c0,E__c1⟩:=E_.b2);(have O:=aH.new (w9.alloc (.cells #[.bool sE,.slice a9 le c9] 106)) #[.bool sN,.slice a8 ln c8,.bool sE,.slice a9 le c9] 120);(have b_:=bA (w9.alloc (.cells #[.bool sE,.slice a9 le c9] 106)) (.cells #[.bool sN,.slice a8 ln c8,.bool sE,.slice a9 le c9] 120));(replace C:=C.keep b_);(replace R:=R.keep b_);(replace U:=U.keep b_);(replace V:=V.keep b_);(replace N_:=N_.keep b_);(replace E_:=E_.keep b_);(replace oF:=kO oF b_);(replace oG:=kO oG b_);(replace oF2:=kO oF2 b_);(replace oG2:=kO oG2 b_);(replace on:=kO on b_);(replace oe:=kO oe b_);(replace B:=B.trans (b_.mono B.size));(clear b_);(rw [ui] at O))
    | (go_at_call 132;(with_reducible refine (PI2.out _ _ _ _ _ on.out oe.out).mono ?_);rintro e w10 ⟨rfl,hb10⟩;(simp only [hq.out]);(replace C:=C.keep hb10);(replace R:=R.keep hb10);(replace U:=U.keep hb10);(replace V:=V.keep hb10);(replace N_:=N_.keep hb10);(replace E_:=E_.keep hb10);(replace O:=O.keep hb10);(replace oF:=kO oF hb10);(replace oG:=kO oG hb10);(replace oF2:=kO oF2 hb10);(replace oG2:=kO oG2 hb10);(replace on:=kO on hb10);(replace oe:=kO oe hb10);(replace B:=B.trans (hb10.mono B.size));(replace ⟨C_c0,C_c1⟩:=C.b2);(replace ⟨R_c0,R_c1,R_c2,R_c3,R_f0,R_f1,R_f2,R_f3⟩:=R.b4f);(replace ⟨U_c0,U_c1⟩:=U.b2);(replace ⟨V_c0,V_c1⟩:=V.b2);(replace ⟨N__c0,N__c1⟩:=N_.b2);(replace ⟨E__c0,E__c1⟩:=E_.b2);(replace ⟨O_c0,O_c1,O_c2,O_c3⟩:=O.b4)))
   have hr1:=aF.base (aF.dB on.out R (by decide) (.bool sN) (.slice a8 ln c8) (.bool sE) (.slice a9 le c9)) (base':=w.heap.size) (ul _)
   have hr2:=aF.base (aF.dB oe.out R (by decide) (.bool sN) (.slice a8 ln c8) (.bool sE) (.slice a9 le c9)) (base':=w.heap.size) (ul _)
   exact bodyPost_ret (v:=.tuple #[.agg #[.bool sN,.slice a8 ln c8,.bool sE,.slice a9 le c9],.bool true]) (by simp [results,Tryz.results107,go_sem, *]) rfl (⟨_,_,(by rw [hX.out,hZ.out,hok.out,hsN.out,hsE.out]),(by rw [hX.out];exact hr1),(by rw [hZ.out];exact hr2),uj (uj (uj (uj B (by simp <;> omega) _) (by simp <;> omega) _) (by simp <;> omega) _) (by simp <;> omega) _⟩)
  replace hok:Wh.cR N E=false:=by simpa using hok
  rw [hok] at hX hZ hO
  rw [if_neg (by decide)] at hX hZ
  have hq:=hok
  replace hok:=uh hO
  replace hq:=uh hq
  replace hX:=uh hX
  replace hZ:=uh hZ
  clear hO
  go_wp2_with (first
   | (go_at_call 129;(with_reducible refine (PM.out _ _ _ oF.out).mono ?_);rintro e w4 ⟨v4,rfl,ho4,hb4⟩;(have zb_:=B.size);(replace C:=C.keep hb4);(replace R:=R.keep hb4);(replace U:=U.keep hb4);(replace V:=V.keep hb4);(replace oF:=kO oF hb4);(replace oG:=kO oG hb4);(replace B:=B.trans (hb4.mono B.size));obtain ⟨a4,c4,rfl,hm_,hv_⟩:=aF.view ho4;(clear hm_ hv_);(have oF2:=uh (aF.base (show aF _ _ _ _ from ho4) zb_));(clear ho4);(generalize (Wh.dig (-F).natAbs).length=l4 at *);(clear zb_);(have pU_c0:=U.box.c0);(have pU_c1:=U.box.c1);(have pU_f0:=U.box.f0);(have pU_f1:=U.box.f1);(replace oF:=sO oF U (by decide) (.bool s5) (.slice a4 l4 c4));(replace oG:=sO oG U (by decide) (.bool s5) (.slice a4 l4 c4));(replace oF2:=sO oF2 U (by decide) (.bool s5) (.slice a4 l4 c4));(replace C:=C.bW hc6 (.bool s5) (.slice a4 l4 c4));(replace R:=R.bW hr6 (.bool s5) (.slice a4 l4 c4));(replace V:=V.bW d7_6 (.bool s5) (.slice a4 l4 c4));(replace U:=aH.set2 U (.bool s5) (.slice a4 l4 c4));(replace B:=dC B hk6 (.bool s5) (.slice a4 l4 c4));(replace ⟨C_c0,C_c1⟩:=C.b2);(replace ⟨R_c0,R_c1,R_c2,R_c3,R_f0,R_f1,R_f2,R_f3⟩:=R.b4f);(replace ⟨U_c0,U_c1,U_f0,U_f1⟩:=U.b2f);(replace ⟨V_c0,V_c1,V_f0,V_f1⟩:=V.b2f))
   | (go_at_call 129;(with_reducible refine (PN.out _ _ _ oG.out).mono ?_);rintro e w5 ⟨v5,rfl,ho5,hb5⟩;(have zb_:=B.size);(replace C:=C.keep hb5);(replace R:=R.keep hb5);(replace U:=U.keep hb5);(replace V:=V.keep hb5);(replace oF:=kO oF hb5);(replace oG:=kO oG hb5);(replace oF2:=kO oF2 hb5);(replace B:=B.trans (hb5.mono B.size));obtain ⟨a5,c5,rfl,hm_,hv_⟩:=aF.view ho5;(clear hm_ hv_);(have oG2:=uh (aF.base (show aF _ _ _ _ from ho5) zb_));(clear ho5);(generalize (Wh.dig (-G).natAbs).length=l5 at *);(clear zb_);(have pV_c0:=V.box.c0);(have pV_c1:=V.box.c1);(have pV_f0:=V.box.f0);(have pV_f1:=V.box.f1);(replace oF:=sO oF V (by decide) (.bool s6) (.slice a5 l5 c5));(replace oG:=sO oG V (by decide) (.bool s6) (.slice a5 l5 c5));(replace oF2:=sO oF2 V (by decide) (.bool s6) (.slice a5 l5 c5));(replace oG2:=sO oG2 V (by decide) (.bool s6) (.slice a5 l5 c5));(replace C:=C.bW hc7 (.bool s6) (.slice a5 l5 c5));(replace R:=R.bW hr7 (.bool s6) (.slice a5 l5 c5));(replace U:=U.bW d6_7 (.bool s6) (.slice a5 l5 c5));(replace V:=aH.set2 V (.bool s6) (.slice a5 l5 c5));(replace B:=dC B hk7 (.bool s6) (.slice a5 l5 c5));(replace ⟨C_c0,C_c1⟩:=C.b2);(replace ⟨R_c0,R_c1,R_c2,R_c3,R_f0,R_f1,R_f2,R_f3⟩:=R.b4f);(replace ⟨U_c0,U_c1,U_f0,U_f1⟩:=U.b2f);(replace ⟨V_c0,V_c1,V_f0,V_f1⟩:=V.b2f))
   | (go_at_call 130;(with_reducible refine (PD2.out _ _ _ _ _ oF2.out oG2.out).mono ?_);rintro e w6 ⟨rfl,hb6⟩;(replace C:=C.keep hb6);(replace R:=R.keep hb6);(replace U:=U.keep hb6);(replace V:=V.keep hb6);(replace oF:=kO oF hb6);(replace oG:=kO oG hb6);(replace oF2:=kO oF2 hb6);(replace oG2:=kO oG2 hb6);(replace B:=B.trans (hb6.mono B.size));(replace ⟨C_c0,C_c1⟩:=C.b2);(replace ⟨R_c0,R_c1,R_c2,R_c3,R_f0,R_f1,R_f2,R_f3⟩:=R.b4f);(replace ⟨U_c0,U_c1,U_f0,U_f1⟩:=U.b2f);(replace ⟨V_c0,V_c1,V_f0,V_f1⟩:=V.b2f))
   | (go_at_call 131;(with_reducible refine (PQ2.out _ _ _ oF2.out).mono ?_);rintro e w8 ⟨v8,rfl,ho8,hb8⟩;(have zb_:=B.size);(replace C:=C.keep hb8);(replace R:=R.keep hb8);(replace U:=U.keep hb8);(replace V:=V.keep hb8);(replace oF:=kO oF hb8);(replace oG:=kO oG hb8);(replace oF2:=kO oF2 hb8);(replace oG2:=kO oG2 hb8);(replace B:=B.trans (hb8.mono B.size));obtain ⟨a8,c8,rfl,hm_,hv_⟩:=aF.view ho8;(clear hm_ hv_);(have on:=uh (aF.base (show aF _ _ _ _ from ho8) zb_));(clear ho8);(generalize (Wh.dig N.natAbs).length=ln at *);(clear zb_);(have N_:=aH.new w8 #[.bool sN,.slice a8 ln c8] 106);(have b_:=bA w8 (.cells #[.bool sN,.slice a8 ln c8] 106));(replace C:=C.keep b_);(replace R:=R.keep b_);(replace U:=U.keep b_);(replace V:=V.keep b_);(replace oF:=kO oF b_);(replace oG:=kO oG b_);(replace oF2:=kO oF2 b_);(replace oG2:=kO oG2 b_);(replace on:=kO on b_);(replace B:=B.trans (b_.mono B.size));(clear b_);(replace ⟨C_c0,C_c1⟩:=C.b2);(replace ⟨R_c0,R_c1,R_c2,R_c3,R_f0,R_f1,R_f2,R_f3⟩:=R.b4f);(replace ⟨U_c0,U_c1,U_f0,U_f1⟩:=U.b2f);(replace ⟨V_c0,V_c1,V_f0,V_f1⟩:=V.b2f);(replace ⟨N__c0,N__c1⟩:=N_.b2))
   | (go_at_call 131;(with_reducible refine (PR2.out _ _ _ oG2.out).mono ?_);rintro e w9 ⟨v9,rfl,ho9,hb9⟩;(have zb_:=B.size);(replace C:=C.keep hb9);(replace R:=R.keep hb9);(replace U:=U.keep hb9);(replace V:=V.keep hb9);(replace N_:=N_.keep hb9);(replace oF:=kO oF hb9);(replace oG:=kO oG hb9);(replace oF2:=kO oF2 hb9);(replace oG2:=kO oG2 hb9);(replace on:=kO on hb9);(replace B:=B.trans (hb9.mono B.size));obtain ⟨a9,c9,rfl,hm_,hv_⟩:=aF.view ho9;(clear hm_ hv_);(have oe:=uh (aF.base (show aF _ _ _ _ from ho9) zb_));(clear ho9);(generalize (Wh.dig E.natAbs).length=le at *);(clear zb_);(have E_:=aH.new w9 #[.bool sE,.slice a9 le c9] 106);(have b_:=bA w9 (.cells #[.bool sE,.slice a9 le c9] 106));(replace C:=C.keep b_);(replace R:=R.keep b_);(replace U:=U.keep b_);(replace V:=V.keep b_);(replace N_:=N_.keep b_);(replace oF:=kO oF b_);(replace oG:=kO oG b_);(replace oF2:=kO oF2 b_);(replace oG2:=kO oG2 b_);(replace on:=kO on b_);(replace oe:=kO oe b_);(replace B:=B.trans (b_.mono B.size));(clear b_);(replace ⟨C_c0,C_c1⟩:=C.b2);(replace ⟨R_c0,R_c1,R_c2,R_c3,R_f0,R_f1,R_f2,R_f3⟩:=R.b4f);(replace ⟨U_c0,U_c1,U_f0,U_f1⟩:=U.b2f);(replace ⟨V_c0,V_c1,V_f0,V_f1⟩:=V.b2f);(replace ⟨N__c0,N__c1⟩:=N_.b2);(replace ⟨E__c0,E__c1⟩:=E_.b2);(have O:=aH.new (w9.alloc (.cells #[.bool sE,.slice a9 le c9] 106)) #[.bool sN,.slice a8 ln c8,.bool sE,.slice a9 le c9] 120);(have b_:=bA (w9.alloc (.cells #[.bool sE,.slice a9 le c9] 106)) (.cells #[.bool sN,.slice a8 ln c8,.bool sE,.slice a9 le c9] 120));(replace C:=C.keep b_);(replace R:=R.keep b_);(replace U:=U.keep b_);(replace V:=V.keep b_);(replace N_:=N_.keep b_);(replace E_:=E_.keep b_);(replace oF:=kO oF b_);(replace oG:=kO oG b_);(replace oF2:=kO oF2 b_);(replace oG2:=kO oG2 b_);(replace on:=kO on b_);(replace oe:=kO oe b_);(replace B:=B.trans (b_.mono B.size));(clear b_);(rw [ui] at O))
   | (go_at_call 132;(with_reducible refine (PI2.out _ _ _ _ _ on.out oe.out).mono ?_);rintro e w10 ⟨rfl,hb10⟩;(simp only [hq.out]);(replace C:=C.keep hb10);(replace R:=R.keep hb10);(replace U:=U.keep hb10);(replace V:=V.keep hb10);(replace N_:=N_.keep hb10);(replace E_:=E_.keep hb10);(replace O:=O.keep hb10);(replace oF:=kO oF hb10);(replace oG:=kO oG hb10);(replace oF2:=kO oF2 hb10);(replace oG2:=kO oG2 hb10);(replace on:=kO on hb10);(replace oe:=kO oe hb10);(replace B:=B.trans (hb10.mono B.size));(replace ⟨C_c0,C_c1⟩:=C.b2);(replace ⟨R_c0,R_c1,R_c2,R_c3,R_f0,R_f1,R_f2,R_f3⟩:=R.b4f);(replace ⟨U_c0,U_c1⟩:=U.b2);(replace ⟨V_c0,V_c1⟩:=V.b2);(replace ⟨N__c0,N__c1⟩:=N_.b2);(replace ⟨E__c0,E__c1⟩:=E_.b2);(replace ⟨O_c0,O_c1,O_c2,O_c3⟩:=O.b4)))
  exact bodyPost_ret (v:=.tuple #[.agg #[.bool false,.slice none 0 0,.bool false,.slice none 0 0],.bool false]) (by simp [results,Tryz.results107,go_sem, *]) rfl (⟨_,_,(by rw [hX.out,hZ.out,hok.out];rfl),(by rw [hX.out];exact eo _ _),(by rw [hZ.out];exact eo _ _),uj (uj (uj (uj B (by simp <;> omega) _) (by simp <;> omega) _) (by simp <;> omega) _) (by simp <;> omega) _⟩)
 have hsg:decide (G<0)=false:=decide_eq_false hneg
 rw [if_neg hneg,if_neg hneg] at hX hZ hO
 obtain rfl:s19=false:=by rw [hs19.out];exact hsg
 have hES2:=hES.out
 rw [hsg] at hES2
 clear hES hs19 hs19n hs16n
 clear PM PN PD2 PQ2 PR2 PI2
 replace PD1:=PD1.out
 replace PQ1:=PQ1.out
 replace PR1:=PR1.out
 replace PI1:=PI1.out
 simp only [←hs16.out,hsg] at PD1 PQ1
 simp only [hsg] at PR1
 generalize F % (d:Int)=rF at *
 generalize G % (d:Int)=rG at *
 generalize hN:F / (d:Int)=N at *
 generalize hE:G / (d:Int)=E at *
 clear hN
 subst hE
 simp only [hES2] at PR1 PI1
 generalize hE:G / (d:Int)=E at *
 clear hE
 generalize hsN:decide (N<0)=sN at *
 skip
 replace PD1:=uh PD1
 replace PQ1:=uh PQ1
 replace PR1:=uh PR1
 replace PI1:=uh PI1
 replace hsN:=uh hsN
 replace hsE:=uh hES2
 clear hES2
 clear hneg hsg hd
 by_cases hok:Wh.cR N E=true
 ·skip
  rw [hok] at hX hZ hO
  rw [if_pos rfl] at hX hZ
  have hq:=hok
  replace hok:=uh hO
  replace hq:=uh hq
  replace hX:=uh hX
  replace hZ:=uh hZ
  clear hO
  go_wp2_with (first
   | (go_at_call 130;(with_reducible refine (PD1.out _ _ _ _ _ oF.out oG.out).mono ?_);rintro e w6 ⟨rfl,hb6⟩;(replace C:=C.keep hb6);(replace R:=R.keep hb6);(replace U:=U.keep hb6);(replace V:=V.keep hb6);(replace oF:=kO oF hb6);(replace oG:=kO oG hb6);(replace B:=B.trans (hb6.mono B.size));(replace ⟨C_c0,C_c1⟩:=C.b2);(replace ⟨R_c0,R_c1,R_c2,R_c3,R_f0,R_f1,R_f2,R_f3⟩:=R.b4f);(replace ⟨U_c0,U_c1,U_f0,U_f1⟩:=U.b2f);(replace ⟨V_c0,V_c1,V_f0,V_f1⟩:=V.b2f))
   | (go_at_call 131;(with_reducible refine (PQ1.out _ _ _ oF.out).mono ?_);rintro e w8 ⟨v8,rfl,ho8,hb8⟩;(have zb_:=B.size);(replace C:=C.keep hb8);(replace R:=R.keep hb8);(replace U:=U.keep hb8);(replace V:=V.keep hb8);(replace oF:=kO oF hb8);(replace oG:=kO oG hb8);(replace B:=B.trans (hb8.mono B.size));obtain ⟨a8,c8,rfl,hm_,hv_⟩:=aF.view ho8;(clear hm_ hv_);(have on:=uh (aF.base (show aF _ _ _ _ from ho8) zb_));(clear ho8);(generalize (Wh.dig N.natAbs).length=ln at *);(clear zb_);(have N_:=aH.new w8 #[.bool sN,.slice a8 ln c8] 106);(have b_:=bA w8 (.cells #[.bool sN,.slice a8 ln c8] 106));(replace C:=C.keep b_);(replace R:=R.keep b_);(replace U:=U.keep b_);(replace V:=V.keep b_);(replace oF:=kO oF b_);(replace oG:=kO oG b_);(replace on:=kO on b_);(replace B:=B.trans (b_.mono B.size));(clear b_);(replace ⟨C_c0,C_c1⟩:=C.b2);(replace ⟨R_c0,R_c1,R_c2,R_c3,R_f0,R_f1,R_f2,R_f3⟩:=R.b4f);(replace ⟨U_c0,U_c1,U_f0,U_f1⟩:=U.b2f);(replace ⟨V_c0,V_c1,V_f0,V_f1⟩:=V.b2f);(replace ⟨N__c0,N__c1⟩:=N_.b2))
   | (go_at_call 131;(with_reducible refine (PR1.out _ _ _ oG.out).mono ?_);rintro e w9 ⟨v9,rfl,ho9,hb9⟩;(have zb_:=B.size);(replace C:=C.keep hb9);(replace R:=R.keep hb9);(replace U:=U.keep hb9);(replace V:=V.keep hb9);(replace N_:=N_.keep hb9);(replace oF:=kO oF hb9);(replace oG:=kO oG hb9);(replace on:=kO on hb9);(replace B:=B.trans (hb9.mono B.size));obtain ⟨a9,c9,rfl,hm_,hv_⟩:=aF.view ho9;(clear hm_ hv_);(have oe:=uh (aF.base (show aF _ _ _ _ from ho9) zb_));(clear ho9);(generalize (Wh.dig E.natAbs).length=le at *);(clear zb_);(have E_:=aH.new w9 #[.bool false,.slice a9 le c9] 106);(have b_:=bA w9 (.cells #[.bool false,.slice a9 le c9] 106));(replace C:=C.keep b_);(replace R:=R.keep b_);(replace U:=U.keep b_);(replace V:=V.keep b_);(replace N_:=N_.keep b_);(replace oF:=kO oF b_);(replace oG:=kO oG b_);(replace on:=kO on b_);(replace oe:=kO oe b_);(replace B:=B.trans (b_.mono B.size));(clear b_);(replace ⟨C_c0,C_c1⟩:=C.b2);(replace ⟨R_c0,R_c1,R_c2,R_c3,R_f0,R_f1,R_f2,R_f3⟩:=R.b4f);(replace ⟨U_c0,U_c1,U_f0,U_f1⟩:=U.b2f);(replace ⟨V_c0,V_c1,V_f0,V_f1⟩:=V.b2f);(replace ⟨N__c0,N__c1⟩:=N_.b2);(replace ⟨E__c0,E__c1⟩:=E_.b2);(have O:=aH.new (w9.alloc (.cells #[.bool false,.slice a9 le c9] 106)) #[.bool sN,.slice a8 ln c8,.bool false,.slice a9 le c9] 120);(have b_:=bA (w9.alloc (.cells #[.bool false,.slice a9 le c9] 106)) (.cells #[.bool sN,.slice a8 ln c8,.bool false,.slice a9 le c9] 120));(replace C:=C.keep b_);(replace R:=R.keep b_);(replace U:=U.keep b_);(replace V:=V.keep b_);(replace N_:=N_.keep b_);(replace E_:=E_.keep b_);(replace oF:=kO oF b_);(replace oG:=kO oG b_);(replace on:=kO on b_);(replace oe:=kO oe b_);(replace B:=B.trans (b_.mono B.size));(clear b_);(rw [ui] at O))
   | (go_at_call 132;(with_reducible refine (PI1.out _ _ _ _ _ on.out oe.out).mono ?_);rintro e w10 ⟨rfl,hb10⟩;(simp only [hq.out]);(replace C:=C.keep hb10);(replace R:=R.keep hb10);(replace U:=U.keep hb10);(replace V:=V.keep hb10);(replace N_:=N_.keep hb10);(replace E_:=E_.keep hb10);(replace O:=O.keep hb10);(replace oF:=kO oF hb10);(replace oG:=kO oG hb10);(replace on:=kO on hb10);(replace oe:=kO oe hb10);(replace B:=B.trans (hb10.mono B.size));(replace ⟨C_c0,C_c1⟩:=C.b2);(replace ⟨R_c0,R_c1,R_c2,R_c3,R_f0,R_f1,R_f2,R_f3⟩:=R.b4f);(replace ⟨U_c0,U_c1⟩:=U.b2);(replace ⟨V_c0,V_c1⟩:=V.b2);(replace ⟨N__c0,N__c1⟩:=N_.b2);(replace ⟨E__c0,E__c1⟩:=E_.b2);(replace ⟨O_c0,O_c1,O_c2,O_c3⟩:=O.b4)))
  have hr1:=aF.base (aF.dB on.out R (by decide) (.bool sN) (.slice a8 ln c8) (.bool false) (.slice a9 le c9)) (base':=w.heap.size) (ul _)
  have hr2:=aF.base (aF.dB oe.out R (by decide) (.bool sN) (.slice a8 ln c8) (.bool false) (.slice a9 le c9)) (base':=w.heap.size) (ul _)
  exact bodyPost_ret (v:=.tuple #[.agg #[.bool sN,.slice a8 ln c8,.bool false,.slice a9 le c9],.bool true]) (by simp [results,Tryz.results107,go_sem, *]) rfl (⟨_,_,(by rw [hX.out,hZ.out,hok.out,hsN.out,hsE.out]),(by rw [hX.out];exact hr1),(by rw [hZ.out];exact hr2),uj (uj (uj (uj B (by simp <;> omega) _) (by simp <;> omega) _) (by simp <;> omega) _) (by simp <;> omega) _⟩)
 replace hok:Wh.cR N E=false:=by simpa using hok
 rw [hok] at hX hZ hO
 rw [if_neg (by decide)] at hX hZ
 have hq:=hok
 replace hok:=uh hO
 replace hq:=uh hq
 replace hX:=uh hX
 replace hZ:=uh hZ
 clear hO
 go_wp2_with (first
  | (go_at_call 130;(with_reducible refine (PD1.out _ _ _ _ _ oF.out oG.out).mono ?_);rintro e w6 ⟨rfl,hb6⟩;(replace C:=C.keep hb6);(replace R:=R.keep hb6);(replace U:=U.keep hb6);(replace V:=V.keep hb6);(replace oF:=kO oF hb6);(replace oG:=kO oG hb6);(replace B:=B.trans (hb6.mono B.size));(replace ⟨C_c0,C_c1⟩:=C.b2);(replace ⟨R_c0,R_c1,R_c2,R_c3,R_f0,R_f1,R_f2,R_f3⟩:=R.b4f);(replace ⟨U_c0,U_c1,U_f0,U_f1⟩:=U.b2f);(replace ⟨V_c0,V_c1,V_f0,V_f1⟩:=V.b2f))
  | (go_at_call 131;(with_reducible refine (PQ1.out _ _ _ oF.out).mono ?_);rintro e w8 ⟨v8,rfl,ho8,hb8⟩;(have zb_:=B.size);(replace C:=C.keep hb8);(replace R:=R.keep hb8);(replace U:=U.keep hb8);(replace V:=V.keep hb8);(replace oF:=kO oF hb8);(replace oG:=kO oG hb8);(replace B:=B.trans (hb8.mono B.size));obtain ⟨a8,c8,rfl,hm_,hv_⟩:=aF.view ho8;(clear hm_ hv_);(have on:=uh (aF.base (show aF _ _ _ _ from ho8) zb_));(clear ho8);(generalize (Wh.dig N.natAbs).length=ln at *);(clear zb_);(have N_:=aH.new w8 #[.bool sN,.slice a8 ln c8] 106);(have b_:=bA w8 (.cells #[.bool sN,.slice a8 ln c8] 106));(replace C:=C.keep b_);(replace R:=R.keep b_);(replace U:=U.keep b_);(replace V:=V.keep b_);(replace oF:=kO oF b_);(replace oG:=kO oG b_);(replace on:=kO on b_);(replace B:=B.trans (b_.mono B.size));(clear b_);(replace ⟨C_c0,C_c1⟩:=C.b2);(replace ⟨R_c0,R_c1,R_c2,R_c3,R_f0,R_f1,R_f2,R_f3⟩:=R.b4f);(replace ⟨U_c0,U_c1,U_f0,U_f1⟩:=U.b2f);(replace ⟨V_c0,V_c1,V_f0,V_f1⟩:=V.b2f);(replace ⟨N__c0,N__c1⟩:=N_.b2))
  | (go_at_call 131;(with_reducible refine (PR1.out _ _ _ oG.out).mono ?_);rintro e w9 ⟨v9,rfl,ho9,hb9⟩;(have zb_:=B.size);(replace C:=C.keep hb9);(replace R:=R.keep hb9);(replace U:=U.keep hb9);(replace V:=V.keep hb9);(replace N_:=N_.keep hb9);(replace oF:=kO oF hb9);(replace oG:=kO oG hb9);(replace on:=kO on hb9);(replace B:=B.trans (hb9.mono B.size));obtain ⟨a9,c9,rfl,hm_,hv_⟩:=aF.view ho9;(clear hm_ hv_);(have oe:=uh (aF.base (show aF _ _ _ _ from ho9) zb_));(clear ho9);(generalize (Wh.dig E.natAbs).length=le at *);(clear zb_);(have E_:=aH.new w9 #[.bool false,.slice a9 le c9] 106);(have b_:=bA w9 (.cells #[.bool false,.slice a9 le c9] 106));(replace C:=C.keep b_);(replace R:=R.keep b_);(replace U:=U.keep b_);(replace V:=V.keep b_);(replace N_:=N_.keep b_);(replace oF:=kO oF b_);(replace oG:=kO oG b_);(replace on:=kO on b_);(replace oe:=kO oe b_);(replace B:=B.trans (b_.mono B.size));(clear b_);(replace ⟨C_c0,C_c1⟩:=C.b2);(replace ⟨R_c0,R_c1,R_c2,R_c3,R_f0,R_f1,R_f2,R_f3⟩:=R.b4f);(replace ⟨U_c0,U_c1,U_f0,U_f1⟩:=U.b2f);(replace ⟨V_c0,V_c1,V_f0,V_f1⟩:=V.b2f);(replace ⟨N__c0,N__c1⟩:=N_.b2);(replace ⟨E__c0,E__c1⟩:=E_.b2);(have O:=aH.new (w9.alloc (.cells #[.bool false,.slice a9 le c9] 106)) #[.bool sN,.slice a8 ln c8,.bool false,.slice a9 le c9] 120);(have b_:=bA (w9.alloc (.cells #[.bool false,.slice a9 le c9] 106)) (.cells #[.bool sN,.slice a8 ln c8,.bool false,.slice a9 le c9] 120));(replace C:=C.keep b_);(replace R:=R.keep b_);(replace U:=U.keep b_);(replace V:=V.keep b_);(replace N_:=N_.keep b_);(replace E_:=E_.keep b_);(replace oF:=kO oF b_);(replace oG:=kO oG b_);(replace on:=kO on b_);(replace oe:=kO oe b_);(replace B:=B.trans (b_.mono B.size));(clear b_);(rw [ui] at O))
  | (go_at_call 132;(with_reducible refine (PI1.out _ _ _ _ _ on.out oe.out).mono ?_);rintro e w10 ⟨rfl,hb10⟩;(simp only [hq.out]);(replace C:=C.keep hb10);(replace R:=R.keep hb10);(replace U:=U.keep hb10);(replace V:=V.keep hb10);(replace N_:=N_.keep hb10);(replace E_:=E_.keep hb10);(replace O:=O.keep hb10);(replace oF:=kO oF hb10);(replace oG:=kO oG hb10);(replace on:=kO on hb10);(replace oe:=kO oe hb10);(replace B:=B.trans (hb10.mono B.size));(replace ⟨C_c0,C_c1⟩:=C.b2);(replace ⟨R_c0,R_c1,R_c2,R_c3,R_f0,R_f1,R_f2,R_f3⟩:=R.b4f);(replace ⟨U_c0,U_c1⟩:=U.b2);(replace ⟨V_c0,V_c1⟩:=V.b2);(replace ⟨N__c0,N__c1⟩:=N_.b2);(replace ⟨E__c0,E__c1⟩:=E_.b2);(replace ⟨O_c0,O_c1,O_c2,O_c3⟩:=O.b4)))
 exact bodyPost_ret (v:=.tuple #[.agg #[.bool false,.slice none 0 0,.bool false,.slice none 0 0],.bool false]) (by simp [results,Tryz.results107,go_sem, *]) rfl (⟨_,_,(by rw [hX.out,hZ.out,hok.out];rfl),(by rw [hX.out];exact eo _ _),(by rw [hZ.out];exact eo _ _),uj (uj (uj (uj B (by simp <;> omega) _) (by simp <;> omega) _) (by simp <;> omega) _) (by simp <;> omega) _⟩)
end
end Go.Proofs.YtgfkcoablfjbcaaGreatDoor
