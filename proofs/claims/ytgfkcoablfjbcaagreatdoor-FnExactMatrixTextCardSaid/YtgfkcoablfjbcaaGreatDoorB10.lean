/-
  Joined texts: contracts and plain lemmas.
-/
import Derived.Test.YtgfkcoablfjbcaaGreatDoorB1
import Derived.Test.YtgfkcoablfjbcaaGreatDoorB9
set_option linter.unusedSimpArgs false
set_option linter.unusedVariables false
set_option maxRecDepth 100000
set_option maxHeartbeats 8000000
namespace Go.Proofs.YtgfkcoablfjbcaaGreatDoor
section
open Go.RowKit
theorem jP (a b x z:Int) (vx vz:Value) (w:World) (bx bz:Nat) (hox:ae w bx vx x) (hoz:ae w bz vz z) (hx:Wh.sz x 1000) (hz:Wh.sz z 1000) (ha1:-1000≤a) (ha2:a≤1000) (hb1:-10000≤b) (hb2:b≤10000) :
  Calls Tryz.prog 106 #[.agg #[.int .i64 a,.int .i64 b],.agg #[.bool (decide (x<0)),vx,.bool (decide (z<0)),vz]] w fun e w'=>∃ sl,e=.returned (.agg #[.bool (decide (Wh.bD a b x z<0)),sl])∧ae w' w.heap.size sl (Wh.bD a b x z)∧Below w.heap.size w w':=by
 obtain ⟨ax,cx,rfl,-,-⟩:=aF.view hox
 obtain ⟨az,cz,rfl,-,-⟩:=aF.view hoz
 have m1:=Wh.ag hx hx
 have m0:=Wh.ag hz hz
 have m2:=Wh.ag m1 hx
 have m3:=Wh.ag hx m0
 have m4:=Wh.ag m3 (Wh.bS (n:=a) (by omega) (by omega))
 have m5:=Wh.fH (Wh.aN m2 (show 1000+1000+1000≤4000 by omega)) (Wh.aN m4 (show _≤4000 by omega))
 have m6:=Wh.ag hz m0
 have m7:=Wh.ag m6 (Wh.bS (n:=b) (by omega) (by omega))
 have m8:=Wh.fH (Wh.aN m5 (show 4000+1≤4100 by omega)) (Wh.aN m7 (show _≤4100 by omega))
 have m9:=Wh.ag hz m8
 have P0:=fun v W k (h:aF W k v (Wh.dig (z).natAbs))=>dS (z) v W k h (Wh.aU.2 (Wh.aN hz (by omega)))
 have P1:=fun v W k (h:aF W k v (Wh.dig (x).natAbs))=>dS (x) v W k h (Wh.aU.2 (Wh.aN hx (by omega)))
 have P2:=fun v v' W k k' (h:aF W k v (Wh.dig (x*x).natAbs)) (h':aF W k' v' (Wh.dig (x).natAbs))=>db (x*x) (x) v v' W k k' h h' (Wh.aU.2 (Wh.aN m1 (by omega))) (Wh.aU.2 (Wh.aN hx (by omega)))
 have P3:=fun v v' W k k' (h:aF W k v (Wh.dig (x).natAbs)) (h':aF W k' v' (Wh.dig (z*z).natAbs))=>db (x) (z*z) v v' W k k' h h' (Wh.aU.2 (Wh.aN hx (by omega))) (Wh.aU.2 (Wh.aN m0 (by omega)))
 have P4:=fun v W k (h:aF W k v (Wh.dig (x*(z*z)).natAbs))=>df (x*(z*z)) (a) v W k h (Wh.aU.2 (Wh.aN m3 (by omega))) (by omega) (by omega)
 have P5:=fun v v' W k k' (h:aF W k v (Wh.dig (x*x*x).natAbs)) (h':aF W k' v' (Wh.dig (x*(z*z)*a).natAbs))=>iC (x*x*x) (x*(z*z)*a) v v' W k k' h h' (Wh.aU.2 (Wh.aN m2 (by omega))) (Wh.aU.2 (Wh.aN m4 (by omega)))
 have P6:=fun v v' W k k' (h:aF W k v (Wh.dig (z).natAbs)) (h':aF W k' v' (Wh.dig (z*z).natAbs))=>db (z) (z*z) v v' W k k' h h' (Wh.aU.2 (Wh.aN hz (by omega))) (Wh.aU.2 (Wh.aN m0 (by omega)))
 have P7:=fun v W k (h:aF W k v (Wh.dig (z*(z*z)).natAbs))=>df (z*(z*z)) (b) v W k h (Wh.aU.2 (Wh.aN m6 (by omega))) (by omega) (by omega)
 have P8:=fun v v' W k k' (h:aF W k v (Wh.dig (x*x*x+x*(z*z)*a).natAbs)) (h':aF W k' v' (Wh.dig (z*(z*z)*b).natAbs))=>iC (x*x*x+x*(z*z)*a) (z*(z*z)*b) v v' W k k' h h' (Wh.aU.2 (Wh.aN m5 (by omega))) (Wh.aU.2 (Wh.aN m7 (by omega)))
 have P9:=fun v v' W k k' (h:aF W k v (Wh.dig (z).natAbs)) (h':aF W k' v' (Wh.dig (x*x*x+x*(z*z)*a+z*(z*z)*b).natAbs))=>db (z) (x*x*x+x*(z*z)*a+z*(z*z)*b) v v' W k k' h h' (Wh.aU.2 (Wh.aN hz (by omega))) (Wh.aU.2 (Wh.aN m8 (by omega)))
 have PA:=fun v W k (h:aF W k v (Wh.dig (z*(x*x*x+x*(z*z)*a+z*(z*z)*b)).natAbs))=>df (z*(x*x*x+x*(z*z)*a+z*(z*z)*b)) (4) v W k h (Wh.aU.2 (Wh.aN m9 (by omega))) (by omega) (by omega)
 have hT:=Wh.kq a b x z
 rw [hT] at PA
 clear hT m1 m0 m2 m3 m4 m5 m6 m7 m8 m9
 generalize Wh.bD a b x z=F at *
 generalize hGS2:x*x*x+x*(z*z)*a+z*(z*z)*b=S2 at *
 generalize hGS1:x*x*x+x*(z*z)*a=S1 at *
 generalize hGzb:z*(z*z)*b=zb at *
 generalize hGzc:z*(z*z)=zc at *
 generalize hGxa:x*(z*z)*a=xa at *
 generalize hGxz:x*(z*z)=xz at *
 generalize hGxc:x*x*x=xc at *
 generalize hGxq:x*x=xq at *
 generalize hGzq:z*z=zq at *
 generalize hGg:z*S2=zs2 at *
 clear hGS2 hGS1 hGzb hGzc hGxa hGxz hGxc hGxq hGzq hGg
 replace P0:=uh P0
 replace P1:=uh P1
 replace P2:=uh P2
 replace P3:=uh P3
 replace P4:=uh P4
 replace P5:=uh P5
 replace P6:=uh P6
 replace P7:=uh P7
 replace P8:=uh P8
 replace P9:=uh P9
 replace PA:=uh PA
 generalize hs1:decide (x<0)=s1 at *
 replace hs1:=uh hs1.symm
 generalize hs2:decide (z<0)=s2 at *
 replace hs2:=uh hs2.symm
 replace hox:=uh (show aF _ _ _ _ from hox)
 replace hoz:=uh (show aF _ _ _ _ from hoz)
 generalize (Wh.dig x.natAbs).length=lx at *
 generalize (Wh.dig z.natAbs).length=lz at *
 have b1:=((aH.new w #[.int .i64 a,.int .i64 b] 28).alloc (.cells #[.bool s1,.slice ax lx cx,.bool s2,.slice az lz cz] 120)).alloc (.cells #[.bool false,.slice none 0 0] 106)
 have b2:=(aH.new (w.alloc (.cells #[.int .i64 a,.int .i64 b] 28)) #[.bool s1,.slice ax lx cx,.bool s2,.slice az lz cz] 120).alloc (.cells #[.bool false,.slice none 0 0] 106)
 rw [ui] at b2
 have b3:=aH.new ((w.alloc (.cells #[.int .i64 a,.int .i64 b] 28)).alloc (.cells #[.bool s1,.slice ax lx cx,.bool s2,.slice az lz cz] 120)) #[.bool false,.slice none 0 0] 106
 rw [cZ] at b3
 have hB:=(((uk w.heap.size w).alloc (ul _) (.cells #[.int .i64 a,.int .i64 b] 28)).alloc (by rw [ui];omega) (.cells #[.bool s1,.slice ax lx cx,.bool s2,.slice az lz cz] 120)).alloc (by rw [cZ];omega) (.cells #[.bool false,.slice none 0 0] 106)
 have hz3:(((w.alloc (.cells #[.int .i64 a,.int .i64 b] 28)).alloc (.cells #[.bool s1,.slice ax lx cx,.bool s2,.slice az lz cz] 120)).alloc (.cells #[.bool false,.slice none 0 0] 106)).heap.size=w.heap.size+3:=by rw [ui,cZ]
 have hox3:=uh (aF.alloc (aF.alloc (aF.alloc hox.out (.cells #[.int .i64 a,.int .i64 b] 28)) (.cells #[.bool s1,.slice ax lx cx,.bool s2,.slice az lz cz] 120)) (.cells #[.bool false,.slice none 0 0] 106))
 have hoz3:=uh (aF.alloc (aF.alloc (aF.alloc hoz.out (.cells #[.int .i64 a,.int .i64 b] 28)) (.cells #[.bool s1,.slice ax lx cx,.bool s2,.slice az lz cz] 120)) (.cells #[.bool false,.slice none 0 0] 106))
 clear hox hoz
 generalize hw3:((w.alloc (.cells #[.int .i64 a,.int .i64 b] 28)).alloc (.cells #[.bool s1,.slice ax lx cx,.bool s2,.slice az lz cz] 120)).alloc (.cells #[.bool false,.slice none 0 0] 106)=w3 at *
 have e0:=b2.aR.c0
 have e1:=b2.aR.c1
 have e2:=b2.aR.c2
 have e3:=b2.aR.c3
 go_enter Tryz.func106,Tryz.ntmps106
 go_wp2
 go_upto_region 1 with fail
 go_cut [5,6] (fun p q wx=>∃ gx gz,w.heap.size+3≤gx∧w.heap.size+3≤gz∧p=.pointer (some ⟨gx,0,none⟩)∧q=.pointer (some ⟨gz,0,none⟩)∧aH wx gx 106 #[.bool s1,.slice ax lx cx]∧aH wx gz 106 #[.bool s2,.slice az lz cz]∧Below (w.heap.size+3) w3 wx)
 case first=>
  go_region
  all_goals
   go_wp2_with fail
   go_meet
   first
   | exact (mK _ _ hz3 _ _ _ _ _).1
   | exact (mK _ _ hz3 _ _ _ _ _).2
 case rest=>
 obtain ⟨gx,gz,hgx,hgz,rfl,rfl,X,Z,hbx⟩:=hcut
 rw [←hz3] at hbx
 have ox:=uh (aF.below hox3.out hbx)
 have oz:=uh (aF.below hoz3.out hbx)
 have C:=b1.keep hbx
 have R:=b3.keep hbx
 have hw:=hB.trans (hbx.mono hB.size)
 have hzw:w.heap.size+3≤wc.heap.size:=by have:=hbx.size;omega
 clear hz3
 clear b1 b2 b3 e0 e1 e2 e3 hB hbx hox3 hoz3
 have z0:=Z.box.c0
 have z1:=Z.box.c1
 go_wp2_with (go_at_call 124;(with_reducible refine (P0.out _ _ _ oz.out).mono ?_);rintro e w4 ⟨v3,rfl,ho3,hb4⟩;obtain ⟨a3,k3,rfl,hm3,hv3⟩:=aF.view ho3;(clear hm3 hv3 z0 z1))
 have hz4:wc.heap.size≤w4.heap.size:=hb4.size
 generalize (Wh.dig zq.natAbs).length=l3 at *
 generalize hs3:decide (zq<0)=s3 at *
 replace hs3:=uh hs3.symm
 have o3:=uh (aF.alloc (show aF _ _ _ _ from ho3) (.cells #[.bool s3,.slice a3 l3 k3] 106))
 clear ho3
 have T:=aH.new w4 #[.bool s3,.slice a3 l3 k3] 106
 have hB2:Below wc.heap.size wc (w4.alloc (.cells #[.bool s3,.slice a3 l3 k3] 106)):=hb4.alloc hz4 (.cells #[.bool s3,.slice a3 l3 k3] 106)
 have hg7:wc.heap.size≤w4.heap.size:=hz4
 have hgzd:gz<wc.heap.size:=Z.lt
 go_upto_region 3 with fail
 generalize w4.alloc (.cells #[.bool s3,.slice a3 l3 k3] 106)=wd at *
 replace X:=X.keep hB2
 replace Z:=Z.keep hB2
 replace C:=C.keep hB2
 replace R:=R.keep hB2
 replace ox:=uh (aF.below ox.out hB2)
 replace oz:=uh (aF.below oz.out hB2)
 replace hw:=hw.trans (hB2.mono hw.size)
 have hzw2:wc.heap.size≤wd.heap.size:=hB2.size
 replace hgzd:gz<wd.heap.size:=by omega
 replace hzw:w.heap.size+3≤wd.heap.size:=by omega
 clear hB2 hb4
 refine Rg.bF 12 [.is (.agg #[.bool s1,.slice ax lx cx]),.at (aJ (wd.heap.size) (xq)),.is (.agg #[.bool s1,.slice ax lx cx]),.at (aJ (wd.heap.size) (xc)),.is (.agg #[.bool s1,.slice ax lx cx]),.is (.agg #[.bool s3,.slice a3 l3 k3]),.at (aJ (wd.heap.size) (xz)),.is (.pointer (some ⟨w.heap.size,0,none⟩)),.is (.int .i64 a),.at (aJ (wd.heap.size) (xa)),.at (aJ (wd.heap.size) (S1)),.new (wd.heap.size) 106 #[.bool false,.slice none 0 0]] (by kernel_rfl) (by kernel_rfl) (by kernel_rfl) ⟨?_,?_,?_,?_,?_,?_,?_,?_,?_,?_,?_,?_,fun h_=>absurd h_ (by decide),trivial⟩ ?_
 ·intro _ ac_ w_ hB hr
  have e5:ac_.tmps[5]?=some (.pointer (some ⟨gx,0,none⟩)):=hr 5 (by decide)
  have k0:=aE hB X.box.c0
  have k1:=aE hB X.box.c1
  exact Rg.aG rfl (by go_simp)
 ·intro _ ac_ w_ hB hr
  have e15:=Rg.ev1 (hr 15 (by decide))
  have ef:=Rg.ef ac_
  refine Rg.aX rfl (by go_simp;exact ⟨rfl,rfl⟩) ?_
  refine (P1.out _ _ _ (aF.below ox.out hB)).mono ?_
  rintro e w5 ⟨sl5,rfl,ho5,hb5⟩
  exact ⟨_,rfl,aJ.at ho5 (by have:=hB.size;omega),hb5⟩
 ·intro _ ac_ w_ hB hr
  have e5:ac_.tmps[5]?=some (.pointer (some ⟨gx,0,none⟩)):=hr 5 (by decide)
  have k0:=aE hB X.box.c0
  have k1:=aE hB X.box.c1
  exact Rg.aG rfl (by go_simp)
 ·intro _ ac_ w_ hB hr
  obtain ⟨v16,e16,n16⟩:∃ v,ac_.tmps[16]?=some v∧(Rg.Val.at (aJ (wd.heap.size) (xq))).ok v w_:=hr 16 (by decide)
  obtain ⟨s16,a16,l16,c16,hs16,rfl,o16⟩:=(Rg.aZ n16).view
  have e17:=Rg.ev1 (hr 17 (by decide))
  have ef:=Rg.ef ac_
  refine Rg.aX rfl (by go_simp;exact ⟨rfl,rfl⟩) ?_
  obtain rfl:=hs16.out
  refine (P2.out _ _ _ _ _ o16 (aF.below ox.out hB)).mono ?_
  rintro e w5 ⟨sl5,rfl,ho5,hb5⟩
  exact ⟨_,rfl,aJ.at ho5 (by have:=hB.size;omega),hb5⟩
 ·intro _ ac_ w_ hB hr
  have e5:ac_.tmps[5]?=some (.pointer (some ⟨gx,0,none⟩)):=hr 5 (by decide)
  have k0:=aE hB X.box.c0
  have k1:=aE hB X.box.c1
  exact Rg.aG rfl (by go_simp)
 ·intro _ ac_ w_ hB hr
  have e7:ac_.tmps[7]?=some (.pointer (some ⟨w4.heap.size,0,none⟩)):=hr 7 (by decide)
  have k0:=aE hB T.box.c0
  have k1:=aE hB T.box.c1
  exact Rg.aG rfl (by go_simp)
 ·intro _ ac_ w_ hB hr
  have e19:=Rg.ev1 (hr 19 (by decide))
  have e20:=Rg.ev1 (hr 20 (by decide))
  have ef:=Rg.ef ac_
  refine Rg.aX rfl (by go_simp;exact ⟨rfl,rfl⟩) ?_
  refine (P3.out _ _ _ _ _ (aF.below ox.out hB) (aF.below o3.out hB)).mono ?_
  rintro e w5 ⟨sl5,rfl,ho5,hb5⟩
  exact ⟨_,rfl,aJ.at ho5 (by have:=hB.size;omega),hb5⟩
 ·intro _ ac_ w_ hB hr
  have e2:ac_.tmps[2]?=some (.pointer (some ⟨w.heap.size,0,none⟩)):=hr 2 (by decide)
  exact Rg.aG rfl (by go_simp)
 ·intro _ ac_ w_ hB hr
  have e22:=Rg.ev1 (hr 22 (by decide))
  have k0:=aE hB C.box.c0
  exact Rg.aG rfl (by go_simp)
 ·intro _ ac_ w_ hB hr
  obtain ⟨v21,e21,n21⟩:∃ v,ac_.tmps[21]?=some v∧(Rg.Val.at (aJ (wd.heap.size) (xz))).ok v w_:=hr 21 (by decide)
  obtain ⟨s21,a21,l21,c21,hs21,rfl,o21⟩:=(Rg.aZ n21).view
  have e23:=Rg.ev1 (hr 23 (by decide))
  have ef:=Rg.ef ac_
  refine Rg.aX rfl (by go_simp;exact ⟨rfl,rfl⟩) ?_
  obtain rfl:=hs21.out
  refine (P4.out _ _ _ o21).mono ?_
  rintro e w5 ⟨sl5,rfl,ho5,hb5⟩
  exact ⟨_,rfl,aJ.at ho5 (by have:=hB.size;omega),hb5⟩
 ·intro _ ac_ w_ hB hr
  obtain ⟨v18,e18,n18⟩:∃ v,ac_.tmps[18]?=some v∧(Rg.Val.at (aJ (wd.heap.size) (xc))).ok v w_:=hr 18 (by decide)
  obtain ⟨s18,a18,l18,c18,hs18,rfl,o18⟩:=(Rg.aZ n18).view
  obtain ⟨v24,e24,n24⟩:∃ v,ac_.tmps[24]?=some v∧(Rg.Val.at (aJ (wd.heap.size) (xa))).ok v w_:=hr 24 (by decide)
  obtain ⟨s24,a24,l24,c24,hs24,rfl,o24⟩:=(Rg.aZ n24).view
  have ef:=Rg.ef ac_
  refine Rg.aX rfl (by go_simp;exact ⟨rfl,rfl⟩) ?_
  obtain rfl:=hs18.out
  obtain rfl:=hs24.out
  refine (P5.out _ _ _ _ _ o18 o24).mono ?_
  rintro e w5 ⟨sl5,rfl,ho5,hb5⟩
  exact ⟨_,rfl,aJ.at ho5 (by have:=hB.size;omega),hb5⟩
 ·intro _ ac_ w_ hB hr
  exact ⟨by have:=hB.size;omega,rfl,by first | (go_simp;done) | (go_simp;rfl)⟩
 intro vals wz hB hv hne
 have n8:(Rg.Val.new (wd.heap.size) 106 #[.bool false,.slice none 0 0]).ok (vals 11) wz:=hv 11 (by decide)
 have n25:(Rg.Val.at (aJ (wd.heap.size) (S1))).ok (vals 10) wz:=hv 10 (by decide)
 simp only [Rg.am,Rg.fill,Act.put,Nat.reduceAdd]
 clear hv
 obtain ⟨g8,hg8,v_11,o8⟩:=n8
 replace o8:aH wz g8 106 #[.bool false,.slice none 0 0]:=o8
 obtain ⟨s25,a25,l25,c25,hs25,v_10,o25⟩:=(Rg.aZ n25).view
 simp only [v_11,v_10]
 clear v_11 v_10
 have hB2:Below wd.heap.size wd ((wz.setCell ⟨g8,0,none⟩ (.bool s25)).setCell ⟨g8,1,none⟩ (.slice a25 l25 c25)):=uj (uj hB hg8 _) hg8 _
 have U:=aH.set2 o8 (.bool s25) (.slice a25 l25 c25)
 have oU:=uh (aF.bC o25 o8 (by decide) (.bool s25) (.slice a25 l25 c25))
 have ⟨c0,c1,f0,f1,_⟩:=o8.box
 unfold Rg.aV Rg.aV Oper.wp
 go_simp
 clear c0 c1 f0 f1 o8 o25
 generalize ((wz.setCell ⟨g8,0,none⟩ (.bool s25)).setCell ⟨g8,1,none⟩ (.slice a25 l25 c25))=we at *
 replace Z:=Z.keep hB2
 replace C:=C.keep hB2
 replace R:=R.keep hB2
 replace T:=T.keep hB2
 replace oz:=uh (aF.below oz.out hB2)
 replace o3:=uh (aF.below o3.out hB2)
 replace hw:=hw.trans (hB2.mono hw.size)
 have hzw2:wd.heap.size≤we.heap.size:=hB2.size
 go_upto_region 4 with fail
 clear hB2 hB
 refine Rg.bF 8 [.is (.agg #[.bool s25,.slice a25 l25 c25]),.is (.agg #[.bool s2,.slice az lz cz]),.is (.agg #[.bool s3,.slice a3 l3 k3]),.at (aJ (we.heap.size) (zc)),.is (.pointer (some ⟨w.heap.size,1,none⟩)),.is (.int .i64 b),.at (aJ (we.heap.size) (zb)),.at (aJ (we.heap.size) (S2))] (by kernel_rfl) (by kernel_rfl) (by kernel_rfl) ⟨?_,?_,?_,?_,?_,?_,?_,?_,fun h_=>absurd h_ (by decide),trivial⟩ ?_
 ·intro _ ac_ w_ hB hr
  have e8:ac_.tmps[8]?=some (.pointer (some ⟨g8,0,none⟩)):=hr 8 (by decide)
  have k0:=aE hB U.box.c0
  have k1:=aE hB U.box.c1
  exact Rg.aG rfl (by go_simp)
 ·intro _ ac_ w_ hB hr
  have e6:ac_.tmps[6]?=some (.pointer (some ⟨gz,0,none⟩)):=hr 6 (by decide)
  have k0:=aE hB Z.box.c0
  have k1:=aE hB Z.box.c1
  exact Rg.aG rfl (by go_simp)
 ·intro _ ac_ w_ hB hr
  have e7:ac_.tmps[7]?=some (.pointer (some ⟨w4.heap.size,0,none⟩)):=hr 7 (by decide)
  have k0:=aE hB T.box.c0
  have k1:=aE hB T.box.c1
  exact Rg.aG rfl (by go_simp)
 ·intro _ ac_ w_ hB hr
  have e27:=Rg.ev1 (hr 27 (by decide))
  have e28:=Rg.ev1 (hr 28 (by decide))
  have ef:=Rg.ef ac_
  refine Rg.aX rfl (by go_simp;exact ⟨rfl,rfl⟩) ?_
  refine (P6.out _ _ _ _ _ (aF.below oz.out hB) (aF.below o3.out hB)).mono ?_
  rintro e w5 ⟨sl5,rfl,ho5,hb5⟩
  exact ⟨_,rfl,aJ.at ho5 (by have:=hB.size;omega),hb5⟩
 ·intro _ ac_ w_ hB hr
  have e2:ac_.tmps[2]?=some (.pointer (some ⟨w.heap.size,0,none⟩)):=hr 2 (by decide)
  exact Rg.aG rfl (by go_simp)
 ·intro _ ac_ w_ hB hr
  have e30:=Rg.ev1 (hr 30 (by decide))
  have k1:=aE hB C.box.c1
  exact Rg.aG rfl (by go_simp)
 ·intro _ ac_ w_ hB hr
  obtain ⟨v29,e29,n29⟩:∃ v,ac_.tmps[29]?=some v∧(Rg.Val.at (aJ (we.heap.size) (zc))).ok v w_:=hr 29 (by decide)
  obtain ⟨s29,a29,l29,c29,hs29,rfl,o29⟩:=(Rg.aZ n29).view
  have e31:=Rg.ev1 (hr 31 (by decide))
  have ef:=Rg.ef ac_
  refine Rg.aX rfl (by go_simp;exact ⟨rfl,rfl⟩) ?_
  obtain rfl:=hs29.out
  refine (P7.out _ _ _ o29).mono ?_
  rintro e w5 ⟨sl5,rfl,ho5,hb5⟩
  exact ⟨_,rfl,aJ.at ho5 (by have:=hB.size;omega),hb5⟩
 ·intro _ ac_ w_ hB hr
  have e26:=Rg.ev1 (hr 26 (by decide))
  obtain ⟨v32,e32,n32⟩:∃ v,ac_.tmps[32]?=some v∧(Rg.Val.at (aJ (we.heap.size) (zb))).ok v w_:=hr 32 (by decide)
  obtain ⟨s32,a32,l32,c32,hs32,rfl,o32⟩:=(Rg.aZ n32).view
  have ef:=Rg.ef ac_
  refine Rg.aX rfl (by go_simp;exact ⟨rfl,rfl⟩) ?_
  obtain rfl:=hs32.out
  rw [hs25.out]
  refine (P8.out _ _ _ _ _ (aF.below oU.out hB) o32).mono ?_
  rintro e w5 ⟨sl5,rfl,ho5,hb5⟩
  exact ⟨_,rfl,aJ.at ho5 (by have:=hB.size;omega),hb5⟩
 intro vals wy hB hv hne
 have n33:(Rg.Val.at (aJ (we.heap.size) (S2))).ok (vals 7) wy:=hv 7 (by decide)
 simp only [Rg.am,Rg.fill,Act.put,Nat.reduceAdd]
 clear hv
 obtain ⟨s33,a33,l33,c33,hs33,v_7,o33⟩:=(Rg.aZ n33).view
 simp only [v_7]
 clear v_7
 have U2:=U.keep hB
 have hB2:Below wd.heap.size we ((wy.setCell ⟨g8,0,none⟩ (.bool s33)).setCell ⟨g8,1,none⟩ (.slice a33 l33 c33)):=uj (uj (hB.mono hzw2) hg8 _) hg8 _
 have oS:=uh (aF.bC o33 U2 (by decide) (.bool s33) (.slice a33 l33 c33))
 have U3:=aH.set2 U2 (.bool s33) (.slice a33 l33 c33)
 have hgz9:gz<wd.heap.size∧w.heap.size+1+1<wd.heap.size:=⟨hgzd,by have:=hzw;omega⟩
 have Z5:aH ((wy.setCell ⟨g8,0,none⟩ (.bool s33)).setCell ⟨g8,1,none⟩ (.slice a33 l33 c33)) gz 106 #[.bool s2,.slice az lz cz]:=((Z.keep hB).other (by omega) _).other (by omega) _
 have R5:aH ((wy.setCell ⟨g8,0,none⟩ (.bool s33)).setCell ⟨g8,1,none⟩ (.slice a33 l33 c33)) (w.heap.size+1+1) 106 #[.bool false,.slice none 0 0]:=((R.keep hB).other (by omega) _).other (by omega) _
 have oz5:=uh (aF.bC (aF.below oz.out hB) U2 (by decide) (.bool s33) (.slice a33 l33 c33))
 have hw5:=hw.trans (hB2.mono (show w.heap.size≤wd.heap.size by omega))
 have ⟨c0,c1,f0,f1,_⟩:=U2.box
 unfold Rg.aV Rg.aV Oper.wp
 go_simp
 clear c0 c1 f0 f1 U2
 generalize ((wy.setCell ⟨g8,0,none⟩ (.bool s33)).setCell ⟨g8,1,none⟩ (.slice a33 l33 c33))=wf at *
 have y0:=Z5.box.c0
 have y1:=Z5.box.c1
 have y2:=U3.box.c0
 have y3:=U3.box.c1
 obtain rfl:=hs33.out
 go_wp2_with (first | (go_at_call 126;(with_reducible refine (P9.out _ _ _ _ _ oz5.out oS.out).mono ?_);rintro e w6 ⟨v6,rfl,ho6,hb6⟩;obtain ⟨a6,k6,rfl,hm6,hv6⟩:=aF.view ho6;(clear hm6 hv6);(have ho8:=(show aF _ _ _ _ from ho6))) | (go_at_call 127;(with_reducible refine (PA.out _ _ _ ho8).mono ?_);rintro e w7 ⟨v7,rfl,ho7,hb7⟩;obtain ⟨a7,k7,rfl,hm7,hv7⟩:=aF.view ho7;(clear hm7 hv7);(have R7:=(R5.keep hb6).keep hb7);(have ⟨c0,c1,f0,f1,_⟩:=R7.box)))
 generalize (Wh.dig F.natAbs).length=l7 at *
 generalize decide (F<0)=s7 at *
 have hb67:=hw5.trans ((hb6.mono hw5.size).trans (hb7.mono (Nat.le_trans hw5.size hb6.size)))
 have hr1:=aF.base (aF.bC ho7 R7 (by decide) (.bool s7) (.slice a7 l7 k7)) (show w.heap.size≤w6.heap.size from Nat.le_trans hw5.size hb6.size)
 have hr2:Below w.heap.size w ((w7.setCell ⟨w.heap.size+1+1,0,none⟩ (.bool s7)).setCell ⟨w.heap.size+1+1,1,none⟩ (.slice a7 l7 k7)):=uj (uj hb67 (by simp <;> omega) _) (by simp <;> omega) _
 exact bodyPost_ret (v:=.agg #[.bool s7,.slice a7 l7 k7]) (by simp [results,Tryz.results106,go_sem, *]) rfl (⟨_,rfl,hr1,hr2⟩)
theorem su (a b x z:Int) (vx vz:Value) (w:World) (bx bz:Nat) (hox:ae w bx vx x) (hoz:ae w bz vz z) (hx:Wh.sz x 1000) (hz:Wh.sz z 1000) (ha1:-1000≤a) (ha2:a≤1000) (hb1:-10000≤b) (hb2:b≤10000) :
  Calls Tryz.prog 128 #[.agg #[.int .i64 a,.int .i64 b],.agg #[.bool (decide (x<0)),vx,.bool (decide (z<0)),vz]] w fun e w'=>∃ sl,e=.returned (.agg #[.bool (decide (Wh.bJ a b x z<0)),sl])∧ae w' w.heap.size sl (Wh.bJ a b x z)∧Below w.heap.size w w':=by
 obtain ⟨ax,cx,rfl,-,-⟩:=aF.view hox
 obtain ⟨az,cz,rfl,-,-⟩:=aF.view hoz
 have haa:-1000000≤a*a∧a*a≤1000000:=M.aL (x:=a) (y:=a) (m:=1000) (n:=1000) (by omega) (by omega) (by omega) (by omega)
 have mx:=Wh.ag hx hx
 have mz:=Wh.ag hz hz
 have mxx:=Wh.ag mx mx
 have mxz:=Wh.ag mx mz
 have mt:=Wh.ag mxz (Wh.bS (n:=2*a) (by omega) (by omega))
 have m1:=Wh.kZ (Wh.aN mxx (show 1000+1000+(1000+1000)≤4100 by omega)) (Wh.aN mt (show _≤4100 by omega))
 have n1:=Wh.ag hx hz
 have n2:=Wh.ag n1 mz
 have n3:=Wh.ag n2 (Wh.bS (n:=8*b) (by omega) (by omega))
 have m2:=Wh.kZ (Wh.aN m1 (show 4100+1≤4200 by omega)) (Wh.aN n3 (show _≤4200 by omega))
 have mzz:=Wh.ag mz mz
 have n4:=Wh.ag mzz (Wh.bS (n:=a*a) (by omega) (by omega))
 have P0:=fun v W k (h:aF W k v (Wh.dig (x).natAbs))=>dS (x) v W k h (Wh.aU.2 (Wh.aN hx (by omega)))
 have P1:=fun v W k (h:aF W k v (Wh.dig (z).natAbs))=>dS (z) v W k h (Wh.aU.2 (Wh.aN hz (by omega)))
 have P2:=fun v W k (h:aF W k v (Wh.dig (x*x).natAbs))=>dS (x*x) v W k h (Wh.aU.2 (Wh.aN mx (by omega)))
 have P3:=fun v v' W k k' (h:aF W k v (Wh.dig (x*x).natAbs)) (h':aF W k' v' (Wh.dig (z*z).natAbs))=>db (x*x) (z*z) v v' W k k' h h' (Wh.aU.2 (Wh.aN mx (by omega))) (Wh.aU.2 (Wh.aN mz (by omega)))
 have P4:=fun v W k (h:aF W k v (Wh.dig (x*x*(z*z)).natAbs))=>df (x*x*(z*z)) (2*a) v W k h (Wh.aU.2 (Wh.aN mxz (by omega))) (by omega) (by omega)
 have P5:=fun v v' W k k' (h:aF W k v (Wh.dig (x*x*(x*x)).natAbs)) (h':aF W k' v' (Wh.dig (x*x*(z*z)*(2*a)).natAbs))=>jy (x*x*(x*x)) (x*x*(z*z)*(2*a)) v v' W k k' h h' (Wh.aU.2 (Wh.aN mxx (by omega))) (Wh.aU.2 (Wh.aN mt (by omega)))
 have P6:=fun v v' W k k' (h:aF W k v (Wh.dig (x).natAbs)) (h':aF W k' v' (Wh.dig (z).natAbs))=>db (x) (z) v v' W k k' h h' (Wh.aU.2 (Wh.aN hx (by omega))) (Wh.aU.2 (Wh.aN hz (by omega)))
 have P7:=fun v v' W k k' (h:aF W k v (Wh.dig (x*z).natAbs)) (h':aF W k' v' (Wh.dig (z*z).natAbs))=>db (x*z) (z*z) v v' W k k' h h' (Wh.aU.2 (Wh.aN n1 (by omega))) (Wh.aU.2 (Wh.aN mz (by omega)))
 have P8:=fun v W k (h:aF W k v (Wh.dig (x*z*(z*z)).natAbs))=>df (x*z*(z*z)) (8*b) v W k h (Wh.aU.2 (Wh.aN n2 (by omega))) (by omega) (by omega)
 have P9:=fun v v' W k k' (h:aF W k v (Wh.dig (x*x*(x*x) - x*x*(z*z)*(2*a)).natAbs)) (h':aF W k' v' (Wh.dig (x*z*(z*z)*(8*b)).natAbs))=>jy (x*x*(x*x) - x*x*(z*z)*(2*a)) (x*z*(z*z)*(8*b)) v v' W k k' h h' (Wh.aU.2 (Wh.aN m1 (by omega))) (Wh.aU.2 (Wh.aN n3 (by omega)))
 have PA:=fun v W k (h:aF W k v (Wh.dig (z*z).natAbs))=>dS (z*z) v W k h (Wh.aU.2 (Wh.aN mz (by omega)))
 have PB:=fun v W k (h:aF W k v (Wh.dig (z*z*(z*z)).natAbs))=>df (z*z*(z*z)) (a*a) v W k h (Wh.aU.2 (Wh.aN mzz (by omega))) (by omega) (by omega)
 have PC:=fun v v' W k k' (h:aF W k v (Wh.dig (x*x*(x*x) - x*x*(z*z)*(2*a) - x*z*(z*z)*(8*b)).natAbs)) (h':aF W k' v' (Wh.dig (z*z*(z*z)*(a*a)).natAbs))=>iC (x*x*(x*x) - x*x*(z*z)*(2*a) - x*z*(z*z)*(8*b)) (z*z*(z*z)*(a*a)) v v' W k k' h h' (Wh.aU.2 (Wh.aN m2 (by omega))) (Wh.aU.2 (Wh.aN n4 (by omega)))
 have hT:=Wh.mH a b x z
 rw [hT] at PC
 clear hT mx mz mxx mxz mt m1 n1 n2 n3 m2 mzz n4
 generalize Wh.bJ a b x z=F at *
 generalize hGS2:x*x*(x*x) - x*x*(z*z)*(2*a) - x*z*(z*z)*(8*b)=S2 at *
 generalize hGS1:x*x*(x*x) - x*x*(z*z)*(2*a)=S1 at *
 generalize hGyb:x*z*(z*z)*(8*b)=yb at *
 generalize hGza:z*z*(z*z)*(a*a)=za at *
 generalize hGxt:x*x*(z*z)*(2*a)=xt at *
 generalize hGy2:x*z*(z*z)=y2 at *
 generalize hGzzz:z*z*(z*z)=zzz at *
 generalize hGxz2:x*x*(z*z)=xz2 at *
 generalize hGxxx:x*x*(x*x)=xxx at *
 generalize hGy1:x*z=y1 at *
 generalize hGxq:x*x=xq at *
 generalize hGzq:z*z=zq at *
 clear hGS2 hGS1 hGyb hGza hGxt hGy2 hGzzz hGxz2 hGxxx hGy1 hGxq hGzq
 replace P0:=uh P0
 replace P1:=uh P1
 replace P2:=uh P2
 replace P3:=uh P3
 replace P4:=uh P4
 replace P5:=uh P5
 replace P6:=uh P6
 replace P7:=uh P7
 replace P8:=uh P8
 replace P9:=uh P9
 replace PA:=uh PA
 replace PB:=uh PB
 replace PC:=uh PC
 generalize hs1:decide (x<0)=s1 at *
 replace hs1:=uh hs1.symm
 generalize hs2:decide (z<0)=s2 at *
 replace hs2:=uh hs2.symm
 replace hox:=uh (show aF _ _ _ _ from hox)
 replace hoz:=uh (show aF _ _ _ _ from hoz)
 generalize (Wh.dig x.natAbs).length=lx at *
 generalize (Wh.dig z.natAbs).length=lz at *
 have b1:=((aH.new w #[.int .i64 a,.int .i64 b] 28).alloc (.cells #[.bool s1,.slice ax lx cx,.bool s2,.slice az lz cz] 120)).alloc (.cells #[.bool false,.slice none 0 0] 106)
 have b2:=(aH.new (w.alloc (.cells #[.int .i64 a,.int .i64 b] 28)) #[.bool s1,.slice ax lx cx,.bool s2,.slice az lz cz] 120).alloc (.cells #[.bool false,.slice none 0 0] 106)
 rw [ui] at b2
 have b3:=aH.new ((w.alloc (.cells #[.int .i64 a,.int .i64 b] 28)).alloc (.cells #[.bool s1,.slice ax lx cx,.bool s2,.slice az lz cz] 120)) #[.bool false,.slice none 0 0] 106
 rw [cZ] at b3
 have hB:=(((uk w.heap.size w).alloc (ul _) (.cells #[.int .i64 a,.int .i64 b] 28)).alloc (by rw [ui];omega) (.cells #[.bool s1,.slice ax lx cx,.bool s2,.slice az lz cz] 120)).alloc (by rw [cZ];omega) (.cells #[.bool false,.slice none 0 0] 106)
 have hz3:(((w.alloc (.cells #[.int .i64 a,.int .i64 b] 28)).alloc (.cells #[.bool s1,.slice ax lx cx,.bool s2,.slice az lz cz] 120)).alloc (.cells #[.bool false,.slice none 0 0] 106)).heap.size=w.heap.size+3:=by rw [ui,cZ]
 have hox3:=uh (aF.alloc (aF.alloc (aF.alloc hox.out (.cells #[.int .i64 a,.int .i64 b] 28)) (.cells #[.bool s1,.slice ax lx cx,.bool s2,.slice az lz cz] 120)) (.cells #[.bool false,.slice none 0 0] 106))
 have hoz3:=uh (aF.alloc (aF.alloc (aF.alloc hoz.out (.cells #[.int .i64 a,.int .i64 b] 28)) (.cells #[.bool s1,.slice ax lx cx,.bool s2,.slice az lz cz] 120)) (.cells #[.bool false,.slice none 0 0] 106))
 clear hox hoz
 generalize hw3:((w.alloc (.cells #[.int .i64 a,.int .i64 b] 28)).alloc (.cells #[.bool s1,.slice ax lx cx,.bool s2,.slice az lz cz] 120)).alloc (.cells #[.bool false,.slice none 0 0] 106)=w3 at *
 have e0:=b2.aR.c0
 have e1:=b2.aR.c1
 have e2:=b2.aR.c2
 have e3:=b2.aR.c3
 go_enter Tryz.func128,Tryz.ntmps128
 go_wp2
 go_upto_region 1 with fail
 go_cut [5,6] (fun p q wx=>∃ gx gz,w.heap.size+3≤gx∧w.heap.size+3≤gz∧p=.pointer (some ⟨gx,0,none⟩)∧q=.pointer (some ⟨gz,0,none⟩)∧aH wx gx 106 #[.bool s1,.slice ax lx cx]∧aH wx gz 106 #[.bool s2,.slice az lz cz]∧Below (w.heap.size+3) w3 wx)
 case first=>
  go_region
  all_goals
   go_wp2_with fail
   go_meet
   first
   | exact (mK _ _ hz3 _ _ _ _ _).1
   | exact (mK _ _ hz3 _ _ _ _ _).2
 case rest=>
 obtain ⟨gx,gz,hgx,hgz,rfl,rfl,X,Z,hbx⟩:=hcut
 rw [←hz3] at hbx
 have ox:=uh (aF.below hox3.out hbx)
 have oz:=uh (aF.below hoz3.out hbx)
 have C:=b1.keep hbx
 have R:=b3.keep hbx
 have hw:=hB.trans (hbx.mono hB.size)
 have hzw:w.heap.size+3≤wc.heap.size:=by have:=hbx.size;omega
 clear hz3
 clear b1 b2 b3 e0 e1 e2 e3 hB hbx hox3 hoz3
 go_upto_region 2 with fail
 refine Rg.bF 6 [.is (.agg #[.bool s1,.slice ax lx cx]),.at (aJ (wc.heap.size) (xq)),.is (.agg #[.bool s2,.slice az lz cz]),.at (aJ (wc.heap.size) (zq)),.new (wc.heap.size) 106 #[.bool false,.slice none 0 0],.new (wc.heap.size) 106 #[.bool false,.slice none 0 0]] (by kernel_rfl) (by kernel_rfl) (by kernel_rfl) ⟨?_,?_,?_,?_,?_,?_,fun h_=>absurd h_ (by decide),fun h_=>absurd h_ (by decide),trivial⟩ ?_
 ·intro _ ac_ w_ hB hr
  have e5:ac_.tmps[5]?=some (.pointer (some ⟨gx,0,none⟩)):=hr 5 (by decide)
  have k0:=aE hB X.box.c0
  have k1:=aE hB X.box.c1
  exact Rg.aG rfl (by go_simp)
 ·intro _ ac_ w_ hB hr
  have e14:=Rg.ev1 (hr 14 (by decide))
  have ef:=Rg.ef ac_
  refine Rg.aX rfl (by go_simp;exact ⟨rfl,rfl⟩) ?_
  refine (P0.out _ _ _ (aF.below ox.out hB)).mono ?_
  rintro e w5 ⟨sl5,rfl,ho5,hb5⟩
  exact ⟨_,rfl,aJ.at ho5 (by have:=hB.size;omega),hb5⟩
 ·intro _ ac_ w_ hB hr
  have e6:ac_.tmps[6]?=some (.pointer (some ⟨gz,0,none⟩)):=hr 6 (by decide)
  have k0:=aE hB Z.box.c0
  have k1:=aE hB Z.box.c1
  exact Rg.aG rfl (by go_simp)
 ·intro _ ac_ w_ hB hr
  have e16:=Rg.ev1 (hr 16 (by decide))
  have ef:=Rg.ef ac_
  refine Rg.aX rfl (by go_simp;exact ⟨rfl,rfl⟩) ?_
  refine (P1.out _ _ _ (aF.below oz.out hB)).mono ?_
  rintro e w5 ⟨sl5,rfl,ho5,hb5⟩
  exact ⟨_,rfl,aJ.at ho5 (by have:=hB.size;omega),hb5⟩
 ·intro _ ac_ w_ hB hr
  exact ⟨by have:=hB.size;omega,rfl,by first | (go_simp;done) | (go_simp;rfl)⟩
 ·intro _ ac_ w_ hB hr
  exact ⟨by have:=hB.size;omega,rfl,by first | (go_simp;done) | (go_simp;rfl)⟩
 intro vals wz hB hv hne
 have n7:(Rg.Val.new (wc.heap.size) 106 #[.bool false,.slice none 0 0]).ok (vals 4) wz:=hv 4 (by decide)
 have n8:(Rg.Val.new (wc.heap.size) 106 #[.bool false,.slice none 0 0]).ok (vals 5) wz:=hv 5 (by decide)
 have n15:(Rg.Val.at (aJ (wc.heap.size) (xq))).ok (vals 1) wz:=hv 1 (by decide)
 have n17:(Rg.Val.at (aJ (wc.heap.size) (zq))).ok (vals 3) wz:=hv 3 (by decide)
 simp only [Rg.am,Rg.fill,Act.put,Nat.reduceAdd]
 clear hv
 have q7_8:=hne 4 5 (by decide) (by decide) (by decide) rfl rfl
 obtain ⟨g7,hg7,v_4,o7⟩:=n7
 replace o7:aH wz g7 106 #[.bool false,.slice none 0 0]:=o7
 obtain ⟨g8,hg8,v_5,o8⟩:=n8
 replace o8:aH wz g8 106 #[.bool false,.slice none 0 0]:=o8
 obtain ⟨s15,a15,l15,c15,hs15,v_1,o15⟩:=(Rg.aZ n15).view
 obtain ⟨s17,a17,l17,c17,hs17,v_3,o17⟩:=(Rg.aZ n17).view
 rw [v_4,v_5] at q7_8
 have d7_8:g7≠g8:=fun e=>q7_8 (by rw [e])
 simp only [v_4,v_5,v_1,v_3]
 clear v_4 v_5 v_1 v_3
 have d8_7:=d7_8.symm
 have hB2:Below wc.heap.size wc ((((wz.setCell ⟨g7,0,none⟩ (.bool s15)).setCell ⟨g7,1,none⟩ (.slice a15 l15 c15)).setCell ⟨g8,0,none⟩ (.bool s17)).setCell ⟨g8,1,none⟩ (.slice a17 l17 c17)):=uj (uj (uj (uj hB hg7 _) hg7 _) hg8 _) hg8 _
 have V8:aH ((wz.setCell ⟨g7,0,none⟩ (.bool s15)).setCell ⟨g7,1,none⟩ (.slice a15 l15 c15)) g8 106 #[.bool false,.slice none 0 0]:=(o8.other d8_7 _).other d8_7 _
 have U8:=aH.set2 V8 (.bool s17) (.slice a17 l17 c17)
 have U7:aH ((((wz.setCell ⟨g7,0,none⟩ (.bool s15)).setCell ⟨g7,1,none⟩ (.slice a15 l15 c15)).setCell ⟨g8,0,none⟩ (.bool s17)).setCell ⟨g8,1,none⟩ (.slice a17 l17 c17)) g7 106 #[.bool s15,.slice a15 l15 c15]:=((aH.set2 o7 (.bool s15) (.slice a15 l15 c15)).other d7_8 _).other d7_8 _
 have oq:=uh (aF.bC (aF.bC o15 o7 (by decide) (.bool s15) (.slice a15 l15 c15)) V8 (by decide) (.bool s17) (.slice a17 l17 c17))
 have or:=uh (aF.bC (aF.bC o17 o7 (by decide) (.bool s15) (.slice a15 l15 c15)) V8 (by decide) (.bool s17) (.slice a17 l17 c17))
 have ⟨c0,c1,f0,f1,_⟩:=o7.box
 have ⟨c2,c3,f2,f3,_⟩:=o8.box
 unfold Rg.aV Rg.aV Rg.aV Oper.wp
 go_simp
 clear c0 c1 f0 f1 c2 c3 f2 f3 o7 o8 o15 o17 V8 d7_8 d8_7 q7_8
 generalize ((((wz.setCell ⟨g7,0,none⟩ (.bool s15)).setCell ⟨g7,1,none⟩ (.slice a15 l15 c15)).setCell ⟨g8,0,none⟩ (.bool s17)).setCell ⟨g8,1,none⟩ (.slice a17 l17 c17))=wd at *
 replace X:=X.keep hB2
 replace Z:=Z.keep hB2
 replace C:=C.keep hB2
 replace R:=R.keep hB2
 replace ox:=uh (aF.below ox.out hB2)
 replace oz:=uh (aF.below oz.out hB2)
 have hgd:g8<wd.heap.size:=U8.lt
 replace hw:=hw.trans (hB2.mono hw.size)
 have hzw2:wc.heap.size≤wd.heap.size:=hB2.size
 clear hB2 hB
 go_upto_region 3 with fail
 refine Rg.bF 11 [.is (.agg #[.bool s15,.slice a15 l15 c15]),.at (aJ (wd.heap.size) (xxx)),.is (.agg #[.bool s15,.slice a15 l15 c15]),.is (.agg #[.bool s17,.slice a17 l17 c17]),.at (aJ (wd.heap.size) (xz2)),.is (.pointer (some ⟨w.heap.size,0,none⟩)),.is (.int .i64 a),.is (.int .i64 (2*a)),.at (aJ (wd.heap.size) (xt)),.at (aJ (wd.heap.size) (S1)),.new (wd.heap.size) 106 #[.bool false,.slice none 0 0]] (by kernel_rfl) (by kernel_rfl) (by kernel_rfl) ⟨?_,?_,?_,?_,?_,?_,?_,?_,?_,?_,?_,fun h_=>absurd h_ (by decide),trivial⟩ ?_
 ·intro _ ac_ w_ hB hr
  have e7:ac_.tmps[7]?=some (.pointer (some ⟨g7,0,none⟩)):=hr 7 (by decide)
  have k0:=aE hB U7.box.c0
  have k1:=aE hB U7.box.c1
  exact Rg.aG rfl (by go_simp)
 ·intro _ ac_ w_ hB hr
  have e18:=Rg.ev1 (hr 18 (by decide))
  have ef:=Rg.ef ac_
  refine Rg.aX rfl (by go_simp;exact ⟨rfl,rfl⟩) ?_
  rw [hs15.out]
  refine (P2.out _ _ _ (aF.below oq.out hB)).mono ?_
  rintro e w5 ⟨sl5,rfl,ho5,hb5⟩
  exact ⟨_,rfl,aJ.at ho5 (by have:=hB.size;omega),hb5⟩
 ·intro _ ac_ w_ hB hr
  have e7:ac_.tmps[7]?=some (.pointer (some ⟨g7,0,none⟩)):=hr 7 (by decide)
  have k0:=aE hB U7.box.c0
  have k1:=aE hB U7.box.c1
  exact Rg.aG rfl (by go_simp)
 ·intro _ ac_ w_ hB hr
  have e8:ac_.tmps[8]?=some (.pointer (some ⟨g8,0,none⟩)):=hr 8 (by decide)
  have k0:=aE hB U8.box.c0
  have k1:=aE hB U8.box.c1
  exact Rg.aG rfl (by go_simp)
 ·intro _ ac_ w_ hB hr
  have e20:=Rg.ev1 (hr 20 (by decide))
  have e21:=Rg.ev1 (hr 21 (by decide))
  have ef:=Rg.ef ac_
  refine Rg.aX rfl (by go_simp;exact ⟨rfl,rfl⟩) ?_
  rw [hs15.out]
  rw [hs17.out]
  refine (P3.out _ _ _ _ _ (aF.below oq.out hB) (aF.below or.out hB)).mono ?_
  rintro e w5 ⟨sl5,rfl,ho5,hb5⟩
  exact ⟨_,rfl,aJ.at ho5 (by have:=hB.size;omega),hb5⟩
 ·intro _ ac_ w_ hB hr
  have e2:ac_.tmps[2]?=some (.pointer (some ⟨w.heap.size,0,none⟩)):=hr 2 (by decide)
  exact Rg.aG rfl (by go_simp)
 ·intro _ ac_ w_ hB hr
  have e23:=Rg.ev1 (hr 23 (by decide))
  have k0:=aE hB C.box.c0
  exact Rg.aG rfl (by go_simp)
 ·intro _ ac_ w_ hB hr
  have e24:=Rg.ev1 (hr 24 (by decide))
  have ec:=Rg.ec ac_
  exact Rg.aG rfl (by go_simp <;> exact Rg.wo (by omega))
 ·intro _ ac_ w_ hB hr
  obtain ⟨v22,e22,n22⟩:∃ v,ac_.tmps[22]?=some v∧(Rg.Val.at (aJ (wd.heap.size) (xz2))).ok v w_:=hr 22 (by decide)
  obtain ⟨s22,a22,l22,c22,hs22,rfl,o22⟩:=(Rg.aZ n22).view
  have e25:=Rg.ev1 (hr 25 (by decide))
  have ef:=Rg.ef ac_
  refine Rg.aX rfl (by go_simp;exact ⟨rfl,rfl⟩) ?_
  obtain rfl:=hs22.out
  refine (P4.out _ _ _ o22).mono ?_
  rintro e w5 ⟨sl5,rfl,ho5,hb5⟩
  exact ⟨_,rfl,aJ.at ho5 (by have:=hB.size;omega),hb5⟩
 ·intro _ ac_ w_ hB hr
  obtain ⟨v19,e19,n19⟩:∃ v,ac_.tmps[19]?=some v∧(Rg.Val.at (aJ (wd.heap.size) (xxx))).ok v w_:=hr 19 (by decide)
  obtain ⟨s19,a19,l19,c19,hs19,rfl,o19⟩:=(Rg.aZ n19).view
  obtain ⟨v26,e26,n26⟩:∃ v,ac_.tmps[26]?=some v∧(Rg.Val.at (aJ (wd.heap.size) (xt))).ok v w_:=hr 26 (by decide)
  obtain ⟨s26,a26,l26,c26,hs26,rfl,o26⟩:=(Rg.aZ n26).view
  have ef:=Rg.ef ac_
  refine Rg.aX rfl (by go_simp;exact ⟨rfl,rfl⟩) ?_
  obtain rfl:=hs19.out
  obtain rfl:=hs26.out
  refine (P5.out _ _ _ _ _ o19 o26).mono ?_
  rintro e w5 ⟨sl5,rfl,ho5,hb5⟩
  exact ⟨_,rfl,aJ.at ho5 (by have:=hB.size;omega),hb5⟩
 ·intro _ ac_ w_ hB hr
  exact ⟨by have:=hB.size;omega,rfl,by first | (go_simp;done) | (go_simp;rfl)⟩
 intro vals wz hB hv hne
 have n9:(Rg.Val.new (wd.heap.size) 106 #[.bool false,.slice none 0 0]).ok (vals 10) wz:=hv 10 (by decide)
 have n27:(Rg.Val.at (aJ (wd.heap.size) (S1))).ok (vals 9) wz:=hv 9 (by decide)
 simp only [Rg.am,Rg.fill,Act.put,Nat.reduceAdd]
 clear hv
 obtain ⟨g9,hg9,v_10,o9⟩:=n9
 replace o9:aH wz g9 106 #[.bool false,.slice none 0 0]:=o9
 obtain ⟨s27,a27,l27,c27,hs27,v_9,o27⟩:=(Rg.aZ n27).view
 simp only [v_10,v_9]
 clear v_10 v_9
 have hB2:Below wd.heap.size wd ((wz.setCell ⟨g9,0,none⟩ (.bool s27)).setCell ⟨g9,1,none⟩ (.slice a27 l27 c27)):=uj (uj hB hg9 _) hg9 _
 have U:=aH.set2 o9 (.bool s27) (.slice a27 l27 c27)
 have oU:=uh (aF.bC o27 o9 (by decide) (.bool s27) (.slice a27 l27 c27))
 have ⟨c0,c1,f0,f1,_⟩:=o9.box
 unfold Rg.aV Rg.aV Oper.wp
 go_simp
 clear c0 c1 f0 f1 o9 o27
 generalize ((wz.setCell ⟨g9,0,none⟩ (.bool s27)).setCell ⟨g9,1,none⟩ (.slice a27 l27 c27))=we at *
 replace X:=X.keep hB2
 replace Z:=Z.keep hB2
 replace C:=C.keep hB2
 replace R:=R.keep hB2
 replace U8:=U8.keep hB2
 replace ox:=uh (aF.below ox.out hB2)
 replace oz:=uh (aF.below oz.out hB2)
 replace or:=uh (aF.below or.out hB2)
 replace hw:=hw.trans (hB2.mono hw.size)
 have hzw2:wd.heap.size≤we.heap.size:=hB2.size
 go_upto_region 4 with fail
 clear hB2 hB
 refine Rg.bF 11 [.is (.agg #[.bool s27,.slice a27 l27 c27]),.is (.agg #[.bool s1,.slice ax lx cx]),.is (.agg #[.bool s2,.slice az lz cz]),.at (aJ (we.heap.size) (y1)),.is (.agg #[.bool s17,.slice a17 l17 c17]),.at (aJ (we.heap.size) (y2)),.is (.pointer (some ⟨w.heap.size,1,none⟩)),.is (.int .i64 b),.is (.int .i64 (8*b)),.at (aJ (we.heap.size) (yb)),.at (aJ (we.heap.size) (S2))] (by kernel_rfl) (by kernel_rfl) (by kernel_rfl) ⟨?_,?_,?_,?_,?_,?_,?_,?_,?_,?_,?_,fun h_=>absurd h_ (by decide),trivial⟩ ?_
 ·intro _ ac_ w_ hB hr
  have e9:ac_.tmps[9]?=some (.pointer (some ⟨g9,0,none⟩)):=hr 9 (by decide)
  have k0:=aE hB U.box.c0
  have k1:=aE hB U.box.c1
  exact Rg.aG rfl (by go_simp)
 ·intro _ ac_ w_ hB hr
  have e5:ac_.tmps[5]?=some (.pointer (some ⟨gx,0,none⟩)):=hr 5 (by decide)
  have k0:=aE hB X.box.c0
  have k1:=aE hB X.box.c1
  exact Rg.aG rfl (by go_simp)
 ·intro _ ac_ w_ hB hr
  have e6:ac_.tmps[6]?=some (.pointer (some ⟨gz,0,none⟩)):=hr 6 (by decide)
  have k0:=aE hB Z.box.c0
  have k1:=aE hB Z.box.c1
  exact Rg.aG rfl (by go_simp)
 ·intro _ ac_ w_ hB hr
  have e29:=Rg.ev1 (hr 29 (by decide))
  have e30:=Rg.ev1 (hr 30 (by decide))
  have ef:=Rg.ef ac_
  refine Rg.aX rfl (by go_simp;exact ⟨rfl,rfl⟩) ?_
  refine (P6.out _ _ _ _ _ (aF.below ox.out hB) (aF.below oz.out hB)).mono ?_
  rintro e w5 ⟨sl5,rfl,ho5,hb5⟩
  exact ⟨_,rfl,aJ.at ho5 (by have:=hB.size;omega),hb5⟩
 ·intro _ ac_ w_ hB hr
  have e8:ac_.tmps[8]?=some (.pointer (some ⟨g8,0,none⟩)):=hr 8 (by decide)
  have k0:=aE hB U8.box.c0
  have k1:=aE hB U8.box.c1
  exact Rg.aG rfl (by go_simp)
 ·intro _ ac_ w_ hB hr
  obtain ⟨v31,e31,n31⟩:∃ v,ac_.tmps[31]?=some v∧(Rg.Val.at (aJ (we.heap.size) (y1))).ok v w_:=hr 31 (by decide)
  obtain ⟨s31,a31,l31,c31,hs31,rfl,o31⟩:=(Rg.aZ n31).view
  have e32:=Rg.ev1 (hr 32 (by decide))
  have ef:=Rg.ef ac_
  refine Rg.aX rfl (by go_simp;exact ⟨rfl,rfl⟩) ?_
  obtain rfl:=hs31.out
  rw [hs17.out]
  refine (P7.out _ _ _ _ _ o31 (aF.below or.out hB)).mono ?_
  rintro e w5 ⟨sl5,rfl,ho5,hb5⟩
  exact ⟨_,rfl,aJ.at ho5 (by have:=hB.size;omega),hb5⟩
 ·intro _ ac_ w_ hB hr
  have e2:ac_.tmps[2]?=some (.pointer (some ⟨w.heap.size,0,none⟩)):=hr 2 (by decide)
  exact Rg.aG rfl (by go_simp)
 ·intro _ ac_ w_ hB hr
  have e34:=Rg.ev1 (hr 34 (by decide))
  have k1:=aE hB C.box.c1
  exact Rg.aG rfl (by go_simp)
 ·intro _ ac_ w_ hB hr
  have e35:=Rg.ev1 (hr 35 (by decide))
  have ec:=Rg.ec ac_
  exact Rg.aG rfl (by go_simp <;> exact Rg.wo (by omega))
 ·intro _ ac_ w_ hB hr
  obtain ⟨v33,e33,n33⟩:∃ v,ac_.tmps[33]?=some v∧(Rg.Val.at (aJ (we.heap.size) (y2))).ok v w_:=hr 33 (by decide)
  obtain ⟨s33,a33,l33,c33,hs33,rfl,o33⟩:=(Rg.aZ n33).view
  have e36:=Rg.ev1 (hr 36 (by decide))
  have ef:=Rg.ef ac_
  refine Rg.aX rfl (by go_simp;exact ⟨rfl,rfl⟩) ?_
  obtain rfl:=hs33.out
  refine (P8.out _ _ _ o33).mono ?_
  rintro e w5 ⟨sl5,rfl,ho5,hb5⟩
  exact ⟨_,rfl,aJ.at ho5 (by have:=hB.size;omega),hb5⟩
 ·intro _ ac_ w_ hB hr
  have e28:=Rg.ev1 (hr 28 (by decide))
  obtain ⟨v37,e37,n37⟩:∃ v,ac_.tmps[37]?=some v∧(Rg.Val.at (aJ (we.heap.size) (yb))).ok v w_:=hr 37 (by decide)
  obtain ⟨s37,a37,l37,c37,hs37,rfl,o37⟩:=(Rg.aZ n37).view
  have ef:=Rg.ef ac_
  refine Rg.aX rfl (by go_simp;exact ⟨rfl,rfl⟩) ?_
  obtain rfl:=hs37.out
  rw [hs27.out]
  refine (P9.out _ _ _ _ _ (aF.below oU.out hB) o37).mono ?_
  rintro e w5 ⟨sl5,rfl,ho5,hb5⟩
  exact ⟨_,rfl,aJ.at ho5 (by have:=hB.size;omega),hb5⟩
 intro vals wy hB hv hne
 have n38:(Rg.Val.at (aJ (we.heap.size) (S2))).ok (vals 10) wy:=hv 10 (by decide)
 simp only [Rg.am,Rg.fill,Act.put,Nat.reduceAdd]
 clear hv
 obtain ⟨s38,a38,l38,c38,hs38,v_10,o38⟩:=(Rg.aZ n38).view
 simp only [v_10]
 clear v_10
 have U2:=U.keep hB
 have hB2:Below wd.heap.size we ((wy.setCell ⟨g9,0,none⟩ (.bool s38)).setCell ⟨g9,1,none⟩ (.slice a38 l38 c38)):=uj (uj (hB.mono hzw2) hg9 _) hg9 _
 have oS:=uh (aF.bC o38 U2 (by decide) (.bool s38) (.slice a38 l38 c38))
 have U3:=aH.set2 U2 (.bool s38) (.slice a38 l38 c38)
 have hq8:g8<wd.heap.size∧w.heap.size+1+1<wd.heap.size:=⟨hgd,by omega⟩
 have hC9:w.heap.size<wd.heap.size:=by omega
 have C5:aH ((wy.setCell ⟨g9,0,none⟩ (.bool s38)).setCell ⟨g9,1,none⟩ (.slice a38 l38 c38)) w.heap.size 28 #[.int .i64 a,.int .i64 b]:=((C.keep hB).other (by omega) _).other (by omega) _
 have R5:aH ((wy.setCell ⟨g9,0,none⟩ (.bool s38)).setCell ⟨g9,1,none⟩ (.slice a38 l38 c38)) (w.heap.size+1+1) 106 #[.bool false,.slice none 0 0]:=((R.keep hB).other (by omega) _).other (by omega) _
 have Q5:aH ((wy.setCell ⟨g9,0,none⟩ (.bool s38)).setCell ⟨g9,1,none⟩ (.slice a38 l38 c38)) g8 106 #[.bool s17,.slice a17 l17 c17]:=((U8.keep hB).other (by omega) _).other (by omega) _
 have oq5:=uh (aF.bC (aF.below or.out hB) U2 (by decide) (.bool s38) (.slice a38 l38 c38))
 have hw5:=hw.trans (hB2.mono (show w.heap.size≤wd.heap.size by omega))
 have ⟨c0,c1,f0,f1,_⟩:=U2.box
 unfold Rg.aV Rg.aV Oper.wp
 go_simp
 clear c0 c1 f0 f1 U2 hB2 hB
 generalize ((wy.setCell ⟨g9,0,none⟩ (.bool s38)).setCell ⟨g9,1,none⟩ (.slice a38 l38 c38))=wf at *
 go_upto_region 5 with fail
 refine Rg.bF 10 [.is (.agg #[.bool s38,.slice a38 l38 c38]),.is (.agg #[.bool s17,.slice a17 l17 c17]),.at (aJ (wf.heap.size) (zzz)),.is (.pointer (some ⟨w.heap.size,0,none⟩)),.is (.int .i64 a),.is (.pointer (some ⟨w.heap.size,0,none⟩)),.is (.int .i64 a),.is (.int .i64 (a*a)),.at (aJ (wf.heap.size) (za)),.at (aJ (wf.heap.size) (F))] (by kernel_rfl) (by kernel_rfl) (by kernel_rfl) ⟨?_,?_,?_,?_,?_,?_,?_,?_,?_,?_,fun h_=>absurd h_ (by decide),trivial⟩ ?_
 ·intro _ ac_ w_ hB hr
  have e9:ac_.tmps[9]?=some (.pointer (some ⟨g9,0,none⟩)):=hr 9 (by decide)
  have k0:=aE hB U3.box.c0
  have k1:=aE hB U3.box.c1
  exact Rg.aG rfl (by go_simp)
 ·intro _ ac_ w_ hB hr
  have e8:ac_.tmps[8]?=some (.pointer (some ⟨g8,0,none⟩)):=hr 8 (by decide)
  have k0:=aE hB Q5.box.c0
  have k1:=aE hB Q5.box.c1
  exact Rg.aG rfl (by go_simp)
 ·intro _ ac_ w_ hB hr
  have e40:=Rg.ev1 (hr 40 (by decide))
  have ef:=Rg.ef ac_
  refine Rg.aX rfl (by go_simp;exact ⟨rfl,rfl⟩) ?_
  rw [hs17.out]
  refine (PA.out _ _ _ (aF.below oq5.out hB)).mono ?_
  rintro e w5 ⟨sl5,rfl,ho5,hb5⟩
  exact ⟨_,rfl,aJ.at ho5 (by have:=hB.size;omega),hb5⟩
 ·intro _ ac_ w_ hB hr
  have e2:ac_.tmps[2]?=some (.pointer (some ⟨w.heap.size,0,none⟩)):=hr 2 (by decide)
  exact Rg.aG rfl (by go_simp)
 ·intro _ ac_ w_ hB hr
  have e42:=Rg.ev1 (hr 42 (by decide))
  have k0:=aE hB C5.box.c0
  exact Rg.aG rfl (by go_simp)
 ·intro _ ac_ w_ hB hr
  have e2:ac_.tmps[2]?=some (.pointer (some ⟨w.heap.size,0,none⟩)):=hr 2 (by decide)
  exact Rg.aG rfl (by go_simp)
 ·intro _ ac_ w_ hB hr
  have e44:=Rg.ev1 (hr 44 (by decide))
  have k0:=aE hB C5.box.c0
  exact Rg.aG rfl (by go_simp)
 ·intro _ ac_ w_ hB hr
  have e43:=Rg.ev1 (hr 43 (by decide))
  have e45:=Rg.ev1 (hr 45 (by decide))
  exact Rg.aG rfl (by go_simp <;> exact Rg.wo (by omega))
 ·intro _ ac_ w_ hB hr
  obtain ⟨v41,e41,n41⟩:∃ v,ac_.tmps[41]?=some v∧(Rg.Val.at (aJ (wf.heap.size) (zzz))).ok v w_:=hr 41 (by decide)
  obtain ⟨s41,a41,l41,c41,hs41,rfl,o41⟩:=(Rg.aZ n41).view
  have e46:=Rg.ev1 (hr 46 (by decide))
  have ef:=Rg.ef ac_
  refine Rg.aX rfl (by go_simp;exact ⟨rfl,rfl⟩) ?_
  obtain rfl:=hs41.out
  refine (PB.out _ _ _ o41).mono ?_
  rintro e w5 ⟨sl5,rfl,ho5,hb5⟩
  exact ⟨_,rfl,aJ.at ho5 (by have:=hB.size;omega),hb5⟩
 ·intro _ ac_ w_ hB hr
  have e39:=Rg.ev1 (hr 39 (by decide))
  obtain ⟨v47,e47,n47⟩:∃ v,ac_.tmps[47]?=some v∧(Rg.Val.at (aJ (wf.heap.size) (za))).ok v w_:=hr 47 (by decide)
  obtain ⟨s47,a47,l47,c47,hs47,rfl,o47⟩:=(Rg.aZ n47).view
  have ef:=Rg.ef ac_
  refine Rg.aX rfl (by go_simp;exact ⟨rfl,rfl⟩) ?_
  obtain rfl:=hs47.out
  rw [hs38.out]
  refine (PC.out _ _ _ _ _ (aF.below oS.out hB) o47).mono ?_
  rintro e w5 ⟨sl5,rfl,ho5,hb5⟩
  exact ⟨_,rfl,aJ.at ho5 (by have:=hB.size;omega),hb5⟩
 intro vals wv hB6 hv hne
 have n48:(Rg.Val.at (aJ (wf.heap.size) (F))).ok (vals 9) wv:=hv 9 (by decide)
 simp only [Rg.am,Rg.fill,Act.put,Nat.reduceAdd]
 clear hv
 obtain ⟨s48,a48,l48,c48,hs48,v_9,o48⟩:=(Rg.aZ n48).view
 simp only [v_9]
 clear v_9
 replace R:=R5
 replace hw:=hw5
 have R2:=R.keep hB6
 have ⟨c0,c1,f0,f1,_⟩:=R2.box
 have hr1:=aF.base (aF.bC o48 R2 (by decide) (.bool s48) (.slice a48 l48 c48)) (show w.heap.size≤wf.heap.size from hw.size)
 have hr2:Below w.heap.size w ((wv.setCell ⟨w.heap.size+1+1,0,none⟩ (.bool s48)).setCell ⟨w.heap.size+1+1,1,none⟩ (.slice a48 l48 c48)):=uj (uj (hw.trans (hB6.mono hw.size)) (by simp <;> omega) _) (by simp <;> omega) _
 unfold Rg.aV Rg.aV Oper.wp
 go_simp
 go_wp2
 exact bodyPost_ret (v:=.agg #[.bool s48,.slice a48 l48 c48]) (by simp [results,Tryz.results128,go_sem, *]) rfl (⟨_,by rw [hs48.out],hr1,hr2⟩)
namespace Wh
theorem kd {a b x z:Int} (hx:sz x 1000) (hz:sz z 1000) (ha1:-1000≤a) (ha2:a≤1000) (hb1:-10000≤b) (hb2:b≤10000):sz (bJ a b x z) 5000:=by
 have haa:-1000000≤a*a∧a*a≤1000000:=M.aL (x:=a) (y:=a) (m:=1000) (n:=1000) (by omega) (by omega) (by omega) (by omega)
 rw [←mH]
 have mx:=ag hx hx
 have mz:=ag hz hz
 have m1:=kZ (aN (ag mx mx) (show 1000+1000+(1000+1000)≤4100 by omega)) (aN (ag (ag mx mz) (bS (n:=2*a) (by omega) (by omega))) (show _≤4100 by omega))
 have m2:=kZ (aN m1 (show 4100+1≤4200 by omega)) (aN (ag (ag (ag hx hz) mz) (bS (n:=8*b) (by omega) (by omega))) (show _≤4200 by omega))
 exact aN (fH (aN m2 (show 4200+1≤4300 by omega)) (aN (ag (ag mz mz) (bS (n:=a*a) (by omega) (by omega))) (show _≤4300 by omega))) (by omega)
theorem kX {a b x z:Int} (hx:sz x 1000) (hz:sz z 1000) (ha1:-1000≤a) (ha2:a≤1000) (hb1:-10000≤b) (hb2:b≤10000):sz (bD a b x z) 6000:=by
 rw [←kq]
 have m1:=ag hx hx
 have m0:=ag hz hz
 have m2:=ag m1 hx
 have m4:=ag (ag hx m0) (bS (n:=a) (by omega) (by omega))
 have m5:=fH (aN m2 (show 1000+1000+1000≤4000 by omega)) (aN m4 (show _≤4000 by omega))
 have m7:=ag (ag hz m0) (bS (n:=b) (by omega) (by omega))
 have m8:=fH (aN m5 (show 4000+1≤4100 by omega)) (aN m7 (show _≤4100 by omega))
 exact aN (ag (ag hz m8) (bS (n:=4) (by omega) (by omega))) (by omega)
def dvs (D F G:Int):Nat:=Nat.gcd (Nat.gcd (4*D.natAbs) F.natAbs) G.natAbs
theorem qO (D F G:Int):Nat.gcd (G.natAbs % Nat.gcd (F.natAbs % (4*D.natAbs)) (4*D.natAbs)) (Nat.gcd (F.natAbs % (4*D.natAbs)) (4*D.natAbs))=dvs D F G:=by
 unfold dvs
 rw [←Nat.gcd_rec,←Nat.gcd_rec]
theorem lL (n:Nat) (y:Int):M.gcd (n:Int) (y % (n:Int))=(Nat.gcd n y.natAbs:Nat):=by
 unfold M.gcd Int.gcd
 rw [Int.natAbs_natCast]
 by_cases hn:n=0
 ·subst hn
  simp
 congr 1
 apply Nat.dvd_antisymm
 ·refine Nat.dvd_gcd (Nat.gcd_dvd_left _ _) ?_
  have h1:(Nat.gcd n (y % (n:Int)).natAbs:Int) ∣ y % (n:Int):=Int.ofNat_dvd_left.2 (Nat.gcd_dvd_right _ _)
  have h2:(Nat.gcd n (y % (n:Int)).natAbs:Int) ∣ (n:Int):=Int.ofNat_dvd.2 (Nat.gcd_dvd_left _ _)
  have h3:(Nat.gcd n (y % (n:Int)).natAbs:Int) ∣ y:=by
   have h4:=Int.dvd_add h1 (Int.dvd_mul_of_dvd_left (c:=y / (n:Int)) h2)
   rwa [Int.emod_add_mul_ediv] at h4
  exact Int.ofNat_dvd_left.1 h3
 refine Nat.dvd_gcd (Nat.gcd_dvd_left _ _) ?_
 have h1:(Nat.gcd n y.natAbs:Int) ∣ y:=Int.ofNat_dvd_left.2 (Nat.gcd_dvd_right _ _)
 have h2:(Nat.gcd n y.natAbs:Int) ∣ (n:Int):=Int.ofNat_dvd.2 (Nat.gcd_dvd_left _ _)
 have h3:(Nat.gcd n y.natAbs:Int) ∣ y % (n:Int):=by
  rw [Int.emod_def]
  exact Int.dvd_sub h1 (Int.dvd_mul_of_dvd_left h2)
 exact Int.ofNat_dvd_left.1 h3
theorem ro (D F G:Int):M.gcd (M.gcd (4*(D.natAbs:Int)) (F % (4*(D.natAbs:Int)))) (G % (4*(D.natAbs:Int)))=(dvs D F G:Nat):=by
 have e:(4*(D.natAbs:Int))=((4*D.natAbs:Nat):Int):=by omega
 rw [e,lL]
 unfold dvs
 have h:Nat.gcd F.natAbs F.natAbs=F.natAbs:=Nat.gcd_self _
 have h1:=lL (4*D.natAbs) G
 unfold M.gcd Int.gcd at h1 ⊢
 rw [Int.natAbs_natCast] at h1 ⊢
 have h2:Nat.gcd (4*D.natAbs) (G % ((4*D.natAbs:Nat):Int)).natAbs=Nat.gcd (4*D.natAbs) G.natAbs:=by omega
 rw [Nat.gcd_comm (4*D.natAbs) F.natAbs,Nat.gcd_assoc,Nat.gcd_assoc,h2]
theorem rm (D F G:Int):dvs D (-F) (-G)=dvs D F G:=by unfold dvs;rw [Int.natAbs_neg,Int.natAbs_neg]
theorem qN {D:Int} (F G:Int) (h:D≠0):1≤dvs D F G∧dvs D F G≤4*D.natAbs:=by
 unfold dvs
 have h0:0<4*D.natAbs:=by omega
 have h1:0<Nat.gcd (4*D.natAbs) F.natAbs:=Nat.gcd_pos_of_pos_left _ h0
 exact ⟨Nat.gcd_pos_of_pos_left _ h1,Nat.le_trans (Nat.gcd_le_left _ h1) (Nat.gcd_le_left _ h0)⟩
end Wh
theorem ig (a b x z:Int) (vx vz:Value) (w:World) (bx bz:Nat) (hg:M.good a b=true) (hox:ae w bx vx x) (hoz:ae w bz vz z) (hx:Wh.sz x 1000) (hz:Wh.sz z 1000) :
  Calls Tryz.prog 150 #[.agg #[.int .i64 a,.int .i64 b],.agg #[.bool (decide (x<0)),vx,.bool (decide (z<0)),vz]] w fun e w'=>e=.returned (.int .i64 (Wh.dvs (M.ay a b) (Wh.bJ a b x z) (Wh.bD a b x z):Nat))∧Below w.heap.size w w':=by
 obtain ⟨ax,cx,rfl,-,-⟩:=aF.view hox
 obtain ⟨az,cz,rfl,-,-⟩:=aF.view hoz
 have hin:=M.bE hg
 obtain ⟨ha1,ha2,hb1,hb2⟩:=M.ah hin
 have hdb:=dr hin
 have hdn:=eT hg
 have PC:=fun W=>mY a b W hin
 have PF:=fun v v' W k k' (h1:aF W k v (Wh.dig x.natAbs)) (h2:aF W k' v' (Wh.dig z.natAbs))=>fa a b x z v v' W k k' h1 h2 hx hz ha1 ha2 hb1 hb2
 have PG:=fun v v' W k k' (h1:aF W k v (Wh.dig x.natAbs)) (h2:aF W k' v' (Wh.dig z.natAbs))=>dY a b x z v v' W k k' h1 h2 hx hz ha1 ha2 hb1 hb2
 have sF:=Wh.aU.2 (Wh.aN (Wh.kd hx hz ha1 ha2 hb1 hb2) (show 5000≤9000 by omega))
 have sG:=Wh.aU.2 (Wh.aN (Wh.kX hx hz ha1 ha2 hb1 hb2) (show 6000≤9000 by omega))
 have hres:=Wh.qO (M.ay a b) (Wh.bJ a b x z) (Wh.bD a b x z)
 generalize Wh.dvs (M.ay a b) (Wh.bJ a b x z) (Wh.bD a b x z)=RES at *
 generalize M.ay a b=D at *
 generalize Wh.bJ a b x z=F at *
 generalize Wh.bD a b x z=G at *
 have hn1:1≤4*D.natAbs:=by omega
 have hn2:4*D.natAbs≤1000000000000:=by omega
 have PV:=fun v W k (h:aF W k v (Wh.dig F.natAbs))=>fZ F (4*D.natAbs) v W k h sF hn1 hn2
 have hm1:1≤Nat.gcd (F.natAbs % (4*D.natAbs)) (4*D.natAbs):=Nat.gcd_pos_of_pos_right _ hn1
 have hm2:Nat.gcd (F.natAbs % (4*D.natAbs)) (4*D.natAbs)≤1000000000000:=Nat.le_trans (Nat.gcd_le_right _ hn1) hn2
 have PW:=fun v W k (h:aF W k v (Wh.dig G.natAbs))=>fZ G (Nat.gcd (F.natAbs % (4*D.natAbs)) (4*D.natAbs)) v W k h sG hm1 hm2
 rw [hres] at PW
 have hmax:(if 4*D < -4*D then -4*D else 4*D)=((4*D.natAbs:Nat):Int):=by split <;> omega
 have hmax2:max (4*D) (-4*D)=((4*D.natAbs:Nat):Int):=by omega
 clear hn1 hn2 hm1 hm2 hres sF sG ha1 ha2 hb1 hb2 hdn
 have hD1:-6700000000≤D:=by omega
 have hD2:D≤6700000000:=by omega
 clear hdb
 generalize hN:4*D.natAbs=N at *
 replace hN:=uh hN
 generalize Nat.gcd (F.natAbs % N) N=N2 at *
 replace hmax:=uh hmax
 replace hmax2:=uh hmax2
 replace PC:=uh PC
 replace PF:=uh PF
 replace PG:=uh PG
 replace PV:=uh PV
 replace PW:=uh PW
 generalize hs1:decide (x<0)=s1 at *
 generalize hs2:decide (z<0)=s2 at *
 clear hs1 hs2
 replace hox:=uh (show aF _ _ _ _ from hox)
 replace hoz:=uh (show aF _ _ _ _ from hoz)
 generalize (Wh.dig x.natAbs).length=lx at *
 generalize (Wh.dig z.natAbs).length=lz at *
 have b1:=(aH.new w #[.int .i64 a,.int .i64 b] 28).alloc (.cells #[.bool s1,.slice ax lx cx,.bool s2,.slice az lz cz] 120)
 have b2:=(aH.new (w.alloc (.cells #[.int .i64 a,.int .i64 b] 28)) #[.bool s1,.slice ax lx cx,.bool s2,.slice az lz cz] 120)
 rw [ui] at b2
 have hB:=((uk w.heap.size w).alloc (ul _) (.cells #[.int .i64 a,.int .i64 b] 28)).alloc (by rw [ui];omega) (.cells #[.bool s1,.slice ax lx cx,.bool s2,.slice az lz cz] 120)
 have ox:=uh (aF.alloc (aF.alloc hox.out (.cells #[.int .i64 a,.int .i64 b] 28)) (.cells #[.bool s1,.slice ax lx cx,.bool s2,.slice az lz cz] 120))
 have oz:=uh (aF.alloc (aF.alloc hoz.out (.cells #[.int .i64 a,.int .i64 b] 28)) (.cells #[.bool s1,.slice ax lx cx,.bool s2,.slice az lz cz] 120))
 clear hox hoz
 generalize hw3:(w.alloc (.cells #[.int .i64 a,.int .i64 b] 28)).alloc (.cells #[.bool s1,.slice ax lx cx,.bool s2,.slice az lz cz] 120)=wc at *
 go_enter Tryz.func150,Tryz.ntmps150
 go_wp2
 go_upto_region 1 with fail
 refine Rg.bF 8 [.is (.agg #[.int .i64 a,.int .i64 b]),.is (.int .i64 D),.is (.int .i64 (4*D)),.is (.agg #[.int .i64 a,.int .i64 b]),.is (.int .i64 D),.is (.int .i64 ((-4)*D)),.is (.int .i64 ((N:Nat):Int)),.is (.int .i64 ((N:Nat):Int))] (by kernel_rfl) (by kernel_rfl) (by kernel_rfl) ⟨?_,?_,?_,?_,?_,?_,?_,?_,trivial⟩ ?_
 ·intro _ ac_ w_ hB hr
  have e2:ac_.tmps[2]?=some (.pointer (some ⟨w.heap.size,0,none⟩)):=hr 2 (by decide)
  have k0:=aE hB b1.box.c0
  have k1:=aE hB b1.box.c1
  exact Rg.aG rfl (by go_simp)
 ·intro _ ac_ w_ hB hr
  have e6:=Rg.ev1 (hr 6 (by decide))
  have ef:=Rg.ef ac_
  exact Rg.bK rfl (by go_simp) (PC.out _)
 ·intro _ ac_ w_ hB hr
  have e7:=Rg.ev1 (hr 7 (by decide))
  have ec:=Rg.ec ac_
  exact Rg.aG rfl (by go_simp <;> exact Rg.wo (by omega))
 ·intro _ ac_ w_ hB hr
  have e2:ac_.tmps[2]?=some (.pointer (some ⟨w.heap.size,0,none⟩)):=hr 2 (by decide)
  have k0:=aE hB b1.box.c0
  have k1:=aE hB b1.box.c1
  exact Rg.aG rfl (by go_simp)
 ·intro _ ac_ w_ hB hr
  have e9:=Rg.ev1 (hr 9 (by decide))
  have ef:=Rg.ef ac_
  exact Rg.bK rfl (by go_simp) (PC.out _)
 ·intro _ ac_ w_ hB hr
  have e10:=Rg.ev1 (hr 10 (by decide))
  have ec:=Rg.ec ac_
  exact Rg.aG rfl (by go_simp <;> exact Rg.wo (by omega))
 ·intro _ ac_ w_ hB hr
  have e8:=Rg.ev1 (hr 8 (by decide))
  have e11:=Rg.ev1 (hr 11 (by decide))
  exact Rg.aG rfl (by go_simp;first | done | (rw [hmax.out];done) | (rw [hmax2.out];done) | (simp only [hmax.out];done))
 ·intro _ ac_ w_ hB hr
  have e12:=Rg.ev1 (hr 12 (by decide))
  exact Rg.aG rfl (by go_simp)
 intro vals wz hB1 hv hne
 have v_7:vals 7=.int .i64 ((N:Nat):Int):=hv 7 (by decide)
 simp only [Rg.am,Rg.fill,Act.put,Nat.reduceAdd]
 clear hv
 simp only [v_7]
 clear v_7
 replace b1:=b1.keep hB1
 replace b2:=b2.keep hB1
 replace ox:=uh (aF.below ox.out hB1)
 replace oz:=uh (aF.below oz.out hB1)
 have hBw:=hB.trans (hB1.mono hB.size)
 unfold Rg.aV
 go_upto_region 2 with fail
 clear hB1
 refine Rg.bF 10 [.is (.agg #[.int .i64 a,.int .i64 b]),.is (.agg #[.bool s1,.slice ax lx cx,.bool s2,.slice az lz cz]),.at (aJ (wz.heap.size) (G)),.is (.agg #[.int .i64 a,.int .i64 b]),.is (.agg #[.bool s1,.slice ax lx cx,.bool s2,.slice az lz cz]),.at (aJ (wz.heap.size) (F)),.is (.int .i64 ((N:Nat):Int)),.is (.int .i64 ((N2:Nat):Int)),.is (.int .i64 ((RES:Nat):Int)),.is (.int .i64 ((RES:Nat):Int))] (by kernel_rfl) (by kernel_rfl) (by kernel_rfl) ⟨?_,?_,?_,?_,?_,?_,?_,?_,?_,?_,trivial⟩ ?_
 ·intro _ ac_ w_ hB hr
  have e2:ac_.tmps[2]?=some (.pointer (some ⟨w.heap.size,0,none⟩)):=hr 2 (by decide)
  have k0:=aE hB b1.box.c0
  have k1:=aE hB b1.box.c1
  exact Rg.aG rfl (by go_simp)
 ·intro _ ac_ w_ hB hr
  have e3:ac_.tmps[3]?=some (.pointer (some ⟨w.heap.size+1,0,none⟩)):=hr 3 (by decide)
  have k0:=aE hB b2.aR.c0
  have k1:=aE hB b2.aR.c1
  have k2:=aE hB b2.aR.c2
  have k3:=aE hB b2.aR.c3
  exact Rg.aG rfl (by go_simp)
 ·intro _ ac_ w_ hB hr
  have e13:=Rg.ev1 (hr 13 (by decide))
  have e14:=Rg.ev1 (hr 14 (by decide))
  have ef:=Rg.ef ac_
  refine Rg.aX rfl (by go_simp;exact ⟨rfl,rfl⟩) ?_
  refine (PG.out _ _ _ _ _ (aF.below ox.out hB) (aF.below oz.out hB)).mono ?_
  rintro e w5 ⟨sl5,rfl,ho5,hb5⟩
  exact ⟨_,rfl,aJ.at ho5 (by have:=hB.size;omega),hb5⟩
 ·intro _ ac_ w_ hB hr
  have e2:ac_.tmps[2]?=some (.pointer (some ⟨w.heap.size,0,none⟩)):=hr 2 (by decide)
  have k0:=aE hB b1.box.c0
  have k1:=aE hB b1.box.c1
  exact Rg.aG rfl (by go_simp)
 ·intro _ ac_ w_ hB hr
  have e3:ac_.tmps[3]?=some (.pointer (some ⟨w.heap.size+1,0,none⟩)):=hr 3 (by decide)
  have k0:=aE hB b2.aR.c0
  have k1:=aE hB b2.aR.c1
  have k2:=aE hB b2.aR.c2
  have k3:=aE hB b2.aR.c3
  exact Rg.aG rfl (by go_simp)
 ·intro _ ac_ w_ hB hr
  have e16:=Rg.ev1 (hr 16 (by decide))
  have e17:=Rg.ev1 (hr 17 (by decide))
  have ef:=Rg.ef ac_
  refine Rg.aX rfl (by go_simp;exact ⟨rfl,rfl⟩) ?_
  refine (PF.out _ _ _ _ _ (aF.below ox.out hB) (aF.below oz.out hB)).mono ?_
  rintro e w5 ⟨sl5,rfl,ho5,hb5⟩
  exact ⟨_,rfl,aJ.at ho5 (by have:=hB.size;omega),hb5⟩
 ·intro _ ac_ w_ hB hr
  have e5:ac_.tmps[5]?=some (.int .i64 ((N:Nat):Int)):=hr 5 (by decide)
  exact Rg.aG rfl (by go_simp)
 ·intro _ ac_ w_ hB hr
  obtain ⟨v18,e18,n18⟩:∃ v,ac_.tmps[18]?=some v∧(Rg.Val.at (aJ (wz.heap.size) (F))).ok v w_:=hr 18 (by decide)
  obtain ⟨s18,a18,l18,c18,hs18,rfl,o18⟩:=(Rg.aZ n18).view
  have e19:=Rg.ev1 (hr 19 (by decide))
  have ef:=Rg.ef ac_
  obtain rfl:=hs18.out
  exact Rg.bK rfl (by go_simp) (PV.out _ _ _ o18)
 ·intro _ ac_ w_ hB hr
  obtain ⟨v15,e15,n15⟩:∃ v,ac_.tmps[15]?=some v∧(Rg.Val.at (aJ (wz.heap.size) (G))).ok v w_:=hr 15 (by decide)
  obtain ⟨s15,a15,l15,c15,hs15,rfl,o15⟩:=(Rg.aZ n15).view
  have e20:=Rg.ev1 (hr 20 (by decide))
  have ef:=Rg.ef ac_
  obtain rfl:=hs15.out
  exact Rg.bK rfl (by go_simp) (PW.out _ _ _ o15)
 ·intro _ ac_ w_ hB hr
  have e21:=Rg.ev1 (hr 21 (by decide))
  exact Rg.aG rfl (by go_simp)
 intro vals wy hB2 hv hne
 have v_9:vals 9=.int .i64 ((RES:Nat):Int):=hv 9 (by decide)
 simp only [Rg.am,Rg.fill,Act.put,Nat.reduceAdd]
 clear hv
 simp only [v_9]
 clear v_9
 unfold Rg.aV
 go_wp2
 go_ret
 exact ⟨rfl,hBw.trans (hB2.mono hBw.size)⟩
end
end Go.Proofs.YtgfkcoablfjbcaaGreatDoor
