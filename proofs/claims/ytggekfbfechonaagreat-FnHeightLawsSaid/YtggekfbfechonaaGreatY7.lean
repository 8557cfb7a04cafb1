/-
  Joined texts: contracts and plain lemmas.
-/
import Derived.Test.YtggekfbfechonaaGreatY1
import Derived.Test.YtggekfbfechonaaGreatY6
set_option linter.unusedSimpArgs false
set_option linter.unusedVariables false
set_option maxRecDepth 100000
set_option maxHeartbeats 8000000
namespace Go.Proofs.YtggekfbfechonaaGreat
section
open Go.RowKit
namespace Wh
theorem lY {a b x z:Int} (hx:sz x 1000) (hz:sz z 1000) (ha1:-1000≤a) (ha2:a≤1000) (hb1:-10000≤b) (hb2:b≤10000):sz (aw a b x z) 5000:=by
 have haa:-1000000≤a*a∧a*a≤1000000:=M.aL (x:=a) (y:=a) (m:=1000) (n:=1000) (by omega) (by omega) (by omega) (by omega);rw [←nH];have mx:=bB hx hx;have mz:=bB hz hz;have m1:=lW (aN (bB mx mx) (show 1000+1000+(1000+1000)≤4100 by omega)) (aN (bB (bB mx mz) (bc (n:=2*a) (by omega) (by omega))) (show _≤4100 by omega));have m2:=lW (aN m1 (show 4100+1≤4200 by omega)) (aN (bB (bB (bB hx hz) mz) (bc (n:=8*b) (by omega) (by omega))) (show _≤4200 by omega));exact aN (fm (aN m2 (show 4200+1≤4300 by omega)) (aN (bB (bB mz mz) (bc (n:=a*a) (by omega) (by omega))) (show _≤4300 by omega))) (by omega)
theorem lU {a b x z:Int} (hx:sz x 1000) (hz:sz z 1000) (ha1:-1000≤a) (ha2:a≤1000) (hb1:-10000≤b) (hb2:b≤10000):sz (am a b x z) 6000:=by
 rw [←l9];have m1:=bB hx hx;have m0:=bB hz hz;have m2:=bB m1 hx;have m4:=bB (bB hx m0) (bc (n:=a) (by omega) (by omega));have m5:=fm (aN m2 (show 1000+1000+1000≤4000 by omega)) (aN m4 (show _≤4000 by omega));have m7:=bB (bB hz m0) (bc (n:=b) (by omega) (by omega));have m8:=fm (aN m5 (show 4000+1≤4100 by omega)) (aN m7 (show _≤4100 by omega));exact aN (bB (bB hz m8) (bc (n:=4) (by omega) (by omega))) (by omega)
def Ah (D F G:Int):Nat:=Nat.gcd (Nat.gcd (4*D.natAbs) F.natAbs) G.natAbs
theorem rI (D F G:Int):Nat.gcd (G.natAbs % Nat.gcd (F.natAbs % (4*D.natAbs)) (4*D.natAbs)) (Nat.gcd (F.natAbs % (4*D.natAbs)) (4*D.natAbs))=Ah D F G:=by
 unfold Ah;rw [←Nat.gcd_rec,←Nat.gcd_rec]
theorem mQ (n:Nat) (y:Int):M.gcd (n:Int) (y % (n:Int))=(Nat.gcd n y.natAbs:Nat):=by
 unfold M.gcd Int.gcd;rw [Int.natAbs_natCast]
 by_cases hn:n=0
 ·subst hn
  simp
 congr 1
 apply Nat.dvd_antisymm
 ·refine Nat.dvd_gcd (Nat.gcd_dvd_left _ _) ?_
  have h1:(Nat.gcd n (y % (n:Int)).natAbs:Int) ∣ y % (n:Int):=Int.ofNat_dvd_left.2 (Nat.gcd_dvd_right _ _);have h2:(Nat.gcd n (y % (n:Int)).natAbs:Int) ∣ (n:Int):=Int.ofNat_dvd.2 (Nat.gcd_dvd_left _ _)
  have h3:(Nat.gcd n (y % (n:Int)).natAbs:Int) ∣ y:=by
   have h4:=Int.dvd_add h1 (Int.dvd_mul_of_dvd_left (c:=y / (n:Int)) h2)
   rwa [Int.emod_add_mul_ediv] at h4
  exact Int.ofNat_dvd_left.1 h3
 refine Nat.dvd_gcd (Nat.gcd_dvd_left _ _) ?_;have h1:(Nat.gcd n y.natAbs:Int) ∣ y:=Int.ofNat_dvd_left.2 (Nat.gcd_dvd_right _ _);have h2:(Nat.gcd n y.natAbs:Int) ∣ (n:Int):=Int.ofNat_dvd.2 (Nat.gcd_dvd_left _ _)
 have h3:(Nat.gcd n y.natAbs:Int) ∣ y % (n:Int):=by
  rw [Int.emod_def];exact Int.dvd_sub h1 (Int.dvd_mul_of_dvd_left h2)
 exact Int.ofNat_dvd_left.1 h3
theorem s8 (D F G:Int):M.gcd (M.gcd (4*(D.natAbs:Int)) (F % (4*(D.natAbs:Int)))) (G % (4*(D.natAbs:Int)))=(Ah D F G:Nat):=by
 have e:(4*(D.natAbs:Int))=((4*D.natAbs:Nat):Int):=by omega
 rw [e,mQ];unfold Ah;have h:Nat.gcd F.natAbs F.natAbs=F.natAbs:=Nat.gcd_self _;have h1:=mQ (4*D.natAbs) G;unfold M.gcd Int.gcd at h1 ⊢;rw [Int.natAbs_natCast] at h1 ⊢
 have h2:Nat.gcd (4*D.natAbs) (G % ((4*D.natAbs:Nat):Int)).natAbs=Nat.gcd (4*D.natAbs) G.natAbs:=by omega
 rw [Nat.gcd_comm (4*D.natAbs) F.natAbs,Nat.gcd_assoc,Nat.gcd_assoc,h2]
theorem sy (D F G:Int):Ah D (-F) (-G)=Ah D F G:=by unfold Ah;rw [Int.natAbs_neg,Int.natAbs_neg]
theorem rH {D:Int} (F G:Int) (h:D≠0):1≤Ah D F G∧Ah D F G≤4*D.natAbs:=by
 unfold Ah
 have h0:0<4*D.natAbs:=by omega
 have h1:0<Nat.gcd (4*D.natAbs) F.natAbs:=Nat.gcd_pos_of_pos_left _ h0;exact ⟨Nat.gcd_pos_of_pos_left _ h1,Nat.le_trans (Nat.gcd_le_left _ h1) (Nat.gcd_le_left _ h0)⟩
end Wh
theorem je (a b x z:Int) (vx vz:Value) (w:World) (bx bz:Nat) (hg:M.good a b=true) (hox:ak w bx vx x) (xZ:ak w bz vz z) (hx:Wh.sz x 1000) (hz:Wh.sz z 1000) :
  Calls Tryz.prog 178 #[.agg #[.int .i64 a,.int .i64 b],.agg #[.bool (decide (x<0)),vx,.bool (decide (z<0)),vz]] w fun e w'=>e=.returned (.int .i64 (Wh.Ah (M.ae a b) (Wh.aw a b x z) (Wh.am a b x z):Nat))∧Below w.heap.size w w':=by
 obtain ⟨ax,cx,rfl,-,-⟩:=aF.view hox;obtain ⟨az,cz,rfl,-,-⟩:=aF.view xZ;have hin:=M.ag hg;obtain ⟨ha1,ha2,hb1,hb2⟩:=M.an hin;have hdb:=dy hin;have hdn:=et hg
 have PC:=fun W=>nh a b W hin
 have PF:=fun v v' W k k' (h1:aF W k v (Wh.a_ x.natAbs)) (h2:aF W k' v' (Wh.a_ z.natAbs))=>gI a b x z v v' W k k' h1 h2 hx hz ha1 ha2 hb1 hb2
 have PG:=fun v v' W k k' (h1:aF W k v (Wh.a_ x.natAbs)) (h2:aF W k' v' (Wh.a_ z.natAbs))=>dc a b x z v v' W k k' h1 h2 hx hz ha1 ha2 hb1 hb2
 have sF:=Wh.aY.2 (Wh.aN (Wh.lY hx hz ha1 ha2 hb1 hb2) (show 5000≤9000 by omega));have sG:=Wh.aY.2 (Wh.aN (Wh.lU hx hz ha1 ha2 hb1 hb2) (show 6000≤9000 by omega));have hres:=Wh.rI (M.ae a b) (Wh.aw a b x z) (Wh.am a b x z);generalize Wh.am a b x z=G,Wh.aw a b x z=F,M.ae a b=D,Wh.Ah (M.ae a b) (Wh.aw a b x z) (Wh.am a b x z)=RES at *
 have hn1:1≤4*D.natAbs:=by omega
 have hn2:4*D.natAbs≤1000000000000:=by omega
 have PV:=fun v W k (h:aF W k v (Wh.a_ F.natAbs))=>gH F (4*D.natAbs) v W k h sF hn1 hn2
 have hm1:1≤Nat.gcd (F.natAbs % (4*D.natAbs)) (4*D.natAbs):=Nat.gcd_pos_of_pos_right _ hn1;have hm2:Nat.gcd (F.natAbs % (4*D.natAbs)) (4*D.natAbs)≤1000000000000:=Nat.le_trans (Nat.gcd_le_right _ hn1) hn2
 have PW:=fun v W k (h:aF W k v (Wh.a_ G.natAbs))=>gH G (Nat.gcd (F.natAbs % (4*D.natAbs)) (4*D.natAbs)) v W k h sG hm1 hm2
 rw [hres] at PW
 have hmax:(if 4*D < -4*D then -4*D else 4*D)=((4*D.natAbs:Nat):Int):=by split <;> omega
 have Dm:max (4*D) (-4*D)=((4*D.natAbs:Nat):Int):=by omega
 clear hn1 hn2 hm1 hm2 hres sF sG ha1 ha2 hb1 hb2 hdn
 have hD1:-6700000000≤D:=by omega
 have hD2:D≤6700000000:=by omega
 clear hdb;generalize hN:4*D.natAbs=N at *;replace hN:=wH hN;generalize Nat.gcd (F.natAbs % N) N=N2 at *;replace hmax:=wH hmax;replace Dm:=wH Dm;replace PC:=wH PC;replace PF:=wH PF;replace PG:=wH PG;replace PV:=wH PV;replace PW:=wH PW;generalize hs1:decide (x<0)=s1 at *;generalize hs2:decide (z<0)=s2 at *;clear hs1 hs2;replace hox:=wH (show aF _ _ _ _ from hox);replace xZ:=wH (show aF _ _ _ _ from xZ);generalize (Wh.a_ z.natAbs).length=lz,(Wh.a_ x.natAbs).length=lx at *;have b1:=(aH.new w #[.int .i64 a,.int .i64 b] 25).alloc (.cells #[.bool s1,.slice ax lx cx,.bool s2,.slice az lz cz] 127)
 have b2:=(aH.new (w.alloc (.cells #[.int .i64 a,.int .i64 b] 25)) #[.bool s1,.slice ax lx cx,.bool s2,.slice az lz cz] 127)
 rw [wI] at b2;have hB:=((wK w.heap.size w).alloc (wL _) (.cells #[.int .i64 a,.int .i64 b] 25)).alloc (by rw [wI];omega) (.cells #[.bool s1,.slice ax lx cx,.bool s2,.slice az lz cz] 127);have ox:=wH (aF.alloc (aF.alloc hox.out (.cells #[.int .i64 a,.int .i64 b] 25)) (.cells #[.bool s1,.slice ax lx cx,.bool s2,.slice az lz cz] 127));have oz:=wH (aF.alloc (aF.alloc xZ.out (.cells #[.int .i64 a,.int .i64 b] 25)) (.cells #[.bool s1,.slice ax lx cx,.bool s2,.slice az lz cz] 127));clear hox xZ;generalize hw3:(w.alloc (.cells #[.int .i64 a,.int .i64 b] 25)).alloc (.cells #[.bool s1,.slice ax lx cx,.bool s2,.slice az lz cz] 127)=wc at *;go_enter Tryz.func178,Tryz.ntmps178
 go_wp2
 go_upto_region 1 with fail
 refine Rg.bO 8 [.is (.agg #[.int .i64 a,.int .i64 b]),.is (.int .i64 D),.is (.int .i64 (4*D)),.is (.agg #[.int .i64 a,.int .i64 b]),.is (.int .i64 D),.is (.int .i64 ((-4)*D)),.is (.int .i64 ((N:Nat):Int)),.is (.int .i64 ((N:Nat):Int))] (by kernel_rfl) (by kernel_rfl) (by kernel_rfl) ⟨?_,?_,?_,?_,?_,?_,?_,?_,trivial⟩ ?_
 ·intro _ zZ w_ hB hr
  have e2:zZ.tmps[2]?=some (.pointer (some ⟨w.heap.size,0,none⟩)):=hr 2 (by decide);have k0:=aE hB b1.box.c0;have k1:=aE hB b1.box.c1;exact Rg.aG rfl (by go_simp)
 ·intro _ zZ w_ hB hr
  have e6:=Rg.c_ (hr 6 (by decide));have ef:=Rg.ef zZ;exact Rg.bo rfl (by go_simp) (PC.out _)
 ·intro _ zZ w_ hB hr
  have e7:=Rg.c_ (hr 7 (by decide));have ec:=Rg.ec zZ;exact Rg.aG rfl (by go_simp <;> exact Rg.wo (by omega))
 ·intro _ zZ w_ hB hr
  have e2:zZ.tmps[2]?=some (.pointer (some ⟨w.heap.size,0,none⟩)):=hr 2 (by decide);have k0:=aE hB b1.box.c0;have k1:=aE hB b1.box.c1;exact Rg.aG rfl (by go_simp)
 ·intro _ zZ w_ hB hr
  have e9:=Rg.c_ (hr 9 (by decide));have ef:=Rg.ef zZ;exact Rg.bo rfl (by go_simp) (PC.out _)
 ·intro _ zZ w_ hB hr
  have e10:=Rg.c_ (hr 10 (by decide));have ec:=Rg.ec zZ;exact Rg.aG rfl (by go_simp <;> exact Rg.wo (by omega))
 ·intro _ zZ w_ hB hr
  have e8:=Rg.c_ (hr 8 (by decide));have e11:=Rg.c_ (hr 11 (by decide));exact Rg.aG rfl (by go_simp;first | done | (rw [hmax.out];done) | (rw [Dm.out];done) | (simp only [hmax.out];done))
 ·intro _ zZ w_ hB hr
  have e12:=Rg.c_ (hr 12 (by decide));exact Rg.aG rfl (by go_simp)
 intro vals wz hB1 hv hne;have At:vals 7=.int .i64 ((N:Nat):Int):=hv 7 (by decide);simp only [Rg.ay,Rg.fill,Act.put,Nat.reduceAdd];clear hv;simp only [At];clear At;replace b1:=b1.keep hB1;replace b2:=b2.keep hB1;replace ox:=wH (aF.below ox.out hB1);replace oz:=wH (aF.below oz.out hB1);have hBw:=d_ hB hB1;unfold Rg.aZ
 go_upto_region 2 with fail
 clear hB1;refine Rg.bO 10 [.is (.agg #[.int .i64 a,.int .i64 b]),.is (.agg #[.bool s1,.slice ax lx cx,.bool s2,.slice az lz cz]),.at (aJ (wz.heap.size) (G)),.is (.agg #[.int .i64 a,.int .i64 b]),.is (.agg #[.bool s1,.slice ax lx cx,.bool s2,.slice az lz cz]),.at (aJ (wz.heap.size) (F)),.is (.int .i64 ((N:Nat):Int)),.is (.int .i64 ((N2:Nat):Int)),.is (.int .i64 ((RES:Nat):Int)),.is (.int .i64 ((RES:Nat):Int))] (by kernel_rfl) (by kernel_rfl) (by kernel_rfl) ⟨?_,?_,?_,?_,?_,?_,?_,?_,?_,?_,trivial⟩ ?_
 ·intro _ zZ w_ hB hr
  have e2:zZ.tmps[2]?=some (.pointer (some ⟨w.heap.size,0,none⟩)):=hr 2 (by decide);have k0:=aE hB b1.box.c0;have k1:=aE hB b1.box.c1;exact Rg.aG rfl (by go_simp)
 ·intro _ zZ w_ hB hr
  have e3:zZ.tmps[3]?=some (.pointer (some ⟨w.heap.size+1,0,none⟩)):=hr 3 (by decide);have k0:=aE hB b2.aP.c0;have k1:=aE hB b2.aP.c1;have k2:=aE hB b2.aP.c2;have k3:=aE hB b2.aP.c3;exact Rg.aG rfl (by go_simp)
 ·intro _ zZ w_ hB hr
  have e13:=Rg.c_ (hr 13 (by decide));have e14:=Rg.c_ (hr 14 (by decide));have ef:=Rg.ef zZ;refine Rg.ah rfl (by go_simp;exact ⟨rfl,rfl⟩) ?_;refine (PG.out _ _ _ _ _ (aF.below ox.out hB) (aF.below oz.out hB)).mono ?_;rintro e w5 ⟨xX,rfl,wW,hb5⟩;exact ⟨_,rfl,aJ.at wW (by have:=hB.size;omega),hb5⟩
 ·intro _ zZ w_ hB hr
  have e2:zZ.tmps[2]?=some (.pointer (some ⟨w.heap.size,0,none⟩)):=hr 2 (by decide);have k0:=aE hB b1.box.c0;have k1:=aE hB b1.box.c1;exact Rg.aG rfl (by go_simp)
 ·intro _ zZ w_ hB hr
  have e3:zZ.tmps[3]?=some (.pointer (some ⟨w.heap.size+1,0,none⟩)):=hr 3 (by decide);have k0:=aE hB b2.aP.c0;have k1:=aE hB b2.aP.c1;have k2:=aE hB b2.aP.c2;have k3:=aE hB b2.aP.c3;exact Rg.aG rfl (by go_simp)
 ·intro _ zZ w_ hB hr
  have e16:=Rg.c_ (hr 16 (by decide));have e17:=Rg.c_ (hr 17 (by decide));have ef:=Rg.ef zZ;refine Rg.ah rfl (by go_simp;exact ⟨rfl,rfl⟩) ?_;refine (PF.out _ _ _ _ _ (aF.below ox.out hB) (aF.below oz.out hB)).mono ?_;rintro e w5 ⟨xX,rfl,wW,hb5⟩;exact ⟨_,rfl,aJ.at wW (by have:=hB.size;omega),hb5⟩
 ·intro _ zZ w_ hB hr
  have e5:zZ.tmps[5]?=some (.int .i64 ((N:Nat):Int)):=hr 5 (by decide);exact Rg.aG rfl (by go_simp)
 ·intro _ zZ w_ hB hr
  obtain ⟨v18,e18,n18⟩:∃ v,zZ.tmps[18]?=some v∧(Rg.Val.at (aJ (wz.heap.size) (F))).ok v w_:=hr 18 (by decide);obtain ⟨s18,a18,l18,c18,Ga,rfl,Nr⟩:=(Rg.aj n18).view;have e19:=Rg.c_ (hr 19 (by decide));have ef:=Rg.ef zZ;obtain rfl:=Ga.out;exact Rg.bo rfl (by go_simp) (PV.out _ _ _ Nr)
 ·intro _ zZ w_ hB hr
  obtain ⟨v15,e15,n15⟩:∃ v,zZ.tmps[15]?=some v∧(Rg.Val.at (aJ (wz.heap.size) (G))).ok v w_:=hr 15 (by decide);obtain ⟨s15,DX,Dz,c15,FG,rfl,Fk⟩:=(Rg.aj n15).view;have e20:=Rg.c_ (hr 20 (by decide));have ef:=Rg.ef zZ;obtain rfl:=FG.out;exact Rg.bo rfl (by go_simp) (PW.out _ _ _ Fk)
 ·intro _ zZ w_ hB hr
  have e21:=Rg.c_ (hr 21 (by decide));exact Rg.aG rfl (by go_simp)
 intro vals wy hB2 hv hne;have yp:vals 9=.int .i64 ((RES:Nat):Int):=hv 9 (by decide);simp only [Rg.ay,Rg.fill,Act.put,Nat.reduceAdd];clear hv;simp only [yp];clear yp;unfold Rg.aZ;go_wp2;go_ret;exact ⟨rfl,d_ hBw hB2⟩
namespace Wh
def Bd (D F G:Int):Int:=if G<0 then -(F / (Ah D F G:Nat)) else F / (Ah D F G:Nat)
def Bc (D F G:Int):Int:=if G<0 then -(G / (Ah D F G:Nat)) else G / (Ah D F G:Nat)
def dU (D F G:Int):Bool:=decide (G≠0) && cV (Bd D F G) (Bc D F G)
def AE (D F G:Int):Int:=if dU D F G=true then Bd D F G else 0
def AF (D F G:Int):Int:=if dU D F G=true then Bc D F G else 0
theorem lV {z:Int} {n:Nat} (h:sz z n) (d:Nat):sz (z / (d:Int)) (n+1):=by
 unfold sz at *;rw [Nat.pow_succ]
 have h1:(z / (d:Int)).natAbs≤z.natAbs+1:=by
  rcases Nat.eq_zero_or_pos d with rfl | hd
  ·simp
  have:=Int.natAbs_ediv_le_natAbs z (d:Int);omega
 have hp:0<10000 ^ n:=Nat.pow_pos (by decide);omega
theorem dx {z:Int}:(a_ z.natAbs).length=0 ↔ z=0:=by
 rw [List.length_eq_zero_iff,fx];omega
theorem oX {z:Int} {d:Nat} (hd:1≤d):decide (z / (d:Int)<0)=decide (z<0):=by
 rw [decide_eq_decide]
 constructor
 ·intro h
  rcases Int.lt_or_le z 0 with q | q
  ·exact q
  have:=Int.ediv_nonneg (b:=(d:Int)) q (by omega);omega
 intro h;exact Int.ediv_neg_of_neg_of_pos h (by omega)
end Wh
theorem fJ (w:World) (k:Nat):ak w k (.slice none 0 0) 0:=by
 unfold ak;rw [show Wh.a_ (0:Int).natAbs=[] from Wh.fx.2 rfl];exact aF.nil _ _
theorem pl (a b x z:Int) (vx vz:Value) (w:World) (bx bz:Nat) (hg:M.good a b=true) (hox:ak w bx vx x) (xZ:ak w bz vz z) (hx:Wh.sz x 1000) (hz:Wh.sz z 1000) :
  Calls Tryz.prog 155 #[.agg #[.int .i64 a,.int .i64 b],.agg #[.bool (decide (x<0)),vx,.bool (decide (z<0)),vz]] w fun e w'=>∃ v1 v2,e=.returned (.tuple #[.agg #[.bool (decide (Wh.AE (M.ae a b) (Wh.aw a b x z) (Wh.am a b x z)<0)),v1,.bool (decide (Wh.AF (M.ae a b) (Wh.aw a b x z) (Wh.am a b x z)<0)),v2],.bool (Wh.dU (M.ae a b) (Wh.aw a b x z) (Wh.am a b x z))])∧ak w' w.heap.size v1 (Wh.AE (M.ae a b) (Wh.aw a b x z) (Wh.am a b x z))∧ak w' w.heap.size v2 (Wh.AF (M.ae a b) (Wh.aw a b x z) (Wh.am a b x z))∧Below w.heap.size w w':=by
 obtain ⟨ax,cx,rfl,-,-⟩:=aF.view hox;obtain ⟨az,cz,rfl,-,-⟩:=aF.view xZ;have hin:=M.ag hg;obtain ⟨ha1,ha2,hb1,hb2⟩:=M.an hin;have hdb:=dy hin;have hdn:=et hg
 have PF:=fun v v' W k k' (h1:aF W k v (Wh.a_ x.natAbs)) (h2:aF W k' v' (Wh.a_ z.natAbs))=>gI a b x z v v' W k k' h1 h2 hx hz ha1 ha2 hb1 hb2
 have PG:=fun v v' W k k' (h1:aF W k v (Wh.a_ x.natAbs)) (h2:aF W k' v' (Wh.a_ z.natAbs))=>dc a b x z v v' W k k' h1 h2 hx hz ha1 ha2 hb1 hb2
 have PD:=fun v v' W k k' (h1:aF W k v (Wh.a_ x.natAbs)) (h2:aF W k' v' (Wh.a_ z.natAbs))=>je a b x z v v' W k k' hg h1 h2 hx hz
 have zF:=Wh.lY hx hz ha1 ha2 hb1 hb2;have zG:=Wh.lU hx hz ha1 ha2 hb1 hb2;have hdv:=Wh.rH (Wh.aw a b x z) (Wh.am a b x z) hdn;generalize Wh.am a b x z=G,Wh.aw a b x z=F,M.ae a b=D at *;clear hin hg ha1 ha2 hb1 hb2 hdn hx hz
 obtain ⟨d,hd⟩:∃ d,Hid (Wh.Ah D F G=d):=⟨_,wH rfl⟩
 rw [hd.out] at hdv PD;have hd1:1≤d:=hdv.1
 have hd2:d≤1000000000000:=by omega
 clear hdv hdb;have sF:=Wh.aY.2 (Wh.aN zF (show 5000≤9000 by omega));have sG:=Wh.aY.2 (Wh.aN zG (show 6000≤9000 by omega));have zN:=Wh.lV zF d;have zE:=Wh.lV zG d;have sN:=Wh.aY.2 (Wh.aN zN (show 5000+1≤9000 by omega));have sE:=Wh.aY.2 (Wh.aN zE (show 6000+1≤9000 by omega))
 have PQ:=fun v W k (h:aF W k v (Wh.a_ F.natAbs))=>gL F (d:Int) v W k h sF (by omega) (by omega)
 have PR:=fun v W k (h:aF W k v (Wh.a_ G.natAbs))=>gL G (d:Int) v W k h sG (by omega) (by omega)
 generalize hs1:decide (x<0)=s1 at *;generalize hs2:decide (z<0)=s2 at *;clear hs1 hs2;replace hox:=wH (show aF _ _ _ _ from hox);replace xZ:=wH (show aF _ _ _ _ from xZ);generalize (Wh.a_ z.natAbs).length=lz,(Wh.a_ x.natAbs).length=lx at *;have C:=((aH.new w #[.int .i64 a,.int .i64 b] 25).alloc (.cells #[.bool s1,.slice ax lx cx,.bool s2,.slice az lz cz] 127)).alloc (.cells #[.bool false,.slice none 0 0,.bool false,.slice none 0 0] 127);have Q:=(aH.new (w.alloc (.cells #[.int .i64 a,.int .i64 b] 25)) #[.bool s1,.slice ax lx cx,.bool s2,.slice az lz cz] 127).alloc (.cells #[.bool false,.slice none 0 0,.bool false,.slice none 0 0] 127);rw [wI] at Q;have R:=aH.new ((w.alloc (.cells #[.int .i64 a,.int .i64 b] 25)).alloc (.cells #[.bool s1,.slice ax lx cx,.bool s2,.slice az lz cz] 127)) #[.bool false,.slice none 0 0,.bool false,.slice none 0 0] 127;rw [cr] at R;have B:=(((wK w.heap.size w).alloc (wL _) (.cells #[.int .i64 a,.int .i64 b] 25)).alloc (by rw [wI];omega) (.cells #[.bool s1,.slice ax lx cx,.bool s2,.slice az lz cz] 127)).alloc (by rw [cr];omega) (.cells #[.bool false,.slice none 0 0,.bool false,.slice none 0 0] 127);have ox:=wH (aF.alloc (aF.alloc (aF.alloc hox.out (.cells #[.int .i64 a,.int .i64 b] 25)) (.cells #[.bool s1,.slice ax lx cx,.bool s2,.slice az lz cz] 127)) (.cells #[.bool false,.slice none 0 0,.bool false,.slice none 0 0] 127));have oz:=wH (aF.alloc (aF.alloc (aF.alloc xZ.out (.cells #[.int .i64 a,.int .i64 b] 25)) (.cells #[.bool s1,.slice ax lx cx,.bool s2,.slice az lz cz] 127)) (.cells #[.bool false,.slice none 0 0,.bool false,.slice none 0 0] 127));clear hox xZ;generalize hw3:((w.alloc (.cells #[.int .i64 a,.int .i64 b] 25)).alloc (.cells #[.bool s1,.slice ax lx cx,.bool s2,.slice az lz cz] 127)).alloc (.cells #[.bool false,.slice none 0 0,.bool false,.slice none 0 0] 127)=wc at *;have f_:=C.box.c0;have g_:=C.box.c1;have xj:=Q.aP.c0;have xk:=Q.aP.c1;have xm:=Q.aP.c2;have xn:=Q.aP.c3;have wP:=R.aP.c0;have wQ:=R.aP.c1;have wU:=R.aP.c2;have wV:=R.aP.c3;have wM:=R.aP.f0;have wN:=R.aP.f1;have wT:=R.aP.f2;have wY:=R.aP.f3
 by_cases h0:G=0
 ·subst h0
  have hok:Wh.dU D F 0=false:=by unfold Wh.dU;simp
  have hX:Wh.AE D F 0=0:=by unfold Wh.AE;rw [hok];rfl
  have hZ:Wh.AF D F 0=0:=by unfold Wh.AF;rw [hok];rfl
  rw [hok,hX,hZ];have hl0:(Wh.a_ (0:Int).natAbs).length=0:=Wh.dx.2 rfl;have hs0:decide ((0:Int)<0)=false:=rfl;rw [hs0] at PG ⊢;clear hok hX hZ hs0 PF PD PQ PR sF sG zN zE sN sE zF zG hd hd1 hd2;replace PG:=wH PG;go_enter Tryz.func155,Tryz.ntmps155
  go_wp2_with (go_at_call 154;(with_reducible refine (PG.out _ _ _ _ _ ox.out oz.out).mono ?_);rintro e w4 ⟨v4,rfl,xF,hb4⟩;have xH:=B.size;replace C:=C.keep hb4;replace Q:=Q.keep hb4;replace R:=R.keep hb4;replace ox:=kO ox hb4;replace oz:=kO oz hb4;replace B:=d_ B hb4;obtain ⟨a4,c4,rfl,xD,wS⟩:=aF.view xF;clear xD wS;have og:=wH (aF.base (show aF _ _ _ _ from xF) xH);clear xF;clear xH;(rw [hl0] at og ⊢);have T:=aH.new w4 #[.bool false,.slice a4 0 c4] 125;have b_:=bA w4 (.cells #[.bool false,.slice a4 0 c4] 125);replace C:=C.keep b_;replace Q:=Q.keep b_;replace R:=R.keep b_;replace ox:=kO ox b_;replace oz:=kO oz b_;replace og:=kO og b_;replace B:=d_ B b_;clear b_;(replace ⟨f_,g_⟩:=C.b2);(replace ⟨xj,xk,xm,xn⟩:=Q.b4);(replace ⟨wP,wQ,wU,wV,wM,wN,wT,wY⟩:=R.xJ);(replace ⟨xP,xQ⟩:=T.b2))
  exact bodyPost_ret (v:=.tuple #[.agg #[.bool false,.slice none 0 0,.bool false,.slice none 0 0],.bool false]) (by simp [results,Tryz.results155,go_sem, *]) rfl (⟨_,_,rfl,fJ _ _,fJ _ _,wJ (wJ (wJ (wJ B (by simp <;> omega) _) (by simp <;> omega) _) (by simp <;> omega) _) (by simp <;> omega) _⟩)
 have hlp:¬ (Wh.a_ G.natAbs).length=0:=fun h=>h0 (Wh.dx.1 h)
 have hlq:(((Wh.a_ G.natAbs).length:Int) == 0)=false:=by rw [beq_eq_false_iff_ne];omega
 have hne:decide (G≠0)=true:=decide_eq_true h0;have BQ:=Wh.oX (z:=G) hd1
 have PN:=fun v W k (h:aF W k v (Wh.a_ (F / (d:Int)).natAbs))=>iW (F / (d:Int)) v W k h (by omega)
 have PE:=fun v W k (h:aF W k v (Wh.a_ (G / (d:Int)).natAbs))=>iW (G / (d:Int)) v W k h (by omega)
 have BS:(Wh.a_ (-(F / (d:Int))).natAbs).length≤100000:=by rw [Int.natAbs_neg];omega
 have Fj:(Wh.a_ (-(G / (d:Int))).natAbs).length≤100000:=by rw [Int.natAbs_neg];omega
 have Az:=fun v v' W k k' (h:aF W k v (Wh.a_ (F / (d:Int)).natAbs)) (h':aF W k' v' (Wh.a_ (G / (d:Int)).natAbs))=>kM (F / (d:Int)) (G / (d:Int)) v v' W k k' h h' (by omega) (by omega)
 have BW:=fun v v' W k k' (h:aF W k v (Wh.a_ (-(F / (d:Int))).natAbs)) (h':aF W k' v' (Wh.a_ (-(G / (d:Int))).natAbs))=>kM (-(F / (d:Int))) (-(G / (d:Int))) v v' W k k' h h' BS Fj
 have Fa:Wh.dU D F G=Wh.cV (if G<0 then -(F / (d:Int)) else F / (d:Int)) (if G<0 then -(G / (d:Int)) else G / (d:Int)):=by unfold Wh.dU Wh.Bd Wh.Bc;rw [hd.out,hne];rfl
 have eX:Wh.AE D F G=if Wh.dU D F G=true then (if G<0 then -(F / (d:Int)) else F / (d:Int)) else 0:=by unfold Wh.AE Wh.Bd;rw [hd.out]
 have eZ:Wh.AF D F G=if Wh.dU D F G=true then (if G<0 then -(G / (d:Int)) else G / (d:Int)) else 0:=by unfold Wh.AF Wh.Bc;rw [hd.out]
 rw [eX,eZ,Fa];clear eX eZ Fa BS Fj hne h0 sF sG zN zE sN sE zF zG;generalize F / (d:Int)=N at *;generalize G / (d:Int)=E at *;generalize F % (d:Int)=rF at *;generalize G % (d:Int)=rG at *;generalize decide (F<0)=sF at *;clear hd
 by_cases hneg:G<0
 ·have hsg:decide (G<0)=true:=decide_eq_true hneg
  rw [hsg] at BQ PG;rw [if_pos hneg,if_pos hneg];simp only [hsg,BQ] at PR PE Az;clear Az;generalize BS:decide (N<0)=sN at *;replace PG:=wH PG;replace PF:=wH PF;replace PD:=wH PD;replace PQ:=wH PQ;replace PR:=wH PR;replace PN:=wH PN;replace PE:=wH PE;replace BW:=wH BW;replace BS:=wH BS;replace BQ:=wH BQ;clear hneg hsg hd1 hd2
  by_cases hok:Wh.cV (-N) (-E)=true
  ·skip
   rw [hok];replace hok:=wH hok;rw [if_pos rfl,if_pos rfl];go_enter Tryz.func155,Tryz.ntmps155
   go_upto_region 8 with (first
    | (go_at_call 154;(with_reducible refine (PG.out _ _ _ _ _ ox.out oz.out).mono ?_);rintro e w4 ⟨v4,rfl,xF,hb4⟩;have xH:=B.size;replace C:=C.keep hb4;replace Q:=Q.keep hb4;replace R:=R.keep hb4;replace ox:=kO ox hb4;replace oz:=kO oz hb4;replace B:=d_ B hb4;obtain ⟨a4,c4,rfl,xD,wS⟩:=aF.view xF;clear xD wS;have og:=wH (aF.base (show aF _ _ _ _ from xF) xH);clear xF;(generalize (Wh.a_ G.natAbs).length=lg at *);clear xH;have T:=aH.new w4 #[.bool true,.slice a4 lg c4] 125;have b_:=bA w4 (.cells #[.bool true,.slice a4 lg c4] 125);replace C:=C.keep b_;replace Q:=Q.keep b_;replace R:=R.keep b_;replace ox:=kO ox b_;replace oz:=kO oz b_;replace og:=kO og b_;replace B:=d_ B b_;clear b_;(replace ⟨f_,g_⟩:=C.b2);(replace ⟨xj,xk,xm,xn⟩:=Q.b4);(replace ⟨wP,wQ,wU,wV,wM,wN,wT,wY⟩:=R.xJ);(replace ⟨xP,xQ⟩:=T.b2))
    | (go_at_call 178;(with_reducible refine (PD.out _ _ _ _ _ ox.out oz.out).mono ?_);rintro e w6 ⟨rfl,hb6⟩;replace C:=C.keep hb6;replace Q:=Q.keep hb6;replace R:=R.keep hb6;replace T:=T.keep hb6;replace ox:=kO ox hb6;replace oz:=kO oz hb6;replace og:=kO og hb6;replace B:=d_ B hb6;(replace ⟨f_,g_⟩:=C.b2);(replace ⟨xj,xk,xm,xn⟩:=Q.b4);(replace ⟨wP,wQ,wU,wV,wM,wN,wT,wY⟩:=R.xJ);(replace ⟨xP,xQ⟩:=T.b2))
    | (go_at_call 180;(with_reducible refine (PF.out _ _ _ _ _ ox.out oz.out).mono ?_);rintro e w7 ⟨v7,rfl,AM,wg⟩;have xH:=B.size;replace C:=C.keep wg;replace Q:=Q.keep wg;replace R:=R.keep wg;replace T:=T.keep wg;replace ox:=kO ox wg;replace oz:=kO oz wg;replace og:=kO og wg;replace B:=d_ B wg;obtain ⟨a7,c7,rfl,xD,wS⟩:=aF.view AM;clear xD wS;have of:=wH (aF.base (show aF _ _ _ _ from AM) xH);clear AM;(generalize (Wh.a_ F.natAbs).length=lf at *);clear xH;(replace ⟨f_,g_⟩:=C.b2);(replace ⟨xj,xk,xm,xn⟩:=Q.b4);(replace ⟨wP,wQ,wU,wV,wM,wN,wT,wY⟩:=R.xJ);(replace ⟨xP,xQ⟩:=T.b2))
    | (go_at_call 179;(with_reducible refine (PQ.out _ _ _ of.out).mono ?_);rintro e w8 ⟨v8,rfl,yM,xB⟩;have xH:=B.size;replace C:=C.keep xB;replace Q:=Q.keep xB;replace R:=R.keep xB;replace T:=T.keep xB;replace ox:=kO ox xB;replace oz:=kO oz xB;replace og:=kO og xB;replace of:=kO of xB;replace B:=d_ B xB;obtain ⟨a8,c8,rfl,xD,wS⟩:=aF.view yM;clear xD wS;have on:=wH (aF.base (show aF _ _ _ _ from yM) xH);clear yM;(generalize (Wh.a_ N.natAbs).length=ln at *);clear xH;have Ev:=wH R.lt;have U:=aH.new w8 #[.bool sN,.slice a8 ln c8] 125;have b_:=bA w8 (.cells #[.bool sN,.slice a8 ln c8] 125);replace C:=C.keep b_;replace Q:=Q.keep b_;replace R:=R.keep b_;replace T:=T.keep b_;replace ox:=kO ox b_;replace oz:=kO oz b_;replace og:=kO og b_;replace of:=kO of b_;replace on:=kO on b_;replace B:=d_ B b_;clear b_;(replace ⟨f_,g_⟩:=C.b2);(replace ⟨xj,xk,xm,xn⟩:=Q.b4);(replace ⟨wP,wQ,wU,wV,wM,wN,wT,wY⟩:=R.xJ);(replace ⟨xP,xQ⟩:=T.b2);(replace ⟨xK,xL⟩:=U.b2))
    | (go_at_call 179;(with_reducible refine (PR.out _ _ _ og.out).mono ?_);rintro e w9 ⟨v9,rfl,y_,wb⟩;have xH:=B.size;replace C:=C.keep wb;replace Q:=Q.keep wb;replace R:=R.keep wb;replace T:=T.keep wb;replace U:=U.keep wb;replace ox:=kO ox wb;replace oz:=kO oz wb;replace og:=kO og wb;replace of:=kO of wb;replace on:=kO on wb;replace B:=d_ B wb;obtain ⟨a9,c9,rfl,xD,wS⟩:=aF.view y_;clear xD wS;have oe:=wH (aF.base (show aF _ _ _ _ from y_) xH);clear y_;(generalize (Wh.a_ E.natAbs).length=le at *);clear xH;have V:=aH.new w9 #[.bool true,.slice a9 le c9] 125;have b_:=bA w9 (.cells #[.bool true,.slice a9 le c9] 125);replace C:=C.keep b_;replace Q:=Q.keep b_;replace R:=R.keep b_;replace T:=T.keep b_;replace U:=U.keep b_;replace ox:=kO ox b_;replace oz:=kO oz b_;replace og:=kO og b_;replace of:=kO of b_;replace on:=kO on b_;replace oe:=kO oe b_;replace B:=d_ B b_;clear b_;(replace ⟨f_,g_⟩:=C.b2);(replace ⟨xj,xk,xm,xn⟩:=Q.b4);(replace ⟨wP,wQ,wU,wV,wM,wN,wT,wY⟩:=R.xJ);(replace ⟨xP,xQ⟩:=T.b2);(replace ⟨xK,xL,xS,xT⟩:=U.xu);(replace ⟨xM,xN,yC,yD⟩:=V.xu)))
   have Mh:w8.heap.size<w9.heap.size:=Nat.lt_of_lt_of_le (by rw [wI];exact Nat.lt_succ_self _) wb.size;generalize w9.alloc (.cells #[.bool true,.slice a9 le c9] 125)=wd at *;refine Rg.bO 4 [.is (.agg #[.bool sN,.slice a8 ln c8]),.at (aJ (wd.heap.size) (-N)),.is (.agg #[.bool true,.slice a9 le c9]),.at (aJ (wd.heap.size) (-E))] (by kernel_rfl) (by kernel_rfl) (by kernel_rfl) ⟨?_,?_,?_,?_,fun h_=>absurd h_ (by decide),fun h_=>absurd h_ (by decide),trivial⟩ ?_
   ·intro _ zZ w_ hB hr
    have e8:zZ.tmps[8]?=some (.pointer (some ⟨w8.heap.size,0,none⟩)):=hr 8 (by decide);have k0:=aE hB U.box.c0;have k1:=aE hB U.box.c1;exact Rg.aG rfl (by go_simp)
   ·intro _ zZ w_ hB hr
    have e40:=Rg.c_ (hr 40 (by decide));have ef:=Rg.ef zZ;refine Rg.ah rfl (by go_simp;exact ⟨rfl,rfl⟩) ?_;refine (PN.out _ _ _ (aF.below on.out hB)).mono ?_;rintro e w5 ⟨xX,rfl,wW,hb5⟩;exact ⟨_,rfl,aJ.at wW (by have:=hB.size;omega),hb5⟩
   ·intro _ zZ w_ hB hr
    have e10:zZ.tmps[10]?=some (.pointer (some ⟨w9.heap.size,0,none⟩)):=hr 10 (by decide);have k0:=aE hB V.box.c0;have k1:=aE hB V.box.c1;exact Rg.aG rfl (by go_simp)
   ·intro _ zZ w_ hB hr
    have e42:=Rg.c_ (hr 42 (by decide));have ef:=Rg.ef zZ;refine Rg.ah rfl (by go_simp;exact ⟨rfl,rfl⟩) ?_;refine (PE.out _ _ _ (aF.below oe.out hB)).mono ?_;rintro e w5 ⟨xX,rfl,wW,hb5⟩;exact ⟨_,rfl,aJ.at wW (by have:=hB.size;omega),hb5⟩
   intro vals wz hB hv hne;have n41:(Rg.Val.at (aJ (wd.heap.size) (-N))).ok (vals 1) wz:=hv 1 (by decide);have n43:(Rg.Val.at (aJ (wd.heap.size) (-E))).ok (vals 3) wz:=hv 3 (by decide);simp only [Rg.ay,Rg.fill,Act.put,Nat.reduceAdd];clear hv;obtain ⟨zv,a41,zu,zp,Cx,v_1,Gl⟩:=(Rg.aj n41).view;obtain ⟨s43,a43,Aj,Ag,FH,Cd,IY⟩:=(Rg.aj n43).view;simp only [v_1,Cd];clear v_1 Cd;have U2:=U.keep hB;have V2:=V.keep hB;have R2:=R.keep hB
   have Es:w8.heap.size≠w9.heap.size:=by omega
   have GE:=Es.symm;have V3:aH ((wz.setCell ⟨w8.heap.size,0,none⟩ (.bool zv)).setCell ⟨w8.heap.size,1,none⟩ (.slice a41 zu zp)) w9.heap.size 125 #[.bool true,.slice a9 le c9]:=(V2.other GE _).other GE _;have V4:=aH.set2 V3 (.bool s43) (.slice a43 Aj Ag);have U4:aH ((((wz.setCell ⟨w8.heap.size,0,none⟩ (.bool zv)).setCell ⟨w8.heap.size,1,none⟩ (.slice a41 zu zp)).setCell ⟨w9.heap.size,0,none⟩ (.bool s43)).setCell ⟨w9.heap.size,1,none⟩ (.slice a43 Aj Ag)) w8.heap.size 125 #[.bool zv,.slice a41 zu zp]:=((aH.set2 U2 (.bool zv) (.slice a41 zu zp)).other Es _).other Es _;have oN:=wH (aF.bM (aF.bM (aF.base Gl B.size) U2 (by decide) (.bool zv) (.slice a41 zu zp)) V3 (by decide) (.bool s43) (.slice a43 Aj Ag));have oE:=wH (aF.bM (aF.bM (aF.base IY B.size) U2 (by decide) (.bool zv) (.slice a41 zu zp)) V3 (by decide) (.bool s43) (.slice a43 Aj Ag));have hw8:w.heap.size+1+1<w8.heap.size:=Ev.out
   have GK:w.heap.size+1+1≠w9.heap.size:=by omega
   have Fe:w.heap.size+1+1≠w8.heap.size:=by omega
   have R4:aH ((((wz.setCell ⟨w8.heap.size,0,none⟩ (.bool zv)).setCell ⟨w8.heap.size,1,none⟩ (.slice a41 zu zp)).setCell ⟨w9.heap.size,0,none⟩ (.bool s43)).setCell ⟨w9.heap.size,1,none⟩ (.slice a43 Aj Ag)) (w.heap.size+1+1) 127 #[.bool false,.slice none 0 0,.bool false,.slice none 0 0]:=(((R2.other Fe _).other Fe _).other GK _).other GK _;have B4:Below w.heap.size w ((((wz.setCell ⟨w8.heap.size,0,none⟩ (.bool zv)).setCell ⟨w8.heap.size,1,none⟩ (.slice a41 zu zp)).setCell ⟨w9.heap.size,0,none⟩ (.bool s43)).setCell ⟨w9.heap.size,1,none⟩ (.slice a43 Aj Ag)):=wJ (wJ (wJ (wJ (d_ B hB) (by simp <;> omega) _) (by simp <;> omega) _) (by simp <;> omega) _) (by simp <;> omega) _;have ⟨p0,p1,q0,q1,_⟩:=U2.box;have ⟨p2,p3,q2,q3,_⟩:=V2.box;unfold Rg.aZ Rg.aZ Rg.aZ Oper.wp
   go_simp
   clear p0 p1 q0 q1 p2 p3 q2 q3 U2 V2 V3 R2 Gl IY hB U V R C Q T B ox oz og of on oe Fe GK Es GE Mh f_ g_ xj xk xm xn wP wQ wU wV wM wN wT wY xK xL xM xN xS xT yC yD;generalize ((((wz.setCell ⟨w8.heap.size,0,none⟩ (.bool zv)).setCell ⟨w8.heap.size,1,none⟩ (.slice a41 zu zp)).setCell ⟨w9.heap.size,0,none⟩ (.bool s43)).setCell ⟨w9.heap.size,1,none⟩ (.slice a43 Aj Ag))=wf at *;have EZ:=BW.out;rw [←Cx.out,←FH.out] at EZ;replace EZ:=wH EZ
   rename aH _ w8.heap.size _ _=>U
   rename aH _ w9.heap.size _ _=>V
   rename aH _ (w.heap.size+1+1) _ _=>R
   rename Below _ _ wf=>B
   have xK:=U.box.c0;have xL:=U.box.c1;have xM:=V.box.c0;have xN:=V.box.c1
   go_wp2_with (go_at_call 181;have O:=aH.new wf #[.bool zv,.slice a41 zu zp,.bool s43,.slice a43 Aj Ag] 127;have b_:=bA wf (.cells #[.bool zv,.slice a41 zu zp,.bool s43,.slice a43 Aj Ag] 127);replace R:=R.keep b_;replace oN:=kO oN b_;replace oE:=kO oE b_;replace B:=d_ B b_;clear b_;(with_reducible refine (EZ.out _ _ _ _ _ oN.out oE.out).mono ?_);rintro e EP ⟨rfl,wR⟩;(simp only [hok.out]);replace R:=R.keep wR;replace O:=O.keep wR;replace oN:=kO oN wR;replace oE:=kO oE wR;replace B:=d_ B wR;(replace ⟨wP,wQ,wU,wV,wM,wN,wT,wY⟩:=R.xJ);(replace ⟨yu,yv,yw,yx⟩:=O.b4))
   have hr1:=aF.base (aF.dF oN.out R (by decide) (.bool zv) (.slice a41 zu zp) (.bool s43) (.slice a43 Aj Ag)) (base':=w.heap.size) (by first | exact wL _ | omega);have hr2:=aF.base (aF.dF oE.out R (by decide) (.bool zv) (.slice a41 zu zp) (.bool s43) (.slice a43 Aj Ag)) (base':=w.heap.size) (by first | exact wL _ | omega);exact bodyPost_ret (v:=.tuple #[.agg #[.bool zv,.slice a41 zu zp,.bool s43,.slice a43 Aj Ag],.bool true]) (by simp [results,Tryz.results155,go_sem, *]) rfl (⟨_,_,(by rw [Cx.out,FH.out]),hr1,hr2,wJ (wJ (wJ (wJ B (by simp <;> omega) _) (by simp <;> omega) _) (by simp <;> omega) _) (by simp <;> omega) _⟩)
  replace hok:Wh.cV (-N) (-E)=false:=by simpa using hok
  rw [hok];replace hok:=wH hok;rw [if_neg (by decide),if_neg (by decide)];go_enter Tryz.func155,Tryz.ntmps155
  go_upto_region 8 with (first
   | (go_at_call 154;(with_reducible refine (PG.out _ _ _ _ _ ox.out oz.out).mono ?_);rintro e w4 ⟨v4,rfl,xF,hb4⟩;have xH:=B.size;replace C:=C.keep hb4;replace Q:=Q.keep hb4;replace R:=R.keep hb4;replace ox:=kO ox hb4;replace oz:=kO oz hb4;replace B:=d_ B hb4;obtain ⟨a4,c4,rfl,xD,wS⟩:=aF.view xF;clear xD wS;have og:=wH (aF.base (show aF _ _ _ _ from xF) xH);clear xF;(generalize (Wh.a_ G.natAbs).length=lg at *);clear xH;have T:=aH.new w4 #[.bool true,.slice a4 lg c4] 125;have b_:=bA w4 (.cells #[.bool true,.slice a4 lg c4] 125);replace C:=C.keep b_;replace Q:=Q.keep b_;replace R:=R.keep b_;replace ox:=kO ox b_;replace oz:=kO oz b_;replace og:=kO og b_;replace B:=d_ B b_;clear b_;(replace ⟨f_,g_⟩:=C.b2);(replace ⟨xj,xk,xm,xn⟩:=Q.b4);(replace ⟨wP,wQ,wU,wV,wM,wN,wT,wY⟩:=R.xJ);(replace ⟨xP,xQ⟩:=T.b2))
   | (go_at_call 178;(with_reducible refine (PD.out _ _ _ _ _ ox.out oz.out).mono ?_);rintro e w6 ⟨rfl,hb6⟩;replace C:=C.keep hb6;replace Q:=Q.keep hb6;replace R:=R.keep hb6;replace T:=T.keep hb6;replace ox:=kO ox hb6;replace oz:=kO oz hb6;replace og:=kO og hb6;replace B:=d_ B hb6;(replace ⟨f_,g_⟩:=C.b2);(replace ⟨xj,xk,xm,xn⟩:=Q.b4);(replace ⟨wP,wQ,wU,wV,wM,wN,wT,wY⟩:=R.xJ);(replace ⟨xP,xQ⟩:=T.b2))
   | (go_at_call 180;(with_reducible refine (PF.out _ _ _ _ _ ox.out oz.out).mono ?_);rintro e w7 ⟨v7,rfl,AM,wg⟩;have xH:=B.size;replace C:=C.keep wg;replace Q:=Q.keep wg;replace R:=R.keep wg;replace T:=T.keep wg;replace ox:=kO ox wg;replace oz:=kO oz wg;replace og:=kO og wg;replace B:=d_ B wg;obtain ⟨a7,c7,rfl,xD,wS⟩:=aF.view AM;clear xD wS;have of:=wH (aF.base (show aF _ _ _ _ from AM) xH);clear AM;(generalize (Wh.a_ F.natAbs).length=lf at *);clear xH;(replace ⟨f_,g_⟩:=C.b2);(replace ⟨xj,xk,xm,xn⟩:=Q.b4);(replace ⟨wP,wQ,wU,wV,wM,wN,wT,wY⟩:=R.xJ);(replace ⟨xP,xQ⟩:=T.b2))
   | (go_at_call 179;(with_reducible refine (PQ.out _ _ _ of.out).mono ?_);rintro e w8 ⟨v8,rfl,yM,xB⟩;have xH:=B.size;replace C:=C.keep xB;replace Q:=Q.keep xB;replace R:=R.keep xB;replace T:=T.keep xB;replace ox:=kO ox xB;replace oz:=kO oz xB;replace og:=kO og xB;replace of:=kO of xB;replace B:=d_ B xB;obtain ⟨a8,c8,rfl,xD,wS⟩:=aF.view yM;clear xD wS;have on:=wH (aF.base (show aF _ _ _ _ from yM) xH);clear yM;(generalize (Wh.a_ N.natAbs).length=ln at *);clear xH;have Ev:=wH R.lt;have U:=aH.new w8 #[.bool sN,.slice a8 ln c8] 125;have b_:=bA w8 (.cells #[.bool sN,.slice a8 ln c8] 125);replace C:=C.keep b_;replace Q:=Q.keep b_;replace R:=R.keep b_;replace T:=T.keep b_;replace ox:=kO ox b_;replace oz:=kO oz b_;replace og:=kO og b_;replace of:=kO of b_;replace on:=kO on b_;replace B:=d_ B b_;clear b_;(replace ⟨f_,g_⟩:=C.b2);(replace ⟨xj,xk,xm,xn⟩:=Q.b4);(replace ⟨wP,wQ,wU,wV,wM,wN,wT,wY⟩:=R.xJ);(replace ⟨xP,xQ⟩:=T.b2);(replace ⟨xK,xL⟩:=U.b2))
   | (go_at_call 179;(with_reducible refine (PR.out _ _ _ og.out).mono ?_);rintro e w9 ⟨v9,rfl,y_,wb⟩;have xH:=B.size;replace C:=C.keep wb;replace Q:=Q.keep wb;replace R:=R.keep wb;replace T:=T.keep wb;replace U:=U.keep wb;replace ox:=kO ox wb;replace oz:=kO oz wb;replace og:=kO og wb;replace of:=kO of wb;replace on:=kO on wb;replace B:=d_ B wb;obtain ⟨a9,c9,rfl,xD,wS⟩:=aF.view y_;clear xD wS;have oe:=wH (aF.base (show aF _ _ _ _ from y_) xH);clear y_;(generalize (Wh.a_ E.natAbs).length=le at *);clear xH;have V:=aH.new w9 #[.bool true,.slice a9 le c9] 125;have b_:=bA w9 (.cells #[.bool true,.slice a9 le c9] 125);replace C:=C.keep b_;replace Q:=Q.keep b_;replace R:=R.keep b_;replace T:=T.keep b_;replace U:=U.keep b_;replace ox:=kO ox b_;replace oz:=kO oz b_;replace og:=kO og b_;replace of:=kO of b_;replace on:=kO on b_;replace oe:=kO oe b_;replace B:=d_ B b_;clear b_;(replace ⟨f_,g_⟩:=C.b2);(replace ⟨xj,xk,xm,xn⟩:=Q.b4);(replace ⟨wP,wQ,wU,wV,wM,wN,wT,wY⟩:=R.xJ);(replace ⟨xP,xQ⟩:=T.b2);(replace ⟨xK,xL,xS,xT⟩:=U.xu);(replace ⟨xM,xN,yC,yD⟩:=V.xu)))
  have Mh:w8.heap.size<w9.heap.size:=Nat.lt_of_lt_of_le (by rw [wI];exact Nat.lt_succ_self _) wb.size;generalize w9.alloc (.cells #[.bool true,.slice a9 le c9] 125)=wd at *;refine Rg.bO 4 [.is (.agg #[.bool sN,.slice a8 ln c8]),.at (aJ (wd.heap.size) (-N)),.is (.agg #[.bool true,.slice a9 le c9]),.at (aJ (wd.heap.size) (-E))] (by kernel_rfl) (by kernel_rfl) (by kernel_rfl) ⟨?_,?_,?_,?_,fun h_=>absurd h_ (by decide),fun h_=>absurd h_ (by decide),trivial⟩ ?_
  ·intro _ zZ w_ hB hr
   have e8:zZ.tmps[8]?=some (.pointer (some ⟨w8.heap.size,0,none⟩)):=hr 8 (by decide);have k0:=aE hB U.box.c0;have k1:=aE hB U.box.c1;exact Rg.aG rfl (by go_simp)
  ·intro _ zZ w_ hB hr
   have e40:=Rg.c_ (hr 40 (by decide));have ef:=Rg.ef zZ;refine Rg.ah rfl (by go_simp;exact ⟨rfl,rfl⟩) ?_;refine (PN.out _ _ _ (aF.below on.out hB)).mono ?_;rintro e w5 ⟨xX,rfl,wW,hb5⟩;exact ⟨_,rfl,aJ.at wW (by have:=hB.size;omega),hb5⟩
  ·intro _ zZ w_ hB hr
   have e10:zZ.tmps[10]?=some (.pointer (some ⟨w9.heap.size,0,none⟩)):=hr 10 (by decide);have k0:=aE hB V.box.c0;have k1:=aE hB V.box.c1;exact Rg.aG rfl (by go_simp)
  ·intro _ zZ w_ hB hr
   have e42:=Rg.c_ (hr 42 (by decide));have ef:=Rg.ef zZ;refine Rg.ah rfl (by go_simp;exact ⟨rfl,rfl⟩) ?_;refine (PE.out _ _ _ (aF.below oe.out hB)).mono ?_;rintro e w5 ⟨xX,rfl,wW,hb5⟩;exact ⟨_,rfl,aJ.at wW (by have:=hB.size;omega),hb5⟩
  intro vals wz hB hv hne;have n41:(Rg.Val.at (aJ (wd.heap.size) (-N))).ok (vals 1) wz:=hv 1 (by decide);have n43:(Rg.Val.at (aJ (wd.heap.size) (-E))).ok (vals 3) wz:=hv 3 (by decide);simp only [Rg.ay,Rg.fill,Act.put,Nat.reduceAdd];clear hv;obtain ⟨zv,a41,zu,zp,Cx,v_1,Gl⟩:=(Rg.aj n41).view;obtain ⟨s43,a43,Aj,Ag,FH,Cd,IY⟩:=(Rg.aj n43).view;simp only [v_1,Cd];clear v_1 Cd;have U2:=U.keep hB;have V2:=V.keep hB;have R2:=R.keep hB
  have Es:w8.heap.size≠w9.heap.size:=by omega
  have GE:=Es.symm;have V3:aH ((wz.setCell ⟨w8.heap.size,0,none⟩ (.bool zv)).setCell ⟨w8.heap.size,1,none⟩ (.slice a41 zu zp)) w9.heap.size 125 #[.bool true,.slice a9 le c9]:=(V2.other GE _).other GE _;have V4:=aH.set2 V3 (.bool s43) (.slice a43 Aj Ag);have U4:aH ((((wz.setCell ⟨w8.heap.size,0,none⟩ (.bool zv)).setCell ⟨w8.heap.size,1,none⟩ (.slice a41 zu zp)).setCell ⟨w9.heap.size,0,none⟩ (.bool s43)).setCell ⟨w9.heap.size,1,none⟩ (.slice a43 Aj Ag)) w8.heap.size 125 #[.bool zv,.slice a41 zu zp]:=((aH.set2 U2 (.bool zv) (.slice a41 zu zp)).other Es _).other Es _;have oN:=wH (aF.bM (aF.bM (aF.base Gl B.size) U2 (by decide) (.bool zv) (.slice a41 zu zp)) V3 (by decide) (.bool s43) (.slice a43 Aj Ag));have oE:=wH (aF.bM (aF.bM (aF.base IY B.size) U2 (by decide) (.bool zv) (.slice a41 zu zp)) V3 (by decide) (.bool s43) (.slice a43 Aj Ag));have hw8:w.heap.size+1+1<w8.heap.size:=Ev.out
  have GK:w.heap.size+1+1≠w9.heap.size:=by omega
  have Fe:w.heap.size+1+1≠w8.heap.size:=by omega
  have R4:aH ((((wz.setCell ⟨w8.heap.size,0,none⟩ (.bool zv)).setCell ⟨w8.heap.size,1,none⟩ (.slice a41 zu zp)).setCell ⟨w9.heap.size,0,none⟩ (.bool s43)).setCell ⟨w9.heap.size,1,none⟩ (.slice a43 Aj Ag)) (w.heap.size+1+1) 127 #[.bool false,.slice none 0 0,.bool false,.slice none 0 0]:=(((R2.other Fe _).other Fe _).other GK _).other GK _;have B4:Below w.heap.size w ((((wz.setCell ⟨w8.heap.size,0,none⟩ (.bool zv)).setCell ⟨w8.heap.size,1,none⟩ (.slice a41 zu zp)).setCell ⟨w9.heap.size,0,none⟩ (.bool s43)).setCell ⟨w9.heap.size,1,none⟩ (.slice a43 Aj Ag)):=wJ (wJ (wJ (wJ (d_ B hB) (by simp <;> omega) _) (by simp <;> omega) _) (by simp <;> omega) _) (by simp <;> omega) _;have ⟨p0,p1,q0,q1,_⟩:=U2.box;have ⟨p2,p3,q2,q3,_⟩:=V2.box;unfold Rg.aZ Rg.aZ Rg.aZ Oper.wp
  go_simp
  clear p0 p1 q0 q1 p2 p3 q2 q3 U2 V2 V3 R2 Gl IY hB U V R C Q T B ox oz og of on oe Fe GK Es GE Mh f_ g_ xj xk xm xn wP wQ wU wV wM wN wT wY xK xL xM xN xS xT yC yD;generalize ((((wz.setCell ⟨w8.heap.size,0,none⟩ (.bool zv)).setCell ⟨w8.heap.size,1,none⟩ (.slice a41 zu zp)).setCell ⟨w9.heap.size,0,none⟩ (.bool s43)).setCell ⟨w9.heap.size,1,none⟩ (.slice a43 Aj Ag))=wf at *;have EZ:=BW.out;rw [←Cx.out,←FH.out] at EZ;replace EZ:=wH EZ
  rename aH _ w8.heap.size _ _=>U
  rename aH _ w9.heap.size _ _=>V
  rename aH _ (w.heap.size+1+1) _ _=>R
  rename Below _ _ wf=>B
  have xK:=U.box.c0;have xL:=U.box.c1;have xM:=V.box.c0;have xN:=V.box.c1
  go_wp2_with (go_at_call 181;have O:=aH.new wf #[.bool zv,.slice a41 zu zp,.bool s43,.slice a43 Aj Ag] 127;have b_:=bA wf (.cells #[.bool zv,.slice a41 zu zp,.bool s43,.slice a43 Aj Ag] 127);replace R:=R.keep b_;replace oN:=kO oN b_;replace oE:=kO oE b_;replace B:=d_ B b_;clear b_;(with_reducible refine (EZ.out _ _ _ _ _ oN.out oE.out).mono ?_);rintro e EP ⟨rfl,wR⟩;(simp only [hok.out]);replace R:=R.keep wR;replace O:=O.keep wR;replace oN:=kO oN wR;replace oE:=kO oE wR;replace B:=d_ B wR;(replace ⟨wP,wQ,wU,wV,wM,wN,wT,wY⟩:=R.xJ);(replace ⟨yu,yv,yw,yx⟩:=O.b4))
  exact bodyPost_ret (v:=.tuple #[.agg #[.bool false,.slice none 0 0,.bool false,.slice none 0 0],.bool false]) (by simp [results,Tryz.results155,go_sem, *]) rfl (⟨_,_,rfl,fJ _ _,fJ _ _,wJ (wJ (wJ (wJ B (by simp <;> omega) _) (by simp <;> omega) _) (by simp <;> omega) _) (by simp <;> omega) _⟩)
 have hsg:decide (G<0)=false:=decide_eq_false hneg;rw [hsg] at BQ PG;rw [if_neg hneg,if_neg hneg];simp only [hsg,BQ] at PR PE Az;clear BW PN PE;generalize BS:decide (N<0)=sN at *;replace PG:=wH PG;replace PF:=wH PF;replace PD:=wH PD;replace PQ:=wH PQ;replace PR:=wH PR;replace Az:=wH Az;replace BS:=wH BS;replace BQ:=wH BQ;clear hneg hsg hd1 hd2
 by_cases hok:Wh.cV (N) (E)=true
 ·skip
  rw [hok];replace hok:=wH hok;rw [if_pos rfl,if_pos rfl];go_enter Tryz.func155,Tryz.ntmps155
  go_wp2_with (first
   | (go_at_call 154;(with_reducible refine (PG.out _ _ _ _ _ ox.out oz.out).mono ?_);rintro e w4 ⟨v4,rfl,xF,hb4⟩;have xH:=B.size;replace C:=C.keep hb4;replace Q:=Q.keep hb4;replace R:=R.keep hb4;replace ox:=kO ox hb4;replace oz:=kO oz hb4;replace B:=d_ B hb4;obtain ⟨a4,c4,rfl,xD,wS⟩:=aF.view xF;clear xD wS;have og:=wH (aF.base (show aF _ _ _ _ from xF) xH);clear xF;(generalize (Wh.a_ G.natAbs).length=lg at *);clear xH;have T:=aH.new w4 #[.bool false,.slice a4 lg c4] 125;have b_:=bA w4 (.cells #[.bool false,.slice a4 lg c4] 125);replace C:=C.keep b_;replace Q:=Q.keep b_;replace R:=R.keep b_;replace ox:=kO ox b_;replace oz:=kO oz b_;replace og:=kO og b_;replace B:=d_ B b_;clear b_;(replace ⟨f_,g_⟩:=C.b2);(replace ⟨xj,xk,xm,xn⟩:=Q.b4);(replace ⟨wP,wQ,wU,wV,wM,wN,wT,wY⟩:=R.xJ);(replace ⟨xP,xQ⟩:=T.b2))
   | (go_at_call 178;(with_reducible refine (PD.out _ _ _ _ _ ox.out oz.out).mono ?_);rintro e w6 ⟨rfl,hb6⟩;replace C:=C.keep hb6;replace Q:=Q.keep hb6;replace R:=R.keep hb6;replace T:=T.keep hb6;replace ox:=kO ox hb6;replace oz:=kO oz hb6;replace og:=kO og hb6;replace B:=d_ B hb6;(replace ⟨f_,g_⟩:=C.b2);(replace ⟨xj,xk,xm,xn⟩:=Q.b4);(replace ⟨wP,wQ,wU,wV,wM,wN,wT,wY⟩:=R.xJ);(replace ⟨xP,xQ⟩:=T.b2))
   | (go_at_call 180;(with_reducible refine (PF.out _ _ _ _ _ ox.out oz.out).mono ?_);rintro e w7 ⟨v7,rfl,AM,wg⟩;have xH:=B.size;replace C:=C.keep wg;replace Q:=Q.keep wg;replace R:=R.keep wg;replace T:=T.keep wg;replace ox:=kO ox wg;replace oz:=kO oz wg;replace og:=kO og wg;replace B:=d_ B wg;obtain ⟨a7,c7,rfl,xD,wS⟩:=aF.view AM;clear xD wS;have of:=wH (aF.base (show aF _ _ _ _ from AM) xH);clear AM;(generalize (Wh.a_ F.natAbs).length=lf at *);clear xH;(replace ⟨f_,g_⟩:=C.b2);(replace ⟨xj,xk,xm,xn⟩:=Q.b4);(replace ⟨wP,wQ,wU,wV,wM,wN,wT,wY⟩:=R.xJ);(replace ⟨xP,xQ⟩:=T.b2))
   | (go_at_call 179;(with_reducible refine (PQ.out _ _ _ of.out).mono ?_);rintro e w8 ⟨v8,rfl,yM,xB⟩;have xH:=B.size;replace C:=C.keep xB;replace Q:=Q.keep xB;replace R:=R.keep xB;replace T:=T.keep xB;replace ox:=kO ox xB;replace oz:=kO oz xB;replace og:=kO og xB;replace of:=kO of xB;replace B:=d_ B xB;obtain ⟨a8,c8,rfl,xD,wS⟩:=aF.view yM;clear xD wS;have on:=wH (aF.base (show aF _ _ _ _ from yM) xH);clear yM;(generalize (Wh.a_ N.natAbs).length=ln at *);clear xH;have Ev:=wH R.lt;have U:=aH.new w8 #[.bool sN,.slice a8 ln c8] 125;have b_:=bA w8 (.cells #[.bool sN,.slice a8 ln c8] 125);replace C:=C.keep b_;replace Q:=Q.keep b_;replace R:=R.keep b_;replace T:=T.keep b_;replace ox:=kO ox b_;replace oz:=kO oz b_;replace og:=kO og b_;replace of:=kO of b_;replace on:=kO on b_;replace B:=d_ B b_;clear b_;(replace ⟨f_,g_⟩:=C.b2);(replace ⟨xj,xk,xm,xn⟩:=Q.b4);(replace ⟨wP,wQ,wU,wV,wM,wN,wT,wY⟩:=R.xJ);(replace ⟨xP,xQ⟩:=T.b2);(replace ⟨xK,xL⟩:=U.b2))
   | (go_at_call 179;(with_reducible refine (PR.out _ _ _ og.out).mono ?_);rintro e w9 ⟨v9,rfl,y_,wb⟩;have xH:=B.size;replace C:=C.keep wb;replace Q:=Q.keep wb;replace R:=R.keep wb;replace T:=T.keep wb;replace U:=U.keep wb;replace ox:=kO ox wb;replace oz:=kO oz wb;replace og:=kO og wb;replace of:=kO of wb;replace on:=kO on wb;replace B:=d_ B wb;obtain ⟨a9,c9,rfl,xD,wS⟩:=aF.view y_;clear xD wS;have oe:=wH (aF.base (show aF _ _ _ _ from y_) xH);clear y_;(generalize (Wh.a_ E.natAbs).length=le at *);clear xH;have V:=aH.new w9 #[.bool false,.slice a9 le c9] 125;have b_:=bA w9 (.cells #[.bool false,.slice a9 le c9] 125);replace C:=C.keep b_;replace Q:=Q.keep b_;replace R:=R.keep b_;replace T:=T.keep b_;replace U:=U.keep b_;replace ox:=kO ox b_;replace oz:=kO oz b_;replace og:=kO og b_;replace of:=kO of b_;replace on:=kO on b_;replace oe:=kO oe b_;replace B:=d_ B b_;clear b_;(replace ⟨f_,g_⟩:=C.b2);(replace ⟨xj,xk,xm,xn⟩:=Q.b4);(replace ⟨wP,wQ,wU,wV,wM,wN,wT,wY⟩:=R.xJ);(replace ⟨xP,xQ⟩:=T.b2);(replace ⟨xK,xL,xS,xT⟩:=U.xu);(replace ⟨xM,xN,yC,yD⟩:=V.xu);have O:=aH.new (w9.alloc (.cells #[.bool false,.slice a9 le c9] 125)) #[.bool sN,.slice a8 ln c8,.bool false,.slice a9 le c9] 127;have b_:=bA (w9.alloc (.cells #[.bool false,.slice a9 le c9] 125)) (.cells #[.bool sN,.slice a8 ln c8,.bool false,.slice a9 le c9] 127);replace C:=C.keep b_;replace Q:=Q.keep b_;replace R:=R.keep b_;replace T:=T.keep b_;replace U:=U.keep b_;replace V:=V.keep b_;replace ox:=kO ox b_;replace oz:=kO oz b_;replace og:=kO og b_;replace of:=kO of b_;replace on:=kO on b_;replace oe:=kO oe b_;replace B:=d_ B b_;clear b_;(rw [wI] at O))
   | (go_at_call 181;(with_reducible refine (Az.out _ _ _ _ _ on.out oe.out).mono ?_);rintro e EP ⟨rfl,wR⟩;(simp only [hok.out]);replace C:=C.keep wR;replace Q:=Q.keep wR;replace R:=R.keep wR;replace T:=T.keep wR;replace U:=U.keep wR;replace V:=V.keep wR;replace O:=O.keep wR;replace ox:=kO ox wR;replace oz:=kO oz wR;replace og:=kO og wR;replace of:=kO of wR;replace on:=kO on wR;replace oe:=kO oe wR;replace B:=d_ B wR;(replace ⟨f_,g_⟩:=C.b2);(replace ⟨xj,xk,xm,xn⟩:=Q.b4);(replace ⟨wP,wQ,wU,wV,wM,wN,wT,wY⟩:=R.xJ);(replace ⟨xP,xQ⟩:=T.b2);(replace ⟨xK,xL⟩:=U.b2);(replace ⟨xM,xN⟩:=V.b2);(replace ⟨yu,yv,yw,yx⟩:=O.b4)))
  have hr1:=aF.base (aF.dF on.out R (by decide) (.bool sN) (.slice a8 ln c8) (.bool false) (.slice a9 le c9)) (base':=w.heap.size) (by first | exact wL _ | omega);have hr2:=aF.base (aF.dF oe.out R (by decide) (.bool sN) (.slice a8 ln c8) (.bool false) (.slice a9 le c9)) (base':=w.heap.size) (by first | exact wL _ | omega);exact bodyPost_ret (v:=.tuple #[.agg #[.bool sN,.slice a8 ln c8,.bool false,.slice a9 le c9],.bool true]) (by simp [results,Tryz.results155,go_sem, *]) rfl (⟨_,_,(by rw [BS.out,BQ.out]),hr1,hr2,wJ (wJ (wJ (wJ B (by simp <;> omega) _) (by simp <;> omega) _) (by simp <;> omega) _) (by simp <;> omega) _⟩)
 replace hok:Wh.cV (N) (E)=false:=by simpa using hok
 rw [hok];replace hok:=wH hok;rw [if_neg (by decide),if_neg (by decide)];go_enter Tryz.func155,Tryz.ntmps155
 go_wp2_with (first
  | (go_at_call 154;(with_reducible refine (PG.out _ _ _ _ _ ox.out oz.out).mono ?_);rintro e w4 ⟨v4,rfl,xF,hb4⟩;have xH:=B.size;replace C:=C.keep hb4;replace Q:=Q.keep hb4;replace R:=R.keep hb4;replace ox:=kO ox hb4;replace oz:=kO oz hb4;replace B:=d_ B hb4;obtain ⟨a4,c4,rfl,xD,wS⟩:=aF.view xF;clear xD wS;have og:=wH (aF.base (show aF _ _ _ _ from xF) xH);clear xF;(generalize (Wh.a_ G.natAbs).length=lg at *);clear xH;have T:=aH.new w4 #[.bool false,.slice a4 lg c4] 125;have b_:=bA w4 (.cells #[.bool false,.slice a4 lg c4] 125);replace C:=C.keep b_;replace Q:=Q.keep b_;replace R:=R.keep b_;replace ox:=kO ox b_;replace oz:=kO oz b_;replace og:=kO og b_;replace B:=d_ B b_;clear b_;(replace ⟨f_,g_⟩:=C.b2);(replace ⟨xj,xk,xm,xn⟩:=Q.b4);(replace ⟨wP,wQ,wU,wV,wM,wN,wT,wY⟩:=R.xJ);(replace ⟨xP,xQ⟩:=T.b2))
  | (go_at_call 178;(with_reducible refine (PD.out _ _ _ _ _ ox.out oz.out).mono ?_);rintro e w6 ⟨rfl,hb6⟩;replace C:=C.keep hb6;replace Q:=Q.keep hb6;replace R:=R.keep hb6;replace T:=T.keep hb6;replace ox:=kO ox hb6;replace oz:=kO oz hb6;replace og:=kO og hb6;replace B:=d_ B hb6;(replace ⟨f_,g_⟩:=C.b2);(replace ⟨xj,xk,xm,xn⟩:=Q.b4);(replace ⟨wP,wQ,wU,wV,wM,wN,wT,wY⟩:=R.xJ);(replace ⟨xP,xQ⟩:=T.b2))
  | (go_at_call 180;(with_reducible refine (PF.out _ _ _ _ _ ox.out oz.out).mono ?_);rintro e w7 ⟨v7,rfl,AM,wg⟩;have xH:=B.size;replace C:=C.keep wg;replace Q:=Q.keep wg;replace R:=R.keep wg;replace T:=T.keep wg;replace ox:=kO ox wg;replace oz:=kO oz wg;replace og:=kO og wg;replace B:=d_ B wg;obtain ⟨a7,c7,rfl,xD,wS⟩:=aF.view AM;clear xD wS;have of:=wH (aF.base (show aF _ _ _ _ from AM) xH);clear AM;(generalize (Wh.a_ F.natAbs).length=lf at *);clear xH;(replace ⟨f_,g_⟩:=C.b2);(replace ⟨xj,xk,xm,xn⟩:=Q.b4);(replace ⟨wP,wQ,wU,wV,wM,wN,wT,wY⟩:=R.xJ);(replace ⟨xP,xQ⟩:=T.b2))
  | (go_at_call 179;(with_reducible refine (PQ.out _ _ _ of.out).mono ?_);rintro e w8 ⟨v8,rfl,yM,xB⟩;have xH:=B.size;replace C:=C.keep xB;replace Q:=Q.keep xB;replace R:=R.keep xB;replace T:=T.keep xB;replace ox:=kO ox xB;replace oz:=kO oz xB;replace og:=kO og xB;replace of:=kO of xB;replace B:=d_ B xB;obtain ⟨a8,c8,rfl,xD,wS⟩:=aF.view yM;clear xD wS;have on:=wH (aF.base (show aF _ _ _ _ from yM) xH);clear yM;(generalize (Wh.a_ N.natAbs).length=ln at *);clear xH;have Ev:=wH R.lt;have U:=aH.new w8 #[.bool sN,.slice a8 ln c8] 125;have b_:=bA w8 (.cells #[.bool sN,.slice a8 ln c8] 125);replace C:=C.keep b_;replace Q:=Q.keep b_;replace R:=R.keep b_;replace T:=T.keep b_;replace ox:=kO ox b_;replace oz:=kO oz b_;replace og:=kO og b_;replace of:=kO of b_;replace on:=kO on b_;replace B:=d_ B b_;clear b_;(replace ⟨f_,g_⟩:=C.b2);(replace ⟨xj,xk,xm,xn⟩:=Q.b4);(replace ⟨wP,wQ,wU,wV,wM,wN,wT,wY⟩:=R.xJ);(replace ⟨xP,xQ⟩:=T.b2);(replace ⟨xK,xL⟩:=U.b2))
  | (go_at_call 179;(with_reducible refine (PR.out _ _ _ og.out).mono ?_);rintro e w9 ⟨v9,rfl,y_,wb⟩;have xH:=B.size;replace C:=C.keep wb;replace Q:=Q.keep wb;replace R:=R.keep wb;replace T:=T.keep wb;replace U:=U.keep wb;replace ox:=kO ox wb;replace oz:=kO oz wb;replace og:=kO og wb;replace of:=kO of wb;replace on:=kO on wb;replace B:=d_ B wb;obtain ⟨a9,c9,rfl,xD,wS⟩:=aF.view y_;clear xD wS;have oe:=wH (aF.base (show aF _ _ _ _ from y_) xH);clear y_;(generalize (Wh.a_ E.natAbs).length=le at *);clear xH;have V:=aH.new w9 #[.bool false,.slice a9 le c9] 125;have b_:=bA w9 (.cells #[.bool false,.slice a9 le c9] 125);replace C:=C.keep b_;replace Q:=Q.keep b_;replace R:=R.keep b_;replace T:=T.keep b_;replace U:=U.keep b_;replace ox:=kO ox b_;replace oz:=kO oz b_;replace og:=kO og b_;replace of:=kO of b_;replace on:=kO on b_;replace oe:=kO oe b_;replace B:=d_ B b_;clear b_;(replace ⟨f_,g_⟩:=C.b2);(replace ⟨xj,xk,xm,xn⟩:=Q.b4);(replace ⟨wP,wQ,wU,wV,wM,wN,wT,wY⟩:=R.xJ);(replace ⟨xP,xQ⟩:=T.b2);(replace ⟨xK,xL,xS,xT⟩:=U.xu);(replace ⟨xM,xN,yC,yD⟩:=V.xu);have O:=aH.new (w9.alloc (.cells #[.bool false,.slice a9 le c9] 125)) #[.bool sN,.slice a8 ln c8,.bool false,.slice a9 le c9] 127;have b_:=bA (w9.alloc (.cells #[.bool false,.slice a9 le c9] 125)) (.cells #[.bool sN,.slice a8 ln c8,.bool false,.slice a9 le c9] 127);replace C:=C.keep b_;replace Q:=Q.keep b_;replace R:=R.keep b_;replace T:=T.keep b_;replace U:=U.keep b_;replace V:=V.keep b_;replace ox:=kO ox b_;replace oz:=kO oz b_;replace og:=kO og b_;replace of:=kO of b_;replace on:=kO on b_;replace oe:=kO oe b_;replace B:=d_ B b_;clear b_;(rw [wI] at O))
  | (go_at_call 181;(with_reducible refine (Az.out _ _ _ _ _ on.out oe.out).mono ?_);rintro e EP ⟨rfl,wR⟩;(simp only [hok.out]);replace C:=C.keep wR;replace Q:=Q.keep wR;replace R:=R.keep wR;replace T:=T.keep wR;replace U:=U.keep wR;replace V:=V.keep wR;replace O:=O.keep wR;replace ox:=kO ox wR;replace oz:=kO oz wR;replace og:=kO og wR;replace of:=kO of wR;replace on:=kO on wR;replace oe:=kO oe wR;replace B:=d_ B wR;(replace ⟨f_,g_⟩:=C.b2);(replace ⟨xj,xk,xm,xn⟩:=Q.b4);(replace ⟨wP,wQ,wU,wV,wM,wN,wT,wY⟩:=R.xJ);(replace ⟨xP,xQ⟩:=T.b2);(replace ⟨xK,xL⟩:=U.b2);(replace ⟨xM,xN⟩:=V.b2);(replace ⟨yu,yv,yw,yx⟩:=O.b4)))
 exact bodyPost_ret (v:=.tuple #[.agg #[.bool false,.slice none 0 0,.bool false,.slice none 0 0],.bool false]) (by simp [results,Tryz.results155,go_sem, *]) rfl (⟨_,_,rfl,fJ _ _,fJ _ _,wJ (wJ (wJ (wJ B (by simp <;> omega) _) (by simp <;> omega) _) (by simp <;> omega) _) (by simp <;> omega) _⟩)
end
end Go.Proofs.YtggekfbfechonaaGreat
