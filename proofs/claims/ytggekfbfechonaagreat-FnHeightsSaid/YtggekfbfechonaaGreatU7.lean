/-
  Joined texts: contracts and plain lemmas.
-/
import Derived.Test.YtggekfbfechonaaGreatU1
import Derived.Test.YtggekfbfechonaaGreatU6
set_option linter.unusedSimpArgs false
set_option linter.unusedVariables false
set_option maxRecDepth 100000
set_option maxHeartbeats 8000000
namespace Go.Proofs.YtggekfbfechonaaGreat
section
open Go.RowKit
namespace Wh
theorem kq {a b x z:Int} (hx:sz x 1000) (hz:sz z 1000) (ha1:-1000≤a) (ha2:a≤1000) (hb1:-10000≤b) (hb2:b≤10000):sz (ay a b x z) 5000:=by
 have haa:-1000000≤a*a∧a*a≤1000000:=M.aK (x:=a) (y:=a) (m:=1000) (n:=1000) (by omega) (by omega) (by omega) (by omega);rw [←mL];have mx:=aw hx hx;have mz:=aw hz hz;have m1:=kj (aN (aw mx mx) (show 1000+1000+(1000+1000)≤4100 by omega)) (aN (aw (aw mx mz) (bS (n:=2*a) (by omega) (by omega))) (show _≤4100 by omega));have m2:=kj (aN m1 (show 4100+1≤4200 by omega)) (aN (aw (aw (aw hx hz) mz) (bS (n:=8*b) (by omega) (by omega))) (show _≤4200 by omega));exact aN (fQ (aN m2 (show 4200+1≤4300 by omega)) (aN (aw (aw mz mz) (bS (n:=a*a) (by omega) (by omega))) (show _≤4300 by omega))) (by omega)
theorem kh {a b x z:Int} (hx:sz x 1000) (hz:sz z 1000) (ha1:-1000≤a) (ha2:a≤1000) (hb1:-10000≤b) (hb2:b≤10000):sz (an a b x z) 6000:=by
 rw [←lI];have m1:=aw hx hx;have m0:=aw hz hz;have m2:=aw m1 hx;have m4:=aw (aw hx m0) (bS (n:=a) (by omega) (by omega));have m5:=fQ (aN m2 (show 1000+1000+1000≤4000 by omega)) (aN m4 (show _≤4000 by omega));have m7:=aw (aw hz m0) (bS (n:=b) (by omega) (by omega));have m8:=fQ (aN m5 (show 4000+1≤4100 by omega)) (aN m7 (show _≤4100 by omega));exact aN (aw (aw hz m8) (bS (n:=4) (by omega) (by omega))) (by omega)
def zj (D F G:Int):Nat:=Nat.gcd (Nat.gcd (4*D.natAbs) F.natAbs) G.natAbs
theorem qn (D F G:Int):Nat.gcd (G.natAbs % Nat.gcd (F.natAbs % (4*D.natAbs)) (4*D.natAbs)) (Nat.gcd (F.natAbs % (4*D.natAbs)) (4*D.natAbs))=zj D F G:=by
 unfold zj;rw [←Nat.gcd_rec,←Nat.gcd_rec]
theorem lX (n:Nat) (y:Int):M.gcd (n:Int) (y % (n:Int))=(Nat.gcd n y.natAbs:Nat):=by
 unfold M.gcd Int.gcd;rw [Int.natAbs_natCast]
 by_cases hn:n=0
 ·subst hn
  simp
 congr 1
 apply Nat.dvd_antisymm
 ·refine Nat.dvd_gcd (Nat.gcd_dvd_left _ _) ?_
  have h1:(Nat.gcd n (y % (n:Int)).natAbs:Int) ∣ y % (n:Int):=Int.ofNat_dvd_left.2 (Nat.gcd_dvd_right _ _);have h2:(Nat.gcd n (y % (n:Int)).natAbs:Int) ∣ (n:Int):=Int.ofNat_dvd.2 (Nat.gcd_dvd_left _ _)
  have h3:(Nat.gcd n (y % (n:Int)).natAbs:Int) ∣ y:=by
   have h4:=Int.dvd_add h1 (Int.dvd_mul_of_dvd_left (c:=y / (n:Int)) h2)
   rwa [Int.emod_add_mul_ediv] at h4
  exact Int.ofNat_dvd_left.1 h3
 refine Nat.dvd_gcd (Nat.gcd_dvd_left _ _) ?_;have h1:(Nat.gcd n y.natAbs:Int) ∣ y:=Int.ofNat_dvd_left.2 (Nat.gcd_dvd_right _ _);have h2:(Nat.gcd n y.natAbs:Int) ∣ (n:Int):=Int.ofNat_dvd.2 (Nat.gcd_dvd_left _ _)
 have h3:(Nat.gcd n y.natAbs:Int) ∣ y % (n:Int):=by
  rw [Int.emod_def];exact Int.dvd_sub h1 (Int.dvd_mul_of_dvd_left h2)
 exact Int.ofNat_dvd_left.1 h3
theorem sj (D F G:Int):M.gcd (M.gcd (4*(D.natAbs:Int)) (F % (4*(D.natAbs:Int)))) (G % (4*(D.natAbs:Int)))=(zj D F G:Nat):=by
 have e:(4*(D.natAbs:Int))=((4*D.natAbs:Nat):Int):=by omega
 rw [e,lX];unfold zj;have h:Nat.gcd F.natAbs F.natAbs=F.natAbs:=Nat.gcd_self _;have h1:=lX (4*D.natAbs) G;unfold M.gcd Int.gcd at h1 ⊢;rw [Int.natAbs_natCast] at h1 ⊢
 have h2:Nat.gcd (4*D.natAbs) (G % ((4*D.natAbs:Nat):Int)).natAbs=Nat.gcd (4*D.natAbs) G.natAbs:=by omega
 rw [Nat.gcd_comm (4*D.natAbs) F.natAbs,Nat.gcd_assoc,Nat.gcd_assoc,h2]
theorem si (D F G:Int):zj D (-F) (-G)=zj D F G:=by unfold zj;rw [Int.natAbs_neg,Int.natAbs_neg]
theorem qm {D:Int} (F G:Int) (h:D≠0):1≤zj D F G∧zj D F G≤4*D.natAbs:=by
 unfold zj
 have h0:0<4*D.natAbs:=by omega
 have h1:0<Nat.gcd (4*D.natAbs) F.natAbs:=Nat.gcd_pos_of_pos_left _ h0;exact ⟨Nat.gcd_pos_of_pos_left _ h1,Nat.le_trans (Nat.gcd_le_left _ h1) (Nat.gcd_le_left _ h0)⟩
end Wh
theorem ix (a b x z:Int) (vx vz:Value) (w:World) (bx bz:Nat) (hg:M.good a b=true) (hox:ak w bx vx x) (xj:ak w bz vz z) (hx:Wh.sz x 1000) (hz:Wh.sz z 1000) :
  Calls Tryz.prog 178 #[.agg #[.int .i64 a,.int .i64 b],.agg #[.bool (decide (x<0)),vx,.bool (decide (z<0)),vz]] w fun e w'=>e=.returned (.int .i64 (Wh.zj (M.aX a b) (Wh.ay a b x z) (Wh.an a b x z):Nat))∧Below w.heap.size w w':=by
 obtain ⟨ax,cx,rfl,-,-⟩:=aF.view hox;obtain ⟨az,cz,rfl,-,-⟩:=aF.view xj;have hin:=M.ah hg;obtain ⟨ha1,ha2,hb1,hb2⟩:=M.ar hin;have hdb:=dn hin;have hdn:=eW hg
 have PC:=fun W=>j8 a b W hin
 have PF:=fun v v' W k k' (h1:aF W k v (Wh.a_ x.natAbs)) (h2:aF W k' v' (Wh.a_ z.natAbs))=>fi a b x z v v' W k k' h1 h2 hx hz ha1 ha2 hb1 hb2
 have PG:=fun v v' W k k' (h1:aF W k v (Wh.a_ x.natAbs)) (h2:aF W k' v' (Wh.a_ z.natAbs))=>dX a b x z v v' W k k' h1 h2 hx hz ha1 ha2 hb1 hb2
 have sF:=Wh.aY.2 (Wh.aN (Wh.kq hx hz ha1 ha2 hb1 hb2) (show 5000≤9000 by omega));have sG:=Wh.aY.2 (Wh.aN (Wh.kh hx hz ha1 ha2 hb1 hb2) (show 6000≤9000 by omega));have hres:=Wh.qn (M.aX a b) (Wh.ay a b x z) (Wh.an a b x z);generalize Wh.an a b x z=G,Wh.ay a b x z=F,M.aX a b=D,Wh.zj (M.aX a b) (Wh.ay a b x z) (Wh.an a b x z)=RES at *
 have hn1:1≤4*D.natAbs:=by omega
 have hn2:4*D.natAbs≤1000000000000:=by omega
 have PV:=fun v W k (h:aF W k v (Wh.a_ F.natAbs))=>fh F (4*D.natAbs) v W k h sF hn1 hn2
 have hm1:1≤Nat.gcd (F.natAbs % (4*D.natAbs)) (4*D.natAbs):=Nat.gcd_pos_of_pos_right _ hn1;have hm2:Nat.gcd (F.natAbs % (4*D.natAbs)) (4*D.natAbs)≤1000000000000:=Nat.le_trans (Nat.gcd_le_right _ hn1) hn2
 have PW:=fun v W k (h:aF W k v (Wh.a_ G.natAbs))=>fh G (Nat.gcd (F.natAbs % (4*D.natAbs)) (4*D.natAbs)) v W k h sG hm1 hm2
 rw [hres] at PW
 have hmax:(if 4*D < -4*D then -4*D else 4*D)=((4*D.natAbs:Nat):Int):=by split <;> omega
 have Ce:max (4*D) (-4*D)=((4*D.natAbs:Nat):Int):=by omega
 clear hn1 hn2 hm1 hm2 hres sF sG ha1 ha2 hb1 hb2 hdn
 have hD1:-6700000000≤D:=by omega
 have hD2:D≤6700000000:=by omega
 clear hdb;generalize hN:4*D.natAbs=N at *;replace hN:=wM hN;generalize Nat.gcd (F.natAbs % N) N=N2 at *;replace hmax:=wM hmax;replace Ce:=wM Ce;replace PC:=wM PC;replace PF:=wM PF;replace PG:=wM PG;replace PV:=wM PV;replace PW:=wM PW;generalize hs1:decide (x<0)=s1 at *;generalize hs2:decide (z<0)=s2 at *;clear hs1 hs2;replace hox:=wM (show aF _ _ _ _ from hox);replace xj:=wM (show aF _ _ _ _ from xj);generalize (Wh.a_ z.natAbs).length=lz,(Wh.a_ x.natAbs).length=lx at *;have b1:=(aH.new w #[.int .i64 a,.int .i64 b] 25).alloc (.cells #[.bool s1,.slice ax lx cx,.bool s2,.slice az lz cz] 127)
 have b2:=(aH.new (w.alloc (.cells #[.int .i64 a,.int .i64 b] 25)) #[.bool s1,.slice ax lx cx,.bool s2,.slice az lz cz] 127)
 rw [wN] at b2;have hB:=((wP w.heap.size w).alloc (wQ _) (.cells #[.int .i64 a,.int .i64 b] 25)).alloc (by rw [wN];omega) (.cells #[.bool s1,.slice ax lx cx,.bool s2,.slice az lz cz] 127);have ox:=wM (aF.alloc (aF.alloc hox.out (.cells #[.int .i64 a,.int .i64 b] 25)) (.cells #[.bool s1,.slice ax lx cx,.bool s2,.slice az lz cz] 127));have oz:=wM (aF.alloc (aF.alloc xj.out (.cells #[.int .i64 a,.int .i64 b] 25)) (.cells #[.bool s1,.slice ax lx cx,.bool s2,.slice az lz cz] 127));clear hox xj;generalize hw3:(w.alloc (.cells #[.int .i64 a,.int .i64 b] 25)).alloc (.cells #[.bool s1,.slice ax lx cx,.bool s2,.slice az lz cz] 127)=wc at *;go_enter Tryz.func178,Tryz.ntmps178
 go_wp2
 go_upto_region 1 with fail
 refine Rg.bO 8 [.is (.agg #[.int .i64 a,.int .i64 b]),.is (.int .i64 D),.is (.int .i64 (4*D)),.is (.agg #[.int .i64 a,.int .i64 b]),.is (.int .i64 D),.is (.int .i64 ((-4)*D)),.is (.int .i64 ((N:Nat):Int)),.is (.int .i64 ((N:Nat):Int))] (by kernel_rfl) (by kernel_rfl) (by kernel_rfl) ⟨?_,?_,?_,?_,?_,?_,?_,?_,trivial⟩ ?_
 ·intro _ zZ w_ hB hr
  have e2:zZ.tmps[2]?=some (.pointer (some ⟨w.heap.size,0,none⟩)):=hr 2 (by decide);have k0:=aE hB b1.box.c0;have k1:=aE hB b1.box.c1;exact Rg.aG rfl (by go_simp)
 ·intro _ zZ w_ hB hr
  have e6:=Rg.c_ (hr 6 (by decide));have ef:=Rg.ef zZ;exact Rg.bp rfl (by go_simp) (PC.out _)
 ·intro _ zZ w_ hB hr
  have e7:=Rg.c_ (hr 7 (by decide));have ec:=Rg.ec zZ;exact Rg.aG rfl (by go_simp <;> exact Rg.wo (by omega))
 ·intro _ zZ w_ hB hr
  have e2:zZ.tmps[2]?=some (.pointer (some ⟨w.heap.size,0,none⟩)):=hr 2 (by decide);have k0:=aE hB b1.box.c0;have k1:=aE hB b1.box.c1;exact Rg.aG rfl (by go_simp)
 ·intro _ zZ w_ hB hr
  have e9:=Rg.c_ (hr 9 (by decide));have ef:=Rg.ef zZ;exact Rg.bp rfl (by go_simp) (PC.out _)
 ·intro _ zZ w_ hB hr
  have e10:=Rg.c_ (hr 10 (by decide));have ec:=Rg.ec zZ;exact Rg.aG rfl (by go_simp <;> exact Rg.wo (by omega))
 ·intro _ zZ w_ hB hr
  have e8:=Rg.c_ (hr 8 (by decide));have e11:=Rg.c_ (hr 11 (by decide));exact Rg.aG rfl (by go_simp;first | done | (rw [hmax.out];done) | (rw [Ce.out];done) | (simp only [hmax.out];done))
 ·intro _ zZ w_ hB hr
  have e12:=Rg.c_ (hr 12 (by decide));exact Rg.aG rfl (by go_simp)
 intro vals wz hB1 hv hne;have AB:vals 7=.int .i64 ((N:Nat):Int):=hv 7 (by decide);simp only [Rg.bE,Rg.fill,Act.put,Nat.reduceAdd];clear hv;simp only [AB];clear AB;replace b1:=b1.keep hB1;replace b2:=b2.keep hB1;replace ox:=wM (aF.below ox.out hB1);replace oz:=wM (aF.below oz.out hB1);have hBw:=d_ hB hB1;unfold Rg.aZ
 go_upto_region 2 with fail
 clear hB1;refine Rg.bO 10 [.is (.agg #[.int .i64 a,.int .i64 b]),.is (.agg #[.bool s1,.slice ax lx cx,.bool s2,.slice az lz cz]),.at (aJ (wz.heap.size) (G)),.is (.agg #[.int .i64 a,.int .i64 b]),.is (.agg #[.bool s1,.slice ax lx cx,.bool s2,.slice az lz cz]),.at (aJ (wz.heap.size) (F)),.is (.int .i64 ((N:Nat):Int)),.is (.int .i64 ((N2:Nat):Int)),.is (.int .i64 ((RES:Nat):Int)),.is (.int .i64 ((RES:Nat):Int))] (by kernel_rfl) (by kernel_rfl) (by kernel_rfl) ⟨?_,?_,?_,?_,?_,?_,?_,?_,?_,?_,trivial⟩ ?_
 ·intro _ zZ w_ hB hr
  have e2:zZ.tmps[2]?=some (.pointer (some ⟨w.heap.size,0,none⟩)):=hr 2 (by decide);have k0:=aE hB b1.box.c0;have k1:=aE hB b1.box.c1;exact Rg.aG rfl (by go_simp)
 ·intro _ zZ w_ hB hr
  have e3:zZ.tmps[3]?=some (.pointer (some ⟨w.heap.size+1,0,none⟩)):=hr 3 (by decide);have k0:=aE hB b2.aP.c0;have k1:=aE hB b2.aP.c1;have k2:=aE hB b2.aP.c2;have k3:=aE hB b2.aP.c3;exact Rg.aG rfl (by go_simp)
 ·intro _ zZ w_ hB hr
  have e13:=Rg.c_ (hr 13 (by decide));have e14:=Rg.c_ (hr 14 (by decide));have ef:=Rg.ef zZ;refine Rg.af rfl (by go_simp;exact ⟨rfl,rfl⟩) ?_;refine (PG.out _ _ _ _ _ (aF.below ox.out hB) (aF.below oz.out hB)).mono ?_;rintro e w5 ⟨xX,rfl,wl,hb5⟩;exact ⟨_,rfl,aJ.at wl (by have:=hB.size;omega),hb5⟩
 ·intro _ zZ w_ hB hr
  have e2:zZ.tmps[2]?=some (.pointer (some ⟨w.heap.size,0,none⟩)):=hr 2 (by decide);have k0:=aE hB b1.box.c0;have k1:=aE hB b1.box.c1;exact Rg.aG rfl (by go_simp)
 ·intro _ zZ w_ hB hr
  have e3:zZ.tmps[3]?=some (.pointer (some ⟨w.heap.size+1,0,none⟩)):=hr 3 (by decide);have k0:=aE hB b2.aP.c0;have k1:=aE hB b2.aP.c1;have k2:=aE hB b2.aP.c2;have k3:=aE hB b2.aP.c3;exact Rg.aG rfl (by go_simp)
 ·intro _ zZ w_ hB hr
  have e16:=Rg.c_ (hr 16 (by decide));have e17:=Rg.c_ (hr 17 (by decide));have ef:=Rg.ef zZ;refine Rg.af rfl (by go_simp;exact ⟨rfl,rfl⟩) ?_;refine (PF.out _ _ _ _ _ (aF.below ox.out hB) (aF.below oz.out hB)).mono ?_;rintro e w5 ⟨xX,rfl,wl,hb5⟩;exact ⟨_,rfl,aJ.at wl (by have:=hB.size;omega),hb5⟩
 ·intro _ zZ w_ hB hr
  have e5:zZ.tmps[5]?=some (.int .i64 ((N:Nat):Int)):=hr 5 (by decide);exact Rg.aG rfl (by go_simp)
 ·intro _ zZ w_ hB hr
  obtain ⟨v18,e18,n18⟩:∃ v,zZ.tmps[18]?=some v∧(Rg.Val.at (aJ (wz.heap.size) (F))).ok v w_:=hr 18 (by decide);obtain ⟨s18,a18,l18,c18,FK,rfl,L5⟩:=(Rg.ag n18).view;have e19:=Rg.c_ (hr 19 (by decide));have ef:=Rg.ef zZ;obtain rfl:=FK.out;exact Rg.bp rfl (by go_simp) (PV.out _ _ _ L5)
 ·intro _ zZ w_ hB hr
  obtain ⟨v15,e15,n15⟩:∃ v,zZ.tmps[15]?=some v∧(Rg.Val.at (aJ (wz.heap.size) (G))).ok v w_:=hr 15 (by decide);obtain ⟨s15,CS,Co,c15,Dr,rfl,EI⟩:=(Rg.ag n15).view;have e20:=Rg.c_ (hr 20 (by decide));have ef:=Rg.ef zZ;obtain rfl:=Dr.out;exact Rg.bp rfl (by go_simp) (PW.out _ _ _ EI)
 ·intro _ zZ w_ hB hr
  have e21:=Rg.c_ (hr 21 (by decide));exact Rg.aG rfl (by go_simp)
 intro vals wy hB2 hv hne;have zB:vals 9=.int .i64 ((RES:Nat):Int):=hv 9 (by decide);simp only [Rg.bE,Rg.fill,Act.put,Nat.reduceAdd];clear hv;simp only [zB];clear zB;unfold Rg.aZ;go_wp2;go_ret;exact ⟨rfl,d_ hBw hB2⟩
namespace Wh
def BV (D F G:Int):Int:=if G<0 then -(F / (zj D F G:Nat)) else F / (zj D F G:Nat)
def BU (D F G:Int):Int:=if G<0 then -(G / (zj D F G:Nat)) else G / (zj D F G:Nat)
def dW (D F G:Int):Bool:=decide (G≠0) && cJ (BV D F G) (BU D F G)
def AD (D F G:Int):Int:=if dW D F G=true then BV D F G else 0
def AE (D F G:Int):Int:=if dW D F G=true then BU D F G else 0
theorem ki {z:Int} {n:Nat} (h:sz z n) (d:Nat):sz (z / (d:Int)) (n+1):=by
 unfold sz at *;rw [Nat.pow_succ]
 have h1:(z / (d:Int)).natAbs≤z.natAbs+1:=by
  rcases Nat.eq_zero_or_pos d with rfl | hd
  ·simp
  have:=Int.natAbs_ediv_le_natAbs z (d:Int);omega
 have hp:0<10000 ^ n:=Nat.pow_pos (by decide);omega
theorem eB {z:Int}:(a_ z.natAbs).length=0 ↔ z=0:=by
 rw [List.length_eq_zero_iff,fU];omega
theorem nY {z:Int} {d:Nat} (hd:1≤d):decide (z / (d:Int)<0)=decide (z<0):=by
 rw [decide_eq_decide]
 constructor
 ·intro h
  rcases Int.lt_or_le z 0 with q | q
  ·exact q
  have:=Int.ediv_nonneg (b:=(d:Int)) q (by omega);omega
 intro h;exact Int.ediv_neg_of_neg_of_pos h (by omega)
end Wh
theorem et (w:World) (k:Nat):ak w k (.slice none 0 0) 0:=by
 unfold ak;rw [show Wh.a_ (0:Int).natAbs=[] from Wh.fU.2 rfl];exact aF.nil _ _
theorem pG (a b x z:Int) (vx vz:Value) (w:World) (bx bz:Nat) (hg:M.good a b=true) (hox:ak w bx vx x) (xj:ak w bz vz z) (hx:Wh.sz x 1000) (hz:Wh.sz z 1000) :
  Calls Tryz.prog 155 #[.agg #[.int .i64 a,.int .i64 b],.agg #[.bool (decide (x<0)),vx,.bool (decide (z<0)),vz]] w fun e w'=>∃ v1 v2,e=.returned (.tuple #[.agg #[.bool (decide (Wh.AD (M.aX a b) (Wh.ay a b x z) (Wh.an a b x z)<0)),v1,.bool (decide (Wh.AE (M.aX a b) (Wh.ay a b x z) (Wh.an a b x z)<0)),v2],.bool (Wh.dW (M.aX a b) (Wh.ay a b x z) (Wh.an a b x z))])∧ak w' w.heap.size v1 (Wh.AD (M.aX a b) (Wh.ay a b x z) (Wh.an a b x z))∧ak w' w.heap.size v2 (Wh.AE (M.aX a b) (Wh.ay a b x z) (Wh.an a b x z))∧Below w.heap.size w w':=by
 obtain ⟨ax,cx,rfl,-,-⟩:=aF.view hox;obtain ⟨az,cz,rfl,-,-⟩:=aF.view xj;have hin:=M.ah hg;obtain ⟨ha1,ha2,hb1,hb2⟩:=M.ar hin;have hdb:=dn hin;have hdn:=eW hg
 have PF:=fun v v' W k k' (h1:aF W k v (Wh.a_ x.natAbs)) (h2:aF W k' v' (Wh.a_ z.natAbs))=>fi a b x z v v' W k k' h1 h2 hx hz ha1 ha2 hb1 hb2
 have PG:=fun v v' W k k' (h1:aF W k v (Wh.a_ x.natAbs)) (h2:aF W k' v' (Wh.a_ z.natAbs))=>dX a b x z v v' W k k' h1 h2 hx hz ha1 ha2 hb1 hb2
 have PD:=fun v v' W k k' (h1:aF W k v (Wh.a_ x.natAbs)) (h2:aF W k' v' (Wh.a_ z.natAbs))=>ix a b x z v v' W k k' hg h1 h2 hx hz
 have zF:=Wh.kq hx hz ha1 ha2 hb1 hb2;have zG:=Wh.kh hx hz ha1 ha2 hb1 hb2;have hdv:=Wh.qm (Wh.ay a b x z) (Wh.an a b x z) hdn;generalize Wh.an a b x z=G,Wh.ay a b x z=F,M.aX a b=D at *;clear hin hg ha1 ha2 hb1 hb2 hdn hx hz
 obtain ⟨d,hd⟩:∃ d,Hid (Wh.zj D F G=d):=⟨_,wM rfl⟩
 rw [hd.out] at hdv PD;have hd1:1≤d:=hdv.1
 have hd2:d≤1000000000000:=by omega
 clear hdv hdb;have sF:=Wh.aY.2 (Wh.aN zF (show 5000≤9000 by omega));have sG:=Wh.aY.2 (Wh.aN zG (show 6000≤9000 by omega));have zN:=Wh.ki zF d;have zE:=Wh.ki zG d;have sN:=Wh.aY.2 (Wh.aN zN (show 5000+1≤9000 by omega));have sE:=Wh.aY.2 (Wh.aN zE (show 6000+1≤9000 by omega))
 have PQ:=fun v W k (h:aF W k v (Wh.a_ F.natAbs))=>fq F (d:Int) v W k h sF (by omega) (by omega)
 have PR:=fun v W k (h:aF W k v (Wh.a_ G.natAbs))=>fq G (d:Int) v W k h sG (by omega) (by omega)
 generalize hs1:decide (x<0)=s1 at *;generalize hs2:decide (z<0)=s2 at *;clear hs1 hs2;replace hox:=wM (show aF _ _ _ _ from hox);replace xj:=wM (show aF _ _ _ _ from xj);generalize (Wh.a_ z.natAbs).length=lz,(Wh.a_ x.natAbs).length=lx at *;have C:=((aH.new w #[.int .i64 a,.int .i64 b] 25).alloc (.cells #[.bool s1,.slice ax lx cx,.bool s2,.slice az lz cz] 127)).alloc (.cells #[.bool false,.slice none 0 0,.bool false,.slice none 0 0] 127);have Q:=(aH.new (w.alloc (.cells #[.int .i64 a,.int .i64 b] 25)) #[.bool s1,.slice ax lx cx,.bool s2,.slice az lz cz] 127).alloc (.cells #[.bool false,.slice none 0 0,.bool false,.slice none 0 0] 127);rw [wN] at Q;have R:=aH.new ((w.alloc (.cells #[.int .i64 a,.int .i64 b] 25)).alloc (.cells #[.bool s1,.slice ax lx cx,.bool s2,.slice az lz cz] 127)) #[.bool false,.slice none 0 0,.bool false,.slice none 0 0] 127;rw [cW] at R;have B:=(((wP w.heap.size w).alloc (wQ _) (.cells #[.int .i64 a,.int .i64 b] 25)).alloc (by rw [wN];omega) (.cells #[.bool s1,.slice ax lx cx,.bool s2,.slice az lz cz] 127)).alloc (by rw [cW];omega) (.cells #[.bool false,.slice none 0 0,.bool false,.slice none 0 0] 127);have ox:=wM (aF.alloc (aF.alloc (aF.alloc hox.out (.cells #[.int .i64 a,.int .i64 b] 25)) (.cells #[.bool s1,.slice ax lx cx,.bool s2,.slice az lz cz] 127)) (.cells #[.bool false,.slice none 0 0,.bool false,.slice none 0 0] 127));have oz:=wM (aF.alloc (aF.alloc (aF.alloc xj.out (.cells #[.int .i64 a,.int .i64 b] 25)) (.cells #[.bool s1,.slice ax lx cx,.bool s2,.slice az lz cz] 127)) (.cells #[.bool false,.slice none 0 0,.bool false,.slice none 0 0] 127));clear hox xj;generalize hw3:((w.alloc (.cells #[.int .i64 a,.int .i64 b] 25)).alloc (.cells #[.bool s1,.slice ax lx cx,.bool s2,.slice az lz cz] 127)).alloc (.cells #[.bool false,.slice none 0 0,.bool false,.slice none 0 0] 127)=wc at *;have f_:=C.box.c0;have g_:=C.box.c1;have xv:=Q.aP.c0;have xw:=Q.aP.c1;have xx:=Q.aP.c2;have xy:=Q.aP.c3;have t_:=R.aP.c0;have wR:=R.aP.c1;have wW:=R.aP.c2;have wX:=R.aP.c3;have o_:=R.aP.f0;have p_:=R.aP.f1;have wZ:=R.aP.f2;have wb:=R.aP.f3
 by_cases h0:G=0
 ·subst h0
  have hok:Wh.dW D F 0=false:=by unfold Wh.dW;simp
  have hX:Wh.AD D F 0=0:=by unfold Wh.AD;rw [hok];rfl
  have hZ:Wh.AE D F 0=0:=by unfold Wh.AE;rw [hok];rfl
  rw [hok,hX,hZ];have hl0:(Wh.a_ (0:Int).natAbs).length=0:=Wh.eB.2 rfl;have hs0:decide ((0:Int)<0)=false:=rfl;rw [hs0] at PG ⊢;clear hok hX hZ hs0 PF PD PQ PR sF sG zN zE sN sE zF zG hd hd1 hd2;replace PG:=wM PG;go_enter Tryz.func155,Tryz.ntmps155
  go_wp2_with (go_at_call 154;(with_reducible refine (PG.out _ _ _ _ _ ox.out oz.out).mono ?_);rintro e w4 ⟨v4,rfl,xF,hb4⟩;have xH:=B.size;replace C:=C.keep hb4;replace Q:=Q.keep hb4;replace R:=R.keep hb4;replace ox:=kO ox hb4;replace oz:=kO oz hb4;replace B:=d_ B hb4;obtain ⟨a4,c4,rfl,xE,wt⟩:=aF.view xF;clear xE wt;have og:=wM (aF.base (show aF _ _ _ _ from xF) xH);clear xF;clear xH;(rw [hl0] at og ⊢);have T:=aH.new w4 #[.bool false,.slice a4 0 c4] 125;have b_:=bA w4 (.cells #[.bool false,.slice a4 0 c4] 125);replace C:=C.keep b_;replace Q:=Q.keep b_;replace R:=R.keep b_;replace ox:=kO ox b_;replace oz:=kO oz b_;replace og:=kO og b_;replace B:=d_ B b_;clear b_;(replace ⟨f_,g_⟩:=C.b2);(replace ⟨xv,xw,xx,xy⟩:=Q.b4);(replace ⟨t_,wR,wW,wX,o_,p_,wZ,wb⟩:=R.xI);(replace ⟨xO,xP⟩:=T.b2))
  exact bodyPost_ret (v:=.tuple #[.agg #[.bool false,.slice none 0 0,.bool false,.slice none 0 0],.bool false]) (by simp [results,Tryz.results155,go_sem, *]) rfl (⟨_,_,rfl,et _ _,et _ _,wO (wO (wO (wO B (by simp <;> omega) _) (by simp <;> omega) _) (by simp <;> omega) _) (by simp <;> omega) _⟩)
 have hlp:¬ (Wh.a_ G.natAbs).length=0:=fun h=>h0 (Wh.eB.1 h)
 have hlq:(((Wh.a_ G.natAbs).length:Int) == 0)=false:=by rw [beq_eq_false_iff_ne];omega
 have hne:decide (G≠0)=true:=decide_eq_true h0;have Ak:=Wh.nY (z:=G) hd1
 have PN:=fun v W k (h:aF W k v (Wh.a_ (F / (d:Int)).natAbs))=>gh (F / (d:Int)) v W k h (by omega)
 have PE:=fun v W k (h:aF W k v (Wh.a_ (G / (d:Int)).natAbs))=>gh (G / (d:Int)) v W k h (by omega)
 have An:(Wh.a_ (-(F / (d:Int))).natAbs).length≤100000:=by rw [Int.natAbs_neg];omega
 have EH:(Wh.a_ (-(G / (d:Int))).natAbs).length≤100000:=by rw [Int.natAbs_neg];omega
 have AF:=fun v v' W k k' (h:aF W k v (Wh.a_ (F / (d:Int)).natAbs)) (h':aF W k' v' (Wh.a_ (G / (d:Int)).natAbs))=>jh (F / (d:Int)) (G / (d:Int)) v v' W k k' h h' (by omega) (by omega)
 have At:=fun v v' W k k' (h:aF W k v (Wh.a_ (-(F / (d:Int))).natAbs)) (h':aF W k' v' (Wh.a_ (-(G / (d:Int))).natAbs))=>jh (-(F / (d:Int))) (-(G / (d:Int))) v v' W k k' h h' An EH
 have EA:Wh.dW D F G=Wh.cJ (if G<0 then -(F / (d:Int)) else F / (d:Int)) (if G<0 then -(G / (d:Int)) else G / (d:Int)):=by unfold Wh.dW Wh.BV Wh.BU;rw [hd.out,hne];rfl
 have eX:Wh.AD D F G=if Wh.dW D F G=true then (if G<0 then -(F / (d:Int)) else F / (d:Int)) else 0:=by unfold Wh.AD Wh.BV;rw [hd.out]
 have eZ:Wh.AE D F G=if Wh.dW D F G=true then (if G<0 then -(G / (d:Int)) else G / (d:Int)) else 0:=by unfold Wh.AE Wh.BU;rw [hd.out]
 rw [eX,eZ,EA];clear eX eZ EA An EH hne h0 sF sG zN zE sN sE zF zG;generalize F / (d:Int)=N at *;generalize G / (d:Int)=E at *;generalize F % (d:Int)=rF at *;generalize G % (d:Int)=rG at *;generalize decide (F<0)=sF at *;clear hd
 by_cases hneg:G<0
 ·have hsg:decide (G<0)=true:=decide_eq_true hneg
  rw [hsg] at Ak PG;rw [if_pos hneg,if_pos hneg];simp only [hsg,Ak] at PR PE AF;clear AF;generalize An:decide (N<0)=sN at *;replace PG:=wM PG;replace PF:=wM PF;replace PD:=wM PD;replace PQ:=wM PQ;replace PR:=wM PR;replace PN:=wM PN;replace PE:=wM PE;replace At:=wM At;replace An:=wM An;replace Ak:=wM Ak;clear hneg hsg hd1 hd2
  by_cases hok:Wh.cJ (-N) (-E)=true
  ·skip
   rw [hok];replace hok:=wM hok;rw [if_pos rfl,if_pos rfl];go_enter Tryz.func155,Tryz.ntmps155
   go_upto_region 8 with (first
    | (go_at_call 154;(with_reducible refine (PG.out _ _ _ _ _ ox.out oz.out).mono ?_);rintro e w4 ⟨v4,rfl,xF,hb4⟩;have xH:=B.size;replace C:=C.keep hb4;replace Q:=Q.keep hb4;replace R:=R.keep hb4;replace ox:=kO ox hb4;replace oz:=kO oz hb4;replace B:=d_ B hb4;obtain ⟨a4,c4,rfl,xE,wt⟩:=aF.view xF;clear xE wt;have og:=wM (aF.base (show aF _ _ _ _ from xF) xH);clear xF;(generalize (Wh.a_ G.natAbs).length=lg at *);clear xH;have T:=aH.new w4 #[.bool true,.slice a4 lg c4] 125;have b_:=bA w4 (.cells #[.bool true,.slice a4 lg c4] 125);replace C:=C.keep b_;replace Q:=Q.keep b_;replace R:=R.keep b_;replace ox:=kO ox b_;replace oz:=kO oz b_;replace og:=kO og b_;replace B:=d_ B b_;clear b_;(replace ⟨f_,g_⟩:=C.b2);(replace ⟨xv,xw,xx,xy⟩:=Q.b4);(replace ⟨t_,wR,wW,wX,o_,p_,wZ,wb⟩:=R.xI);(replace ⟨xO,xP⟩:=T.b2))
    | (go_at_call 178;(with_reducible refine (PD.out _ _ _ _ _ ox.out oz.out).mono ?_);rintro e w6 ⟨rfl,hb6⟩;replace C:=C.keep hb6;replace Q:=Q.keep hb6;replace R:=R.keep hb6;replace T:=T.keep hb6;replace ox:=kO ox hb6;replace oz:=kO oz hb6;replace og:=kO og hb6;replace B:=d_ B hb6;(replace ⟨f_,g_⟩:=C.b2);(replace ⟨xv,xw,xx,xy⟩:=Q.b4);(replace ⟨t_,wR,wW,wX,o_,p_,wZ,wb⟩:=R.xI);(replace ⟨xO,xP⟩:=T.b2))
    | (go_at_call 180;(with_reducible refine (PF.out _ _ _ _ _ ox.out oz.out).mono ?_);rintro e w7 ⟨v7,rfl,zK,xC⟩;have xH:=B.size;replace C:=C.keep xC;replace Q:=Q.keep xC;replace R:=R.keep xC;replace T:=T.keep xC;replace ox:=kO ox xC;replace oz:=kO oz xC;replace og:=kO og xC;replace B:=d_ B xC;obtain ⟨a7,c7,rfl,xE,wt⟩:=aF.view zK;clear xE wt;have of:=wM (aF.base (show aF _ _ _ _ from zK) xH);clear zK;(generalize (Wh.a_ F.natAbs).length=lf at *);clear xH;(replace ⟨f_,g_⟩:=C.b2);(replace ⟨xv,xw,xx,xy⟩:=Q.b4);(replace ⟨t_,wR,wW,wX,o_,p_,wZ,wb⟩:=R.xI);(replace ⟨xO,xP⟩:=T.b2))
    | (go_at_call 179;(with_reducible refine (PQ.out _ _ _ of.out).mono ?_);rintro e w8 ⟨v8,rfl,yL,xD⟩;have xH:=B.size;replace C:=C.keep xD;replace Q:=Q.keep xD;replace R:=R.keep xD;replace T:=T.keep xD;replace ox:=kO ox xD;replace oz:=kO oz xD;replace og:=kO og xD;replace of:=kO of xD;replace B:=d_ B xD;obtain ⟨a8,c8,rfl,xE,wt⟩:=aF.view yL;clear xE wt;have on:=wM (aF.base (show aF _ _ _ _ from yL) xH);clear yL;(generalize (Wh.a_ N.natAbs).length=ln at *);clear xH;have Dk:=wM R.lt;have U:=aH.new w8 #[.bool sN,.slice a8 ln c8] 125;have b_:=bA w8 (.cells #[.bool sN,.slice a8 ln c8] 125);replace C:=C.keep b_;replace Q:=Q.keep b_;replace R:=R.keep b_;replace T:=T.keep b_;replace ox:=kO ox b_;replace oz:=kO oz b_;replace og:=kO og b_;replace of:=kO of b_;replace on:=kO on b_;replace B:=d_ B b_;clear b_;(replace ⟨f_,g_⟩:=C.b2);(replace ⟨xv,xw,xx,xy⟩:=Q.b4);(replace ⟨t_,wR,wW,wX,o_,p_,wZ,wb⟩:=R.xI);(replace ⟨xO,xP⟩:=T.b2);(replace ⟨xJ,xK⟩:=U.b2))
    | (go_at_call 179;(with_reducible refine (PR.out _ _ _ og.out).mono ?_);rintro e w9 ⟨v9,rfl,yk,xA⟩;have xH:=B.size;replace C:=C.keep xA;replace Q:=Q.keep xA;replace R:=R.keep xA;replace T:=T.keep xA;replace U:=U.keep xA;replace ox:=kO ox xA;replace oz:=kO oz xA;replace og:=kO og xA;replace of:=kO of xA;replace on:=kO on xA;replace B:=d_ B xA;obtain ⟨a9,c9,rfl,xE,wt⟩:=aF.view yk;clear xE wt;have oe:=wM (aF.base (show aF _ _ _ _ from yk) xH);clear yk;(generalize (Wh.a_ E.natAbs).length=le at *);clear xH;have V:=aH.new w9 #[.bool true,.slice a9 le c9] 125;have b_:=bA w9 (.cells #[.bool true,.slice a9 le c9] 125);replace C:=C.keep b_;replace Q:=Q.keep b_;replace R:=R.keep b_;replace T:=T.keep b_;replace U:=U.keep b_;replace ox:=kO ox b_;replace oz:=kO oz b_;replace og:=kO og b_;replace of:=kO of b_;replace on:=kO on b_;replace oe:=kO oe b_;replace B:=d_ B b_;clear b_;(replace ⟨f_,g_⟩:=C.b2);(replace ⟨xv,xw,xx,xy⟩:=Q.b4);(replace ⟨t_,wR,wW,wX,o_,p_,wZ,wb⟩:=R.xI);(replace ⟨xO,xP⟩:=T.b2);(replace ⟨xJ,xK,xT,xU⟩:=U.x9);(replace ⟨xL,xM,yF,yG⟩:=V.x9)))
   have K3:w8.heap.size<w9.heap.size:=Nat.lt_of_lt_of_le (by rw [wN];exact Nat.lt_succ_self _) xA.size;generalize w9.alloc (.cells #[.bool true,.slice a9 le c9] 125)=wd at *;refine Rg.bO 4 [.is (.agg #[.bool sN,.slice a8 ln c8]),.at (aJ (wd.heap.size) (-N)),.is (.agg #[.bool true,.slice a9 le c9]),.at (aJ (wd.heap.size) (-E))] (by kernel_rfl) (by kernel_rfl) (by kernel_rfl) ⟨?_,?_,?_,?_,fun h_=>absurd h_ (by decide),fun h_=>absurd h_ (by decide),trivial⟩ ?_
   ·intro _ zZ w_ hB hr
    have e8:zZ.tmps[8]?=some (.pointer (some ⟨w8.heap.size,0,none⟩)):=hr 8 (by decide);have k0:=aE hB U.box.c0;have k1:=aE hB U.box.c1;exact Rg.aG rfl (by go_simp)
   ·intro _ zZ w_ hB hr
    have e40:=Rg.c_ (hr 40 (by decide));have ef:=Rg.ef zZ;refine Rg.af rfl (by go_simp;exact ⟨rfl,rfl⟩) ?_;refine (PN.out _ _ _ (aF.below on.out hB)).mono ?_;rintro e w5 ⟨xX,rfl,wl,hb5⟩;exact ⟨_,rfl,aJ.at wl (by have:=hB.size;omega),hb5⟩
   ·intro _ zZ w_ hB hr
    have e10:zZ.tmps[10]?=some (.pointer (some ⟨w9.heap.size,0,none⟩)):=hr 10 (by decide);have k0:=aE hB V.box.c0;have k1:=aE hB V.box.c1;exact Rg.aG rfl (by go_simp)
   ·intro _ zZ w_ hB hr
    have e42:=Rg.c_ (hr 42 (by decide));have ef:=Rg.ef zZ;refine Rg.af rfl (by go_simp;exact ⟨rfl,rfl⟩) ?_;refine (PE.out _ _ _ (aF.below oe.out hB)).mono ?_;rintro e w5 ⟨xX,rfl,wl,hb5⟩;exact ⟨_,rfl,aJ.at wl (by have:=hB.size;omega),hb5⟩
   intro vals wz hB hv hne;have n41:(Rg.Val.at (aJ (wd.heap.size) (-N))).ok (vals 1) wz:=hv 1 (by decide);have n43:(Rg.Val.at (aJ (wd.heap.size) (-E))).ok (vals 3) wz:=hv 3 (by decide);simp only [Rg.bE,Rg.fill,Act.put,Nat.reduceAdd];clear hv;obtain ⟨y9,a41,yx,yw,Bw,v_1,FV⟩:=(Rg.ag n41).view;obtain ⟨s43,a43,zo,zi,Ds,EJ,G7⟩:=(Rg.ag n43).view;simp only [v_1,EJ];clear v_1 EJ;have U2:=U.keep hB;have V2:=V.keep hB;have R2:=R.keep hB
   have Dh:w8.heap.size≠w9.heap.size:=by omega
   have Eo:=Dh.symm;have V3:aH ((wz.setCell ⟨w8.heap.size,0,none⟩ (.bool y9)).setCell ⟨w8.heap.size,1,none⟩ (.slice a41 yx yw)) w9.heap.size 125 #[.bool true,.slice a9 le c9]:=(V2.other Eo _).other Eo _;have V4:=aH.set2 V3 (.bool s43) (.slice a43 zo zi);have U4:aH ((((wz.setCell ⟨w8.heap.size,0,none⟩ (.bool y9)).setCell ⟨w8.heap.size,1,none⟩ (.slice a41 yx yw)).setCell ⟨w9.heap.size,0,none⟩ (.bool s43)).setCell ⟨w9.heap.size,1,none⟩ (.slice a43 zo zi)) w8.heap.size 125 #[.bool y9,.slice a41 yx yw]:=((aH.set2 U2 (.bool y9) (.slice a41 yx yw)).other Dh _).other Dh _;have oN:=wM (aF.bJ (aF.bJ (aF.base FV B.size) U2 (by decide) (.bool y9) (.slice a41 yx yw)) V3 (by decide) (.bool s43) (.slice a43 zo zi));have oE:=wM (aF.bJ (aF.bJ (aF.base G7 B.size) U2 (by decide) (.bool y9) (.slice a41 yx yw)) V3 (by decide) (.bool s43) (.slice a43 zo zi));have hw8:w.heap.size+1+1<w8.heap.size:=Dk.out
   have Ez:w.heap.size+1+1≠w9.heap.size:=by omega
   have EC:w.heap.size+1+1≠w8.heap.size:=by omega
   have R4:aH ((((wz.setCell ⟨w8.heap.size,0,none⟩ (.bool y9)).setCell ⟨w8.heap.size,1,none⟩ (.slice a41 yx yw)).setCell ⟨w9.heap.size,0,none⟩ (.bool s43)).setCell ⟨w9.heap.size,1,none⟩ (.slice a43 zo zi)) (w.heap.size+1+1) 127 #[.bool false,.slice none 0 0,.bool false,.slice none 0 0]:=(((R2.other EC _).other EC _).other Ez _).other Ez _;have B4:Below w.heap.size w ((((wz.setCell ⟨w8.heap.size,0,none⟩ (.bool y9)).setCell ⟨w8.heap.size,1,none⟩ (.slice a41 yx yw)).setCell ⟨w9.heap.size,0,none⟩ (.bool s43)).setCell ⟨w9.heap.size,1,none⟩ (.slice a43 zo zi)):=wO (wO (wO (wO (d_ B hB) (by simp <;> omega) _) (by simp <;> omega) _) (by simp <;> omega) _) (by simp <;> omega) _;have ⟨p0,p1,q0,q1,_⟩:=U2.box;have ⟨p2,p3,q2,q3,_⟩:=V2.box;unfold Rg.aZ Rg.aZ Rg.aZ Oper.wp
   go_simp
   clear p0 p1 q0 q1 p2 p3 q2 q3 U2 V2 V3 R2 FV G7 hB U V R C Q T B ox oz og of on oe EC Ez Dh Eo K3 f_ g_ xv xw xx xy t_ wR wW wX o_ p_ wZ wb xJ xK xL xM xT xU yF yG;generalize ((((wz.setCell ⟨w8.heap.size,0,none⟩ (.bool y9)).setCell ⟨w8.heap.size,1,none⟩ (.slice a41 yx yw)).setCell ⟨w9.heap.size,0,none⟩ (.bool s43)).setCell ⟨w9.heap.size,1,none⟩ (.slice a43 zo zi))=wf at *;have DP:=At.out;rw [←Bw.out,←Ds.out] at DP;replace DP:=wM DP
   rename aH _ w8.heap.size _ _=>U
   rename aH _ w9.heap.size _ _=>V
   rename aH _ (w.heap.size+1+1) _ _=>R
   rename Below _ _ wf=>B
   have xJ:=U.box.c0;have xK:=U.box.c1;have xL:=V.box.c0;have xM:=V.box.c1
   go_wp2_with (go_at_call 181;have O:=aH.new wf #[.bool y9,.slice a41 yx yw,.bool s43,.slice a43 zo zi] 127;have b_:=bA wf (.cells #[.bool y9,.slice a41 yx yw,.bool s43,.slice a43 zo zi] 127);replace R:=R.keep b_;replace oN:=kO oN b_;replace oE:=kO oE b_;replace B:=d_ B b_;clear b_;(with_reducible refine (DP.out _ _ _ _ _ oN.out oE.out).mono ?_);rintro e D7 ⟨rfl,wS⟩;(simp only [hok.out]);replace R:=R.keep wS;replace O:=O.keep wS;replace oN:=kO oN wS;replace oE:=kO oE wS;replace B:=d_ B wS;(replace ⟨t_,wR,wW,wX,o_,p_,wZ,wb⟩:=R.xI);(replace ⟨yf,yg,yh,yi⟩:=O.b4))
   have hr1:=aF.base (aF.cn oN.out R (by decide) (.bool y9) (.slice a41 yx yw) (.bool s43) (.slice a43 zo zi)) (base':=w.heap.size) (by first | exact wQ _ | omega);have hr2:=aF.base (aF.cn oE.out R (by decide) (.bool y9) (.slice a41 yx yw) (.bool s43) (.slice a43 zo zi)) (base':=w.heap.size) (by first | exact wQ _ | omega);exact bodyPost_ret (v:=.tuple #[.agg #[.bool y9,.slice a41 yx yw,.bool s43,.slice a43 zo zi],.bool true]) (by simp [results,Tryz.results155,go_sem, *]) rfl (⟨_,_,(by rw [Bw.out,Ds.out]),hr1,hr2,wO (wO (wO (wO B (by simp <;> omega) _) (by simp <;> omega) _) (by simp <;> omega) _) (by simp <;> omega) _⟩)
  replace hok:Wh.cJ (-N) (-E)=false:=by simpa using hok
  rw [hok];replace hok:=wM hok;rw [if_neg (by decide),if_neg (by decide)];go_enter Tryz.func155,Tryz.ntmps155
  go_upto_region 8 with (first
   | (go_at_call 154;(with_reducible refine (PG.out _ _ _ _ _ ox.out oz.out).mono ?_);rintro e w4 ⟨v4,rfl,xF,hb4⟩;have xH:=B.size;replace C:=C.keep hb4;replace Q:=Q.keep hb4;replace R:=R.keep hb4;replace ox:=kO ox hb4;replace oz:=kO oz hb4;replace B:=d_ B hb4;obtain ⟨a4,c4,rfl,xE,wt⟩:=aF.view xF;clear xE wt;have og:=wM (aF.base (show aF _ _ _ _ from xF) xH);clear xF;(generalize (Wh.a_ G.natAbs).length=lg at *);clear xH;have T:=aH.new w4 #[.bool true,.slice a4 lg c4] 125;have b_:=bA w4 (.cells #[.bool true,.slice a4 lg c4] 125);replace C:=C.keep b_;replace Q:=Q.keep b_;replace R:=R.keep b_;replace ox:=kO ox b_;replace oz:=kO oz b_;replace og:=kO og b_;replace B:=d_ B b_;clear b_;(replace ⟨f_,g_⟩:=C.b2);(replace ⟨xv,xw,xx,xy⟩:=Q.b4);(replace ⟨t_,wR,wW,wX,o_,p_,wZ,wb⟩:=R.xI);(replace ⟨xO,xP⟩:=T.b2))
   | (go_at_call 178;(with_reducible refine (PD.out _ _ _ _ _ ox.out oz.out).mono ?_);rintro e w6 ⟨rfl,hb6⟩;replace C:=C.keep hb6;replace Q:=Q.keep hb6;replace R:=R.keep hb6;replace T:=T.keep hb6;replace ox:=kO ox hb6;replace oz:=kO oz hb6;replace og:=kO og hb6;replace B:=d_ B hb6;(replace ⟨f_,g_⟩:=C.b2);(replace ⟨xv,xw,xx,xy⟩:=Q.b4);(replace ⟨t_,wR,wW,wX,o_,p_,wZ,wb⟩:=R.xI);(replace ⟨xO,xP⟩:=T.b2))
   | (go_at_call 180;(with_reducible refine (PF.out _ _ _ _ _ ox.out oz.out).mono ?_);rintro e w7 ⟨v7,rfl,zK,xC⟩;have xH:=B.size;replace C:=C.keep xC;replace Q:=Q.keep xC;replace R:=R.keep xC;replace T:=T.keep xC;replace ox:=kO ox xC;replace oz:=kO oz xC;replace og:=kO og xC;replace B:=d_ B xC;obtain ⟨a7,c7,rfl,xE,wt⟩:=aF.view zK;clear xE wt;have of:=wM (aF.base (show aF _ _ _ _ from zK) xH);clear zK;(generalize (Wh.a_ F.natAbs).length=lf at *);clear xH;(replace ⟨f_,g_⟩:=C.b2);(replace ⟨xv,xw,xx,xy⟩:=Q.b4);(replace ⟨t_,wR,wW,wX,o_,p_,wZ,wb⟩:=R.xI);(replace ⟨xO,xP⟩:=T.b2))
   | (go_at_call 179;(with_reducible refine (PQ.out _ _ _ of.out).mono ?_);rintro e w8 ⟨v8,rfl,yL,xD⟩;have xH:=B.size;replace C:=C.keep xD;replace Q:=Q.keep xD;replace R:=R.keep xD;replace T:=T.keep xD;replace ox:=kO ox xD;replace oz:=kO oz xD;replace og:=kO og xD;replace of:=kO of xD;replace B:=d_ B xD;obtain ⟨a8,c8,rfl,xE,wt⟩:=aF.view yL;clear xE wt;have on:=wM (aF.base (show aF _ _ _ _ from yL) xH);clear yL;(generalize (Wh.a_ N.natAbs).length=ln at *);clear xH;have Dk:=wM R.lt;have U:=aH.new w8 #[.bool sN,.slice a8 ln c8] 125;have b_:=bA w8 (.cells #[.bool sN,.slice a8 ln c8] 125);replace C:=C.keep b_;replace Q:=Q.keep b_;replace R:=R.keep b_;replace T:=T.keep b_;replace ox:=kO ox b_;replace oz:=kO oz b_;replace og:=kO og b_;replace of:=kO of b_;replace on:=kO on b_;replace B:=d_ B b_;clear b_;(replace ⟨f_,g_⟩:=C.b2);(replace ⟨xv,xw,xx,xy⟩:=Q.b4);(replace ⟨t_,wR,wW,wX,o_,p_,wZ,wb⟩:=R.xI);(replace ⟨xO,xP⟩:=T.b2);(replace ⟨xJ,xK⟩:=U.b2))
   | (go_at_call 179;(with_reducible refine (PR.out _ _ _ og.out).mono ?_);rintro e w9 ⟨v9,rfl,yk,xA⟩;have xH:=B.size;replace C:=C.keep xA;replace Q:=Q.keep xA;replace R:=R.keep xA;replace T:=T.keep xA;replace U:=U.keep xA;replace ox:=kO ox xA;replace oz:=kO oz xA;replace og:=kO og xA;replace of:=kO of xA;replace on:=kO on xA;replace B:=d_ B xA;obtain ⟨a9,c9,rfl,xE,wt⟩:=aF.view yk;clear xE wt;have oe:=wM (aF.base (show aF _ _ _ _ from yk) xH);clear yk;(generalize (Wh.a_ E.natAbs).length=le at *);clear xH;have V:=aH.new w9 #[.bool true,.slice a9 le c9] 125;have b_:=bA w9 (.cells #[.bool true,.slice a9 le c9] 125);replace C:=C.keep b_;replace Q:=Q.keep b_;replace R:=R.keep b_;replace T:=T.keep b_;replace U:=U.keep b_;replace ox:=kO ox b_;replace oz:=kO oz b_;replace og:=kO og b_;replace of:=kO of b_;replace on:=kO on b_;replace oe:=kO oe b_;replace B:=d_ B b_;clear b_;(replace ⟨f_,g_⟩:=C.b2);(replace ⟨xv,xw,xx,xy⟩:=Q.b4);(replace ⟨t_,wR,wW,wX,o_,p_,wZ,wb⟩:=R.xI);(replace ⟨xO,xP⟩:=T.b2);(replace ⟨xJ,xK,xT,xU⟩:=U.x9);(replace ⟨xL,xM,yF,yG⟩:=V.x9)))
  have K3:w8.heap.size<w9.heap.size:=Nat.lt_of_lt_of_le (by rw [wN];exact Nat.lt_succ_self _) xA.size;generalize w9.alloc (.cells #[.bool true,.slice a9 le c9] 125)=wd at *;refine Rg.bO 4 [.is (.agg #[.bool sN,.slice a8 ln c8]),.at (aJ (wd.heap.size) (-N)),.is (.agg #[.bool true,.slice a9 le c9]),.at (aJ (wd.heap.size) (-E))] (by kernel_rfl) (by kernel_rfl) (by kernel_rfl) ⟨?_,?_,?_,?_,fun h_=>absurd h_ (by decide),fun h_=>absurd h_ (by decide),trivial⟩ ?_
  ·intro _ zZ w_ hB hr
   have e8:zZ.tmps[8]?=some (.pointer (some ⟨w8.heap.size,0,none⟩)):=hr 8 (by decide);have k0:=aE hB U.box.c0;have k1:=aE hB U.box.c1;exact Rg.aG rfl (by go_simp)
  ·intro _ zZ w_ hB hr
   have e40:=Rg.c_ (hr 40 (by decide));have ef:=Rg.ef zZ;refine Rg.af rfl (by go_simp;exact ⟨rfl,rfl⟩) ?_;refine (PN.out _ _ _ (aF.below on.out hB)).mono ?_;rintro e w5 ⟨xX,rfl,wl,hb5⟩;exact ⟨_,rfl,aJ.at wl (by have:=hB.size;omega),hb5⟩
  ·intro _ zZ w_ hB hr
   have e10:zZ.tmps[10]?=some (.pointer (some ⟨w9.heap.size,0,none⟩)):=hr 10 (by decide);have k0:=aE hB V.box.c0;have k1:=aE hB V.box.c1;exact Rg.aG rfl (by go_simp)
  ·intro _ zZ w_ hB hr
   have e42:=Rg.c_ (hr 42 (by decide));have ef:=Rg.ef zZ;refine Rg.af rfl (by go_simp;exact ⟨rfl,rfl⟩) ?_;refine (PE.out _ _ _ (aF.below oe.out hB)).mono ?_;rintro e w5 ⟨xX,rfl,wl,hb5⟩;exact ⟨_,rfl,aJ.at wl (by have:=hB.size;omega),hb5⟩
  intro vals wz hB hv hne;have n41:(Rg.Val.at (aJ (wd.heap.size) (-N))).ok (vals 1) wz:=hv 1 (by decide);have n43:(Rg.Val.at (aJ (wd.heap.size) (-E))).ok (vals 3) wz:=hv 3 (by decide);simp only [Rg.bE,Rg.fill,Act.put,Nat.reduceAdd];clear hv;obtain ⟨y9,a41,yx,yw,Bw,v_1,FV⟩:=(Rg.ag n41).view;obtain ⟨s43,a43,zo,zi,Ds,EJ,G7⟩:=(Rg.ag n43).view;simp only [v_1,EJ];clear v_1 EJ;have U2:=U.keep hB;have V2:=V.keep hB;have R2:=R.keep hB
  have Dh:w8.heap.size≠w9.heap.size:=by omega
  have Eo:=Dh.symm;have V3:aH ((wz.setCell ⟨w8.heap.size,0,none⟩ (.bool y9)).setCell ⟨w8.heap.size,1,none⟩ (.slice a41 yx yw)) w9.heap.size 125 #[.bool true,.slice a9 le c9]:=(V2.other Eo _).other Eo _;have V4:=aH.set2 V3 (.bool s43) (.slice a43 zo zi);have U4:aH ((((wz.setCell ⟨w8.heap.size,0,none⟩ (.bool y9)).setCell ⟨w8.heap.size,1,none⟩ (.slice a41 yx yw)).setCell ⟨w9.heap.size,0,none⟩ (.bool s43)).setCell ⟨w9.heap.size,1,none⟩ (.slice a43 zo zi)) w8.heap.size 125 #[.bool y9,.slice a41 yx yw]:=((aH.set2 U2 (.bool y9) (.slice a41 yx yw)).other Dh _).other Dh _;have oN:=wM (aF.bJ (aF.bJ (aF.base FV B.size) U2 (by decide) (.bool y9) (.slice a41 yx yw)) V3 (by decide) (.bool s43) (.slice a43 zo zi));have oE:=wM (aF.bJ (aF.bJ (aF.base G7 B.size) U2 (by decide) (.bool y9) (.slice a41 yx yw)) V3 (by decide) (.bool s43) (.slice a43 zo zi));have hw8:w.heap.size+1+1<w8.heap.size:=Dk.out
  have Ez:w.heap.size+1+1≠w9.heap.size:=by omega
  have EC:w.heap.size+1+1≠w8.heap.size:=by omega
  have R4:aH ((((wz.setCell ⟨w8.heap.size,0,none⟩ (.bool y9)).setCell ⟨w8.heap.size,1,none⟩ (.slice a41 yx yw)).setCell ⟨w9.heap.size,0,none⟩ (.bool s43)).setCell ⟨w9.heap.size,1,none⟩ (.slice a43 zo zi)) (w.heap.size+1+1) 127 #[.bool false,.slice none 0 0,.bool false,.slice none 0 0]:=(((R2.other EC _).other EC _).other Ez _).other Ez _;have B4:Below w.heap.size w ((((wz.setCell ⟨w8.heap.size,0,none⟩ (.bool y9)).setCell ⟨w8.heap.size,1,none⟩ (.slice a41 yx yw)).setCell ⟨w9.heap.size,0,none⟩ (.bool s43)).setCell ⟨w9.heap.size,1,none⟩ (.slice a43 zo zi)):=wO (wO (wO (wO (d_ B hB) (by simp <;> omega) _) (by simp <;> omega) _) (by simp <;> omega) _) (by simp <;> omega) _;have ⟨p0,p1,q0,q1,_⟩:=U2.box;have ⟨p2,p3,q2,q3,_⟩:=V2.box;unfold Rg.aZ Rg.aZ Rg.aZ Oper.wp
  go_simp
  clear p0 p1 q0 q1 p2 p3 q2 q3 U2 V2 V3 R2 FV G7 hB U V R C Q T B ox oz og of on oe EC Ez Dh Eo K3 f_ g_ xv xw xx xy t_ wR wW wX o_ p_ wZ wb xJ xK xL xM xT xU yF yG;generalize ((((wz.setCell ⟨w8.heap.size,0,none⟩ (.bool y9)).setCell ⟨w8.heap.size,1,none⟩ (.slice a41 yx yw)).setCell ⟨w9.heap.size,0,none⟩ (.bool s43)).setCell ⟨w9.heap.size,1,none⟩ (.slice a43 zo zi))=wf at *;have DP:=At.out;rw [←Bw.out,←Ds.out] at DP;replace DP:=wM DP
  rename aH _ w8.heap.size _ _=>U
  rename aH _ w9.heap.size _ _=>V
  rename aH _ (w.heap.size+1+1) _ _=>R
  rename Below _ _ wf=>B
  have xJ:=U.box.c0;have xK:=U.box.c1;have xL:=V.box.c0;have xM:=V.box.c1
  go_wp2_with (go_at_call 181;have O:=aH.new wf #[.bool y9,.slice a41 yx yw,.bool s43,.slice a43 zo zi] 127;have b_:=bA wf (.cells #[.bool y9,.slice a41 yx yw,.bool s43,.slice a43 zo zi] 127);replace R:=R.keep b_;replace oN:=kO oN b_;replace oE:=kO oE b_;replace B:=d_ B b_;clear b_;(with_reducible refine (DP.out _ _ _ _ _ oN.out oE.out).mono ?_);rintro e D7 ⟨rfl,wS⟩;(simp only [hok.out]);replace R:=R.keep wS;replace O:=O.keep wS;replace oN:=kO oN wS;replace oE:=kO oE wS;replace B:=d_ B wS;(replace ⟨t_,wR,wW,wX,o_,p_,wZ,wb⟩:=R.xI);(replace ⟨yf,yg,yh,yi⟩:=O.b4))
  exact bodyPost_ret (v:=.tuple #[.agg #[.bool false,.slice none 0 0,.bool false,.slice none 0 0],.bool false]) (by simp [results,Tryz.results155,go_sem, *]) rfl (⟨_,_,rfl,et _ _,et _ _,wO (wO (wO (wO B (by simp <;> omega) _) (by simp <;> omega) _) (by simp <;> omega) _) (by simp <;> omega) _⟩)
 have hsg:decide (G<0)=false:=decide_eq_false hneg;rw [hsg] at Ak PG;rw [if_neg hneg,if_neg hneg];simp only [hsg,Ak] at PR PE AF;clear At PN PE;generalize An:decide (N<0)=sN at *;replace PG:=wM PG;replace PF:=wM PF;replace PD:=wM PD;replace PQ:=wM PQ;replace PR:=wM PR;replace AF:=wM AF;replace An:=wM An;replace Ak:=wM Ak;clear hneg hsg hd1 hd2
 by_cases hok:Wh.cJ (N) (E)=true
 ·skip
  rw [hok];replace hok:=wM hok;rw [if_pos rfl,if_pos rfl];go_enter Tryz.func155,Tryz.ntmps155
  go_wp2_with (first
   | (go_at_call 154;(with_reducible refine (PG.out _ _ _ _ _ ox.out oz.out).mono ?_);rintro e w4 ⟨v4,rfl,xF,hb4⟩;have xH:=B.size;replace C:=C.keep hb4;replace Q:=Q.keep hb4;replace R:=R.keep hb4;replace ox:=kO ox hb4;replace oz:=kO oz hb4;replace B:=d_ B hb4;obtain ⟨a4,c4,rfl,xE,wt⟩:=aF.view xF;clear xE wt;have og:=wM (aF.base (show aF _ _ _ _ from xF) xH);clear xF;(generalize (Wh.a_ G.natAbs).length=lg at *);clear xH;have T:=aH.new w4 #[.bool false,.slice a4 lg c4] 125;have b_:=bA w4 (.cells #[.bool false,.slice a4 lg c4] 125);replace C:=C.keep b_;replace Q:=Q.keep b_;replace R:=R.keep b_;replace ox:=kO ox b_;replace oz:=kO oz b_;replace og:=kO og b_;replace B:=d_ B b_;clear b_;(replace ⟨f_,g_⟩:=C.b2);(replace ⟨xv,xw,xx,xy⟩:=Q.b4);(replace ⟨t_,wR,wW,wX,o_,p_,wZ,wb⟩:=R.xI);(replace ⟨xO,xP⟩:=T.b2))
   | (go_at_call 178;(with_reducible refine (PD.out _ _ _ _ _ ox.out oz.out).mono ?_);rintro e w6 ⟨rfl,hb6⟩;replace C:=C.keep hb6;replace Q:=Q.keep hb6;replace R:=R.keep hb6;replace T:=T.keep hb6;replace ox:=kO ox hb6;replace oz:=kO oz hb6;replace og:=kO og hb6;replace B:=d_ B hb6;(replace ⟨f_,g_⟩:=C.b2);(replace ⟨xv,xw,xx,xy⟩:=Q.b4);(replace ⟨t_,wR,wW,wX,o_,p_,wZ,wb⟩:=R.xI);(replace ⟨xO,xP⟩:=T.b2))
   | (go_at_call 180;(with_reducible refine (PF.out _ _ _ _ _ ox.out oz.out).mono ?_);rintro e w7 ⟨v7,rfl,zK,xC⟩;have xH:=B.size;replace C:=C.keep xC;replace Q:=Q.keep xC;replace R:=R.keep xC;replace T:=T.keep xC;replace ox:=kO ox xC;replace oz:=kO oz xC;replace og:=kO og xC;replace B:=d_ B xC;obtain ⟨a7,c7,rfl,xE,wt⟩:=aF.view zK;clear xE wt;have of:=wM (aF.base (show aF _ _ _ _ from zK) xH);clear zK;(generalize (Wh.a_ F.natAbs).length=lf at *);clear xH;(replace ⟨f_,g_⟩:=C.b2);(replace ⟨xv,xw,xx,xy⟩:=Q.b4);(replace ⟨t_,wR,wW,wX,o_,p_,wZ,wb⟩:=R.xI);(replace ⟨xO,xP⟩:=T.b2))
   | (go_at_call 179;(with_reducible refine (PQ.out _ _ _ of.out).mono ?_);rintro e w8 ⟨v8,rfl,yL,xD⟩;have xH:=B.size;replace C:=C.keep xD;replace Q:=Q.keep xD;replace R:=R.keep xD;replace T:=T.keep xD;replace ox:=kO ox xD;replace oz:=kO oz xD;replace og:=kO og xD;replace of:=kO of xD;replace B:=d_ B xD;obtain ⟨a8,c8,rfl,xE,wt⟩:=aF.view yL;clear xE wt;have on:=wM (aF.base (show aF _ _ _ _ from yL) xH);clear yL;(generalize (Wh.a_ N.natAbs).length=ln at *);clear xH;have Dk:=wM R.lt;have U:=aH.new w8 #[.bool sN,.slice a8 ln c8] 125;have b_:=bA w8 (.cells #[.bool sN,.slice a8 ln c8] 125);replace C:=C.keep b_;replace Q:=Q.keep b_;replace R:=R.keep b_;replace T:=T.keep b_;replace ox:=kO ox b_;replace oz:=kO oz b_;replace og:=kO og b_;replace of:=kO of b_;replace on:=kO on b_;replace B:=d_ B b_;clear b_;(replace ⟨f_,g_⟩:=C.b2);(replace ⟨xv,xw,xx,xy⟩:=Q.b4);(replace ⟨t_,wR,wW,wX,o_,p_,wZ,wb⟩:=R.xI);(replace ⟨xO,xP⟩:=T.b2);(replace ⟨xJ,xK⟩:=U.b2))
   | (go_at_call 179;(with_reducible refine (PR.out _ _ _ og.out).mono ?_);rintro e w9 ⟨v9,rfl,yk,xA⟩;have xH:=B.size;replace C:=C.keep xA;replace Q:=Q.keep xA;replace R:=R.keep xA;replace T:=T.keep xA;replace U:=U.keep xA;replace ox:=kO ox xA;replace oz:=kO oz xA;replace og:=kO og xA;replace of:=kO of xA;replace on:=kO on xA;replace B:=d_ B xA;obtain ⟨a9,c9,rfl,xE,wt⟩:=aF.view yk;clear xE wt;have oe:=wM (aF.base (show aF _ _ _ _ from yk) xH);clear yk;(generalize (Wh.a_ E.natAbs).length=le at *);clear xH;have V:=aH.new w9 #[.bool false,.slice a9 le c9] 125;have b_:=bA w9 (.cells #[.bool false,.slice a9 le c9] 125);replace C:=C.keep b_;replace Q:=Q.keep b_;replace R:=R.keep b_;replace T:=T.keep b_;replace U:=U.keep b_;replace ox:=kO ox b_;replace oz:=kO oz b_;replace og:=kO og b_;replace of:=kO of b_;replace on:=kO on b_;replace oe:=kO oe b_;replace B:=d_ B b_;clear b_;(replace ⟨f_,g_⟩:=C.b2);(replace ⟨xv,xw,xx,xy⟩:=Q.b4);(replace ⟨t_,wR,wW,wX,o_,p_,wZ,wb⟩:=R.xI);(replace ⟨xO,xP⟩:=T.b2);(replace ⟨xJ,xK,xT,xU⟩:=U.x9);(replace ⟨xL,xM,yF,yG⟩:=V.x9);have O:=aH.new (w9.alloc (.cells #[.bool false,.slice a9 le c9] 125)) #[.bool sN,.slice a8 ln c8,.bool false,.slice a9 le c9] 127;have b_:=bA (w9.alloc (.cells #[.bool false,.slice a9 le c9] 125)) (.cells #[.bool sN,.slice a8 ln c8,.bool false,.slice a9 le c9] 127);replace C:=C.keep b_;replace Q:=Q.keep b_;replace R:=R.keep b_;replace T:=T.keep b_;replace U:=U.keep b_;replace V:=V.keep b_;replace ox:=kO ox b_;replace oz:=kO oz b_;replace og:=kO og b_;replace of:=kO of b_;replace on:=kO on b_;replace oe:=kO oe b_;replace B:=d_ B b_;clear b_;(rw [wN] at O))
   | (go_at_call 181;(with_reducible refine (AF.out _ _ _ _ _ on.out oe.out).mono ?_);rintro e D7 ⟨rfl,wS⟩;(simp only [hok.out]);replace C:=C.keep wS;replace Q:=Q.keep wS;replace R:=R.keep wS;replace T:=T.keep wS;replace U:=U.keep wS;replace V:=V.keep wS;replace O:=O.keep wS;replace ox:=kO ox wS;replace oz:=kO oz wS;replace og:=kO og wS;replace of:=kO of wS;replace on:=kO on wS;replace oe:=kO oe wS;replace B:=d_ B wS;(replace ⟨f_,g_⟩:=C.b2);(replace ⟨xv,xw,xx,xy⟩:=Q.b4);(replace ⟨t_,wR,wW,wX,o_,p_,wZ,wb⟩:=R.xI);(replace ⟨xO,xP⟩:=T.b2);(replace ⟨xJ,xK⟩:=U.b2);(replace ⟨xL,xM⟩:=V.b2);(replace ⟨yf,yg,yh,yi⟩:=O.b4)))
  have hr1:=aF.base (aF.cn on.out R (by decide) (.bool sN) (.slice a8 ln c8) (.bool false) (.slice a9 le c9)) (base':=w.heap.size) (by first | exact wQ _ | omega);have hr2:=aF.base (aF.cn oe.out R (by decide) (.bool sN) (.slice a8 ln c8) (.bool false) (.slice a9 le c9)) (base':=w.heap.size) (by first | exact wQ _ | omega);exact bodyPost_ret (v:=.tuple #[.agg #[.bool sN,.slice a8 ln c8,.bool false,.slice a9 le c9],.bool true]) (by simp [results,Tryz.results155,go_sem, *]) rfl (⟨_,_,(by rw [An.out,Ak.out]),hr1,hr2,wO (wO (wO (wO B (by simp <;> omega) _) (by simp <;> omega) _) (by simp <;> omega) _) (by simp <;> omega) _⟩)
 replace hok:Wh.cJ (N) (E)=false:=by simpa using hok
 rw [hok];replace hok:=wM hok;rw [if_neg (by decide),if_neg (by decide)];go_enter Tryz.func155,Tryz.ntmps155
 go_wp2_with (first
  | (go_at_call 154;(with_reducible refine (PG.out _ _ _ _ _ ox.out oz.out).mono ?_);rintro e w4 ⟨v4,rfl,xF,hb4⟩;have xH:=B.size;replace C:=C.keep hb4;replace Q:=Q.keep hb4;replace R:=R.keep hb4;replace ox:=kO ox hb4;replace oz:=kO oz hb4;replace B:=d_ B hb4;obtain ⟨a4,c4,rfl,xE,wt⟩:=aF.view xF;clear xE wt;have og:=wM (aF.base (show aF _ _ _ _ from xF) xH);clear xF;(generalize (Wh.a_ G.natAbs).length=lg at *);clear xH;have T:=aH.new w4 #[.bool false,.slice a4 lg c4] 125;have b_:=bA w4 (.cells #[.bool false,.slice a4 lg c4] 125);replace C:=C.keep b_;replace Q:=Q.keep b_;replace R:=R.keep b_;replace ox:=kO ox b_;replace oz:=kO oz b_;replace og:=kO og b_;replace B:=d_ B b_;clear b_;(replace ⟨f_,g_⟩:=C.b2);(replace ⟨xv,xw,xx,xy⟩:=Q.b4);(replace ⟨t_,wR,wW,wX,o_,p_,wZ,wb⟩:=R.xI);(replace ⟨xO,xP⟩:=T.b2))
  | (go_at_call 178;(with_reducible refine (PD.out _ _ _ _ _ ox.out oz.out).mono ?_);rintro e w6 ⟨rfl,hb6⟩;replace C:=C.keep hb6;replace Q:=Q.keep hb6;replace R:=R.keep hb6;replace T:=T.keep hb6;replace ox:=kO ox hb6;replace oz:=kO oz hb6;replace og:=kO og hb6;replace B:=d_ B hb6;(replace ⟨f_,g_⟩:=C.b2);(replace ⟨xv,xw,xx,xy⟩:=Q.b4);(replace ⟨t_,wR,wW,wX,o_,p_,wZ,wb⟩:=R.xI);(replace ⟨xO,xP⟩:=T.b2))
  | (go_at_call 180;(with_reducible refine (PF.out _ _ _ _ _ ox.out oz.out).mono ?_);rintro e w7 ⟨v7,rfl,zK,xC⟩;have xH:=B.size;replace C:=C.keep xC;replace Q:=Q.keep xC;replace R:=R.keep xC;replace T:=T.keep xC;replace ox:=kO ox xC;replace oz:=kO oz xC;replace og:=kO og xC;replace B:=d_ B xC;obtain ⟨a7,c7,rfl,xE,wt⟩:=aF.view zK;clear xE wt;have of:=wM (aF.base (show aF _ _ _ _ from zK) xH);clear zK;(generalize (Wh.a_ F.natAbs).length=lf at *);clear xH;(replace ⟨f_,g_⟩:=C.b2);(replace ⟨xv,xw,xx,xy⟩:=Q.b4);(replace ⟨t_,wR,wW,wX,o_,p_,wZ,wb⟩:=R.xI);(replace ⟨xO,xP⟩:=T.b2))
  | (go_at_call 179;(with_reducible refine (PQ.out _ _ _ of.out).mono ?_);rintro e w8 ⟨v8,rfl,yL,xD⟩;have xH:=B.size;replace C:=C.keep xD;replace Q:=Q.keep xD;replace R:=R.keep xD;replace T:=T.keep xD;replace ox:=kO ox xD;replace oz:=kO oz xD;replace og:=kO og xD;replace of:=kO of xD;replace B:=d_ B xD;obtain ⟨a8,c8,rfl,xE,wt⟩:=aF.view yL;clear xE wt;have on:=wM (aF.base (show aF _ _ _ _ from yL) xH);clear yL;(generalize (Wh.a_ N.natAbs).length=ln at *);clear xH;have Dk:=wM R.lt;have U:=aH.new w8 #[.bool sN,.slice a8 ln c8] 125;have b_:=bA w8 (.cells #[.bool sN,.slice a8 ln c8] 125);replace C:=C.keep b_;replace Q:=Q.keep b_;replace R:=R.keep b_;replace T:=T.keep b_;replace ox:=kO ox b_;replace oz:=kO oz b_;replace og:=kO og b_;replace of:=kO of b_;replace on:=kO on b_;replace B:=d_ B b_;clear b_;(replace ⟨f_,g_⟩:=C.b2);(replace ⟨xv,xw,xx,xy⟩:=Q.b4);(replace ⟨t_,wR,wW,wX,o_,p_,wZ,wb⟩:=R.xI);(replace ⟨xO,xP⟩:=T.b2);(replace ⟨xJ,xK⟩:=U.b2))
  | (go_at_call 179;(with_reducible refine (PR.out _ _ _ og.out).mono ?_);rintro e w9 ⟨v9,rfl,yk,xA⟩;have xH:=B.size;replace C:=C.keep xA;replace Q:=Q.keep xA;replace R:=R.keep xA;replace T:=T.keep xA;replace U:=U.keep xA;replace ox:=kO ox xA;replace oz:=kO oz xA;replace og:=kO og xA;replace of:=kO of xA;replace on:=kO on xA;replace B:=d_ B xA;obtain ⟨a9,c9,rfl,xE,wt⟩:=aF.view yk;clear xE wt;have oe:=wM (aF.base (show aF _ _ _ _ from yk) xH);clear yk;(generalize (Wh.a_ E.natAbs).length=le at *);clear xH;have V:=aH.new w9 #[.bool false,.slice a9 le c9] 125;have b_:=bA w9 (.cells #[.bool false,.slice a9 le c9] 125);replace C:=C.keep b_;replace Q:=Q.keep b_;replace R:=R.keep b_;replace T:=T.keep b_;replace U:=U.keep b_;replace ox:=kO ox b_;replace oz:=kO oz b_;replace og:=kO og b_;replace of:=kO of b_;replace on:=kO on b_;replace oe:=kO oe b_;replace B:=d_ B b_;clear b_;(replace ⟨f_,g_⟩:=C.b2);(replace ⟨xv,xw,xx,xy⟩:=Q.b4);(replace ⟨t_,wR,wW,wX,o_,p_,wZ,wb⟩:=R.xI);(replace ⟨xO,xP⟩:=T.b2);(replace ⟨xJ,xK,xT,xU⟩:=U.x9);(replace ⟨xL,xM,yF,yG⟩:=V.x9);have O:=aH.new (w9.alloc (.cells #[.bool false,.slice a9 le c9] 125)) #[.bool sN,.slice a8 ln c8,.bool false,.slice a9 le c9] 127;have b_:=bA (w9.alloc (.cells #[.bool false,.slice a9 le c9] 125)) (.cells #[.bool sN,.slice a8 ln c8,.bool false,.slice a9 le c9] 127);replace C:=C.keep b_;replace Q:=Q.keep b_;replace R:=R.keep b_;replace T:=T.keep b_;replace U:=U.keep b_;replace V:=V.keep b_;replace ox:=kO ox b_;replace oz:=kO oz b_;replace og:=kO og b_;replace of:=kO of b_;replace on:=kO on b_;replace oe:=kO oe b_;replace B:=d_ B b_;clear b_;(rw [wN] at O))
  | (go_at_call 181;(with_reducible refine (AF.out _ _ _ _ _ on.out oe.out).mono ?_);rintro e D7 ⟨rfl,wS⟩;(simp only [hok.out]);replace C:=C.keep wS;replace Q:=Q.keep wS;replace R:=R.keep wS;replace T:=T.keep wS;replace U:=U.keep wS;replace V:=V.keep wS;replace O:=O.keep wS;replace ox:=kO ox wS;replace oz:=kO oz wS;replace og:=kO og wS;replace of:=kO of wS;replace on:=kO on wS;replace oe:=kO oe wS;replace B:=d_ B wS;(replace ⟨f_,g_⟩:=C.b2);(replace ⟨xv,xw,xx,xy⟩:=Q.b4);(replace ⟨t_,wR,wW,wX,o_,p_,wZ,wb⟩:=R.xI);(replace ⟨xO,xP⟩:=T.b2);(replace ⟨xJ,xK⟩:=U.b2);(replace ⟨xL,xM⟩:=V.b2);(replace ⟨yf,yg,yh,yi⟩:=O.b4)))
 exact bodyPost_ret (v:=.tuple #[.agg #[.bool false,.slice none 0 0,.bool false,.slice none 0 0],.bool false]) (by simp [results,Tryz.results155,go_sem, *]) rfl (⟨_,_,rfl,et _ _,et _ _,wO (wO (wO (wO B (by simp <;> omega) _) (by simp <;> omega) _) (by simp <;> omega) _) (by simp <;> omega) _⟩)
end
end Go.Proofs.YtggekfbfechonaaGreat
