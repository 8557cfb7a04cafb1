/-
  Joined texts: contracts and plain lemmas.
-/
import Derived.Test.YtgfkcoablfjbcaaGreatV1
import Derived.Test.YtgfkcoablfjbcaaGreatV7
import Derived.Test.YtgfkcoablfjbcaaGreatV2
import Derived.Deep.DeepCutAuto
import Derived.Deep.RegionWith
set_option linter.unusedSimpArgs false
set_option linter.unusedVariables false
set_option maxRecDepth 100000
set_option maxHeartbeats 8000000
namespace Go.Proofs.YtgfkcoablfjbcaaGreat
section
open Go.RowKit
namespace M
inductive Out where
 | inf
 | bad
 | val (x z:Int)
def nx (a b:Int):Out→Out
 | .val x z=>if Wh.bJ a b x z=0 then .inf else if Wh.dt (M.bC a b) (Wh.bR a b x z) (Wh.bJ a b x z)=true then .val (Wh.DV (M.bC a b) (Wh.bR a b x z) (Wh.bJ a b x z)) (Wh.DU (M.bC a b) (Wh.bR a b x z) (Wh.bJ a b x z)) else .bad
 | o=>o
def run (a b:Int):Nat→Out→Out
 | 0,o=>o
 | k+1,o=>nx a b (run a b k o)
theorem me {a b:Int} {o:Out} {k:Nat} (h:run a b k o=.inf):∀ n,k≤n→run a b n o=.inf
 | 0,hn=>by
        obtain rfl:k=0:=by omega
        exact h
 | n+1,hn=>by
  by_cases e:k=n+1
  ·exact e ▸ h
  show nx a b (run a b n o)=.inf
  rw [me h n (by omega)];rfl
theorem mc {a b:Int} {o:Out} {k:Nat} (h:run a b k o=.bad):∀ n,k≤n→run a b n o=.bad
 | 0,hn=>by
        obtain rfl:k=0:=by omega
        exact h
 | n+1,hn=>by
  by_cases e:k=n+1
  ·exact e ▸ h
  show nx a b (run a b n o)=.bad
  rw [mc h n (by omega)];rfl
def ew:Out→Int
 | .val x z=>max (Wh.bl x.natAbs:Nat) (Wh.bl z.natAbs:Nat)
 | _=>0
def isInf:Out→Bool
 | .inf=>true
 | _=>false
def isOk:Out→Bool
 | .bad=>false
 | _=>true
def aw (a b X E:Int) (n:Nat):Out:=if E=0 then .inf else run a b n (.val X (E*E))
end M
namespace Wh
theorem xi {n k:Nat} (h:n<2 ^ k):bl n≤k:=by
 unfold bl
 split
 ·omega
 rename_i h0
 have:=(Nat.log2_lt h0 (k:=k)).2 h;omega
theorem kZ {z:Int} {n:Nat} (h:sz z n):bl z.natAbs≤14*n:=by
 refine xi (Nat.lt_of_lt_of_le h ?_);rw [Nat.pow_mul];exact Nat.pow_le_pow_left (by decide) n
theorem kU {x z:Int} (h:cY x z=true):sz x 1000∧sz z 1000:=by
 unfold cY M.ins at h;simp only [Bool.and_eq_true,decide_eq_true_eq] at h;exact ⟨aP (aV.1 h.1.1) (by omega),aP (aV.1 (show (d_ z.natAbs).length≤80 by omega)) (by omega)⟩
theorem jz {D F G:Int} (h:dt D F G=true):cY (DV D F G) (DU D F G)=true:=by
 unfold dt at h;rw [Bool.and_eq_true] at h;exact h.2
end Wh
def pB (base:Nat) (x z:Int) (v:Value) (W:World):Prop:=∃ s1 s2,v=.agg #[.bool (decide (x<0)),s1,.bool (decide (z<0)),s2]∧aF W base s1 (Wh.d_ x.natAbs)∧aF W base s2 (Wh.d_ z.natAbs)
theorem pB.view {base:Nat} {x z:Int} {v:Value} {W:World} (h:pB base x z v W):∃ (s:Bool) (a:Option Addr) (l c:Nat),Hid (s=decide (x<0))∧∃ (r:Bool) (b:Option Addr) (m d:Nat),Hid (r=decide (z<0))∧v=.agg #[.bool s,.slice a l c,.bool r,.slice b m d]∧aF W base (.slice a l c) (Wh.d_ x.natAbs)∧aF W base (.slice b m d) (Wh.d_ z.natAbs):=by
 obtain ⟨s1,s2,rfl,h1,h2⟩:=h;obtain ⟨a,c,rfl,-,-⟩:=aF.view h1;obtain ⟨b,d,rfl,-,-⟩:=aF.view h2;exact ⟨_,a,_,c,yJ rfl,_,b,_,d,yJ rfl,rfl,h1,h2⟩
theorem pB.Ju {base k j:Nat} {x z:Int} {s1 s2:Value} {W:World} (h1:aF W k s1 (Wh.d_ x.natAbs)) (h2:aF W j s2 (Wh.d_ z.natAbs)) (hk:base≤k) (hj:base≤j):(Rg.Val.at (pB base x z)).ok (.agg #[.bool (decide (x<0)),s1,.bool (decide (z<0)),s2]) W:=fun _ hb=>⟨s1,s2,rfl,(aF.below h1 hb).base hk,(aF.below h2 hb).base hj⟩
theorem i8 (q:Bool) (A:Option Addr) (L C:Nat) (W:World):Sem.run Tryz.prog (Instr.field 136 (.agg #[.bool q,.slice A L C]) 1) W=.ok (.slice A L C) W:=by kernel_rfl
theorem aH.aQ {W:World} {g:Nat} {T:TypeId} {u v x:Value} (h:aH W g T #[u,v,x]):W.cell? ⟨g,0,none⟩=some u∧W.cell? ⟨g,1,none⟩=some v∧W.cell? ⟨g,2,none⟩=some x:=⟨h.cell 0,h.cell 1,h.cell 2⟩
theorem sf (a b X Y E:Int) (n:Nat) (w:World) (hg:M.good a b=true) (hX1:-10000≤X) (hX2:X≤10000) (hE1:0≤E) (hE2:E≤20) (hn:n≤5) :
  Calls Tryz.prog 136 #[.agg #[.int .i64 a,.int .i64 b],.agg #[.int .i64 X,.int .i64 Y,.int .i64 E],.int .i64 (n:Int)] w fun e w'=>e=.returned (.tuple #[.int .i64 (M.ew (M.aw a b X E n)),.bool (M.isInf (M.aw a b X E n)),.bool (M.isOk (M.aw a b X E n))])∧Below w.heap.size w w':=by
 have C:=(aH.new w #[.int .i64 a,.int .i64 b] 29).alloc (.cells #[.int .i64 X,.int .i64 Y,.int .i64 E] 57)
 have Q:=(aH.new (w.alloc (.cells #[.int .i64 a,.int .i64 b] 29)) #[.int .i64 X,.int .i64 Y,.int .i64 E] 57)
 rw [yK] at Q;have B:=((yM w.heap.size w).alloc (yN _) (.cells #[.int .i64 a,.int .i64 b] 29)).alloc (by rw [yK];omega) (.cells #[.int .i64 X,.int .i64 Y,.int .i64 E] 57)
 have DK:w.heap.size+2≤((w.alloc (.cells #[.int .i64 a,.int .i64 b] 29)).alloc (.cells #[.int .i64 X,.int .i64 Y,.int .i64 E] 57)).heap.size:=by rw [yK,yK];omega
 generalize hw3:(w.alloc (.cells #[.int .i64 a,.int .i64 b] 29)).alloc (.cells #[.int .i64 X,.int .i64 Y,.int .i64 E] 57)=wc at *;have ⟨q0,q1,q2⟩:=Q.aQ;have j_:=C.box.c0;have o_:=C.box.c1
 by_cases h0:E=0
 ·subst h0
  have hz0:M.aw a b X 0 n=.inf:=rfl;rw [hz0];clear hz0;go_enter Tryz.func136,Tryz.ntmps136
  go_wp2;exact bodyPost_ret (v:=.tuple #[.int .i64 0,.bool true,.bool true]) (by simp [results,Tryz.results136,go_sem, *]) rfl (⟨rfl,B⟩)
 have hE:1≤E:=by omega
 have JP:1≤E*E∧E*E≤400:=⟨by have:=Int.mul_le_mul hE hE (by omega) (by omega);omega,by have:=Int.mul_le_mul hE2 hE2 (by omega) (by omega);omega⟩
 have hE0:(E == 0)=false:=by rw [beq_eq_false_iff_ne];exact h0
 have hout:M.aw a b X E n=M.run a b n (.val X (E*E)):=if_neg h0;rw [hout];clear hout h0;obtain ⟨e1,e2⟩:=JP
 have P1:=yJ fun W=>bj X W (by omega) (by omega)
 have P2:=yJ fun W=>bj (E*E) W (by omega) (by omega)
 have zX:Wh.sz X 1000:=Wh.aP (Wh.bW (by omega) (by omega)) (by omega);have zE:Wh.sz (E*E) 1000:=Wh.aP (Wh.bW (by omega) (by omega)) (by omega);have zX:=yJ zX;have zE:=yJ zE
 have hb2:-10000≤b∧b≤10000:=⟨(M.an (M.bM hg)).2.2.1,(M.an (M.bM hg)).2.2.2⟩
 have ha2:-1000≤a∧a≤1000:=⟨(M.an (M.bM hg)).1,(M.an (M.bM hg)).2.1⟩
 obtain ⟨hb1,hb2⟩:=hb2;obtain ⟨ha1,ha2⟩:=ha2;have hg:=yJ hg
 have PG:=yJ fun (x z:Int) (s r:Bool) v v' W k k' (h1:aF W k v (Wh.d_ x.natAbs)) (h2:aF W k' v' (Wh.d_ z.natAbs)) (hx:Wh.sz x 1000) (hz:Wh.sz z 1000) (hs:s=decide (x<0)) (hr:r=decide (z<0))=>(hs ▸ hr ▸ du a b x z v v' W k k' h1 h2 hx hz ha1 ha2 hb1 hb2:Calls Tryz.prog 148 #[.agg #[.int .i64 a,.int .i64 b],.agg #[.bool s,v,.bool r,v']] W fun e w'=>∃ sl,e=.returned (.agg #[.bool (decide (Wh.bJ a b x z<0)),sl])∧ag w' W.heap.size sl (Wh.bJ a b x z)∧Below W.heap.size W w')
 have PD:=yJ fun (x z:Int) (s r:Bool) v v' W k k' (h1:aF W k v (Wh.d_ x.natAbs)) (h2:aF W k' v' (Wh.d_ z.natAbs)) (hx:Wh.sz x 1000) (hz:Wh.sz z 1000) (hs:s=decide (x<0)) (hr:r=decide (z<0))=>(hs ▸ hr ▸ rA a b x z v v' W k k' hg.out h1 h2 hx hz:Calls Tryz.prog 149 #[.agg #[.int .i64 a,.int .i64 b],.agg #[.bool s,v,.bool r,v']] W fun e w'=>∃ v1 v2,e=.returned (.tuple #[.agg #[.bool (decide (Wh.BU (M.bC a b) (Wh.bR a b x z) (Wh.bJ a b x z)<0)),v1,.bool (decide (Wh.BV (M.bC a b) (Wh.bR a b x z) (Wh.bJ a b x z)<0)),v2],.bool (Wh.dt (M.bC a b) (Wh.bR a b x z) (Wh.bJ a b x z))])∧ag w' W.heap.size v1 (Wh.BU (M.bC a b) (Wh.bR a b x z) (Wh.bJ a b x z))∧ag w' W.heap.size v2 (Wh.BV (M.bC a b) (Wh.bR a b x z) (Wh.bJ a b x z))∧Below W.heap.size W w')
 have PB:=yJ fun (x:Int) (s:Bool) v W k (h1:aF W k v (Wh.d_ x.natAbs)) (hx:Wh.sz x 1000) (hs:s=decide (x<0))=>(hs ▸ nI x v W k h1 (Wh.aV.2 (Wh.aP hx (by omega))) (Nat.le_trans (Wh.kZ hx) (by omega)):Calls Tryz.prog 150 #[.agg #[.bool s,v]] W fun e w'=>e=.returned (.int .i64 (Wh.bl x.natAbs:Nat))∧Below W.heap.size W w')
 clear ha1 ha2 hb1 hb2
 have Mg:=fun q A L C W=>i8 q A L C W
 have i2:IntKind.i64.wrap (E*E)=E*E:=IntWalk.i64_in _ (by omega);have i2:=yJ i2;go_enter Tryz.func136,Tryz.ntmps136
 go_upto_region 3 with fail
 refine Rg.bK 11 [.is (.pointer (some ⟨w.heap.size+1,0,none⟩)),.is (.int .i64 X),.at (aJ (wc.heap.size) (X)),.is (.pointer (some ⟨w.heap.size+1,2,none⟩)),.is (.int .i64 E),.is (.pointer (some ⟨w.heap.size+1,2,none⟩)),.is (.int .i64 E),.is (.int .i64 (E*E)),.at (aJ (wc.heap.size) (E*E)),.at (pB (wc.heap.size) (X) (E*E)),.new (wc.heap.size) 157 #[.bool false,.slice none 0 0,.bool false,.slice none 0 0]] (by kernel_rfl) (by kernel_rfl) (by kernel_rfl) ⟨?_,?_,?_,?_,?_,?_,?_,?_,?_,?_,?_,fun h_=>absurd h_ (by decide),trivial⟩ ?_
 ·intro _ zZ w_ hB hr
  have e4:zZ.tmps[4]?=some (.pointer (some ⟨w.heap.size+1,0,none⟩)):=hr 4 (by decide);exact Rg.aG rfl (by go_simp)
 ·intro _ zZ w_ hB hr
  have e15:=Rg.a_ (hr 15 (by decide));have k0:=aE hB Q.aQ.1;exact Rg.aG rfl (by go_simp)
 ·intro _ zZ w_ hB hr
  have e16:=Rg.a_ (hr 16 (by decide));have ef:=Rg.ef zZ;refine Rg.aY rfl (by go_simp;exact ⟨rfl,rfl⟩) ?_;refine (P1.out _).mono ?_;rintro e w5 ⟨zD,rfl,yV,hb5⟩;exact ⟨_,rfl,aJ.at yV (by have:=hB.size;omega),hb5⟩
 ·intro _ zZ w_ hB hr
  have e4:zZ.tmps[4]?=some (.pointer (some ⟨w.heap.size+1,0,none⟩)):=hr 4 (by decide);exact Rg.aG rfl (by go_simp)
 ·intro _ zZ w_ hB hr
  have e18:=Rg.a_ (hr 18 (by decide));have k2:=aE hB Q.aQ.2.2;exact Rg.aG rfl (by go_simp)
 ·intro _ zZ w_ hB hr
  have e4:zZ.tmps[4]?=some (.pointer (some ⟨w.heap.size+1,0,none⟩)):=hr 4 (by decide);exact Rg.aG rfl (by go_simp)
 ·intro _ zZ w_ hB hr
  have e20:=Rg.a_ (hr 20 (by decide));have k2:=aE hB Q.aQ.2.2;exact Rg.aG rfl (by go_simp)
 ·intro _ zZ w_ hB hr
  have e19:=Rg.a_ (hr 19 (by decide));have e21:=Rg.a_ (hr 21 (by decide));exact Rg.aG rfl (by go_simp <;> exact Rg.wo (by omega))
 ·intro _ zZ w_ hB hr
  have e22:=Rg.a_ (hr 22 (by decide));have ef:=Rg.ef zZ;refine Rg.aY rfl (by go_simp;exact ⟨rfl,rfl⟩) ?_;refine (P2.out _).mono ?_;rintro e w5 ⟨zD,rfl,yV,hb5⟩;exact ⟨_,rfl,aJ.at yV (by have:=hB.size;omega),hb5⟩
 ·intro _ zZ w_ hB hr
  obtain ⟨v17,e17,n17⟩:∃ v,zZ.tmps[17]?=some v∧(Rg.Val.at (aJ (wc.heap.size) (X))).ok v w_:=hr 17 (by decide);obtain ⟨EE,a17,EB,c17,Dx,rfl,Jf⟩:=(Rg.af n17).view;obtain ⟨v23,e23,n23⟩:∃ v,zZ.tmps[23]?=some v∧(Rg.Val.at (aJ (wc.heap.size) (E*E))).ok v w_:=hr 23 (by decide);obtain ⟨s23,a23,l23,c23,Dz,rfl,Gh⟩:=(Rg.af n23).view;obtain rfl:=Dx.out;obtain rfl:=Dz.out;exact Rg.xJ rfl (by first | (go_simp;done) | (go_simp;rfl)) (pB.Ju Jf Gh (yN _) (yN _))
 ·intro _ zZ w_ hB hr
  exact ⟨by have:=hB.size;omega,rfl,by first | (go_simp;done) | (go_simp;rfl)⟩
 intro vals wz hB hv hne;have n9:(Rg.Val.new (wc.heap.size) 157 #[.bool false,.slice none 0 0,.bool false,.slice none 0 0]).ok (vals 10) wz:=hv 10 (by decide);have n24:(Rg.Val.at (pB (wc.heap.size) (X) (E*E))).ok (vals 9) wz:=hv 9 (by decide);simp only [Rg.ak,Rg.fill,Act.put,Nat.reduceAdd];clear hv;obtain ⟨g9,G_,yn,o9⟩:=n9;replace o9:aH wz g9 157 #[.bool false,.slice none 0 0,.bool false,.slice none 0 0]:=o9;obtain ⟨s24,a24,ET,c24,DI,Gs,Fe,m24,Fu,IP,AX,HG,p24⟩:=(Rg.af n24).view;simp only [yn,AX];clear yn AX;have ⟨p0,p1,p2,p3,y0,y1,y2,y3,_⟩:=o9.aM;have R:=aH.k8 o9 (.bool s24) (.slice a24 ET c24) (.bool Gs) (.slice Fe m24 Fu);have ox:=yJ (aF.base (aF.dM HG o9 (by decide) (.bool s24) (.slice a24 ET c24) (.bool Gs) (.slice Fe m24 Fu)) (Nat.zero_le _));have oz:=yJ (aF.base (aF.dM p24 o9 (by decide) (.bool s24) (.slice a24 ET c24) (.bool Gs) (.slice Fe m24 Fu)) (Nat.zero_le _))
 have hkg:w.heap.size+2≤g9:=by omega
 have B2:Below w.heap.size w ((((wz.setCell ⟨g9,0,none⟩ (.bool s24)).setCell ⟨g9,1,none⟩ (.slice a24 ET c24)).setCell ⟨g9,2,none⟩ (.bool Gs)).setCell ⟨g9,3,none⟩ (.slice Fe m24 Fu)):=yL (yL (yL (yL (i_ B hB) (by simp <;> omega) _) (by simp <;> omega) _) (by simp <;> omega) _) (by simp <;> omega) _;have C2:=((((C.keep hB).other (i:=0) (show w.heap.size≠g9 by omega) (.bool s24)).other (i:=1) (show w.heap.size≠g9 by omega) (.slice a24 ET c24)).other (i:=2) (show w.heap.size≠g9 by omega) (.bool Gs)).other (i:=3) (show w.heap.size≠g9 by omega) (.slice Fe m24 Fu);unfold Rg.aW Rg.aW Oper.wp
 go_simp
 clear p0 p1 p2 p3 y0 y1 y2 y3 o9 HG p24 hB B Q q0 q1 q2 j_ o_ C DK G_ i2 P1 P2 hE0 hw3;generalize ((((wz.setCell ⟨g9,0,none⟩ (.bool s24)).setCell ⟨g9,1,none⟩ (.slice a24 ET c24)).setCell ⟨g9,2,none⟩ (.bool Gs)).setCell ⟨g9,3,none⟩ (.slice Fe m24 Fu))=wd at *;have Ct:M.run a b 0 (.val X (E*E))=.val X (E*E):=rfl;generalize hZ:E*E=Z at *;replace hZ:=yJ hZ;replace Ct:=yJ Ct;go_wp2
 go_loopw [26] (fun vi wr=>∃ (k:Nat) (x z:Int) (s:Bool) (av:Option Addr) (lv cv:Nat) (r:Bool) (bv:Option Addr) (mv dv:Nat),k≤n∧vi=.int .i64 k∧Hid (M.run a b k (.val X Z)=.val x z)∧aH wr g9 157 #[.bool s,.slice av lv cv,.bool r,.slice bv mv dv]∧aF wr 0 (.slice av lv cv) (Wh.d_ x.natAbs)∧aF wr 0 (.slice bv mv dv) (Wh.d_ z.natAbs)∧Hid (s=decide (x<0))∧Hid (r=decide (z<0))∧Wh.sz x 1000∧Wh.sz z 1000∧aH wr w.heap.size 29 #[.int .i64 a,.int .i64 b]∧Below w.heap.size w wr) (fun vi _=>n - (intOf vi).toNat)
 case atStart=>exact ⟨0,X,Z,s24,a24,ET,c24,Gs,Fe,m24,Fu,Nat.zero_le _,rfl,Ct,R,ox.out,oz.out,DI,IP,zX.out,zE.out,C2,B2⟩
 case round=>
 clear R ox oz C2 B2 Ct DI IP zX zE;obtain ⟨k,x,z,s,av,lv,cv,r,bv,mv,dv,hk,rfl,hrun,R,ox,oz,hs,hr,zx,zz,C,B⟩:=hrel;have ox:=yJ ox;have oz:=yJ oz;have zx:=yJ zx;have zz:=yJ zz;have r_:=R.aM.c0;have s_:=R.aM.c1;have yQ:=R.aM.c2;have yR:=R.aM.c3;have j_:=C.box.c0;have o_:=C.box.c1
 by_cases hlt:k<n
 ·have Fc:=yJ fun v v' W i j h1 h2=>PG.out x z s r v v' W i j h1 h2 zx.out zz.out hs.out hr.out
  have BN:=yJ fun v v' W i j h1 h2=>PD.out x z s r v v' W i j h1 h2 zx.out zz.out hs.out hr.out
  have hnx:M.run a b (k+1) (.val X Z)=M.nx a b (.val x z):=by show M.nx a b (M.run a b k (.val X Z))=_;rw [hrun.out]
  unfold M.nx at hnx
  dsimp only at hnx
  clear PG PD PB hs hr
  have Bh:=fun h=>Wh.kU (Wh.jz (D:=M.bC a b) (F:=Wh.bR a b x z) (G:=Wh.bJ a b x z) h)
  have Er:Wh.dt (M.bC a b) (Wh.bR a b x z) (Wh.bJ a b x z)=true→Wh.BU (M.bC a b) (Wh.bR a b x z) (Wh.bJ a b x z)=Wh.DV (M.bC a b) (Wh.bR a b x z) (Wh.bJ a b x z)∧Wh.BV (M.bC a b) (Wh.bR a b x z) (Wh.bJ a b x z)=Wh.DU (M.bC a b) (Wh.bR a b x z) (Wh.bJ a b x z):=fun h=>by unfold Wh.BU Wh.BV;rw [if_pos h,if_pos h];exact ⟨rfl,rfl⟩
  generalize Wh.dt (M.bC a b) (Wh.bR a b x z) (Wh.bJ a b x z)=ok,Wh.DU (M.bC a b) (Wh.bR a b x z) (Wh.bJ a b x z)=dd,Wh.DV (M.bC a b) (Wh.bR a b x z) (Wh.bJ a b x z)=nn,Wh.BV (M.bC a b) (Wh.bR a b x z) (Wh.bJ a b x z)=z',Wh.BU (M.bC a b) (Wh.bR a b x z) (Wh.bJ a b x z)=x' at *;have hG0:=@Wh.fA (Wh.bJ a b x z);generalize Wh.bJ a b x z=G at *;generalize decide (G<0)=sg at *
  by_cases hG:G=0
  ·rw [if_pos hG] at hnx
   have hfin:=yJ (M.me hnx n (by omega));have hl0:=hG0.2 hG;clear hnx hG hG0 Bh Er BN;generalize GM:(Wh.d_ G.natAbs).length=lg at *;subst hl0;replace GM:=yJ GM
   go_wp2_with (go_at_call 148;(with_reducible refine (Fc.out _ _ _ _ _ ox.out oz.out).mono ?_);rintro e w4 ⟨v4,rfl,yk,hb4⟩;obtain ⟨a4,c4,rfl,yj,yi⟩:=aF.view yk;clear yj yi;(rw [GM.out] at yk ⊢);replace C:=C.keep hb4;replace R:=R.keep hb4;replace B:=i_ B hb4;(replace ⟨j_,o_⟩:=C.b2);(replace ⟨r_,s_,yQ,yR⟩:=R.b4))
   exact bodyPost_ret (v:=.tuple #[.int .i64 0,.bool true,.bool true]) (by simp [results,Tryz.results136,go_sem, *]) rfl (⟨by rw [hZ.out,hfin.out];rfl,B⟩)
  rw [if_neg hG] at hnx
  have hl0:¬ (Wh.d_ G.natAbs).length=0:=fun h=>hG (hG0.1 h)
  have hlq:(((Wh.d_ G.natAbs).length:Int) == 0)=false:=by rw [beq_eq_false_iff_ne];omega
  clear hG hG0
  cases ok with
  | false=>
   have hfin:=yJ (M.mc hnx n (by omega));clear hnx Bh Er;generalize decide (z'<0)=r',decide (x'<0)=s' at *
   go_wp2_with (first
    | (go_at_call 148;(with_reducible refine (Fc.out _ _ _ _ _ ox.out oz.out).mono ?_);rintro e w4 ⟨v4,rfl,yk,hb4⟩;obtain ⟨a4,c4,rfl,yj,yi⟩:=aF.view yk;clear yj yi yk;(generalize (Wh.d_ G.natAbs).length=lg at *);replace C:=C.keep hb4;replace R:=R.keep hb4;replace ox:=kO ox hb4;replace oz:=kO oz hb4;replace B:=i_ B hb4;(replace ⟨j_,o_⟩:=C.b2);(replace ⟨r_,s_,yQ,yR,x_,yO,yS,yT⟩:=R.ym))
    | (go_at_call 149;(with_reducible refine (BN.out _ _ _ _ _ ox.out oz.out).mono ?_);rintro e w5 ⟨v5,u5,rfl,yV,CN,hb5⟩;replace C:=C.keep hb5;replace R:=R.keep hb5;replace ox:=kO ox hb5;replace oz:=kO oz hb5;replace B:=i_ B hb5;obtain ⟨a5,c5,rfl,yj,yi⟩:=aF.view yV;clear yj yi;obtain ⟨b5,d5,rfl,yj,yi⟩:=aF.view CN;clear yj yi;have on:=yJ (show aF _ _ _ _ from yV);have om:=yJ (show aF _ _ _ _ from CN);clear yV CN;(generalize (Wh.d_ x'.natAbs).length=l5 at *);(generalize (Wh.d_ z'.natAbs).length=m5 at *);have N:=aH.new w5 #[.bool s',.slice a5 l5 c5,.bool r',.slice b5 m5 d5] 157;have b_:=bA w5 (.cells #[.bool s',.slice a5 l5 c5,.bool r',.slice b5 m5 d5] 157);replace C:=C.keep b_;replace R:=R.keep b_;replace ox:=kO ox b_;replace oz:=kO oz b_;replace on:=kO on b_;replace om:=kO om b_;replace B:=i_ B b_;clear b_;(replace ⟨j_,o_⟩:=C.b2);(replace ⟨r_,s_,yQ,yR,x_,yO,yS,yT⟩:=R.ym);(replace ⟨Cd,Ce,Cf,Cg⟩:=N.b4)))
   exact bodyPost_ret (v:=.tuple #[.int .i64 0,.bool false,.bool false]) (by simp [results,Tryz.results136,go_sem, *]) rfl (⟨by rw [hZ.out,hfin.out];rfl,B⟩)
  | true=>
  rw [if_pos rfl] at hnx;obtain ⟨hxn,hzn⟩:=Er rfl;obtain ⟨zn,zd⟩:=Bh rfl;subst hxn hzn;clear Er Bh;have zn:=yJ zn;have zd:=yJ zd;have hnx:=yJ hnx;generalize hs5:decide (x'<0)=s' at *;generalize GR:decide (z'<0)=r' at *;replace hs5:=yJ hs5.symm;replace GR:=yJ GR.symm;clear hrun zx zz
  go_wp2_with (first
   | (go_at_call 148;(with_reducible refine (Fc.out _ _ _ _ _ ox.out oz.out).mono ?_);rintro e w4 ⟨v4,rfl,yk,hb4⟩;obtain ⟨a4,c4,rfl,yj,yi⟩:=aF.view yk;clear yj yi yk;(generalize (Wh.d_ G.natAbs).length=lg at *);replace C:=C.keep hb4;replace R:=R.keep hb4;replace ox:=kO ox hb4;replace oz:=kO oz hb4;replace B:=i_ B hb4;(replace ⟨j_,o_⟩:=C.b2);(replace ⟨r_,s_,yQ,yR,x_,yO,yS,yT⟩:=R.ym))
   | (go_at_call 149;(with_reducible refine (BN.out _ _ _ _ _ ox.out oz.out).mono ?_);rintro e w5 ⟨v5,u5,rfl,yV,CN,hb5⟩;replace C:=C.keep hb5;replace R:=R.keep hb5;replace ox:=kO ox hb5;replace oz:=kO oz hb5;replace B:=i_ B hb5;obtain ⟨a5,c5,rfl,yj,yi⟩:=aF.view yV;clear yj yi;obtain ⟨b5,d5,rfl,yj,yi⟩:=aF.view CN;clear yj yi;have on:=yJ (show aF _ _ _ _ from yV);have om:=yJ (show aF _ _ _ _ from CN);clear yV CN;(generalize (Wh.d_ x'.natAbs).length=l5 at *);(generalize (Wh.d_ z'.natAbs).length=m5 at *);have N:=aH.new w5 #[.bool s',.slice a5 l5 c5,.bool r',.slice b5 m5 d5] 157;have b_:=bA w5 (.cells #[.bool s',.slice a5 l5 c5,.bool r',.slice b5 m5 d5] 157);replace C:=C.keep b_;replace R:=R.keep b_;replace ox:=kO ox b_;replace oz:=kO oz b_;replace on:=kO on b_;replace om:=kO om b_;replace B:=i_ B b_;clear b_;(replace ⟨j_,o_⟩:=C.b2);(replace ⟨r_,s_,yQ,yR,x_,yO,yS,yT⟩:=R.ym);(replace ⟨Cd,Ce,Cf,Cg⟩:=N.b4)))
  go_roundw
  case rel=>exact ⟨k+1,_,_,s',a5,l5,c5,r',b5,m5,d5,by omega,by go_num,hnx,aH.k8 R (.bool s') (.slice a5 l5 c5) (.bool r') (.slice b5 m5 d5),aF.base (aF.dM on.out R (by decide) (.bool s') (.slice a5 l5 c5) (.bool r') (.slice b5 m5 d5)) (Nat.zero_le _),aF.base (aF.dM om.out R (by decide) (.bool s') (.slice a5 l5 c5) (.bool r') (.slice b5 m5 d5)) (Nat.zero_le _),hs5,GR,zn.out,zd.out,(((C.other (show w.heap.size≠g9 by omega) _).other (show w.heap.size≠g9 by omega) _).other (show w.heap.size≠g9 by omega) _).other (show w.heap.size≠g9 by omega) _,yL (yL (yL (yL B (by simp <;> omega) _) (by simp <;> omega) _) (by simp <;> omega) _) (by simp <;> omega) _⟩
  case measure=>simp [intOf] <;> omega
 obtain rfl:k=n:=by omega
 have P1:=yJ fun v W i h=>PB.out x s v W i h zx.out hs.out
 have P2:=yJ fun v W i h=>PB.out z r v W i h zz.out hr.out
 have hfin:=yJ (show M.ew (M.run a b k (.val X Z))=max ((Wh.bl x.natAbs:Nat):Int) ((Wh.bl z.natAbs:Nat):Int)∧M.isInf (M.run a b k (.val X Z))=false∧M.isOk (M.run a b k (.val X Z))=true by rw [hrun.out];exact ⟨rfl,rfl,rfl⟩)
 have hm1:(Wh.bl x.natAbs:Int)≤14000:=by have:=Wh.kZ zx.out;omega
 have hm2:(Wh.bl z.natAbs:Int)≤14000:=by have:=Wh.kZ zz.out;omega
 generalize Wh.bl z.natAbs=k2,Wh.bl x.natAbs=k1 at *;have hmax:=yJ (show (if (k1:Int)<k2 then (k2:Int) else k1)=max (k1:Int) k2 by split <;> omega);clear PG PD PB hs hr zx zz hrun
 go_upto_region 13 with fail
 refine Rg.bK 10 [.is (.pointer (some ⟨g9,0,none⟩)),.is (.agg #[.bool s,.slice av lv cv]),.is (.int .i64 (k1:Nat)),.is (.pointer (some ⟨g9,2,none⟩)),.is (.agg #[.bool r,.slice bv mv dv]),.is (.int .i64 (k2:Nat)),.is (.int .i64 (max (k1:Int) k2)),.is (.int .i64 (max (k1:Int) k2)),.is (.bool false),.is (.bool true)] (by kernel_rfl) (by kernel_rfl) (by kernel_rfl) ⟨?_,?_,?_,?_,?_,?_,?_,?_,?_,?_,trivial⟩ ?_
 ·intro _ zZ w_ hB hr
  have e9:zZ.tmps[9]?=some (.pointer (some ⟨g9,0,none⟩)):=hr 9 (by decide);exact Rg.aG rfl (by go_simp)
 ·intro _ zZ w_ hB hr
  have e44:=Rg.a_ (hr 44 (by decide));have k0:=aE hB R.aM.c0;have k1:=aE hB R.aM.c1;exact Rg.aG rfl (by go_simp)
 ·intro _ zZ w_ hB hr
  have e45:=Rg.a_ (hr 45 (by decide));have ef:=Rg.ef zZ;exact Rg.bU rfl (by go_simp) (P1.out _ _ _ (aF.below ox.out hB))
 ·intro _ zZ w_ hB hr
  have e9:zZ.tmps[9]?=some (.pointer (some ⟨g9,0,none⟩)):=hr 9 (by decide);exact Rg.aG rfl (by go_simp)
 ·intro _ zZ w_ hB hr
  have e47:=Rg.a_ (hr 47 (by decide));have k2:=aE hB R.aM.c2;have k3:=aE hB R.aM.c3;exact Rg.aG rfl (by go_simp)
 ·intro _ zZ w_ hB hr
  have e48:=Rg.a_ (hr 48 (by decide));have ef:=Rg.ef zZ;exact Rg.bU rfl (by go_simp) (P2.out _ _ _ (aF.below oz.out hB))
 ·intro _ zZ w_ hB hr
  have e46:=Rg.a_ (hr 46 (by decide));have e49:=Rg.a_ (hr 49 (by decide));exact Rg.aG rfl (by go_simp;first | done | (rw [hmax.out];done) | (simp only [hmax.out];done))
 ·intro _ zZ w_ hB hr
  have e50:=Rg.a_ (hr 50 (by decide));exact Rg.aG rfl (by go_simp)
 ·intro _ zZ w_ hB hr
  have ec:=Rg.ec zZ;exact Rg.aG rfl (by go_simp)
 ·intro _ zZ w_ hB hr
  have ec:=Rg.ec zZ;exact Rg.aG rfl (by go_simp)
 intro vals wy hB9 hv hne;have BS:vals 7=.int .i64 (max (k1:Int) k2):=hv 7 (by decide);have CV:vals 8=.bool false:=hv 8 (by decide);have AX:vals 9=.bool true:=hv 9 (by decide);simp only [Rg.ak,Rg.fill,Act.put,Nat.reduceAdd];clear hv;simp only [BS,CV,AX];clear BS CV AX;unfold Rg.aW;go_wp2;exact bodyPost_ret (v:=.tuple #[.int .i64 (max (k1:Int) k2),.bool false,.bool true]) (by simp [results,Tryz.results136,go_sem, *]) rfl (⟨by rw [hZ.out,hfin.out.1,hfin.out.2.1,hfin.out.2.2],i_ B hB9⟩)
abbrev iM:=Bool × (Option Addr × Nat × Nat) × Bool × (Option Addr × Nat × Nat)
def iM.val (q:iM):Value:=.agg #[.bool q.1,.slice q.2.1.1 q.2.1.2.1 q.2.1.2.2,.bool q.2.2.1,.slice q.2.2.2.1 q.2.2.2.2.1 q.2.2.2.2.2]
def ER:Rw.Enc iM where
 t:=157
 k:=4
 cells:=fun q=>[.bool q.1,.slice q.2.1.1 q.2.1.2.1 q.2.1.2.2,.bool q.2.2.1,.slice q.2.2.2.1 q.2.2.2.2.1 q.2.2.2.2.2]
 len:=fun _=>rfl
 one:=fun x u hu=>by simp only [List.mem_cons,List.not_mem_nil,or_false] at hu;rcases hu with rfl | rfl | rfl | rfl <;> rfl
 pos:=by decide
theorem xw:(Tryz.prog.info? 157).map (fun i=>(i.zero,i.size,i.bytes))=some (some (.agg #[.bool false,.slice none 0 0,.bool false,.slice none 0 0]),4,64):=by kernel_rfl
theorem xr:Rw.Fits Tryz.prog ER 151:=⟨Tryz.underlying151,by
 obtain ⟨i0,hi,hz0,hz1,hz2⟩:=info_parts xw
 exact ⟨i0,_,hi,hz0,hz1,by omega,rfl⟩⟩
theorem aF.px {W W':World} {b1 b2:Nat} {v sl:Value} {xs:List iM} {ys:List Int} (h:aF W b1 sl ys) (hv:Rw.Own ER W b2 v xs) (hg:W.grownBy W' v.ownBlock):aF W' b1 sl ys:=by
 refine World.ownsRow.kept h hg ?_
 cases hs:sl.ownBlock with
 | none=>exact Or.inl rfl
 | some k=>exact Or.inr fun e=>gK h hv (by decide) k e.symm hs
theorem aH.grown {W W':World} {g:Nat} {T:TypeId} {xs:Array Value} {r:Option Nat} (h:aH W g T xs) (hg:W.grownBy W' r) (hr:r≠some g):aH W' g T xs:=(hg.block g h.lt (fun e=>hr e.symm)).trans h
def wU (W:World) (n:Nat) (o:M.Out) (v:Value) (en:Bool):Prop:=match o with
 | .inf=>en=true∧∃ A l c,v=.slice A l c
 | .bad=>en=false∧∃ A l c,v=.slice A l c∧l≤n
 | .val x z=>en=false∧Wh.sz x 1000∧Wh.sz z 1000∧∃ (g cap:Nat) (s:Bool) (av:Option Addr) (lv cv:Nat) (r:Bool) (bv:Option Addr) (mv dv:Nat),v=.slice (some ⟨g,0,none⟩) (n+1) cap∧
   W.cell? ⟨g,n*4,none⟩=some (.bool s)∧W.cell? ⟨g,n*4+1,none⟩=some (.slice av lv cv)∧W.cell? ⟨g,n*4+2,none⟩=some (.bool r)∧W.cell? ⟨g,n*4+3,none⟩=some (.slice bv mv dv)∧
   Hid (s=decide (x<0))∧Hid (r=decide (z<0))∧aF W 0 (.slice av lv cv) (Wh.d_ x.natAbs)∧aF W 0 (.slice bv mv dv) (Wh.d_ z.natAbs)
theorem pF (a b X Y E:Int) (n:Nat) (w:World) (hg:M.good a b=true) (hX1:-10000≤X) (hX2:X≤10000) (hE1:0≤E) (hE2:E≤20) (hn:n≤5) :
  Calls Tryz.prog 130 #[.agg #[.int .i64 a,.int .i64 b],.agg #[.int .i64 X,.int .i64 Y,.int .i64 E],.int .i64 (n:Int)] w fun e w'=>∃ v,∃ en:Bool,e=.returned (.tuple #[v,.bool en])∧wU w' n (M.aw a b X E n) v en∧Below w.heap.size w w':=by
 have C:=(aH.new w #[.int .i64 a,.int .i64 b] 29).alloc (.cells #[.int .i64 X,.int .i64 Y,.int .i64 E] 57)
 have Q:=(aH.new (w.alloc (.cells #[.int .i64 a,.int .i64 b] 29)) #[.int .i64 X,.int .i64 Y,.int .i64 E] 57)
 rw [yK] at Q;have B:=((yM w.heap.size w).alloc (yN _) (.cells #[.int .i64 a,.int .i64 b] 29)).alloc (by rw [yK];omega) (.cells #[.int .i64 X,.int .i64 Y,.int .i64 E] 57)
 have DK:w.heap.size+2≤((w.alloc (.cells #[.int .i64 a,.int .i64 b] 29)).alloc (.cells #[.int .i64 X,.int .i64 Y,.int .i64 E] 57)).heap.size:=by rw [yK,yK];omega
 generalize hw3:(w.alloc (.cells #[.int .i64 a,.int .i64 b] 29)).alloc (.cells #[.int .i64 X,.int .i64 Y,.int .i64 E] 57)=wc at *;have ⟨q0,q1,q2⟩:=Q.aQ;have j_:=C.box.c0;have o_:=C.box.c1
 by_cases h0:E=0
 ·subst h0
  have hz0:=yJ (show M.aw a b X 0 n=.inf from rfl);go_enter Tryz.func130,Tryz.ntmps130
  go_wp2;exact bodyPost_ret (v:=.tuple #[.slice none 0 0,.bool true]) (by simp [results,Tryz.results130,go_sem, *]) rfl (⟨_,_,rfl,(by rw [hz0.out];exact ⟨rfl,_,_,_,rfl⟩),B⟩)
 have hE:1≤E:=by omega
 have JP:1≤E*E∧E*E≤400:=⟨by have:=Int.mul_le_mul hE hE (by omega) (by omega);omega,by have:=Int.mul_le_mul hE2 hE2 (by omega) (by omega);omega⟩
 have hE0:(E == 0)=false:=by rw [beq_eq_false_iff_ne];exact h0
 have hout:=yJ (show M.aw a b X E n=M.run a b n (.val X (E*E)) from if_neg h0);clear h0;obtain ⟨e1,e2⟩:=JP
 have P1:=fun W=>xQ X (E*E) W (by omega) (by omega) (by omega) (by omega)
 have zX:Wh.sz X 1000:=Wh.aP (Wh.bW (by omega) (by omega)) (by omega);have zE:Wh.sz (E*E) 1000:=Wh.aP (Wh.bW (by omega) (by omega)) (by omega);have zX:=yJ zX;have zE:=yJ zE
 have hb2:-10000≤b∧b≤10000:=⟨(M.an (M.bM hg)).2.2.1,(M.an (M.bM hg)).2.2.2⟩
 have ha2:-1000≤a∧a≤1000:=⟨(M.an (M.bM hg)).1,(M.an (M.bM hg)).2.1⟩
 obtain ⟨hb1,hb2⟩:=hb2;obtain ⟨ha1,ha2⟩:=ha2;have hg:=yJ hg
 have PG:=yJ fun (x z:Int) (s r:Bool) v v' W k k' (h1:aF W k v (Wh.d_ x.natAbs)) (h2:aF W k' v' (Wh.d_ z.natAbs)) (hx:Wh.sz x 1000) (hz:Wh.sz z 1000) (hs:s=decide (x<0)) (hr:r=decide (z<0))=>(hs ▸ hr ▸ kk a b x z v v' W k k' h1 h2 hx hz ha1 ha2 hb1 hb2:Calls Tryz.prog 143 #[.agg #[.int .i64 a,.int .i64 b],.agg #[.bool s,v,.bool r,v']] W fun e w'=>∃ sl,e=.returned (.agg #[.bool (decide (Wh.bJ a b x z<0)),sl])∧ag w' W.heap.size sl (Wh.bJ a b x z)∧Below W.heap.size W w')
 have PD:=yJ fun (x z:Int) (s r:Bool) v v' W k k' (h1:aF W k v (Wh.d_ x.natAbs)) (h2:aF W k' v' (Wh.d_ z.natAbs)) (hx:Wh.sz x 1000) (hz:Wh.sz z 1000) (hs:s=decide (x<0)) (hr:r=decide (z<0))=>(hs ▸ hr ▸ po a b x z v v' W k k' hg.out h1 h2 hx hz:Calls Tryz.prog 144 #[.agg #[.int .i64 a,.int .i64 b],.agg #[.bool s,v,.bool r,v']] W fun e w'=>∃ v1 v2,e=.returned (.tuple #[.agg #[.bool (decide (Wh.BU (M.bC a b) (Wh.bR a b x z) (Wh.bJ a b x z)<0)),v1,.bool (decide (Wh.BV (M.bC a b) (Wh.bR a b x z) (Wh.bJ a b x z)<0)),v2],.bool (Wh.dt (M.bC a b) (Wh.bR a b x z) (Wh.bJ a b x z))])∧ag w' W.heap.size v1 (Wh.BU (M.bC a b) (Wh.bR a b x z) (Wh.bJ a b x z))∧ag w' W.heap.size v2 (Wh.BV (M.bC a b) (Wh.bR a b x z) (Wh.bJ a b x z))∧Below W.heap.size W w')
 clear ha1 ha2 hb1 hb2
 have Mg:=fun q A L C W=>i8 q A L C W
 have Ct:=yJ (show M.run a b 0 (.val X (E*E))=.val X (E*E) from rfl);generalize hZ:E*E=Z at *;replace hZ:=yJ hZ;generalize hs1:decide (X<0)=s1 at *;generalize hs2:decide (Z<0)=s2 at *;replace hs1:=yJ hs1.symm;replace hs2:=yJ hs2.symm;have P1:=yJ P1;have hQ:=yJ Q;have hZE:=hZ.out;go_enter Tryz.func130,Tryz.ntmps130
 go_wp2_with (go_at_call 142;(with_reducible refine (P1.out _).mono ?_);rintro e w4 ⟨v4,u4,rfl,yk,IK,hb4⟩;obtain ⟨a4,c4,rfl,yj,yi⟩:=aF.view yk;clear yj yi;obtain ⟨b4,d4,rfl,yj,yi⟩:=aF.view IK;clear yj yi;(generalize (Wh.d_ X.natAbs).length=l4 at *);(generalize (Wh.d_ Z.natAbs).length=m4 at *);replace C:=C.keep hb4;replace B:=i_ B hb4;(replace ⟨j_,o_⟩:=C.b2))
 have Au:w.heap.size+2≤w4.heap.size:=Nat.le_trans DK hb4.size;have L:=Rw.Own.NU ER ((s1,(a4,l4,c4),s2,(b4,m4,d4)):iM) w4 (w.heap.size+2) Au;have ox:=aF.base (aF.alloc (show aF _ _ _ _ from yk) (.cells #[.bool s1,.slice a4 l4 c4,.bool s2,.slice b4 m4 d4] 157)) (Nat.zero_le _);have oz:=aF.base (aF.alloc (show aF _ _ _ _ from IK) (.cells #[.bool s1,.slice a4 l4 c4,.bool s2,.slice b4 m4 d4] 157)) (Nat.zero_le _);have C2:=C.alloc (.cells #[.bool s1,.slice a4 l4 c4,.bool s2,.slice b4 m4 d4] 157);have B2:=B.alloc B.size (.cells #[.bool s1,.slice a4 l4 c4,.bool s2,.slice b4 m4 d4] 157);have L:=yJ L;have ox:=yJ ox;have oz:=yJ oz;clear yk IK C B j_ o_ q0 q1 q2 Q hQ hb4 P1 DK hZE
 go_loopw [2,8] (fun vi vl wr=>∃ (k:Nat) (x z:Int) (xs:List iM) (q:iM),k≤n∧vi=.int .i64 ((n - k:Nat):Int)∧Hid (M.run a b k (.val X Z)=.val x z)∧Rw.Own ER wr (w.heap.size+2) vl xs∧Hid (xs.length=k+1)∧Hid (xs[k]?=some q)∧aF wr 0 (.slice q.2.1.1 q.2.1.2.1 q.2.1.2.2) (Wh.d_ x.natAbs)∧aF wr 0 (.slice q.2.2.2.1 q.2.2.2.2.1 q.2.2.2.2.2) (Wh.d_ z.natAbs)∧Hid (q.1=decide (x<0))∧Hid (q.2.2.1=decide (z<0))∧Wh.sz x 1000∧Wh.sz z 1000∧aH wr w.heap.size 29 #[.int .i64 a,.int .i64 b]∧Below w.heap.size w wr∧w.heap.size+2≤wr.heap.size) (fun vi _ _=>(intOf vi).toNat)
 case atStart=>exact ⟨0,X,Z,[((s1,(a4,l4,c4),s2,(b4,m4,d4)):iM)],((s1,(a4,l4,c4),s2,(b4,m4,d4)):iM),Nat.zero_le _,rfl,Ct,L.out,yJ rfl,yJ rfl,ox.out,oz.out,hs1,hs2,zX.out,zE.out,C2,B2,by rw [yK];omega⟩
 case round=>
 clear L ox oz C2 B2 Ct hs1 hs2 zX zE Au;obtain ⟨k,x,z,xs,q,hk,rfl,hrun,L,hlen,hq,ox,oz,hs,hr,zx,zz,C,B,hz⟩:=hrel;obtain ⟨s,⟨av,lv,cv⟩,r,⟨bv,mv,dv⟩⟩:=q
 dsimp only at ox oz hs hr
 rcases L.forms with ⟨rfl,rfl⟩ | ⟨g,cap,rfl,hg1,hg2,hcp1,hcp2⟩
 ·exact absurd hlen.out (by simp)
 have hcl:=fun i u (hu:(ER.cells (s,(av,lv,cv),r,(bv,mv,dv)))[i]?=some u) (hi:i<4)=>Rw.Own.cellAt rfl L (k*4+i) u ((Rw.flat_get ER xs k i _ hq.out hi).trans hu)
 have F4:wr.cell? ⟨g,k*4,none⟩=some (.bool s):=(hcl 0 _ rfl (by omega)).1;have F5:wr.cell? ⟨g,k*4+1,none⟩=some (.slice av lv cv):=(hcl 1 _ rfl (by omega)).1;have F6:wr.cell? ⟨g,k*4+2,none⟩=some (.bool r):=(hcl 2 _ rfl (by omega)).1;have F7:wr.cell? ⟨g,k*4+3,none⟩=some (.slice bv mv dv):=(hcl 3 _ rfl (by omega)).1;clear hcl;have hlen1:=hlen.out;rw [hlen1] at hcp1 L ⊢;have ox:=yJ ox;have oz:=yJ oz;have zx:=yJ zx;have zz:=yJ zz;have L:=yJ L;have j_:=C.box.c0;have o_:=C.box.c1;clear hlen1
 by_cases hlt:k<n
 ·obtain ⟨j,hj⟩:∃ j:Nat,n - k=j+1:=⟨n - k - 1,by omega⟩
  have hj2:=yJ (show n - (k+1)=j by omega)
  have hjb:(j:Int)≤4:=by omega
  rw [hj];clear hj
  have Fc:=yJ fun v v' W i j h1 h2=>PG.out x z s r v v' W i j h1 h2 zx.out zz.out hs.out hr.out
  have BN:=yJ fun v v' W i j h1 h2=>PD.out x z s r v v' W i j h1 h2 zx.out zz.out hs.out hr.out
  have hnx:M.run a b (k+1) (.val X Z)=M.nx a b (.val x z):=by show M.nx a b (M.run a b k (.val X Z))=_;rw [hrun.out]
  unfold M.nx at hnx
  dsimp only at hnx
  clear PG PD hs hr
  have Bh:=fun h=>Wh.kU (Wh.jz (D:=M.bC a b) (F:=Wh.bR a b x z) (G:=Wh.bJ a b x z) h)
  have Er:Wh.dt (M.bC a b) (Wh.bR a b x z) (Wh.bJ a b x z)=true→Wh.BU (M.bC a b) (Wh.bR a b x z) (Wh.bJ a b x z)=Wh.DV (M.bC a b) (Wh.bR a b x z) (Wh.bJ a b x z)∧Wh.BV (M.bC a b) (Wh.bR a b x z) (Wh.bJ a b x z)=Wh.DU (M.bC a b) (Wh.bR a b x z) (Wh.bJ a b x z):=fun h=>by unfold Wh.BU Wh.BV;rw [if_pos h,if_pos h];exact ⟨rfl,rfl⟩
  generalize Wh.dt (M.bC a b) (Wh.bR a b x z) (Wh.bJ a b x z)=ok,Wh.DU (M.bC a b) (Wh.bR a b x z) (Wh.bJ a b x z)=dd,Wh.DV (M.bC a b) (Wh.bR a b x z) (Wh.bJ a b x z)=nn,Wh.BV (M.bC a b) (Wh.bR a b x z) (Wh.bJ a b x z)=z',Wh.BU (M.bC a b) (Wh.bR a b x z) (Wh.bJ a b x z)=x' at *;have hG0:=@Wh.fA (Wh.bJ a b x z);generalize Wh.bJ a b x z=G at *;generalize decide (G<0)=sg at *;have N:=aH.new wr #[.bool s,.slice av lv cv,.bool r,.slice bv mv dv] 157;have C3:=C.alloc (.cells #[.bool s,.slice av lv cv,.bool r,.slice bv mv dv] 157);have CR:=yJ (aF.alloc ox.out (.cells #[.bool s,.slice av lv cv,.bool r,.slice bv mv dv] 157));have CS:=yJ (aF.alloc oz.out (.cells #[.bool s,.slice av lv cv,.bool r,.slice bv mv dv] 157));have L3:=yJ (Rw.Own.alloc L.out (.cells #[.bool s,.slice av lv cv,.bool r,.slice bv mv dv] 157));have B3:=B.alloc B.size (.cells #[.bool s,.slice av lv cv,.bool r,.slice bv mv dv] 157);have B_:=C3.box.c0;have CA:=C3.box.c1;have Cd:=N.aM.c0;have Ce:=N.aM.c1;have Cf:=N.aM.c2;have Cg:=N.aM.c3
  by_cases hG:G=0
  ·rw [if_pos hG] at hnx
   have hfin:=yJ (M.me hnx n (by omega));have hl0:=hG0.2 hG;clear hnx hG hG0 Bh Er BN;generalize GM:(Wh.d_ G.natAbs).length=lg at *;subst hl0;replace GM:=yJ GM
   go_wp2_with (go_at_call 143;(with_reducible refine (Fc.out _ _ _ _ _ CR.out CS.out).mono ?_);rintro e w4 ⟨v4,rfl,yk,hb4⟩;obtain ⟨a4,c4,rfl,yj,yi⟩:=aF.view yk;clear yj yi;(rw [GM.out] at yk ⊢);replace C3:=C3.keep hb4;replace N:=N.keep hb4;replace B3:=i_ B3 hb4;(replace ⟨B_,CA⟩:=C3.b2);(replace ⟨Cd,Ce,Cf,Cg⟩:=N.b4))
   exact bodyPost_ret (v:=.tuple #[.slice (some ⟨g,0,none⟩) (k+1) cap,.bool true]) (by simp [results,Tryz.results130,go_sem, *]) rfl (⟨_,_,rfl,(by rw [hout.out,hfin.out];exact ⟨rfl,_,_,_,rfl⟩),B3⟩)
  rw [if_neg hG] at hnx
  have hl0:¬ (Wh.d_ G.natAbs).length=0:=fun h=>hG (hG0.1 h)
  have hlq:(((Wh.d_ G.natAbs).length:Int) == 0)=false:=by rw [beq_eq_false_iff_ne];omega
  clear hG hG0
  cases ok with
  | false=>
   have hfin:=yJ (M.mc hnx n (by omega));clear hnx Bh Er;generalize decide (z'<0)=r',decide (x'<0)=s' at *
   go_wp2_with (first
    | (go_at_call 143;(with_reducible refine (Fc.out _ _ _ _ _ CR.out CS.out).mono ?_);rintro e w4 ⟨v4,rfl,yk,hb4⟩;obtain ⟨a4,c4,rfl,yj,yi⟩:=aF.view yk;clear yj yi yk;(generalize (Wh.d_ G.natAbs).length=lg at *);replace L3:=yJ (Rw.Own.below L3.out hb4);replace C3:=C3.keep hb4;replace N:=N.keep hb4;replace CR:=kO CR hb4;replace CS:=kO CS hb4;replace B3:=i_ B3 hb4;(replace ⟨B_,CA⟩:=C3.b2);(replace ⟨Cd,Ce,Cf,Cg⟩:=N.b4))
    | (go_at_call 144;(with_reducible refine (BN.out _ _ _ _ _ CR.out CS.out).mono ?_);rintro e w5 ⟨v5,u5,rfl,yV,CN,hb5⟩;replace C3:=C3.keep hb5;replace N:=N.keep hb5;replace CR:=kO CR hb5;replace CS:=kO CS hb5;replace B3:=i_ B3 hb5;replace L3:=yJ (Rw.Own.below L3.out hb5);obtain ⟨a5,c5,rfl,yj,yi⟩:=aF.view yV;clear yj yi;obtain ⟨b5,d5,rfl,yj,yi⟩:=aF.view CN;clear yj yi;have on:=yJ (aF.alloc (show aF _ _ _ _ from yV) (.cells #[.bool s',.slice a5 (Wh.d_ x'.natAbs).length c5,.bool r',.slice b5 (Wh.d_ z'.natAbs).length d5] 157));have om:=yJ (aF.alloc (show aF _ _ _ _ from CN) (.cells #[.bool s',.slice a5 (Wh.d_ x'.natAbs).length c5,.bool r',.slice b5 (Wh.d_ z'.natAbs).length d5] 157));clear yV CN;(generalize (Wh.d_ x'.natAbs).length=l5 at *);(generalize (Wh.d_ z'.natAbs).length=m5 at *);replace L3:=yJ (Rw.Own.alloc L3.out (.cells #[.bool s',.slice a5 l5 c5,.bool r',.slice b5 m5 d5] 157));have M_:=aH.new w5 #[.bool s',.slice a5 l5 c5,.bool r',.slice b5 m5 d5] 157;have b_:=bA w5 (.cells #[.bool s',.slice a5 l5 c5,.bool r',.slice b5 m5 d5] 157);replace C3:=C3.keep b_;replace N:=N.keep b_;replace CR:=kO CR b_;replace CS:=kO CS b_;replace B3:=i_ B3 b_;clear b_;(replace ⟨B_,CA⟩:=C3.b2);(replace ⟨Cd,Ce,Cf,Cg⟩:=N.b4);(replace ⟨HM,HN,HO,HP⟩:=M_.b4)))
   exact bodyPost_ret (v:=.tuple #[.slice (some ⟨g,0,none⟩) (k+1) cap,.bool false]) (by simp [results,Tryz.results130,go_sem, *]) rfl (⟨_,_,rfl,(by rw [hout.out,hfin.out];exact ⟨rfl,_,_,_,rfl,by omega⟩),B3⟩)
  | true=>
  rw [if_pos rfl] at hnx;obtain ⟨hxn,hzn⟩:=Er rfl;obtain ⟨zn,zd⟩:=Bh rfl;subst hxn hzn;clear Er Bh;have zn:=yJ zn;have zd:=yJ zd;have hnx:=yJ hnx;generalize hs5:decide (x'<0)=s' at *;generalize GR:decide (z'<0)=r' at *;replace hs5:=yJ hs5.symm;replace GR:=yJ GR.symm;clear hrun zx zz
  go_wp2_with (first
   | (go_at_call 143;(with_reducible refine (Fc.out _ _ _ _ _ CR.out CS.out).mono ?_);rintro e w4 ⟨v4,rfl,yk,hb4⟩;obtain ⟨a4,c4,rfl,yj,yi⟩:=aF.view yk;clear yj yi yk;(generalize (Wh.d_ G.natAbs).length=lg at *);replace L3:=yJ (Rw.Own.below L3.out hb4);replace C3:=C3.keep hb4;replace N:=N.keep hb4;replace CR:=kO CR hb4;replace CS:=kO CS hb4;replace B3:=i_ B3 hb4;(replace ⟨B_,CA⟩:=C3.b2);(replace ⟨Cd,Ce,Cf,Cg⟩:=N.b4))
   | (go_at_call 144;(with_reducible refine (BN.out _ _ _ _ _ CR.out CS.out).mono ?_);rintro e w5 ⟨v5,u5,rfl,yV,CN,hb5⟩;replace C3:=C3.keep hb5;replace N:=N.keep hb5;replace CR:=kO CR hb5;replace CS:=kO CS hb5;replace B3:=i_ B3 hb5;replace L3:=yJ (Rw.Own.below L3.out hb5);obtain ⟨a5,c5,rfl,yj,yi⟩:=aF.view yV;clear yj yi;obtain ⟨b5,d5,rfl,yj,yi⟩:=aF.view CN;clear yj yi;have on:=yJ (aF.alloc (show aF _ _ _ _ from yV) (.cells #[.bool s',.slice a5 (Wh.d_ x'.natAbs).length c5,.bool r',.slice b5 (Wh.d_ z'.natAbs).length d5] 157));have om:=yJ (aF.alloc (show aF _ _ _ _ from CN) (.cells #[.bool s',.slice a5 (Wh.d_ x'.natAbs).length c5,.bool r',.slice b5 (Wh.d_ z'.natAbs).length d5] 157));clear yV CN;(generalize (Wh.d_ x'.natAbs).length=l5 at *);(generalize (Wh.d_ z'.natAbs).length=m5 at *);replace L3:=yJ (Rw.Own.alloc L3.out (.cells #[.bool s',.slice a5 l5 c5,.bool r',.slice b5 m5 d5] 157));have M_:=aH.new w5 #[.bool s',.slice a5 l5 c5,.bool r',.slice b5 m5 d5] 157;have b_:=bA w5 (.cells #[.bool s',.slice a5 l5 c5,.bool r',.slice b5 m5 d5] 157);replace C3:=C3.keep b_;replace N:=N.keep b_;replace CR:=kO CR b_;replace CS:=kO CS b_;replace B3:=i_ B3 b_;clear b_;(replace ⟨B_,CA⟩:=C3.b2);(replace ⟨Cd,Ce,Cf,Cg⟩:=N.b4);(replace ⟨HM,HN,HO,HP⟩:=M_.b4))
   | (at_builtin;refine Rw.yC xr (w.heap.size+2) [((s',(a5,l5,c5),r',(b5,m5,d5)):iM)] xs _ ⟨w5.heap.size+1,0,none⟩ 1 1 (by rfl) (by rfl) (.tmp 50) (.tmp 52) (by rfl) (by rfl) (by rfl) (Rw.From.lit ER _ ((s',(a5,l5,c5),r',(b5,m5,d5)):iM) (w5.heap.size+1) (yK _ _)) (by have:=Rw.Own.alloc L3.out (.cells #[.bool s',.slice a5 l5 c5,.bool r',.slice b5 m5 d5] 157);exact this) (by have h1_:=hb4.size;have h2_:=hb5.size;(try simp only [yK] at h1_ h2_ ⊢);omega) (by rw [hlen.out];simp;omega) ?_;intro v6 w6 hown6 GD hbl6;have C6:=aH.grown (C3.alloc (.cells #[.bool s',.slice a5 l5 c5,.bool r',.slice b5 m5 d5] 157)) GD (fun e=>by have e2:g=w.heap.size:=Option.some.inj e;omega);have on6:=yJ (aF.px (aF.alloc on.out (.cells #[.bool s',.slice a5 l5 c5,.bool r',.slice b5 m5 d5] 157)) (Rw.Own.alloc L3.out (.cells #[.bool s',.slice a5 l5 c5,.bool r',.slice b5 m5 d5] 157)) GD);have om6:=yJ (aF.px (aF.alloc om.out (.cells #[.bool s',.slice a5 l5 c5,.bool r',.slice b5 m5 d5] 157)) (Rw.Own.alloc L3.out (.cells #[.bool s',.slice a5 l5 c5,.bool r',.slice b5 m5 d5] 157)) GD);have B6:=Below.grown (B3.alloc B3.size (.cells #[.bool s',.slice a5 l5 c5,.bool r',.slice b5 m5 d5] 157)) GD (B3.alloc B3.size (.cells #[.bool s',.slice a5 l5 c5,.bool r',.slice b5 m5 d5] 157)).size (fun k_ hk_=>by have e2:g=k_:=Option.some.inj hk_;omega);have hown6:=yJ hown6;have hz6:=GD.size;have hz7:=hb4.size;have HC:=hb5.size))
  go_roundw
  case rel=>exact ⟨k+1,x',z',xs ++ [((s',(a5,l5,c5),r',(b5,m5,d5)):iM)],((s',(a5,l5,c5),r',(b5,m5,d5)):iM),by omega,(by first | (rw [hj2.out];done) | (rw [hj2.out];go_num)),hnx,hown6.out,yJ (by rw [List.length_append,hlen.out];rfl),yJ (by rw [List.getElem?_append_right (by rw [hlen.out];omega),hlen.out,Nat.sub_self];rfl),aF.base on6.out (Nat.zero_le _),aF.base om6.out (Nat.zero_le _),hs5,GR,zn.out,zd.out,C6,B6,by (try simp only [yK] at hz6 hz7 HC);omega⟩
  case measure=>simp [intOf] <;> omega
 obtain rfl:k=n:=by omega
 rw [Nat.sub_self];go_wp2;exact bodyPost_ret (v:=.tuple #[.slice (some ⟨g,0,none⟩) (k+1) cap,.bool false]) (by simp [results,Tryz.results130,go_sem, *]) rfl (⟨_,_,rfl,(by rw [hout.out,hrun.out];exact ⟨rfl,zx.out,zz.out,g,cap,s,av,lv,cv,r,bv,mv,dv,rfl,F4,F5,F6,F7,hs,hr,ox.out,oz.out⟩),B⟩)
noncomputable def C7 (n d:Int):Bool:=d8 (b8 n d) (bT n d)
theorem gP (a b:Int) (w:World) (h1:-4000000000000000000≤a) (h2:a≤4000000000000000000) (h3:-4000000000000000000≤b) (h4:b≤4000000000000000000) :
  Calls Tryz.prog 83 #[.int .i64 (a.natAbs:Int),.int .i64 (b.natAbs:Int)] w fun e w'=>e=.returned (.int .i64 (M.gcd a b))∧w=w':=by
 rw [show M.gcd a b=M.gcd a.natAbs b.natAbs from by simp [M.gcd,Int.gcd]];exact dP _ _ _ (by omega) (by omega) (by omega) (by omega)
theorem kP (n d:Int) (w:World) (h1:-4000000000000000000≤n) (h2:n≤4000000000000000000) (h3:-4000000000000000000≤d) (h4:d≤4000000000000000000) (h0:d≠0) :
  Calls Tryz.prog 63 #[.int .i64 n,.int .i64 d] w fun e w'=>e=.returned (.tuple #[.agg #[.int .i64 (M.pick (C7 (n) (d)) (b8 (n) (d))),.int .i64 (M.pick (C7 (n) (d)) (bT (n) (d)))],.bool (C7 (n) (d))]:Value)∧Below w.heap.size w w':=by
 have g1:=jN (a:=n) h0;have g2:=pJ (a:=n) h0;have t1:=dl (a:=n) (d:=M.gcd n d) h1 h2 (by omega);have t2:=dl (a:=d) (d:=M.gcd n d) h3 h4 (by omega)
 have E:=fun w=>iB (b8 n d) (bT n d) w
 unfold C7
 by_cases hn:d<0
 ·rw [eC hn,eB hn] at E ⊢
  cases hok:d8 (-n.tdiv (M.gcd n d)) (-d.tdiv (M.gcd n d)) <;> simp only [hok] at E <;> have E:=yJ E
  all_goals
   have w1:=IntWalk.i64_in (-n.tdiv (M.gcd n d)) (by omega);have w2:=IntWalk.i64_in (-d.tdiv (M.gcd n d)) (by omega)
   have hg0:¬ -M.gcd n d=0:=by omega
   go_enter Tryz.func63,Tryz.ntmps63
   go_wp2_with (go_at_call 75;refine (kC _ _ _ (by omega) (by omega) (by omega) (by omega)).mono ?_;rintro e w' ⟨rfl,mq,rfl⟩)
   go_region
   all_goals
    clear w1 w2
    go_wp2_with (go_at_call 62;refine (E.out _).mono ?_;rintro e w' ⟨rfl,hb⟩;have D5:=hb.size;(try simp only [yK,aO,World.heap_drewN,aI] at D5);have Ez:w.heap.size<w'.heap.size:=(by omega);have GG:=fun o=>(db hb).1 (w.heap.size) o (by (try simp only [yK,aO,World.heap_drewN,aI]);omega);have GJ:=fun o=>(db hb).2.1 (w.heap.size) o (by (try simp only [yK,aO,World.heap_drewN,aI]);omega);have GU:w.heap.size+1<w'.heap.size:=(by omega);have GH:=fun o=>(db hb).1 (w.heap.size+1) o (by (try simp only [yK,aO,World.heap_drewN,aI]);omega);have GK:=fun o=>(db hb).2.1 (w.heap.size+1) o (by (try simp only [yK,aO,World.heap_drewN,aI]);omega))
    first
     | (refine bodyPost_ret (v:=.tuple #[.agg #[.int .i64 0,.int .i64 0],.bool false]) ?_ rfl ?_;(· (simp [results,Tryz.results63,go_sem, *];done));(· (refine ⟨?_,(by repeat (first | exact yM _ _ | refine aR ?_ _ | refine aS ?_ (by assumption) | refine Below.drew ?_ | refine yL ?_ (by first | exact yN _ | exact Nat.le_add_right _ _ | (simp <;> omega)) _ | refine aL ?_ _))⟩;(simp [M.gA];done))))
     | (refine bodyPost_ret (v:=.tuple #[.agg #[.int .i64 (-n.tdiv (M.gcd n d)),.int .i64 (-d.tdiv (M.gcd n d))],.bool true]) ?_ rfl ?_;(· (simp [results,Tryz.results63,go_sem, *];done));(· (refine ⟨?_,(by repeat (first | exact yM _ _ | refine aR ?_ _ | refine aS ?_ (by assumption) | refine Below.drew ?_ | refine yL ?_ (by first | exact yN _ | exact Nat.le_add_right _ _ | (simp <;> omega)) _ | refine aL ?_ _))⟩;(simp [M.eo];done))))
 rw [dD (by omega),dC (by omega)] at E ⊢
 cases hok:d8 (n.tdiv (M.gcd n d)) (d.tdiv (M.gcd n d)) <;> simp only [hok] at E <;> have E:=yJ E
 all_goals
  have w1:=IntWalk.i64_in (n.tdiv (M.gcd n d)) (by omega);have w2:=IntWalk.i64_in (d.tdiv (M.gcd n d)) (by omega)
  have hg0:¬ M.gcd n d=0:=by omega
  go_enter Tryz.func63,Tryz.ntmps63
  go_wp2_with (go_at_call 75;refine (kC _ _ _ (by omega) (by omega) (by omega) (by omega)).mono ?_;rintro e w' ⟨rfl,mq,rfl⟩)
  go_region
  all_goals
   clear w1 w2
   go_wp2_with (go_at_call 62;refine (E.out _).mono ?_;rintro e w' ⟨rfl,hb⟩;have D5:=hb.size;(try simp only [yK,aO,World.heap_drewN,aI] at D5);have Ez:w.heap.size<w'.heap.size:=(by omega);have GG:=fun o=>(db hb).1 (w.heap.size) o (by (try simp only [yK,aO,World.heap_drewN,aI]);omega);have GJ:=fun o=>(db hb).2.1 (w.heap.size) o (by (try simp only [yK,aO,World.heap_drewN,aI]);omega);have GU:w.heap.size+1<w'.heap.size:=(by omega);have GH:=fun o=>(db hb).1 (w.heap.size+1) o (by (try simp only [yK,aO,World.heap_drewN,aI]);omega);have GK:=fun o=>(db hb).2.1 (w.heap.size+1) o (by (try simp only [yK,aO,World.heap_drewN,aI]);omega))
   first
    | (refine bodyPost_ret (v:=.tuple #[.agg #[.int .i64 0,.int .i64 0],.bool false]) ?_ rfl ?_;(· (simp [results,Tryz.results63,go_sem, *];done));(· (refine ⟨?_,(by repeat (first | exact yM _ _ | refine aR ?_ _ | refine aS ?_ (by assumption) | refine Below.drew ?_ | refine yL ?_ (by first | exact yN _ | exact Nat.le_add_right _ _ | (simp <;> omega)) _ | refine aL ?_ _))⟩;(simp [M.gA];done))))
    | (refine bodyPost_ret (v:=.tuple #[.agg #[.int .i64 (n.tdiv (M.gcd n d)),.int .i64 (d.tdiv (M.gcd n d))],.bool true]) ?_ rfl ?_;(· (simp [results,Tryz.results63,go_sem, *];done));(· (refine ⟨?_,(by repeat (first | exact yM _ _ | refine aR ?_ _ | refine aS ?_ (by assumption) | refine Below.drew ?_ | refine yL ?_ (by first | exact yN _ | exact Nat.le_add_right _ _ | (simp <;> omega)) _ | refine aL ?_ _))⟩;(simp [M.eo];done))))
theorem tM (n d:Int) (w:World) (h1:-4000000000000000000≤n) (h2:n≤4000000000000000000) (h3:-4000000000000000000≤d) (h4:d≤4000000000000000000) (h0:d≠0) :
  Calls Tryz.prog 107 #[.int .i64 n,.int .i64 d] w fun e w'=>e=.returned (.tuple #[.agg #[.int .i64 (M.pick (C7 (n) (d)) (b8 (n) (d))),.int .i64 (M.pick (C7 (n) (d)) (bT (n) (d)))],.bool (C7 (n) (d))]:Value)∧Below w.heap.size w w':=by
 have g1:=jN (a:=n) h0;have g2:=pJ (a:=n) h0;have t1:=dl (a:=n) (d:=M.gcd n d) h1 h2 (by omega);have t2:=dl (a:=d) (d:=M.gcd n d) h3 h4 (by omega)
 have E:=fun w=>kB (b8 n d) (bT n d) w
 unfold C7
 by_cases hn:d<0
 ·rw [eC hn,eB hn] at E ⊢
  cases hok:d8 (-n.tdiv (M.gcd n d)) (-d.tdiv (M.gcd n d)) <;> simp only [hok] at E <;> have E:=yJ E
  all_goals
   have w1:=IntWalk.i64_in (-n.tdiv (M.gcd n d)) (by omega);have w2:=IntWalk.i64_in (-d.tdiv (M.gcd n d)) (by omega)
   have hg0:¬ -M.gcd n d=0:=by omega
   go_enter Tryz.func107,Tryz.ntmps107
   go_wp2_with (first | (go_at_call 84;refine (dL _ _ (by omega) (by omega)).mono ?_;rintro e w' ⟨rfl,rfl⟩) | (go_at_call 83;refine (gP n d _ h1 h2 h3 h4).mono ?_;rintro e w' ⟨rfl,rfl⟩))
   go_region
   all_goals
    clear w1 w2
    go_wp2_with (go_at_call 61;refine (E.out _).mono ?_;rintro e w' ⟨rfl,hb⟩;have D5:=hb.size;(try simp only [yK,aO,World.heap_drewN,aI] at D5);have Ez:w.heap.size<w'.heap.size:=(by omega);have GG:=fun o=>(db hb).1 (w.heap.size) o (by (try simp only [yK,aO,World.heap_drewN,aI]);omega);have GJ:=fun o=>(db hb).2.1 (w.heap.size) o (by (try simp only [yK,aO,World.heap_drewN,aI]);omega);have GU:w.heap.size+1<w'.heap.size:=(by omega);have GH:=fun o=>(db hb).1 (w.heap.size+1) o (by (try simp only [yK,aO,World.heap_drewN,aI]);omega);have GK:=fun o=>(db hb).2.1 (w.heap.size+1) o (by (try simp only [yK,aO,World.heap_drewN,aI]);omega))
    first
     | (refine bodyPost_ret (v:=.tuple #[.agg #[.int .i64 0,.int .i64 0],.bool false]) ?_ rfl ?_;(· (simp [results,Tryz.results107,go_sem, *];done));(· (refine ⟨?_,(by repeat (first | exact yM _ _ | refine aR ?_ _ | refine aS ?_ (by assumption) | refine Below.drew ?_ | refine yL ?_ (by first | exact yN _ | exact Nat.le_add_right _ _ | (simp <;> omega)) _ | refine aL ?_ _))⟩;(simp [M.gA];done))))
     | (refine bodyPost_ret (v:=.tuple #[.agg #[.int .i64 (-n.tdiv (M.gcd n d)),.int .i64 (-d.tdiv (M.gcd n d))],.bool true]) ?_ rfl ?_;(· (simp [results,Tryz.results107,go_sem, *];done));(· (refine ⟨?_,(by repeat (first | exact yM _ _ | refine aR ?_ _ | refine aS ?_ (by assumption) | refine Below.drew ?_ | refine yL ?_ (by first | exact yN _ | exact Nat.le_add_right _ _ | (simp <;> omega)) _ | refine aL ?_ _))⟩;(simp [M.eo];done))))
 rw [dD (by omega),dC (by omega)] at E ⊢
 cases hok:d8 (n.tdiv (M.gcd n d)) (d.tdiv (M.gcd n d)) <;> simp only [hok] at E <;> have E:=yJ E
 all_goals
  have w1:=IntWalk.i64_in (n.tdiv (M.gcd n d)) (by omega);have w2:=IntWalk.i64_in (d.tdiv (M.gcd n d)) (by omega)
  have hg0:¬ M.gcd n d=0:=by omega
  go_enter Tryz.func107,Tryz.ntmps107
  go_wp2_with (first | (go_at_call 84;refine (dL _ _ (by omega) (by omega)).mono ?_;rintro e w' ⟨rfl,rfl⟩) | (go_at_call 83;refine (gP n d _ h1 h2 h3 h4).mono ?_;rintro e w' ⟨rfl,rfl⟩))
  go_region
  all_goals
   clear w1 w2
   go_wp2_with (go_at_call 61;refine (E.out _).mono ?_;rintro e w' ⟨rfl,hb⟩;have D5:=hb.size;(try simp only [yK,aO,World.heap_drewN,aI] at D5);have Ez:w.heap.size<w'.heap.size:=(by omega);have GG:=fun o=>(db hb).1 (w.heap.size) o (by (try simp only [yK,aO,World.heap_drewN,aI]);omega);have GJ:=fun o=>(db hb).2.1 (w.heap.size) o (by (try simp only [yK,aO,World.heap_drewN,aI]);omega);have GU:w.heap.size+1<w'.heap.size:=(by omega);have GH:=fun o=>(db hb).1 (w.heap.size+1) o (by (try simp only [yK,aO,World.heap_drewN,aI]);omega);have GK:=fun o=>(db hb).2.1 (w.heap.size+1) o (by (try simp only [yK,aO,World.heap_drewN,aI]);omega))
   first
    | (refine bodyPost_ret (v:=.tuple #[.agg #[.int .i64 0,.int .i64 0],.bool false]) ?_ rfl ?_;(· (simp [results,Tryz.results107,go_sem, *];done));(· (refine ⟨?_,(by repeat (first | exact yM _ _ | refine aR ?_ _ | refine aS ?_ (by assumption) | refine Below.drew ?_ | refine yL ?_ (by first | exact yN _ | exact Nat.le_add_right _ _ | (simp <;> omega)) _ | refine aL ?_ _))⟩;(simp [M.gA];done))))
    | (refine bodyPost_ret (v:=.tuple #[.agg #[.int .i64 (n.tdiv (M.gcd n d)),.int .i64 (d.tdiv (M.gcd n d))],.bool true]) ?_ rfl ?_;(· (simp [results,Tryz.results107,go_sem, *];done));(· (refine ⟨?_,(by repeat (first | exact yM _ _ | refine aR ?_ _ | refine aS ?_ (by assumption) | refine Below.drew ?_ | refine yL ?_ (by first | exact yN _ | exact Nat.le_add_right _ _ | (simp <;> omega)) _ | refine aL ?_ _))⟩;(simp [M.eo];done))))
namespace M
noncomputable def AB (n d:Int):Option (Int × Int):=if C7 n d then some (b8 n d,bT n d) else none
def fN (r:Option (Int × Int)):Int:=(r.getD (0,0)).1
def fD (r:Option (Int × Int)):Int:=(r.getD (0,0)).2
theorem tL (n d:Int):(.tuple #[.agg #[.int .i64 (M.pick (C7 (n) (d)) (b8 (n) (d))),.int .i64 (M.pick (C7 (n) (d)) (bT (n) (d)))],.bool (C7 (n) (d))]:Value)=.tuple #[.agg #[.int .i64 (fN (AB n d)),.int .i64 (fD (AB n d))],.bool (AB n d).isSome]:=by
 unfold AB
 cases h:C7 n d <;> simp [M.gA,M.eo,fN,fD]
theorem uw {n d:Int} (h:d8 n d=true):-1000000000≤n∧n≤1000000000∧1≤d∧d≤1000000000:=by
 unfold d8 at h;simp only [Bool.and_eq_true] at h;have h1:=M.fa h.1.1;have h2:=M.fa h.1.2;omega
end M
theorem nc (n d:Int) (w:World) (h1:-4000000000000000000≤n) (h2:n≤4000000000000000000) (h3:-4000000000000000000≤d) (h4:d≤4000000000000000000) (h0:d≠0) :
  Calls Tryz.prog 107 #[.int .i64 n,.int .i64 d] w fun e w'=>e=.returned (.tuple #[.agg #[.int .i64 (M.fN (M.AB n d)),.int .i64 (M.fD (M.AB n d))],.bool (M.AB n d).isSome])∧Below w.heap.size w w':=by
 rw [←M.tL];exact tM n d w h1 h2 h3 h4 h0
theorem kQ (n d:Int) (w:World) (h1:-4000000000000000000≤n) (h2:n≤4000000000000000000) (h3:-4000000000000000000≤d) (h4:d≤4000000000000000000) (h0:d≠0) :
  Calls Tryz.prog 63 #[.int .i64 n,.int .i64 d] w fun e w'=>e=.returned (.tuple #[.agg #[.int .i64 (M.fN (M.AB n d)),.int .i64 (M.fD (M.AB n d))],.bool (M.AB n d).isSome])∧Below w.heap.size w w':=by
 rw [←M.tL];exact kP n d w h1 h2 h3 h4 h0
theorem uv (n:Int) (w:World) :
  Calls Tryz.prog 68 #[.int .i64 n] w fun e w'=>e=.returned (.agg #[.int .i64 n,.int .i64 1])∧Below w.heap.size w w':=by
 go_enter Tryz.func68,Tryz.ntmps68
 go_wp2;exact bodyPost_ret (v:=.agg #[.int .i64 n,.int .i64 1]) (by simp [results,Tryz.results68,go_sem, *]) rfl (⟨rfl,(by repeat (first | exact yM _ _ | refine aR ?_ _ | refine aS ?_ (by assumption) | refine Below.drew ?_ | refine yL ?_ (by first | exact yN _ | exact Nat.le_add_right _ _ | (simp <;> omega)) _ | refine aL ?_ _))⟩)
namespace M
noncomputable def pn (a:Int):Int:=fN (AB a 4096)
noncomputable def pd (a:Int):Int:=fD (AB a 4096)
def aN (lo hi:Int):Bool:=decide (lo≤hi) && decide (-409600000≤lo) && decide (hi≤409600000)
theorem bw {lo hi:Int} (h:aN lo hi=true):lo≤hi∧-409600000≤lo∧hi≤409600000:=by
 unfold aN at h;simp only [Bool.and_eq_true,decide_eq_true_eq] at h;exact ⟨h.1.1,h.1.2,h.2⟩
theorem qL (a:Int):∃ g q n:Int,M.gcd a 4096=g∧1≤g∧g≤4096∧4096=g*q∧1≤q∧q≤4096∧a=n*g:=by
 have h1:(M.gcd a 4096) ∣ 4096:=Int.gcd_dvd_right ..;have h2:(M.gcd a 4096) ∣ a:=Int.gcd_dvd_left ..;have h3:=jN (a:=a) (b:=4096) (by decide);obtain ⟨q,hq⟩:=h1;obtain ⟨n,hn⟩:=h2;generalize M.gcd a 4096=g at *
 have hq1:1≤q:=by
  rcases Int.lt_or_le q 1 with h | h
  ·have:=Int.mul_nonpos_of_nonneg_of_nonpos (a:=g) (b:=q) (by omega) (by omega)
   omega
  exact h
 have hg:g≤4096:=Int.le_of_dvd (by decide) ⟨q,hq⟩;have hq2:q≤4096:=Int.le_of_dvd (by decide) ⟨g,by rw [Int.mul_comm];exact hq⟩;exact ⟨g,q,n,rfl,by omega,hg,hq,hq1,hq2,by rw [hn,Int.mul_comm]⟩
theorem mH {a g q n:Int} (hg:M.gcd a 4096=g) (h1:1≤g) (hq:4096=g*q) (hn:a=n*g):AB a 4096=if d8 n q then some (n,q) else none:=by
 have e1:b8 a 4096=n:=by rw [dD (by omega),hg,hn,Int.mul_tdiv_cancel _ (by omega)]
 have e2:bT a 4096=q:=by rw [dC (by omega),hg,hq,Int.mul_tdiv_cancel_left _ (by omega)]
 unfold AB C7;rw [e1,e2]
theorem pK {a:Int} (h:(AB a 4096).isSome=true):d8 (pn a) (pd a)=true∧1≤pd a∧pd a≤4096∧(4096:Int) % pd a=0∧pn a*(4096 / pd a)=a∧1≤4096 / pd a∧4096 / pd a≤4096∧-1000000000≤pn a∧pn a≤1000000000:=by
 obtain ⟨g,q,n,hg,h1,h2,hq,h3,h4,hn⟩:=qL a;have hf:=mH hg h1 hq hn;unfold pn pd;rw [hf] at h ⊢
 split at h
 ·rename_i hok
  have hb:=uw hok;rw [if_pos hok]
  show d8 n q=true∧_
  have hdiv:(4096:Int) / q=g:=by rw [hq];exact Int.mul_ediv_cancel _ (by omega)
  refine ⟨hok,h3,h4,?_,?_,?_,?_,hb.1,hb.2.1⟩
  ·show (4096:Int) % q=0
   rw [hq];exact Int.mul_emod_left _ _
  ·show n*(4096 / q)=a
   rw [hdiv,hn]
  ·show 1≤(4096:Int) / q
   omega
  show (4096:Int) / q≤4096
  omega
 cases h
theorem bO {a:Int} (h1:-409600000≤a) (h2:a≤409600000):(AB a 4096).isSome=true:=by
 obtain ⟨g,q,n,hg,hg1,hg2,hq,h3,h4,hn⟩:=qL a;rw [mH hg hg1 hq hn]
 have hnb:-1000000000≤n∧n≤1000000000:=by
  constructor
  ·rcases Int.lt_or_le n (-1000000000) with h | h
   ·have:n*g≤n*1:=Int.mul_le_mul_of_nonpos_left (by omega) hg1
    omega
   exact h
  rcases Int.lt_or_le 1000000000 n with h | h
  ·have:n*1≤n*g:=Int.mul_le_mul_of_nonneg_left hg1 (by omega)
   omega
  exact h
 have Mj:M.gcd n q=1:=by
  have e1:M.gcd (n*g) (q*g)=M.gcd n q*g:=by
   unfold M.gcd;rw [Int.gcd_mul_right]
   have:(g.natAbs:Int)=g:=by omega
   rw [Int.natCast_mul,this]
  rw [←hn,Int.mul_comm q g,←hq,hg] at e1;have:=Int.eq_of_mul_eq_mul_right (a:=g) (b:=1) (c:=M.gcd n q) (by omega) (by omega);exact this.symm
 have hok:d8 n q=true:=by
  unfold d8 M.ins;rw [Mj];simp only [Bool.and_eq_true,decide_eq_true_eq];exact ⟨⟨by omega,hnb⟩,rfl⟩
 rw [if_pos hok];rfl
theorem ww {a:Int} (h:(AB a 4096).isSome=true):-4096000000000≤a∧a≤4096000000000:=by
 obtain ⟨-,-,-,-,h5,h6,h7,h8,h9⟩:=pK h;generalize 4096 / pd a=g at *;have:=aK (x:=pn a) (y:=g) (m:=1000000000) (n:=4096) (by omega) (by omega) (by omega) (by omega);omega
theorem qI {a b:Int} (hb:0<b) (h:a.tmod b<0):a.tdiv b - 1=a / b:=by
 have h1:=Int.mul_tdiv_add_tmod a b;have h2:=Int.lt_tmod_of_pos a hb;exact ((Int.ediv_emod_unique (r:=a.tmod b+b) hb).2 ⟨by rw [Int.mul_sub];omega,by omega,by omega⟩ |>.1).symm
theorem qH {a b:Int} (hb:0<b) (h:¬ a.tmod b<0):a.tdiv b=a / b:=by
 have h1:=Int.mul_tdiv_add_tmod a b;have h2:=Int.tmod_lt_of_pos a hb;exact ((Int.ediv_emod_unique hb).2 ⟨by omega,by omega,h2⟩ |>.1).symm
end M
theorem fB (a b:Int) (w:World) (h1:-4000000000000000000≤a) (h2:a≤4000000000000000000) (hb:0<b) (hb2:b≤4000000000000000000) :
  Calls Tryz.prog 120 #[.int .i64 a,.int .i64 b] w fun e w'=>e=.returned (.int .i64 (a / b))∧w=w':=by
 have t1:=dl (a:=a) (d:=b) h1 h2 (by omega);have m1:=Int.tmod_lt_of_pos a hb;have m2:=Int.lt_tmod_of_pos a hb;have hf:=M.qH (a:=a) hb;have ht:=M.qI (a:=a) hb
 have hb0:¬ b=0:=by omega
 by_cases h:a.tmod b<0
 ·have ht2:=yJ (ht h)
  clear hf ht;go_enter Tryz.func120,Tryz.ntmps120
  go_wp2;go_ret;exact ⟨by first | rfl | (rw [←ht2.out];rfl),rfl⟩
 have hf2:=yJ (hf h);clear ht hf;go_enter Tryz.func120,Tryz.ntmps120
 go_wp2;go_ret;exact ⟨by first | rfl | (rw [←hf2.out];rfl),rfl⟩
theorem kA (a b:Int) (w:World) (h1:-4000000000000000000≤a) (h2:a≤4000000000000000000) (hb:0<b) (hb2:b≤4000000000000000000) :
  Calls Tryz.prog 93 #[.int .i64 a,.int .i64 b] w fun e w'=>e=.returned (.int .i64 (a / b))∧w=w':=by
 have t1:=dl (a:=a) (d:=b) h1 h2 (by omega);have m1:=Int.tmod_lt_of_pos a hb;have m2:=Int.lt_tmod_of_pos a hb;have hf:=M.qH (a:=a) hb;have ht:=M.qI (a:=a) hb
 have hb0:¬ b=0:=by omega
 have hb1:(b == 0)=false:=by rw [beq_eq_false_iff_ne];exact hb0
 by_cases h:a.tmod b<0
 ·have ht2:=yJ (ht h)
  clear hf ht;go_enter Tryz.func93,Tryz.ntmps93
  go_wp2;go_ret;exact ⟨by first | rfl | (rw [←ht2.out];rfl),rfl⟩
 have hf2:=yJ (hf h);clear ht hf;go_enter Tryz.func93,Tryz.ntmps93
 go_wp2;go_ret;exact ⟨by first | rfl | (rw [←hf2.out];rfl),rfl⟩
theorem dT {a b k:Int} (h1:-k≤a) (h2:a≤k) (hb:0<b) (hk:0≤k):-k≤a / b∧a / b≤k:=by
 have e1:=Int.mul_ediv_add_emod a b;have e2:=Int.emod_nonneg a (by omega:b≠0);have e3:=Int.emod_lt_of_pos a hb
 constructor
 ·rcases Int.lt_or_le (a / b) (-k) with h | h
  ·have:b*(a / b)≤b*(-k - 1):=Int.mul_le_mul_of_nonneg_left (by omega) (by omega)
   have h4:b*(-k - 1)≤1*(-k - 1):=Int.mul_le_mul_of_nonpos_right (by omega) (by omega)
   have h5:b*(-k - 1)=b*(-k) - b:=by rw [Int.mul_sub,Int.mul_one]
   have h6:b*(-k)≤1*(-k):=Int.mul_le_mul_of_nonpos_right (by omega) (by omega);omega
  exact h
 rcases Int.lt_or_le k (a / b) with h | h
 ·have h4:b*(k+1)≤b*(a / b):=Int.mul_le_mul_of_nonneg_left (by omega) (by omega)
  have h5:1*(k+1)≤b*(k+1):=Int.mul_le_mul_of_nonneg_right (by omega) (by omega);omega
 exact h
theorem tj (a b:Int) (w:World) (h1:-4000000000000000000≤a) (h2:a≤4000000000000000000) (hb:0<b) (hb2:b≤4000000000000000000) :
  Calls Tryz.prog 94 #[.int .i64 a,.int .i64 b] w fun e w'=>e=.returned (.int .i64 (-(-a / b)))∧w=w':=by
 have P:=fun W=>kA (-a) b W (by omega) (by omega) hb hb2
 have hq:=dT (a:=-a) (b:=b) (k:=4000000000000000000) (by omega) (by omega) hb (by omega);obtain ⟨q1,q2⟩:=hq;generalize -a / b=q at *;replace P:=yJ P;go_enter Tryz.func94,Tryz.ntmps94
 go_wp2_with (go_at_call 93;(with_reducible refine (P.out _).mono ?_);rintro e w4 ⟨rfl,rfl⟩)
 go_ret;exact ⟨rfl,rfl⟩
theorem mu (lo hi:Int) (w:World) :
  Calls Tryz.prog 119 #[.agg #[.int .i64 lo,.int .i64 hi]] w fun e w'=>e=.returned (.bool (M.aN lo hi))∧Below w.heap.size w w':=by
 unfold M.aN
 by_cases h1:lo≤hi
 ·by_cases h2:-409600000≤lo
  ·by_cases h3:hi≤409600000
   all_goals
    go_enter Tryz.func119,Tryz.ntmps119
    go_wp2;go_ret;exact ⟨dA (by simp [h1,h2,h3]),(by repeat (first | exact yM _ _ | refine aR ?_ _ | refine aS ?_ (by assumption) | refine Below.drew ?_ | refine yL ?_ (by first | exact yN _ | exact Nat.le_add_right _ _ | (simp <;> omega)) _ | refine aL ?_ _))⟩
  go_enter Tryz.func119,Tryz.ntmps119
  go_wp2;go_ret;exact ⟨dA (by simp [h1,h2] <;> omega),(by repeat (first | exact yM _ _ | refine aR ?_ _ | refine aS ?_ (by assumption) | refine Below.drew ?_ | refine yL ?_ (by first | exact yN _ | exact Nat.le_add_right _ _ | (simp <;> omega)) _ | refine aL ?_ _))⟩
 go_enter Tryz.func119,Tryz.ntmps119
 go_wp2;go_ret;exact ⟨dA (by simp [h1] <;> omega),(by repeat (first | exact yM _ _ | refine aR ?_ _ | refine aS ?_ (by assumption) | refine Below.drew ?_ | refine yL ?_ (by first | exact yN _ | exact Nat.le_add_right _ _ | (simp <;> omega)) _ | refine aL ?_ _))⟩
theorem xF (a b c d:Int) (w:World) (h1:-4000000000000000000≤a) (h2:a≤4000000000000000000) (h3:-4000000000000000000≤b) (h4:b≤4000000000000000000) (h5:-4000000000000000000≤c) (h6:c≤4000000000000000000) (h7:-4000000000000000000≤d) (h8:d≤4000000000000000000) :
  Calls Tryz.prog 100 #[.agg #[.int .i64 a,.int .i64 b],.agg #[.int .i64 c,.int .i64 d]] w fun e w'=>e=.returned (.agg #[.int .i64 (a+c),.int .i64 (b+d)])∧Below w.heap.size w w':=by
 go_enter Tryz.func100,Tryz.ntmps100
 go_wp2;exact bodyPost_ret (v:=.agg #[.int .i64 (a+c),.int .i64 (b+d)]) (by simp [results,Tryz.results100,go_sem, *]) rfl (⟨rfl,(by repeat (first | exact yM _ _ | refine aR ?_ _ | refine aS ?_ (by assumption) | refine Below.drew ?_ | refine yL ?_ (by first | exact yN _ | exact Nat.le_add_right _ _ | (simp <;> omega)) _ | refine aL ?_ _))⟩)
theorem vM (a b c d:Int) (w:World) (h1:-4000000000000000000≤a) (h2:a≤4000000000000000000) (h3:-4000000000000000000≤b) (h4:b≤4000000000000000000) (h5:-4000000000000000000≤c) (h6:c≤4000000000000000000) (h7:-4000000000000000000≤d) (h8:d≤4000000000000000000) :
  Calls Tryz.prog 101 #[.agg #[.int .i64 a,.int .i64 b],.agg #[.int .i64 c,.int .i64 d]] w fun e w'=>e=.returned (.agg #[.int .i64 (a - d),.int .i64 (b - c)])∧Below w.heap.size w w':=by
 go_enter Tryz.func101,Tryz.ntmps101
 go_wp2;exact bodyPost_ret (v:=.agg #[.int .i64 (a - d),.int .i64 (b - c)]) (by simp [results,Tryz.results101,go_sem, *]) rfl (⟨rfl,(by repeat (first | exact yM _ _ | refine aR ?_ _ | refine aS ?_ (by assumption) | refine Below.drew ?_ | refine yL ?_ (by first | exact yN _ | exact Nat.le_add_right _ _ | (simp <;> omega)) _ | refine aL ?_ _))⟩)
theorem sr (a b c d:Int) (w:World) :
  Calls Tryz.prog 124 #[.agg #[.int .i64 a,.int .i64 b],.agg #[.int .i64 c,.int .i64 d]] w fun e w'=>e=.returned (.agg #[.int .i64 (max a c),.int .i64 (min b d)])∧Below w.heap.size w w':=by
 go_enter Tryz.func124,Tryz.ntmps124
 go_wp2;exact bodyPost_ret (v:=.agg #[.int .i64 (max a c),.int .i64 (min b d)]) (by simp [results,Tryz.results124,go_sem, *]) rfl (⟨rfl,(by repeat (first | exact yM _ _ | refine aR ?_ _ | refine aS ?_ (by assumption) | refine Below.drew ?_ | refine yL ?_ (by first | exact yN _ | exact Nat.le_add_right _ _ | (simp <;> omega)) _ | refine aL ?_ _))⟩)
namespace M
def cZ (a b c d:Int):Int:=min (a*c) (min (a*d) (min (b*c) (b*d)))
def cX (a b c d:Int):Int:=max (a*c) (max (a*d) (max (b*c) (b*d)))
theorem wM {a b c d:Int} (h1:-1000000000≤a) (h2:a≤1000000000) (h3:-1000000000≤b) (h4:b≤1000000000) (h5:-1000000000≤c) (h6:c≤1000000000) (h7:-1000000000≤d) (h8:d≤1000000000) :
  -1000000000000000000≤cZ a b c d∧cZ a b c d≤1000000000000000000∧-1000000000000000000≤cX a b c d∧cX a b c d≤1000000000000000000:=by
 have q1:=aK (x:=a) (y:=c) (m:=1000000000) (n:=1000000000) h1 h2 h5 h6;have q2:=aK (x:=a) (y:=d) (m:=1000000000) (n:=1000000000) h1 h2 h7 h8;have q3:=aK (x:=b) (y:=c) (m:=1000000000) (n:=1000000000) h3 h4 h5 h6;have q4:=aK (x:=b) (y:=d) (m:=1000000000) (n:=1000000000) h3 h4 h7 h8;unfold cZ cX;omega
end M
theorem uR {P:Program} (ts:Array TypeId) (t:TypeId) (p q r s:Int) (W:World):Sem.run P (Builtin.min_ ts t #[.int .i64 p,.int .i64 q,.int .i64 r,.int .i64 s]) W=.ok (.int .i64 (min p (min q (min r s)))) W:=by
 simp [Builtin.min_,Builtin.min2]
 repeat' split
 all_goals omega
theorem uQ {P:Program} (ts:Array TypeId) (t:TypeId) (p q r s:Int) (W:World):Sem.run P (Builtin.max_ ts t #[.int .i64 p,.int .i64 q,.int .i64 r,.int .i64 s]) W=.ok (.int .i64 (max p (max q (max r s)))) W:=by
 simp [Builtin.max_,Builtin.max2]
 repeat' split
 all_goals omega
theorem vw (a b c d:Int) (w:World) (h1:-1000000000≤a) (h2:a≤1000000000) (h3:-1000000000≤b) (h4:b≤1000000000) (h5:-1000000000≤c) (h6:c≤1000000000) (h7:-1000000000≤d) (h8:d≤1000000000) :
  Calls Tryz.prog 99 #[.agg #[.int .i64 a,.int .i64 b],.agg #[.int .i64 c,.int .i64 d]] w fun e w'=>e=.returned (.agg #[.int .i64 (M.cZ a b c d / 4096),.int .i64 (-(-M.cX a b c d / 4096))])∧Below w.heap.size w w':=by
 have q1:=M.aK (x:=a) (y:=c) (m:=1000000000) (n:=1000000000) h1 h2 h5 h6;have q2:=M.aK (x:=a) (y:=d) (m:=1000000000) (n:=1000000000) h1 h2 h7 h8;have q3:=M.aK (x:=b) (y:=c) (m:=1000000000) (n:=1000000000) h3 h4 h5 h6;have q4:=M.aK (x:=b) (y:=d) (m:=1000000000) (n:=1000000000) h3 h4 h7 h8;obtain ⟨t1,t2,t3,t4⟩:=M.wM h1 h2 h3 h4 h5 h6 h7 h8;have Ae:M.cZ a b c d=min (a*c) (min (a*d) (min (b*c) (b*d))):=rfl;have hma:M.cX a b c d=max (a*c) (max (a*d) (max (b*c) (b*d))):=rfl
 have P1:=fun W=>fB (M.cZ a b c d) 4096 W (by omega) (by omega) (by omega) (by omega)
 have P2:=fun W=>fB (-M.cX a b c d) 4096 W (by omega) (by omega) (by omega) (by omega)
 have f2:=dT (a:=-M.cX a b c d) (b:=4096) (k:=1000000000000000000) (by omega) (by omega) (by omega) (by omega);obtain ⟨f3,f4⟩:=f2;replace P1:=yJ P1;replace P2:=yJ P2;generalize M.cX a b c d=ma,M.cZ a b c d=mi at *;have S:=((aH.new w #[.int .i64 a,.int .i64 b] 68).alloc (.cells #[.int .i64 c,.int .i64 d] 68)).alloc (.cells #[.int .i64 0,.int .i64 0] 68);have T:=(aH.new (w.alloc (.cells #[.int .i64 a,.int .i64 b] 68)) #[.int .i64 c,.int .i64 d] 68).alloc (.cells #[.int .i64 0,.int .i64 0] 68);rw [yK] at T;have R:=aH.new ((w.alloc (.cells #[.int .i64 a,.int .i64 b] 68)).alloc (.cells #[.int .i64 c,.int .i64 d] 68)) #[.int .i64 0,.int .i64 0] 68;rw [cU] at R;have B:=(((yM w.heap.size w).alloc (yN _) (.cells #[.int .i64 a,.int .i64 b] 68)).alloc (by rw [yK];omega) (.cells #[.int .i64 c,.int .i64 d] 68)).alloc (by rw [cU];omega) (.cells #[.int .i64 0,.int .i64 0] 68);generalize hw3:((w.alloc (.cells #[.int .i64 a,.int .i64 b] 68)).alloc (.cells #[.int .i64 c,.int .i64 d] 68)).alloc (.cells #[.int .i64 0,.int .i64 0] 68)=wc at *;replace Ae:=yJ Ae;replace hma:=yJ hma;go_enter Tryz.func99,Tryz.ntmps99
 go_wp2
 go_upto_region 1 with fail
 refine Rg.bK 24 [.is (.pointer (some ⟨w.heap.size,0,none⟩)),.is (.int .i64 a),.is (.pointer (some ⟨w.heap.size+1,0,none⟩)),.is (.int .i64 c),.is (.int .i64 (a*c)),.is (.pointer (some ⟨w.heap.size,0,none⟩)),.is (.int .i64 a),.is (.pointer (some ⟨w.heap.size+1,1,none⟩)),.is (.int .i64 d),.is (.int .i64 (a*d)),.is (.pointer (some ⟨w.heap.size,1,none⟩)),.is (.int .i64 b),.is (.pointer (some ⟨w.heap.size+1,0,none⟩)),.is (.int .i64 c),.is (.int .i64 (b*c)),.is (.pointer (some ⟨w.heap.size,1,none⟩)),.is (.int .i64 b),.is (.pointer (some ⟨w.heap.size+1,1,none⟩)),.is (.int .i64 d),.is (.int .i64 (b*d)),.is (.int .i64 (a*c)),.is (.int .i64 (a*d)),.is (.int .i64 (b*c)),.is (.int .i64 (b*d))] (by kernel_rfl) (by kernel_rfl) (by kernel_rfl) ⟨?_,?_,?_,?_,?_,?_,?_,?_,?_,?_,?_,?_,?_,?_,?_,?_,?_,?_,?_,?_,?_,?_,?_,?_,trivial⟩ ?_
 ·intro _ zZ w_ hB hr
  have e2:zZ.tmps[2]?=some (.pointer (some ⟨w.heap.size,0,none⟩)):=hr 2 (by decide);exact Rg.aG rfl (by go_simp)
 ·intro _ zZ w_ hB hr
  have e9:=Rg.a_ (hr 9 (by decide));have k0:=aE hB S.box.c0;exact Rg.aG rfl (by go_simp)
 ·intro _ zZ w_ hB hr
  have e3:zZ.tmps[3]?=some (.pointer (some ⟨w.heap.size+1,0,none⟩)):=hr 3 (by decide);exact Rg.aG rfl (by go_simp)
 ·intro _ zZ w_ hB hr
  have e11:=Rg.a_ (hr 11 (by decide));have k0:=aE hB T.box.c0;exact Rg.aG rfl (by go_simp)
 ·intro _ zZ w_ hB hr
  have e10:=Rg.a_ (hr 10 (by decide));have e12:=Rg.a_ (hr 12 (by decide));exact Rg.aG rfl (by go_simp <;> exact Rg.wo (by omega))
 ·intro _ zZ w_ hB hr
  have e2:zZ.tmps[2]?=some (.pointer (some ⟨w.heap.size,0,none⟩)):=hr 2 (by decide);exact Rg.aG rfl (by go_simp)
 ·intro _ zZ w_ hB hr
  have e14:=Rg.a_ (hr 14 (by decide));have k0:=aE hB S.box.c0;exact Rg.aG rfl (by go_simp)
 ·intro _ zZ w_ hB hr
  have e3:zZ.tmps[3]?=some (.pointer (some ⟨w.heap.size+1,0,none⟩)):=hr 3 (by decide);exact Rg.aG rfl (by go_simp)
 ·intro _ zZ w_ hB hr
  have e16:=Rg.a_ (hr 16 (by decide));have k1:=aE hB T.box.c1;exact Rg.aG rfl (by go_simp)
 ·intro _ zZ w_ hB hr
  have e15:=Rg.a_ (hr 15 (by decide));have e17:=Rg.a_ (hr 17 (by decide));exact Rg.aG rfl (by go_simp <;> exact Rg.wo (by omega))
 ·intro _ zZ w_ hB hr
  have e2:zZ.tmps[2]?=some (.pointer (some ⟨w.heap.size,0,none⟩)):=hr 2 (by decide);exact Rg.aG rfl (by go_simp)
 ·intro _ zZ w_ hB hr
  have e19:=Rg.a_ (hr 19 (by decide));have k1:=aE hB S.box.c1;exact Rg.aG rfl (by go_simp)
 ·intro _ zZ w_ hB hr
  have e3:zZ.tmps[3]?=some (.pointer (some ⟨w.heap.size+1,0,none⟩)):=hr 3 (by decide);exact Rg.aG rfl (by go_simp)
 ·intro _ zZ w_ hB hr
  have e21:=Rg.a_ (hr 21 (by decide));have k0:=aE hB T.box.c0;exact Rg.aG rfl (by go_simp)
 ·intro _ zZ w_ hB hr
  have e20:=Rg.a_ (hr 20 (by decide));have e22:=Rg.a_ (hr 22 (by decide));exact Rg.aG rfl (by go_simp <;> exact Rg.wo (by omega))
 ·intro _ zZ w_ hB hr
  have e2:zZ.tmps[2]?=some (.pointer (some ⟨w.heap.size,0,none⟩)):=hr 2 (by decide);exact Rg.aG rfl (by go_simp)
 ·intro _ zZ w_ hB hr
  have e24:=Rg.a_ (hr 24 (by decide));have k1:=aE hB S.box.c1;exact Rg.aG rfl (by go_simp)
 ·intro _ zZ w_ hB hr
  have e3:zZ.tmps[3]?=some (.pointer (some ⟨w.heap.size+1,0,none⟩)):=hr 3 (by decide);exact Rg.aG rfl (by go_simp)
 ·intro _ zZ w_ hB hr
  have e26:=Rg.a_ (hr 26 (by decide));have k1:=aE hB T.box.c1;exact Rg.aG rfl (by go_simp)
 ·intro _ zZ w_ hB hr
  have e25:=Rg.a_ (hr 25 (by decide));have e27:=Rg.a_ (hr 27 (by decide));exact Rg.aG rfl (by go_simp <;> exact Rg.wo (by omega))
 ·intro _ zZ w_ hB hr
  have e13:=Rg.a_ (hr 13 (by decide));exact Rg.aG rfl (by go_simp)
 ·intro _ zZ w_ hB hr
  have e18:=Rg.a_ (hr 18 (by decide));exact Rg.aG rfl (by go_simp)
 ·intro _ zZ w_ hB hr
  have e23:=Rg.a_ (hr 23 (by decide));exact Rg.aG rfl (by go_simp)
 ·intro _ zZ w_ hB hr
  have e28:=Rg.a_ (hr 28 (by decide));exact Rg.aG rfl (by go_simp)
 intro vals wz hB hv hne;have EG:vals 20=.int .i64 (a*c):=hv 20 (by decide);have JB:vals 21=.int .i64 (a*d):=hv 21 (by decide);have CU:vals 22=.int .i64 (b*c):=hv 22 (by decide);have EH:vals 23=.int .i64 (b*d):=hv 23 (by decide);simp only [Rg.ak,Rg.fill,Act.put,Nat.reduceAdd];clear hv;simp only [EG,JB,CU,EH];clear EG JB CU EH;replace R:=R.keep hB;have ⟨c0,c1,f0,f1,_⟩:=R.box;have hw4:=i_ B hB;clear S T hw3 hB B;generalize b*d=s,b*c=r,a*d=q,a*c=p at *;unfold Rg.aW;have P3:=P1.out;have P4:=P2.out;rw [Ae.out] at P3;rw [hma.out] at P4;replace P3:=yJ P3;replace P4:=yJ P4;rw [Ae.out] at t1 t2;rw [hma.out] at t3 t4 f3 f4;clear P1 P2
 have m4:=fun (W:World) ts t=>uR (P:=Tryz.prog) ts t p q r s W
 have x4:=fun (W:World) ts t=>uQ (P:=Tryz.prog) ts t p q r s W
 rw [show w.heap.size+2=w.heap.size+1+1 by omega] at c0 c1 f0 f1
 go_wp2_with (go_at_call 120;first | ((with_reducible refine (P3.out _).mono ?_);rintro e w4 ⟨rfl,rfl⟩) | ((with_reducible refine (P4.out _).mono ?_);rintro e w4 ⟨rfl,rfl⟩))
 exact bodyPost_ret (v:=.agg #[.int .i64 (min p (min q (min r s)) / 4096),.int .i64 (-(-max p (max q (max r s)) / 4096))]) (by simp [results,Tryz.results99,go_sem, *]) rfl (⟨by rw [Ae.out,hma.out],(by repeat (first | exact yM _ _ | refine aR ?_ _ | refine aS ?_ (by assumption) | refine Below.drew ?_ | refine yL ?_ (by first | exact yN _ | exact Nat.le_add_right _ _ | (simp <;> omega)) _ | refine aL ?_ _))⟩)
theorem gI (a:Int) (w:World) (h:(M.AB a 4096).isSome=true) :
  Calls Tryz.prog 106 #[.agg #[.int .i64 (M.pn a),.int .i64 (M.pd a)]] w fun e w'=>e=.returned (.tuple #[.int .i64 a,.bool (M.ins a (-409600000) 409600000)])∧Below w.heap.size w w':=by
 obtain ⟨hok,d1,d2,hm,hp,g1,g2,n1,n2⟩:=M.pK h;have Mf:=M.ww h;obtain ⟨r1,r2⟩:=Mf
 have PF:=fun W=>kB (M.pn a) (M.pd a) W
 rw [hok] at PF;generalize M.pd a=d,M.pn a=n at *
 have hd0:¬ d=0:=by omega
 have ht:(4096:Int).tmod d=0:=by rw [Int.tmod_eq_emod_of_nonneg (by omega)];exact hm
 have hq:(4096:Int).tdiv d=4096 / d:=Int.tdiv_eq_ediv_of_nonneg (by omega)
 have PI:=fun W=>df a (-409600000) 409600000 W
 replace PF:=yJ PF;replace PI:=yJ PI;clear h hok;generalize 4096 / d=g at *;have hq2:=yJ hq;have hp2:=yJ hp;have hw1:=yJ (show IntKind.i64.wrap g=g from IntWalk.i64_in _ (by omega));have hw2:=yJ (show IntKind.i64.wrap (n*g)=a by rw [hp];exact IntWalk.i64_in _ (by omega));clear hq hp;have hm2:=yJ hm;have V:=aH.new w #[.int .i64 n,.int .i64 d] 45;have B:=(yM w.heap.size w).alloc (yN _) (.cells #[.int .i64 n,.int .i64 d] 45);generalize hw3:w.alloc (.cells #[.int .i64 n,.int .i64 d] 45)=wc at *;have yf:=V.box.c0;have yg:=V.box.c1;go_enter Tryz.func106,Tryz.ntmps106
 go_upto_region 3 with (go_at_call 61;(with_reducible refine (PF.out _).mono ?_);rintro e w4 ⟨rfl,hb4⟩;replace V:=V.keep hb4;replace B:=i_ B hb4;(replace ⟨yf,yg⟩:=V.b2))
 refine Rg.bK 7 [.is (.pointer (some ⟨w.heap.size,0,none⟩)),.is (.int .i64 n),.is (.pointer (some ⟨w.heap.size,1,none⟩)),.is (.int .i64 d),.is (.int .i64 g),.is (.int .i64 a),.is (.int .i64 a)] (by kernel_rfl) (by kernel_rfl) (by kernel_rfl) ⟨?_,?_,?_,?_,?_,?_,?_,trivial⟩ ?_
 ·intro _ zZ w_ hB hr
  have e1:zZ.tmps[1]?=some (.pointer (some ⟨w.heap.size,0,none⟩)):=hr 1 (by decide);exact Rg.aG rfl (by go_simp)
 ·intro _ zZ w_ hB hr
  have e14:=Rg.a_ (hr 14 (by decide));have k0:=aE hB V.box.c0;exact Rg.aG rfl (by go_simp)
 ·intro _ zZ w_ hB hr
  have e1:zZ.tmps[1]?=some (.pointer (some ⟨w.heap.size,0,none⟩)):=hr 1 (by decide);exact Rg.aG rfl (by go_simp)
 ·intro _ zZ w_ hB hr
  have e16:=Rg.a_ (hr 16 (by decide));have k1:=aE hB V.box.c1;exact Rg.aG rfl (by go_simp)
 ·intro _ zZ w_ hB hr
  have e17:=Rg.a_ (hr 17 (by decide));have ec:=Rg.ec zZ;exact Rg.aG rfl (by go_simp;first | done | (rw [hq2.out];first | done | rw [hw1.out] | (exact ⟨hd0,by rw [hw1.out]⟩)) | (simp only [hq2.out,hw1.out];done) | (simp [hq2.out,hw1.out,hd0];done))
 ·intro _ zZ w_ hB hr
  have e15:=Rg.a_ (hr 15 (by decide));have e18:=Rg.a_ (hr 18 (by decide));exact Rg.aG rfl (by go_simp;first | done | (rw [hw2.out];done) | exact hw2.out)
 ·intro _ zZ w_ hB hr
  have e19:=Rg.a_ (hr 19 (by decide));exact Rg.aG rfl (by go_simp)
 intro vals wz hB hv hne;have Cz:vals 6=.int .i64 a:=hv 6 (by decide);simp only [Rg.ak,Rg.fill,Act.put,Nat.reduceAdd];clear hv;simp only [Cz];clear Cz;unfold Rg.aW
 go_wp2_with (go_at_call 47;(with_reducible refine (PI.out _).mono ?_);rintro e w6 ⟨rfl,rfl⟩)
 go_ret2;exact ⟨rfl,i_ B hB⟩
theorem kJ (a b:Int) (w:World) (h1:(M.AB a 4096).isSome=true) (h2:(M.AB b 4096).isSome=true) :
  Calls Tryz.prog 108 #[.agg #[.int .i64 (M.pn a),.int .i64 (M.pd a),.int .i64 (M.pn b),.int .i64 (M.pd b)]] w fun e w'=>e=.returned (.bool (M.aN a b))∧Below w.heap.size w w':=by
 have P1:=yJ fun W=>gI a W h1
 have P2:=yJ fun W=>gI b W h2
 have hs:M.aN a b=(M.ins a (-409600000) 409600000 && M.ins b (-409600000) 409600000 && decide (a≤b)):=by
  rw [Bool.eq_iff_iff];unfold M.aN M.ins;simp only [Bool.and_eq_true,decide_eq_true_eq];omega
 rw [hs];clear hs;generalize M.pd b=d2,M.pn b=n2,M.pd a=d1,M.pn a=n1 at *;have V:=aH.new w #[.int .i64 n1,.int .i64 d1,.int .i64 n2,.int .i64 d2] 64;have B:=(yM w.heap.size w).alloc (yN _) (.cells #[.int .i64 n1,.int .i64 d1,.int .i64 n2,.int .i64 d2] 64);generalize hw3:w.alloc (.cells #[.int .i64 n1,.int .i64 d1,.int .i64 n2,.int .i64 d2] 64)=wc at *;have yf:=V.aM.c0;have yg:=V.aM.c1;have AE:=V.aM.c2;have AF:=V.aM.c3;generalize M.ins b (-409600000) 409600000=i2,M.ins a (-409600000) 409600000=i1 at *
 by_cases hab:a≤b <;> cases i1 <;> cases i2
 all_goals
  go_enter Tryz.func108,Tryz.ntmps108
  go_wp2_with (go_at_call 106;first | ((with_reducible refine (P1.out _).mono ?_);rintro e w4 ⟨rfl,hb4⟩;have V4:=V.keep hb4;have B4:=i_ B hb4;have y0:=V4.aM.c0;have y1:=V4.aM.c1;have y2:=V4.aM.c2;have y3:=V4.aM.c3) | ((with_reducible refine (P2.out _).mono ?_);rintro e w5 ⟨rfl,hb5⟩;have B5:=i_ B4 hb5))
  all_goals
   go_ret;exact ⟨by first | rfl | (simp [hab];done) | (exact dA (by simp [hab];done)) | (exact dA (by simp <;> omega)),B5⟩
theorem dn (a b:Int) (w:World) (h1:(M.AB a 4096).isSome=true) (h2:(M.AB b 4096).isSome=true) :
  Calls Tryz.prog 89 #[.agg #[.int .i64 (M.pn a),.int .i64 (M.pd a),.int .i64 (M.pn b),.int .i64 (M.pd b)]] w fun e w'=>e=.returned (.tuple #[.int .i64 a,.int .i64 b])∧Below w.heap.size w w':=by
 have P1:=yJ fun W=>gI a W h1
 have P2:=yJ fun W=>gI b W h2
 generalize M.ins b (-409600000) 409600000=i2,M.ins a (-409600000) 409600000=i1,M.pd b=d2,M.pn b=n2,M.pd a=d1,M.pn a=n1 at *;have V:=aH.new w #[.int .i64 n1,.int .i64 d1,.int .i64 n2,.int .i64 d2] 64;have B:=(yM w.heap.size w).alloc (yN _) (.cells #[.int .i64 n1,.int .i64 d1,.int .i64 n2,.int .i64 d2] 64);generalize hw3:w.alloc (.cells #[.int .i64 n1,.int .i64 d1,.int .i64 n2,.int .i64 d2] 64)=wc at *;have yf:=V.aM.c0;have yg:=V.aM.c1;have AE:=V.aM.c2;have AF:=V.aM.c3;go_enter Tryz.func89,Tryz.ntmps89
 go_wp2_with (go_at_call 106;first | ((with_reducible refine (P1.out _).mono ?_);rintro e w4 ⟨rfl,hb4⟩;have V4:=V.keep hb4;have B4:=i_ B hb4;have y0:=V4.aM.c0;have y1:=V4.aM.c1;have y2:=V4.aM.c2;have y3:=V4.aM.c3) | ((with_reducible refine (P2.out _).mono ?_);rintro e w5 ⟨rfl,hb5⟩;have B5:=i_ B4 hb5))
 go_ret2;exact ⟨rfl,B5⟩
end
section
namespace M
theorem kH {p:Int} (h:1≤p):∀ k:Nat,1≤fG p k
 | 0=>by simp [fG]
 | k+1=>by
  have h1:=kH h k;have:=Int.mul_le_mul h1 h (by omega) (by omega)
  simpa [fG] using this
theorem rI {p:Int} (h:1≤p) (k:Nat):fG p k≤fG p (k+1):=by
 have h1:=kH h k;have:=Int.mul_le_mul_of_nonneg_left h (show 0≤fG p k by omega);simp only [fG];omega
theorem lG {p:Int} (h:1≤p) {i j:Nat} (hij:i≤j):fG p i≤fG p j:=by
 induction j with
 | zero=>
      obtain rfl:i=0:=by omega
      exact Int.le_refl _
 | succ j ih=>
 rcases Nat.lt_or_ge i (j+1) with q | q
 ·exact Int.le_trans (ih (by omega)) (rI h j)
 obtain rfl:i=j+1:=by omega
 exact Int.le_refl _
def wE (p:Int) (d:Nat):Prop:=fG p d≤1000000000∧1000000000<fG p (d+1)
theorem wE.le {p:Int} {d j:Nat} (hp:1≤p) (h:wE p d) (hj:j≤d):fG p j≤1000000000:=Int.le_trans (lG hp hj) h.1
end M
end
section
open Go.RowKit
theorem nj (p:Int) (k:Nat) (w:World) (p1:1≤p) (hb:M.fG p k≤4000000000000000000) (hk:k≤1000) :
  Calls Tryz.prog 138 #[.int .i64 p,.int .i64 k] w fun e w'=>e=.returned (.int .i64 (M.fG p k))∧w=w':=by
 go_enter Tryz.func138,Tryz.ntmps138
 go_wp2
 go_loop [5,7] (fun vo vi=>∃ j:Nat,j≤k∧vi=.int .i64 j∧vo=.int .i64 (M.fG p j)) (fun _ vi=>(k - (intOf vi).toNat))
 case atStart=>exact ⟨0,by omega,rfl,rfl⟩
 case round=>
 obtain ⟨j,hj,rfl,rfl⟩:=hrel
 by_cases hlt:j<k
 ·have h1:=M.kH p1 j
  have h2:=M.lG p1 (show j+1≤k from hlt);have h3:M.fG p j*p≤4000000000000000000:=Int.le_trans h2 hb;have h4:0≤M.fG p j*p:=Int.mul_nonneg (by omega) (by omega);go_wp2
  go_round
  case rel=>exact ⟨j+1,by omega,by go_num,rfl⟩
  case measure=>simp [intOf];omega
 obtain rfl:j=k:=by omega
 go_wp2;go_ret;exact ⟨rfl,rfl⟩
theorem lL (a b:Int) (w:World) :
  Calls Tryz.prog 90 #[.int .i64 a,.int .i64 b] w fun e w'=>e=.returned (.int .i64 (min a b))∧w=w':=by
 by_cases h:a<b
 ·have h2:min a b=a:=by omega
  rw [h2];go_enter Tryz.func90,Tryz.ntmps90
  go_wp2;go_ret;exact ⟨rfl,rfl⟩
 have h2:min a b=b:=by omega
 rw [h2];go_enter Tryz.func90,Tryz.ntmps90
 go_wp2;go_ret;exact ⟨rfl,rfl⟩
end
end Go.Proofs.YtgfkcoablfjbcaaGreat
