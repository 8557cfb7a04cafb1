/-
  Joined texts: contracts and plain lemmas.
-/
import Derived.Test.YtggekfbfechonaaGreatY1
import Derived.Test.YtggekfbfechonaaGreatY8
import Derived.Test.YtggekfbfechonaaGreatY2
import Derived.Deep.DeepCutAuto
import Derived.Deep.RegionWith
set_option linter.unusedSimpArgs false
set_option linter.unusedVariables false
set_option maxRecDepth 100000
set_option maxHeartbeats 8000000
namespace Go.Proofs.YtggekfbfechonaaGreat
section
open Go.RowKit
namespace M
inductive Out where
 | inf
 | bad
 | val (x z:Int)
def nx (a b:Int):Out→Out
 | .val x z=>if Wh.am a b x z=0 then .inf else if Wh.dU (M.ae a b) (Wh.aw a b x z) (Wh.am a b x z)=true then .val (Wh.Bd (M.ae a b) (Wh.aw a b x z) (Wh.am a b x z)) (Wh.Bc (M.ae a b) (Wh.aw a b x z) (Wh.am a b x z)) else .bad
 | o=>o
def run (a b:Int):Nat→Out→Out
 | 0,o=>o
 | k+1,o=>nx a b (run a b k o)
theorem iB {a b:Int} {o:Out} {k:Nat} (h:run a b k o=.inf):∀ n,k≤n→run a b n o=.inf
 | 0,hn=>by
        obtain rfl:k=0:=by omega
        exact h
 | n+1,hn=>by
  by_cases e:k=n+1
  ·exact e ▸ h
  show nx a b (run a b n o)=.inf
  rw [iB h n (by omega)];rfl
theorem iA {a b:Int} {o:Out} {k:Nat} (h:run a b k o=.bad):∀ n,k≤n→run a b n o=.bad
 | 0,hn=>by
        obtain rfl:k=0:=by omega
        exact h
 | n+1,hn=>by
  by_cases e:k=n+1
  ·exact e ▸ h
  show nx a b (run a b n o)=.bad
  rw [iA h n (by omega)];rfl
def bk:Out→Int
 | .val x z=>max (Wh.bl x.natAbs:Nat) (Wh.bl z.natAbs:Nat)
 | _=>0
def isInf:Out→Bool
 | .inf=>true
 | _=>false
def isOk:Out→Bool
 | .bad=>false
 | _=>true
def aX (a b X E:Int) (n:Nat):Out:=if E=0 then .inf else run a b n (.val X (E*E))
end M
namespace Wh
theorem l8 {n k:Nat} (h:n<2 ^ k):bl n≤k:=by
 unfold bl
 split
 ·omega
 rename_i h0
 have:=(Nat.log2_lt h0 (k:=k)).2 h;omega
theorem fp {z:Int} {n:Nat} (h:sz z n):bl z.natAbs≤14*n:=by
 refine l8 (Nat.lt_of_lt_of_le h ?_);rw [Nat.pow_mul];exact Nat.pow_le_pow_left (by decide) n
theorem gy {x z:Int} (h:cV x z=true):sz x 1000∧sz z 1000:=by
 unfold cV M.ins at h;simp only [Bool.and_eq_true,decide_eq_true_eq] at h;exact ⟨aN (aY.1 h.1.1) (by omega),aN (aY.1 (show (a_ z.natAbs).length≤80 by omega)) (by omega)⟩
theorem gc {D F G:Int} (h:dU D F G=true):cV (Bd D F G) (Bc D F G)=true:=by
 unfold dU at h;rw [Bool.and_eq_true] at h;exact h.2
end Wh
def nW (base:Nat) (x z:Int) (v:Value) (W:World):Prop:=∃ s1 s2,v=.agg #[.bool (decide (x<0)),s1,.bool (decide (z<0)),s2]∧aF W base s1 (Wh.a_ x.natAbs)∧aF W base s2 (Wh.a_ z.natAbs)
theorem nW.view {base:Nat} {x z:Int} {v:Value} {W:World} (h:nW base x z v W):∃ (s:Bool) (a:Option Addr) (l c:Nat),Hid (s=decide (x<0))∧∃ (r:Bool) (b:Option Addr) (m d:Nat),Hid (r=decide (z<0))∧v=.agg #[.bool s,.slice a l c,.bool r,.slice b m d]∧aF W base (.slice a l c) (Wh.a_ x.natAbs)∧aF W base (.slice b m d) (Wh.a_ z.natAbs):=by
 obtain ⟨s1,s2,rfl,h1,h2⟩:=h;obtain ⟨a,c,rfl,-,-⟩:=aF.view h1;obtain ⟨b,d,rfl,-,-⟩:=aF.view h2;exact ⟨_,a,_,c,wH rfl,_,b,_,d,wH rfl,rfl,h1,h2⟩
theorem nW.J9 {base k j:Nat} {x z:Int} {s1 s2:Value} {W:World} (h1:aF W k s1 (Wh.a_ x.natAbs)) (h2:aF W j s2 (Wh.a_ z.natAbs)) (hk:base≤k) (hj:base≤j):(Rg.Val.at (nW base x z)).ok (.agg #[.bool (decide (x<0)),s1,.bool (decide (z<0)),s2]) W:=fun _ hb=>⟨s1,s2,rfl,(aF.below h1 hb).base hk,(aF.below h2 hb).base hj⟩
theorem ft (q:Bool) (A:Option Addr) (L C:Nat) (W:World):Sem.run Tryz.prog (Instr.field 125 (.agg #[.bool q,.slice A L C]) 1) W=.ok (.slice A L C) W:=by kernel_rfl
theorem aH.aK {W:World} {g:Nat} {T:TypeId} {u v x:Value} (h:aH W g T #[u,v,x]):W.cell? ⟨g,0,none⟩=some u∧W.cell? ⟨g,1,none⟩=some v∧W.cell? ⟨g,2,none⟩=some x:=⟨h.cell 0,h.cell 1,h.cell 2⟩
theorem jZ (a b X Y E:Int) (n:Nat) (w:World) (hg:M.good a b=true) (hX1:-10000≤X) (hX2:X≤10000) (hE1:0≤E) (hE2:E≤20) (hn:n≤5) :
  Calls Tryz.prog 105 #[.agg #[.int .i64 a,.int .i64 b],.agg #[.int .i64 X,.int .i64 Y,.int .i64 E],.int .i64 (n:Int)] w fun e w'=>e=.returned (.tuple #[.int .i64 (M.bk (M.aX a b X E n)),.bool (M.isInf (M.aX a b X E n)),.bool (M.isOk (M.aX a b X E n))])∧Below w.heap.size w w':=by
 have C:=(aH.new w #[.int .i64 a,.int .i64 b] 25).alloc (.cells #[.int .i64 X,.int .i64 Y,.int .i64 E] 27)
 have Q:=(aH.new (w.alloc (.cells #[.int .i64 a,.int .i64 b] 25)) #[.int .i64 X,.int .i64 Y,.int .i64 E] 27)
 rw [wI] at Q;have B:=((wK w.heap.size w).alloc (wL _) (.cells #[.int .i64 a,.int .i64 b] 25)).alloc (by rw [wI];omega) (.cells #[.int .i64 X,.int .i64 Y,.int .i64 E] 27)
 have BG:w.heap.size+2≤((w.alloc (.cells #[.int .i64 a,.int .i64 b] 25)).alloc (.cells #[.int .i64 X,.int .i64 Y,.int .i64 E] 27)).heap.size:=by rw [wI,wI];omega
 generalize hw3:(w.alloc (.cells #[.int .i64 a,.int .i64 b] 25)).alloc (.cells #[.int .i64 X,.int .i64 Y,.int .i64 E] 27)=wc at *;have ⟨q0,q1,q2⟩:=Q.aK;have f_:=C.box.c0;have g_:=C.box.c1
 by_cases h0:E=0
 ·subst h0
  have hz0:M.aX a b X 0 n=.inf:=rfl;rw [hz0];clear hz0;go_enter Tryz.func105,Tryz.ntmps105
  go_wp2;exact bodyPost_ret (v:=.tuple #[.int .i64 0,.bool true,.bool true]) (by simp [results,Tryz.results105,go_sem, *]) rfl (⟨rfl,B⟩)
 have hE:1≤E:=by omega
 have Fd:1≤E*E∧E*E≤400:=⟨by have:=Int.mul_le_mul hE hE (by omega) (by omega);omega,by have:=Int.mul_le_mul hE2 hE2 (by omega) (by omega);omega⟩
 have hE0:(E == 0)=false:=by rw [beq_eq_false_iff_ne];exact h0
 have hout:M.aX a b X E n=M.run a b n (.val X (E*E)):=if_neg h0;rw [hout];clear hout h0;obtain ⟨e1,e2⟩:=Fd
 have P1:=wH fun W=>bj X W (by omega) (by omega)
 have P2:=wH fun W=>bj (E*E) W (by omega) (by omega)
 have zX:Wh.sz X 1000:=Wh.aN (Wh.bc (by omega) (by omega)) (by omega);have zE:Wh.sz (E*E) 1000:=Wh.aN (Wh.bc (by omega) (by omega)) (by omega);have zX:=wH zX;have zE:=wH zE
 have hb2:-10000≤b∧b≤10000:=⟨(M.an (M.ag hg)).2.2.1,(M.an (M.ag hg)).2.2.2⟩
 have ha2:-1000≤a∧a≤1000:=⟨(M.an (M.ag hg)).1,(M.an (M.ag hg)).2.1⟩
 obtain ⟨hb1,hb2⟩:=hb2;obtain ⟨ha1,ha2⟩:=ha2;have hg:=wH hg
 have PG:=wH fun (x z:Int) (s r:Bool) v v' W k k' (h1:aF W k v (Wh.a_ x.natAbs)) (h2:aF W k' v' (Wh.a_ z.natAbs)) (hx:Wh.sz x 1000) (hz:Wh.sz z 1000) (hs:s=decide (x<0)) (hr:r=decide (z<0))=>(hs ▸ hr ▸ dc a b x z v v' W k k' h1 h2 hx hz ha1 ha2 hb1 hb2:Calls Tryz.prog 154 #[.agg #[.int .i64 a,.int .i64 b],.agg #[.bool s,v,.bool r,v']] W fun e w'=>∃ sl,e=.returned (.agg #[.bool (decide (Wh.am a b x z<0)),sl])∧ak w' W.heap.size sl (Wh.am a b x z)∧Below W.heap.size W w')
 have PD:=wH fun (x z:Int) (s r:Bool) v v' W k k' (h1:aF W k v (Wh.a_ x.natAbs)) (h2:aF W k' v' (Wh.a_ z.natAbs)) (hx:Wh.sz x 1000) (hz:Wh.sz z 1000) (hs:s=decide (x<0)) (hr:r=decide (z<0))=>(hs ▸ hr ▸ pl a b x z v v' W k k' hg.out h1 h2 hx hz:Calls Tryz.prog 155 #[.agg #[.int .i64 a,.int .i64 b],.agg #[.bool s,v,.bool r,v']] W fun e w'=>∃ v1 v2,e=.returned (.tuple #[.agg #[.bool (decide (Wh.AE (M.ae a b) (Wh.aw a b x z) (Wh.am a b x z)<0)),v1,.bool (decide (Wh.AF (M.ae a b) (Wh.aw a b x z) (Wh.am a b x z)<0)),v2],.bool (Wh.dU (M.ae a b) (Wh.aw a b x z) (Wh.am a b x z))])∧ak w' W.heap.size v1 (Wh.AE (M.ae a b) (Wh.aw a b x z) (Wh.am a b x z))∧ak w' W.heap.size v2 (Wh.AF (M.ae a b) (Wh.aw a b x z) (Wh.am a b x z))∧Below W.heap.size W w')
 have PB:=wH fun (x:Int) (s:Bool) v W k (h1:aF W k v (Wh.a_ x.natAbs)) (hx:Wh.sz x 1000) (hs:s=decide (x<0))=>(hs ▸ l6 x v W k h1 (Wh.aY.2 (Wh.aN hx (by omega))) (Nat.le_trans (Wh.fp hx) (by omega)):Calls Tryz.prog 156 #[.agg #[.bool s,v]] W fun e w'=>e=.returned (.int .i64 (Wh.bl x.natAbs:Nat))∧Below W.heap.size W w')
 clear ha1 ha2 hb1 hb2
 have IF:=fun q A L C W=>ft q A L C W
 have i2:IntKind.i64.wrap (E*E)=E*E:=IntWalk.i64_in _ (by omega);have i2:=wH i2;go_enter Tryz.func105,Tryz.ntmps105
 go_upto_region 3 with fail
 refine Rg.bO 11 [.is (.pointer (some ⟨w.heap.size+1,0,none⟩)),.is (.int .i64 X),.at (aJ (wc.heap.size) (X)),.is (.pointer (some ⟨w.heap.size+1,2,none⟩)),.is (.int .i64 E),.is (.pointer (some ⟨w.heap.size+1,2,none⟩)),.is (.int .i64 E),.is (.int .i64 (E*E)),.at (aJ (wc.heap.size) (E*E)),.at (nW (wc.heap.size) (X) (E*E)),.new (wc.heap.size) 127 #[.bool false,.slice none 0 0,.bool false,.slice none 0 0]] (by kernel_rfl) (by kernel_rfl) (by kernel_rfl) ⟨?_,?_,?_,?_,?_,?_,?_,?_,?_,?_,?_,fun h_=>absurd h_ (by decide),trivial⟩ ?_
 ·intro _ zZ w_ hB hr
  have e4:zZ.tmps[4]?=some (.pointer (some ⟨w.heap.size+1,0,none⟩)):=hr 4 (by decide);exact Rg.aG rfl (by go_simp)
 ·intro _ zZ w_ hB hr
  have e15:=Rg.c_ (hr 15 (by decide));have k0:=aE hB Q.aK.1;exact Rg.aG rfl (by go_simp)
 ·intro _ zZ w_ hB hr
  have e16:=Rg.c_ (hr 16 (by decide));have ef:=Rg.ef zZ;refine Rg.ah rfl (by go_simp;exact ⟨rfl,rfl⟩) ?_;refine (P1.out _).mono ?_;rintro e w5 ⟨xX,rfl,wW,hb5⟩;exact ⟨_,rfl,aJ.at wW (by have:=hB.size;omega),hb5⟩
 ·intro _ zZ w_ hB hr
  have e4:zZ.tmps[4]?=some (.pointer (some ⟨w.heap.size+1,0,none⟩)):=hr 4 (by decide);exact Rg.aG rfl (by go_simp)
 ·intro _ zZ w_ hB hr
  have e18:=Rg.c_ (hr 18 (by decide));have k2:=aE hB Q.aK.2.2;exact Rg.aG rfl (by go_simp)
 ·intro _ zZ w_ hB hr
  have e4:zZ.tmps[4]?=some (.pointer (some ⟨w.heap.size+1,0,none⟩)):=hr 4 (by decide);exact Rg.aG rfl (by go_simp)
 ·intro _ zZ w_ hB hr
  have e20:=Rg.c_ (hr 20 (by decide));have k2:=aE hB Q.aK.2.2;exact Rg.aG rfl (by go_simp)
 ·intro _ zZ w_ hB hr
  have e19:=Rg.c_ (hr 19 (by decide));have e21:=Rg.c_ (hr 21 (by decide));exact Rg.aG rfl (by go_simp <;> exact Rg.wo (by omega))
 ·intro _ zZ w_ hB hr
  have e22:=Rg.c_ (hr 22 (by decide));have ef:=Rg.ef zZ;refine Rg.ah rfl (by go_simp;exact ⟨rfl,rfl⟩) ?_;refine (P2.out _).mono ?_;rintro e w5 ⟨xX,rfl,wW,hb5⟩;exact ⟨_,rfl,aJ.at wW (by have:=hB.size;omega),hb5⟩
 ·intro _ zZ w_ hB hr
  obtain ⟨v17,e17,n17⟩:∃ v,zZ.tmps[17]?=some v∧(Rg.Val.at (aJ (wc.heap.size) (X))).ok v w_:=hr 17 (by decide);obtain ⟨EB,a17,D1,c17,Dr,rfl,Ji⟩:=(Rg.aj n17).view;obtain ⟨v23,e23,n23⟩:∃ v,zZ.tmps[23]?=some v∧(Rg.Val.at (aJ (wc.heap.size) (E*E))).ok v w_:=hr 23 (by decide);obtain ⟨s23,a23,l23,c23,Dt,rfl,Gj⟩:=(Rg.aj n23).view;obtain rfl:=Dr.out;obtain rfl:=Dt.out;exact Rg.um rfl (by first | (go_simp;done) | (go_simp;rfl)) (nW.J9 Ji Gj (wL _) (wL _))
 ·intro _ zZ w_ hB hr
  exact ⟨by have:=hB.size;omega,rfl,by first | (go_simp;done) | (go_simp;rfl)⟩
 intro vals wz hB hv hne;have n9:(Rg.Val.new (wc.heap.size) 127 #[.bool false,.slice none 0 0,.bool false,.slice none 0 0]).ok (vals 10) wz:=hv 10 (by decide);have n24:(Rg.Val.at (nW (wc.heap.size) (X) (E*E))).ok (vals 9) wz:=hv 9 (by decide);simp only [Rg.ay,Rg.fill,Act.put,Nat.reduceAdd];clear hv;obtain ⟨g9,HM,xU,o9⟩:=n9;replace o9:aH wz g9 127 #[.bool false,.slice none 0 0,.bool false,.slice none 0 0]:=o9;obtain ⟨s24,a24,EM,c24,Cw,Gw,Ft,m24,GC,IM,yp,HU,p24⟩:=(Rg.aj n24).view;simp only [xU,yp];clear xU yp;have ⟨p0,p1,p2,p3,y0,y1,y2,y3,_⟩:=o9.aP;have R:=aH.uq o9 (.bool s24) (.slice a24 EM c24) (.bool Gw) (.slice Ft m24 GC);have ox:=wH (aF.base (aF.dF HU o9 (by decide) (.bool s24) (.slice a24 EM c24) (.bool Gw) (.slice Ft m24 GC)) (Nat.zero_le _));have oz:=wH (aF.base (aF.dF p24 o9 (by decide) (.bool s24) (.slice a24 EM c24) (.bool Gw) (.slice Ft m24 GC)) (Nat.zero_le _))
 have hkg:w.heap.size+2≤g9:=by omega
 have B2:Below w.heap.size w ((((wz.setCell ⟨g9,0,none⟩ (.bool s24)).setCell ⟨g9,1,none⟩ (.slice a24 EM c24)).setCell ⟨g9,2,none⟩ (.bool Gw)).setCell ⟨g9,3,none⟩ (.slice Ft m24 GC)):=wJ (wJ (wJ (wJ (d_ B hB) (by simp <;> omega) _) (by simp <;> omega) _) (by simp <;> omega) _) (by simp <;> omega) _;have C2:=((((C.keep hB).other (i:=0) (show w.heap.size≠g9 by omega) (.bool s24)).other (i:=1) (show w.heap.size≠g9 by omega) (.slice a24 EM c24)).other (i:=2) (show w.heap.size≠g9 by omega) (.bool Gw)).other (i:=3) (show w.heap.size≠g9 by omega) (.slice Ft m24 GC);unfold Rg.aZ Rg.aZ Oper.wp
 go_simp
 clear p0 p1 p2 p3 y0 y1 y2 y3 o9 HU p24 hB B Q q0 q1 q2 f_ g_ C BG HM i2 P1 P2 hE0 hw3;generalize ((((wz.setCell ⟨g9,0,none⟩ (.bool s24)).setCell ⟨g9,1,none⟩ (.slice a24 EM c24)).setCell ⟨g9,2,none⟩ (.bool Gw)).setCell ⟨g9,3,none⟩ (.slice Ft m24 GC))=wd at *;have Ao:M.run a b 0 (.val X (E*E))=.val X (E*E):=rfl;generalize hZ:E*E=Z at *;replace hZ:=wH hZ;replace Ao:=wH Ao;go_wp2
 go_loopw [26] (fun vi wr=>∃ (k:Nat) (x z:Int) (s:Bool) (av:Option Addr) (lv cv:Nat) (r:Bool) (bv:Option Addr) (mv dv:Nat),k≤n∧vi=.int .i64 k∧Hid (M.run a b k (.val X Z)=.val x z)∧aH wr g9 127 #[.bool s,.slice av lv cv,.bool r,.slice bv mv dv]∧aF wr 0 (.slice av lv cv) (Wh.a_ x.natAbs)∧aF wr 0 (.slice bv mv dv) (Wh.a_ z.natAbs)∧Hid (s=decide (x<0))∧Hid (r=decide (z<0))∧Wh.sz x 1000∧Wh.sz z 1000∧aH wr w.heap.size 25 #[.int .i64 a,.int .i64 b]∧Below w.heap.size w wr) (fun vi _=>n - (intOf vi).toNat)
 case atStart=>exact ⟨0,X,Z,s24,a24,EM,c24,Gw,Ft,m24,GC,Nat.zero_le _,rfl,Ao,R,ox.out,oz.out,Cw,IM,zX.out,zE.out,C2,B2⟩
 case round=>
 clear R ox oz C2 B2 Ao Cw IM zX zE;obtain ⟨k,x,z,s,av,lv,cv,r,bv,mv,dv,hk,rfl,hrun,R,ox,oz,hs,hr,zx,zz,C,B⟩:=hrel;have ox:=wH ox;have oz:=wH oz;have zx:=wH zx;have zz:=wH zz;have wP:=R.aP.c0;have wQ:=R.aP.c1;have wU:=R.aP.c2;have wV:=R.aP.c3;have f_:=C.box.c0;have g_:=C.box.c1
 by_cases hlt:k<n
 ·have DS:=wH fun v v' W i j h1 h2=>PG.out x z s r v v' W i j h1 h2 zx.out zz.out hs.out hr.out
  have AD:=wH fun v v' W i j h1 h2=>PD.out x z s r v v' W i j h1 h2 zx.out zz.out hs.out hr.out
  have hnx:M.run a b (k+1) (.val X Z)=M.nx a b (.val x z):=by show M.nx a b (M.run a b k (.val X Z))=_;rw [hrun.out]
  unfold M.nx at hnx
  dsimp only at hnx
  clear PG PD PB hs hr
  have zM:=fun h=>Wh.gy (Wh.gc (D:=M.ae a b) (F:=Wh.aw a b x z) (G:=Wh.am a b x z) h)
  have Ca:Wh.dU (M.ae a b) (Wh.aw a b x z) (Wh.am a b x z)=true→Wh.AE (M.ae a b) (Wh.aw a b x z) (Wh.am a b x z)=Wh.Bd (M.ae a b) (Wh.aw a b x z) (Wh.am a b x z)∧Wh.AF (M.ae a b) (Wh.aw a b x z) (Wh.am a b x z)=Wh.Bc (M.ae a b) (Wh.aw a b x z) (Wh.am a b x z):=fun h=>by unfold Wh.AE Wh.AF;rw [if_pos h,if_pos h];exact ⟨rfl,rfl⟩
  generalize Wh.dU (M.ae a b) (Wh.aw a b x z) (Wh.am a b x z)=ok,Wh.Bc (M.ae a b) (Wh.aw a b x z) (Wh.am a b x z)=dd,Wh.Bd (M.ae a b) (Wh.aw a b x z) (Wh.am a b x z)=nn,Wh.AF (M.ae a b) (Wh.aw a b x z) (Wh.am a b x z)=z',Wh.AE (M.ae a b) (Wh.aw a b x z) (Wh.am a b x z)=x' at *;have hG0:=@Wh.dx (Wh.am a b x z);generalize Wh.am a b x z=G at *;generalize decide (G<0)=sg at *
  by_cases hG:G=0
  ·rw [if_pos hG] at hnx
   have hfin:=wH (M.iB hnx n (by omega));have hl0:=hG0.2 hG;clear hnx hG hG0 zM Ca AD;generalize DI:(Wh.a_ G.natAbs).length=lg at *;subst hl0;replace DI:=wH DI
   go_wp2_with (go_at_call 154;(with_reducible refine (DS.out _ _ _ _ _ ox.out oz.out).mono ?_);rintro e w4 ⟨v4,rfl,xF,hb4⟩;obtain ⟨a4,c4,rfl,xD,wS⟩:=aF.view xF;clear xD wS;(rw [DI.out] at xF ⊢);replace C:=C.keep hb4;replace R:=R.keep hb4;replace B:=d_ B hb4;(replace ⟨f_,g_⟩:=C.b2);(replace ⟨wP,wQ,wU,wV⟩:=R.b4))
   exact bodyPost_ret (v:=.tuple #[.int .i64 0,.bool true,.bool true]) (by simp [results,Tryz.results105,go_sem, *]) rfl (⟨by rw [hZ.out,hfin.out];rfl,B⟩)
  rw [if_neg hG] at hnx
  have hl0:¬ (Wh.a_ G.natAbs).length=0:=fun h=>hG (hG0.1 h)
  have hlq:(((Wh.a_ G.natAbs).length:Int) == 0)=false:=by rw [beq_eq_false_iff_ne];omega
  clear hG hG0
  cases ok with
  | false=>
   have hfin:=wH (M.iA hnx n (by omega));clear hnx zM Ca;generalize decide (z'<0)=r',decide (x'<0)=s' at *
   go_wp2_with (first
    | (go_at_call 154;(with_reducible refine (DS.out _ _ _ _ _ ox.out oz.out).mono ?_);rintro e w4 ⟨v4,rfl,xF,hb4⟩;obtain ⟨a4,c4,rfl,xD,wS⟩:=aF.view xF;clear xD wS xF;(generalize (Wh.a_ G.natAbs).length=lg at *);replace C:=C.keep hb4;replace R:=R.keep hb4;replace ox:=kO ox hb4;replace oz:=kO oz hb4;replace B:=d_ B hb4;(replace ⟨f_,g_⟩:=C.b2);(replace ⟨wP,wQ,wU,wV,wM,wN,wT,wY⟩:=R.xJ))
    | (go_at_call 155;(with_reducible refine (AD.out _ _ _ _ _ ox.out oz.out).mono ?_);rintro e w5 ⟨v5,u5,rfl,wW,AH,hb5⟩;replace C:=C.keep hb5;replace R:=R.keep hb5;replace ox:=kO ox hb5;replace oz:=kO oz hb5;replace B:=d_ B hb5;obtain ⟨a5,c5,rfl,xD,wS⟩:=aF.view wW;clear xD wS;obtain ⟨b5,d5,rfl,xD,wS⟩:=aF.view AH;clear xD wS;have on:=wH (show aF _ _ _ _ from wW);have om:=wH (show aF _ _ _ _ from AH);clear wW AH;(generalize (Wh.a_ x'.natAbs).length=l5 at *);(generalize (Wh.a_ z'.natAbs).length=m5 at *);have N:=aH.new w5 #[.bool s',.slice a5 l5 c5,.bool r',.slice b5 m5 d5] 127;have b_:=bA w5 (.cells #[.bool s',.slice a5 l5 c5,.bool r',.slice b5 m5 d5] 127);replace C:=C.keep b_;replace R:=R.keep b_;replace ox:=kO ox b_;replace oz:=kO oz b_;replace on:=kO on b_;replace om:=kO om b_;replace B:=d_ B b_;clear b_;(replace ⟨f_,g_⟩:=C.b2);(replace ⟨wP,wQ,wU,wV,wM,wN,wT,wY⟩:=R.xJ);(replace ⟨zY,zf,zh,zk⟩:=N.b4)))
   exact bodyPost_ret (v:=.tuple #[.int .i64 0,.bool false,.bool false]) (by simp [results,Tryz.results105,go_sem, *]) rfl (⟨by rw [hZ.out,hfin.out];rfl,B⟩)
  | true=>
  rw [if_pos rfl] at hnx;obtain ⟨hxn,hzn⟩:=Ca rfl;obtain ⟨zn,zd⟩:=zM rfl;subst hxn hzn;clear Ca zM;have zn:=wH zn;have zd:=wH zd;have hnx:=wH hnx;generalize hs5:decide (x'<0)=s' at *;generalize Dp:decide (z'<0)=r' at *;replace hs5:=wH hs5.symm;replace Dp:=wH Dp.symm;clear hrun zx zz
  go_wp2_with (first
   | (go_at_call 154;(with_reducible refine (DS.out _ _ _ _ _ ox.out oz.out).mono ?_);rintro e w4 ⟨v4,rfl,xF,hb4⟩;obtain ⟨a4,c4,rfl,xD,wS⟩:=aF.view xF;clear xD wS xF;(generalize (Wh.a_ G.natAbs).length=lg at *);replace C:=C.keep hb4;replace R:=R.keep hb4;replace ox:=kO ox hb4;replace oz:=kO oz hb4;replace B:=d_ B hb4;(replace ⟨f_,g_⟩:=C.b2);(replace ⟨wP,wQ,wU,wV,wM,wN,wT,wY⟩:=R.xJ))
   | (go_at_call 155;(with_reducible refine (AD.out _ _ _ _ _ ox.out oz.out).mono ?_);rintro e w5 ⟨v5,u5,rfl,wW,AH,hb5⟩;replace C:=C.keep hb5;replace R:=R.keep hb5;replace ox:=kO ox hb5;replace oz:=kO oz hb5;replace B:=d_ B hb5;obtain ⟨a5,c5,rfl,xD,wS⟩:=aF.view wW;clear xD wS;obtain ⟨b5,d5,rfl,xD,wS⟩:=aF.view AH;clear xD wS;have on:=wH (show aF _ _ _ _ from wW);have om:=wH (show aF _ _ _ _ from AH);clear wW AH;(generalize (Wh.a_ x'.natAbs).length=l5 at *);(generalize (Wh.a_ z'.natAbs).length=m5 at *);have N:=aH.new w5 #[.bool s',.slice a5 l5 c5,.bool r',.slice b5 m5 d5] 127;have b_:=bA w5 (.cells #[.bool s',.slice a5 l5 c5,.bool r',.slice b5 m5 d5] 127);replace C:=C.keep b_;replace R:=R.keep b_;replace ox:=kO ox b_;replace oz:=kO oz b_;replace on:=kO on b_;replace om:=kO om b_;replace B:=d_ B b_;clear b_;(replace ⟨f_,g_⟩:=C.b2);(replace ⟨wP,wQ,wU,wV,wM,wN,wT,wY⟩:=R.xJ);(replace ⟨zY,zf,zh,zk⟩:=N.b4)))
  go_roundw
  case rel=>exact ⟨k+1,_,_,s',a5,l5,c5,r',b5,m5,d5,by omega,by go_num,hnx,aH.uq R (.bool s') (.slice a5 l5 c5) (.bool r') (.slice b5 m5 d5),aF.base (aF.dF on.out R (by decide) (.bool s') (.slice a5 l5 c5) (.bool r') (.slice b5 m5 d5)) (Nat.zero_le _),aF.base (aF.dF om.out R (by decide) (.bool s') (.slice a5 l5 c5) (.bool r') (.slice b5 m5 d5)) (Nat.zero_le _),hs5,Dp,zn.out,zd.out,(((C.other (show w.heap.size≠g9 by omega) _).other (show w.heap.size≠g9 by omega) _).other (show w.heap.size≠g9 by omega) _).other (show w.heap.size≠g9 by omega) _,wJ (wJ (wJ (wJ B (by simp <;> omega) _) (by simp <;> omega) _) (by simp <;> omega) _) (by simp <;> omega) _⟩
  case measure=>simp [intOf] <;> omega
 obtain rfl:k=n:=by omega
 have P1:=wH fun v W i h=>PB.out x s v W i h zx.out hs.out
 have P2:=wH fun v W i h=>PB.out z r v W i h zz.out hr.out
 have hfin:=wH (show M.bk (M.run a b k (.val X Z))=max ((Wh.bl x.natAbs:Nat):Int) ((Wh.bl z.natAbs:Nat):Int)∧M.isInf (M.run a b k (.val X Z))=false∧M.isOk (M.run a b k (.val X Z))=true by rw [hrun.out];exact ⟨rfl,rfl,rfl⟩)
 have hm1:(Wh.bl x.natAbs:Int)≤14000:=by have:=Wh.fp zx.out;omega
 have hm2:(Wh.bl z.natAbs:Int)≤14000:=by have:=Wh.fp zz.out;omega
 generalize Wh.bl z.natAbs=k2,Wh.bl x.natAbs=k1 at *;have hmax:=wH (show (if (k1:Int)<k2 then (k2:Int) else k1)=max (k1:Int) k2 by split <;> omega);clear PG PD PB hs hr zx zz hrun
 go_upto_region 13 with fail
 refine Rg.bO 10 [.is (.pointer (some ⟨g9,0,none⟩)),.is (.agg #[.bool s,.slice av lv cv]),.is (.int .i64 (k1:Nat)),.is (.pointer (some ⟨g9,2,none⟩)),.is (.agg #[.bool r,.slice bv mv dv]),.is (.int .i64 (k2:Nat)),.is (.int .i64 (max (k1:Int) k2)),.is (.int .i64 (max (k1:Int) k2)),.is (.bool false),.is (.bool true)] (by kernel_rfl) (by kernel_rfl) (by kernel_rfl) ⟨?_,?_,?_,?_,?_,?_,?_,?_,?_,?_,trivial⟩ ?_
 ·intro _ zZ w_ hB hr
  have e9:zZ.tmps[9]?=some (.pointer (some ⟨g9,0,none⟩)):=hr 9 (by decide);exact Rg.aG rfl (by go_simp)
 ·intro _ zZ w_ hB hr
  have e44:=Rg.c_ (hr 44 (by decide));have k0:=aE hB R.aP.c0;have k1:=aE hB R.aP.c1;exact Rg.aG rfl (by go_simp)
 ·intro _ zZ w_ hB hr
  have e45:=Rg.c_ (hr 45 (by decide));have ef:=Rg.ef zZ;exact Rg.bo rfl (by go_simp) (P1.out _ _ _ (aF.below ox.out hB))
 ·intro _ zZ w_ hB hr
  have e9:zZ.tmps[9]?=some (.pointer (some ⟨g9,0,none⟩)):=hr 9 (by decide);exact Rg.aG rfl (by go_simp)
 ·intro _ zZ w_ hB hr
  have e47:=Rg.c_ (hr 47 (by decide));have k2:=aE hB R.aP.c2;have k3:=aE hB R.aP.c3;exact Rg.aG rfl (by go_simp)
 ·intro _ zZ w_ hB hr
  have e48:=Rg.c_ (hr 48 (by decide));have ef:=Rg.ef zZ;exact Rg.bo rfl (by go_simp) (P2.out _ _ _ (aF.below oz.out hB))
 ·intro _ zZ w_ hB hr
  have e46:=Rg.c_ (hr 46 (by decide));have e49:=Rg.c_ (hr 49 (by decide));exact Rg.aG rfl (by go_simp;first | done | (rw [hmax.out];done) | (simp only [hmax.out];done))
 ·intro _ zZ w_ hB hr
  have e50:=Rg.c_ (hr 50 (by decide));exact Rg.aG rfl (by go_simp)
 ·intro _ zZ w_ hB hr
  have ec:=Rg.ec zZ;exact Rg.aG rfl (by go_simp)
 ·intro _ zZ w_ hB hr
  have ec:=Rg.ec zZ;exact Rg.aG rfl (by go_simp)
 intro vals wy hB9 hv hne;have At:vals 7=.int .i64 (max (k1:Int) k2):=hv 7 (by decide);have Ce:vals 8=.bool false:=hv 8 (by decide);have yp:vals 9=.bool true:=hv 9 (by decide);simp only [Rg.ay,Rg.fill,Act.put,Nat.reduceAdd];clear hv;simp only [At,Ce,yp];clear At Ce yp;unfold Rg.aZ;go_wp2;exact bodyPost_ret (v:=.tuple #[.int .i64 (max (k1:Int) k2),.bool false,.bool true]) (by simp [results,Tryz.results105,go_sem, *]) rfl (⟨by rw [hZ.out,hfin.out.1,hfin.out.2.1,hfin.out.2.2],d_ B hB9⟩)
end
section
namespace M
def Ab (x n:Int):Prop:=-n≤x∧x≤n
theorem Ab.of (x:Int):Ab x x.natAbs:=by unfold Ab;omega
theorem Ab.nn {x n:Int} (h:Ab x n):0≤n:=by unfold Ab at h;omega
theorem Ab.mul {x y m n:Int} (h:Ab x m) (k:Ab y n):Ab (x*y) (m*n):=aL h.1 h.2 k.1 k.2
theorem Ab.add {x y m n:Int} (h:Ab x m) (k:Ab y n):Ab (x+y) (m+n):=by unfold Ab at *;omega
theorem Ab.sub {x y m n:Int} (h:Ab x m) (k:Ab y n):Ab (x - y) (m+n):=by unfold Ab at *;omega
theorem Ab.neg {x n:Int} (h:Ab x n):Ab (-x) n:=by unfold Ab at *;omega
theorem Ab.le {x m n:Int} (h:Ab x m) (k:m≤n):Ab x n:=by unfold Ab at *;omega
theorem Ab.to {x n:Int} (h:Ab x n):x.natAbs≤n.toNat:=by unfold Ab at h;omega
theorem Ab.num {n:Int} (h:0≤n):Ab n n:=by unfold Ab;omega
theorem qp {n:Nat} (h:n≠0):2 ^ (Wh.bl n - 1)≤n:=by
 unfold Wh.bl;rw [if_neg h,Nat.add_sub_cancel];exact Nat.log2_self_le h
theorem ja (n:Nat):n<2 ^ Wh.bl n:=by
 unfold Wh.bl
 split
 ·rename_i h;subst h;decide
 exact Nat.lt_log2_self
theorem kh {n:Nat} (h:n≠0):1≤Wh.bl n:=by
 unfold Wh.bl;rw [if_neg h];omega
theorem oR {m n:Nat} (h:m≤n):Wh.bl m≤Wh.bl n:=Wh.l8 (Nat.lt_of_le_of_lt h (ja n))
theorem uO (m n:Nat):max (Wh.bl m) (Wh.bl n)=Wh.bl (max m n):=by
 rcases Nat.le_total m n with h | h
 ·rw [Nat.max_eq_right h,Nat.max_eq_right (oR h)]
 rw [Nat.max_eq_left h,Nat.max_eq_left (oR h)]
def hh (x z:Int):Nat:=max x.natAbs z.natAbs
def hb (x z:Int):Nat:=Wh.bl (hh x z)
theorem mS (x z:Int):Ab x (hh x z)∧Ab z (hh x z):=by unfold Ab hh;omega
theorem vR {x z n:Int} (h:Ab x n) (k:Ab z n):((hh x z:Nat):Int)≤n:=by unfold Ab at *;unfold hh;omega
theorem tl {a b x z h:Int} (hx:Ab x h) (hz:Ab z h):Ab (Wh.aw a b x z) ((1+2*a.natAbs+8*b.natAbs+a.natAbs*a.natAbs)*(h*h*h*h)):=by
 have ha:=Ab.of a;have hb:=Ab.of b;unfold Wh.aw
 have:=((((hx.mul hx).mul hx).mul hx).sub ((((((Ab.num (n:=2) (by decide)).mul ha).mul hx).mul hx).mul hz).mul hz)).sub ((((((Ab.num (n:=8) (by decide)).mul hb).mul hx).mul hz).mul hz).mul hz) |>.add ((((((ha.mul ha).mul hz).mul hz).mul hz).mul hz))
 refine this.le (Int.le_of_eq ?_)
 grind
theorem sp {a b x z h:Int} (hx:Ab x h) (hz:Ab z h):Ab (Wh.am a b x z) (4*(1+a.natAbs+b.natAbs)*(h*h*h*h)):=by
 have ha:=Ab.of a;have hb:=Ab.of b;unfold Wh.am;have:=((Ab.num (n:=4) (by decide)).mul hz).mul ((((hx.mul hx).mul hx).add (((ha.mul hx).mul hz).mul hz)).add (((hb.mul hz).mul hz).mul hz));refine this.le (Int.le_of_eq ?_)
 grind
def r1 (a x z:Int):Int:=12*x*x*z+16*a*z*z*z
def r2 (a b x z:Int):Int:=3*x*x*x - 5*a*x*z*z - 27*b*z*z*z
def r3 (a b x z:Int):Int:=4*ae a b*x*x*x - 4*a*a*b*x*x*z+4*a*(3*a*a*a+22*b*b)*x*z*z+12*b*(a*a*a+8*b*b)*z*z*z
def r4 (a b x z:Int):Int:=a*a*b*x*x*x+a*(5*a*a*a+32*b*b)*x*x*z+2*b*(13*a*a*a+96*b*b)*x*z*z - 3*a*a*(a*a*a+8*b*b)*z*z*z
theorem t8 (a b x z:Int):r1 a x z*Wh.aw a b x z - r2 a b x z*Wh.am a b x z=4*ae a b*(z*z*z*z*z*z*z):=by
 unfold r1 r2 Wh.aw Wh.am ae
 grind
theorem t7 (a b x z:Int):r3 a b x z*Wh.aw a b x z+r4 a b x z*Wh.am a b x z=4*ae a b*(x*x*x*x*x*x*x):=by
 unfold r3 r4 Wh.aw Wh.am ae
 grind
theorem vg {a x z h:Int} (hx:Ab x h) (hz:Ab z h):Ab (r1 a x z) ((12+16*a.natAbs)*(h*h*h)):=by
 have ha:=Ab.of a;unfold r1;have:=((((Ab.num (n:=12) (by decide)).mul hx).mul hx).mul hz).add (((((Ab.num (n:=16) (by decide)).mul ha).mul hz).mul hz).mul hz);exact this.le (Int.le_of_eq (by grind))
theorem vj {a b x z h:Int} (hx:Ab x h) (hz:Ab z h):Ab (r2 a b x z) ((3+5*a.natAbs+27*b.natAbs)*(h*h*h)):=by
 have ha:=Ab.of a;have hb:=Ab.of b;unfold r2;have:=(((((Ab.num (n:=3) (by decide)).mul hx).mul hx).mul hx).sub (((((Ab.num (n:=5) (by decide)).mul ha).mul hx).mul hz).mul hz)).sub (((((Ab.num (n:=27) (by decide)).mul hb).mul hz).mul hz).mul hz);exact this.le (Int.le_of_eq (by grind))
theorem vm {a b x z h:Int} (hx:Ab x h) (hz:Ab z h):Ab (r3 a b x z) ((4*(ae a b).natAbs+4*a.natAbs*a.natAbs*b.natAbs+4*a.natAbs*(3*a.natAbs*a.natAbs*a.natAbs+22*b.natAbs*b.natAbs)+12*b.natAbs*(a.natAbs*a.natAbs*a.natAbs+8*b.natAbs*b.natAbs))*(h*h*h)):=by
 have ha:=Ab.of a;have hb:=Ab.of b;have hd:=Ab.of (ae a b);unfold r3;have t1:=((((Ab.num (n:=4) (by decide)).mul hd).mul hx).mul hx).mul hx;have t2:=((((((Ab.num (n:=4) (by decide)).mul ha).mul ha).mul hb).mul hx).mul hx).mul hz;have t3:=(((((Ab.num (n:=4) (by decide)).mul ha).mul (((((Ab.num (n:=3) (by decide)).mul ha).mul ha).mul ha).add (((Ab.num (n:=22) (by decide)).mul hb).mul hb))).mul hx).mul hz).mul hz;have t4:=(((((Ab.num (n:=12) (by decide)).mul hb).mul (((ha.mul ha).mul ha).add (((Ab.num (n:=8) (by decide)).mul hb).mul hb))).mul hz).mul hz).mul hz;exact (((t1.sub t2).add t3).add t4).le (Int.le_of_eq (by grind))
theorem vw {a b x z h:Int} (hx:Ab x h) (hz:Ab z h):Ab (r4 a b x z) ((a.natAbs*a.natAbs*b.natAbs+a.natAbs*(5*a.natAbs*a.natAbs*a.natAbs+32*b.natAbs*b.natAbs)+2*b.natAbs*(13*a.natAbs*a.natAbs*a.natAbs+96*b.natAbs*b.natAbs)+3*a.natAbs*a.natAbs*(a.natAbs*a.natAbs*a.natAbs+8*b.natAbs*b.natAbs))*(h*h*h)):=by
 have ha:=Ab.of a;have hb:=Ab.of b;unfold r4;have t1:=((((ha.mul ha).mul hb).mul hx).mul hx).mul hx
 have t2:=((((ha.mul (((((Ab.num (n:=5) (by decide)).mul ha).mul ha).mul ha).add (((Ab.num (n:=32) (by decide)).mul hb).mul hb))).mul hx).mul hx).mul hz)
 have t3:=(((((Ab.num (n:=2) (by decide)).mul hb).mul (((((Ab.num (n:=13) (by decide)).mul ha).mul ha).mul ha).add (((Ab.num (n:=96) (by decide)).mul hb).mul hb))).mul hx).mul hz).mul hz;have t4:=((((((Ab.num (n:=3) (by decide)).mul ha).mul ha).mul (((ha.mul ha).mul ha).add (((Ab.num (n:=8) (by decide)).mul hb).mul hb))).mul hz).mul hz).mul hz;exact (((t1.add t2).add t3).sub t4).le (Int.le_of_eq (by grind))
theorem q7 {a b x z:Int} (h0:hh x z≠0) :
  4*((ae a b).natAbs:Int)*((hh x z:Int)*hh x z*hh x z*hh x z)≤hK a.natAbs b.natAbs (ae a b).natAbs*hh (Wh.aw a b x z) (Wh.am a b x z):=by
 obtain ⟨hx,hz⟩:=mS x z;obtain ⟨hF,hG⟩:=mS (Wh.aw a b x z) (Wh.am a b x z);have e1:=t8 a b x z;have e2:=t7 a b x z;have k1:=((vg (a:=a) hx hz).mul hF).sub ((vj (a:=a) (b:=b) hx hz).mul hG);have k2:=((vm (a:=a) (b:=b) hx hz).mul hF).add ((vw (a:=a) (b:=b) hx hz).mul hG);rw [e1] at k1;rw [e2] at k2
 have hpos:(1:Int)≤hh x z:=by omega
 have hN:(0:Int)≤hh (Wh.aw a b x z) (Wh.am a b x z):=by omega
 have hor:(hh x z:Int)=x.natAbs∨(hh x z:Int)=z.natAbs:=by unfold hh;omega
 generalize hh (Wh.aw a b x z) (Wh.am a b x z)=N at *
 have ap:∀ u:Int,(4*ae a b*(u*u*u*u*u*u*u)).natAbs=4*(ae a b).natAbs*(u.natAbs*u.natAbs*u.natAbs*u.natAbs*u.natAbs*u.natAbs*u.natAbs):=fun u=>by simp [Int.natAbs_mul]
 have fin:∀ (u c:Int),(hh x z:Int)=u.natAbs→Ab (4*ae a b*(u*u*u*u*u*u*u)) (c*((hh x z:Int)*hh x z*hh x z)*N)→4*((ae a b).natAbs:Int)*((hh x z:Int)*hh x z*hh x z*hh x z)≤c*N:=fun u c hu hab=>by
  have h1:(((4*ae a b*(u*u*u*u*u*u*u)).natAbs:Nat):Int)≤c*((hh x z:Int)*hh x z*hh x z)*N:=by unfold Ab at hab;omega
  rw [ap] at h1
  push_cast at h1
  rw [←hu] at h1;have hq:(0:Int)<(hh x z:Int)*hh x z*hh x z:=Int.mul_pos (Int.mul_pos (by omega) (by omega)) (by omega);generalize (hh x z:Int)=h at *;refine Int.le_of_mul_le_mul_left (a:=h*h*h) ?_ hq
  calc h*h*h*(4*((ae a b).natAbs:Int)*(h*h*h*h))=4*((ae a b).natAbs:Int)*(h*h*h*h*h*h*h):=by grind
   _≤_:=h1
   _=_:=by grind
 unfold hK
 rcases hor with ho | ho
 ·refine Int.le_trans (fin x _ ho (k2.le (Int.le_of_eq ?_))) (Int.mul_le_mul_of_nonneg_right (Int.le_max_right _ _) hN)
  grind
 refine Int.le_trans (fin z _ ho (k1.le (Int.le_of_eq ?_))) (Int.mul_le_mul_of_nonneg_right (Int.le_max_left _ _) hN)
 grind
theorem uS (a b x z:Int):(hh (Wh.aw a b x z) (Wh.am a b x z):Int)≤hM a.natAbs b.natAbs*((hh x z:Int)*hh x z*hh x z*hh x z):=by
 obtain ⟨hx,hz⟩:=mS x z;have hp:(0:Int)≤(hh x z:Int)*hh x z*hh x z*hh x z:=Int.mul_nonneg (Int.mul_nonneg (Int.mul_nonneg (by omega) (by omega)) (by omega)) (by omega);refine vR ((tl (a:=a) (b:=b) hx hz).le ?_) ((sp (a:=a) (b:=b) hx hz).le ?_)
 ·exact Int.mul_le_mul_of_nonneg_right (by unfold hM;exact Int.le_max_left _ _) hp
 exact Int.mul_le_mul_of_nonneg_right (by unfold hM;exact Int.le_max_right _ _) hp
theorem sY {a b x z f g:Int} {d:Nat} (h0:hh x z≠0) (hd:d≠0) (hdD:d≤4*(ae a b).natAbs) (hF:Wh.aw a b x z=d*f) (hG:Wh.am a b x z=d*g) :
  4*hb x z≤hb f g+hC a b+3∧hb f g≤4*hb x z+hC a b:=by
 have h1:=q7 (a:=a) (b:=b) h0;have h2:=uS a b x z
 have e:hh (Wh.aw a b x z) (Wh.am a b x z)=d*hh f g:=by
  rw [hF,hG];unfold hh;simp only [Int.natAbs_mul,Int.natAbs_natCast];exact (Nat.mul_max_mul_left _ _ _)
 rw [e] at h1 h2;unfold hb hC
 have hKn:(0:Int)≤hK a.natAbs b.natAbs (ae a b).natAbs:=by
  unfold hK
  have:(0:Int)≤15+21*(a.natAbs:Int)+27*(b.natAbs:Int):=by omega
  exact Int.le_trans this (Int.le_max_left _ _)
 have hMn:(0:Int)≤hM a.natAbs b.natAbs:=by
  unfold hM
  have:(0:Int)≤4*(1+(a.natAbs:Int)+(b.natAbs:Int)):=by omega
  exact Int.le_trans this (Int.le_max_right _ _)
 obtain ⟨K,hK⟩:=Int.eq_ofNat_of_zero_le hKn;obtain ⟨M,hM⟩:=Int.eq_ofNat_of_zero_le hMn;rw [hK] at h1 ⊢;rw [hM] at h2 ⊢;generalize (ae a b).natAbs=D,hh f g=h',hh x z=h at *
 have eQ:(max (M:Int) (K:Int)).toNat=max M K:=by omega
 rw [eQ]
 have h1:4*D*(h*h*h*h)≤K*(d*h'):=by exact_mod_cast h1
 have h2:d*h'≤M*(h*h*h*h):=by exact_mod_cast h2
 have hC:=ja (max M K);generalize Wh.bl (max M K)=C at *
 have hMC:M<2 ^ C:=by omega
 have hKC:K<2 ^ C:=by omega
 have hb1:=qp h0;have hb2:=ja h;have hb3:=kh h0;generalize Wh.bl h=B at *
 obtain ⟨B,rfl⟩:∃ c,B=c+1:=⟨B - 1,by omega⟩
 rw [Nat.add_sub_cancel] at hb1
 have h3:h*h*h*h≤K*h':=by
  have hD:0<4*D:=by omega
  refine Nat.le_of_mul_le_mul_left (c:=4*D) ?_ hD;refine Nat.le_trans h1 ?_
  calc K*(d*h')=d*(K*h'):=by grind
   _≤4*D*(K*h'):=Nat.mul_le_mul_right _ hdD
 have h4:h'≤M*(h*h*h*h):=Nat.le_trans (Nat.le_mul_of_pos_left _ (by omega)) h2
 have p1:2 ^ (4*B)≤h*h*h*h:=by
  calc 2 ^ (4*B)=2 ^ B*2 ^ B*2 ^ B*2 ^ B:=by rw [←Nat.pow_add,←Nat.pow_add,←Nat.pow_add];congr 1;omega
   _≤_:=Nat.mul_le_mul (Nat.mul_le_mul (Nat.mul_le_mul hb1 hb1) hb1) hb1
 have p2:h*h*h*h<2 ^ (4*(B+1)):=by
  calc h*h*h*h<2 ^ (B+1)*2 ^ (B+1)*2 ^ (B+1)*2 ^ (B+1):=Nat.mul_lt_mul'' (Nat.mul_lt_mul'' (Nat.mul_lt_mul'' hb2 hb2) hb2) hb2
   _=_:=by rw [←Nat.pow_add,←Nat.pow_add,←Nat.pow_add];congr 1;omega
 have p3:=ja h'
 constructor
 ·have:2 ^ (4*B)<2 ^ (C+Wh.bl h'):=by
   rw [Nat.pow_add 2 C]
   calc 2 ^ (4*B)≤K*h':=Nat.le_trans p1 h3
    _<_:=Nat.mul_lt_mul'' hKC p3
  have:=(Nat.pow_lt_pow_iff_right (by decide)).1 this;omega
 refine Wh.l8 (Nat.lt_of_le_of_lt h4 ?_);rw [Nat.pow_add,Nat.mul_comm];exact Nat.mul_lt_mul'' p2 hMC
end M
namespace M
theorem tX (x:Rat):x*((x.den:Int):Rat)=((x.num:Int):Rat):=by
 have h1:=Rat.num_divInt_den x;rw [Rat.divInt_eq_div] at h1
 have h:((x.den:Int):Rat)≠0:=by
  have:=x.den_nz
  exact_mod_cast this
 have h2:=Rat.div_mul_cancel (a:=(x.num:Rat)) h;rw [h1] at h2;exact h2
theorem tY {x:Rat} {m n:Int} (hn:0<n) (hc:Int.gcd m n=1) (h:x*(n:Rat)=(m:Rat)):x.num=m∧(x.den:Int)=n:=by
 have hz:(n:Rat)≠0:=by
  have:n≠0:=by omega
  exact_mod_cast this
 have h1:x=Rat.divInt m n:=by
  rw [Rat.divInt_eq_div,←h,Rat.mul_div_cancel hz]
 obtain ⟨k,rfl⟩:=Int.eq_ofNat_of_zero_le (Int.le_of_lt hn)
 have hr:m.natAbs.Coprime k:=by simpa [Int.gcd] using hc
 have h2:x=⟨m,k,by omega,hr⟩:=by
  rw [h1];exact (Rat.mk_eq_divInt (nz:=by omega) (c:=hr)).symm
 rw [h2];exact ⟨rfl,rfl⟩
namespace ws
def px:ws→Int
 | O=>1
 | .fin x _=>x.num
def pz:ws→Int
 | O=>0
 | .fin x _=>x.den
def hp (P:ws):Nat:=hb (px P) (pz P)
theorem cop (P:ws):Int.gcd (px P) (pz P)=1:=by
 cases P with
 | O=>rfl
 | fin x y=>exact x.reduced
theorem ve (P:ws):0≤pz P:=by
 cases P with
 | O=>exact Int.le_refl _
 | fin x y=>exact Int.natCast_nonneg _
theorem fY {x z:Int} (h:Int.gcd x z=1):hh x z≠0:=by
 unfold hh;intro h0
 have h1:x=0:=by omega
 have h2:z=0:=by omega
 subst h1 h2;cases h
theorem uY (P:ws):1≤hp P:=kh (fY (cop P))
def rx:ws→Rat
 | O=>1
 | .fin x _=>x
def rz:ws→Rat
 | O=>0
 | .fin _ _=>1
def rs:ws→Rat
 | O=>1
 | .fin x _=>((x.den:Int):Rat)
theorem vZ (P:ws):((px P:Int):Rat)=rs P*rx P:=by
 cases P with
 | O=>unfold px rs rx;rw [Rat.mul_one];rfl
 | fin x y=>unfold px rs rx;rw [←tX,Rat.mul_comm]
theorem vf (P:ws):((pz P:Int):Rat)=rs P*rz P:=by
 cases P with
 | O=>unfold pz rs rz;rw [Rat.mul_zero];rfl
 | fin x y=>unfold pz rs rz;rw [Rat.mul_one]
def q0 (x1 z1 x2 z2:Rat):Rat:=(x1*z2 - x2*z1)*(x1*z2 - x2*z1)
def q1 (a b x1 z1 x2 z2:Rat):Rat:=2*((x1*z2+x2*z1)*(a*z1*z2+x1*x2)+2*b*z1*z1*z2*z2)
def q2 (a b x1 z1 x2 z2:Rat):Rat:=(x1*x2 - a*z1*z2)*(x1*x2 - a*z1*z2) - 4*b*z1*z2*(x1*z2+x2*z1)
def Pr (q0 q1 q2 t0 t1 t2:Rat):Prop:=q0*t1=q1*t0∧q0*t2=q2*t0∧q1*t2=q2*t1
theorem tO {a b x1 y1 x2 y2:Rat} (h1:y1*y1=x1*x1*x1+a*x1+b) (h2:y2*y2=x2*x2*x2+a*x2+b) :
  ((y1 - y2)*(y1 - y2) - (x1+x2)*(x1 - x2)*(x1 - x2))*((y1+y2)*(y1+y2) - (x1+x2)*(x1 - x2)*(x1 - x2)) =
   (x1 - x2)*(x1 - x2)*(((x1*x2 - a*1*1)*(x1*x2 - a*1*1) - 4*b*1*1*(x1*1+x2*1))*(1*1)):=by
 have e:((y1 - y2)*(y1 - y2) - (x1+x2)*(x1 - x2)*(x1 - x2))*((y1+y2)*(y1+y2) - (x1+x2)*(x1 - x2)*(x1 - x2)) =
   (y1*y1 - y2*y2)*(y1*y1 - y2*y2) - 2*(y1*y1+y2*y2)*((x1+x2)*(x1 - x2)*(x1 - x2))+((x1+x2)*(x1 - x2)*(x1 - x2))*((x1+x2)*(x1 - x2)*(x1 - x2)):=by
  clear h1 h2
  grind
 rw [e,h1,h2];clear e h1 h2
 grind
theorem tL {a b:Rat} {P Q:ws} (h1:On a b P) (h2:On a b Q) :
  Pr (q0 (rx P) (rz P) (rx Q) (rz Q)) (q1 a b (rx P) (rz P) (rx Q) (rz Q)) (q2 a b (rx P) (rz P) (rx Q) (rz Q))
   (rz (add a P Q)*rz (add a P (neg Q))) (rx (add a P Q)*rz (add a P (neg Q))+rx (add a P (neg Q))*rz (add a P Q)) (rx (add a P Q)*rx (add a P (neg Q))):=by
 cases P with
 | O=>
  show Pr (q0 1 0 _ _) (q1 a b 1 0 _ _) (q2 a b 1 0 _ _) (rz Q*rz (neg Q)) (rx Q*rz (neg Q)+rx (neg Q)*rz Q) (rx Q*rx (neg Q))
  have e1:rx (neg Q)=rx Q:=by cases Q <;> rfl
  have e2:rz (neg Q)=rz Q:=by cases Q <;> rfl
  rw [e1,e2];unfold Pr q0 q1 q2;refine ⟨?_,?_,?_⟩ <;> grind
 | fin x1 y1=>
 cases Q with
 | O=>
  show Pr (q0 x1 1 1 0) (q1 a b x1 1 1 0) (q2 a b x1 1 1 0) (1*1) (x1*1+x1*1) (x1*x1)
  unfold Pr q0 q1 q2;refine ⟨?_,?_,?_⟩ <;> grind
 | fin x2 y2=>
 show Pr (q0 x1 1 x2 1) (q1 a b x1 1 x2 1) (q2 a b x1 1 x2 1) _ _ _
 unfold On at h1 h2
 by_cases hx:x1=x2
 ·subst hx
  have h3:(y1 - y2)*(y1+y2)=0:=by grind
  have key:∀ y:Rat,y*y=x1*x1*x1+a*x1+b→add a (.fin x1 y) (.fin x1 y)=O∧y=0∨∃ u v,add a (.fin x1 y) (.fin x1 y)=.fin u v∧q1 a b x1 1 x1 1*u=q2 a b x1 1 x1 1:=fun y hy=>by
   by_cases h0:y=0
   ·left
    refine ⟨b9 ⟨rfl,by grind⟩,h0⟩
   right
   have hv:¬ (x1=x1∧y=-y):=fun h=>h0 (by grind)
   have hs:=eI (a:=a) (b:=b) (x1:=x1) (y1:=y) (x2:=x1) (y2:=y) hy hy hv;have e:add a (.fin x1 y) (.fin x1 y)=thd x1 y x1 (lam a x1 y x1 y):=if_neg hv;rw [e];refine ⟨_,_,rfl,?_⟩;obtain ⟨-,e2⟩:=hs;generalize lam a x1 y x1 y=l at *;unfold q1 q2
   grind
  have hq0:q0 x1 1 x1 1=0:=by unfold q0;grind
  rw [hq0]
  rcases Rat.mul_eq_zero.1 h3 with h4 | h4
  ·obtain rfl:y1=y2:=by grind
   have ev:add a (.fin x1 y1) (neg (.fin x1 y1))=O:=b9 ⟨rfl,by grind⟩;rw [ev]
   rcases key y1 h1 with ⟨e,rfl⟩ | ⟨u,v,e,hu⟩
   ·rw [e]
    unfold Pr rx rz q1;refine ⟨?_,?_,?_⟩ <;> grind
   rw [e];unfold Pr rx rz;refine ⟨?_,?_,?_⟩ <;> grind
  obtain rfl:y2=-y1:=by grind
  have ev:add a (.fin x1 y1) (.fin x1 (-y1))=O:=b9 ⟨rfl,by grind⟩
  have en:neg (.fin x1 (-y1))=.fin x1 y1:=by
   show ws.fin x1 (- -y1)=_
   rw [Rat.neg_neg]
  rw [ev,en]
  rcases key y1 h1 with ⟨e,rfl⟩ | ⟨u,v,e,hu⟩
  ·rw [e]
   unfold Pr rx rz q1;refine ⟨?_,?_,?_⟩ <;> grind
  rw [e];unfold Pr rx rz;refine ⟨?_,?_,?_⟩ <;> grind
 have hd:x1 - x2≠0:=by grind
 have e1:add a (.fin x1 y1) (.fin x2 y2)=thd x1 y1 x2 ((y1 - y2) / (x1 - x2)):=by
  show (if x1=x2∧y1=-y2 then O else thd x1 y1 x2 (lam a x1 y1 x2 y2))=_
  rw [if_neg fun h=>hx h.1];unfold lam;rw [if_neg hx]
 have e2:add a (.fin x1 y1) (neg (.fin x2 y2))=thd x1 y1 x2 ((y1+y2) / (x1 - x2)):=by
  show (if x1=x2∧y1=- -y2 then O else thd x1 y1 x2 (lam a x1 y1 x2 (-y2)))=_
  rw [if_neg fun h=>hx h.1];unfold lam;rw [if_neg hx]
  congr 2
  grind
 rw [e1,e2];have g1:=Rat.div_mul_cancel (a:=y1 - y2) hd;have g2:=Rat.div_mul_cancel (a:=y1+y2) hd;generalize (y1+y2) / (x1 - x2)=m,(y1 - y2) / (x1 - x2)=l at *
 show Pr _ _ _ (1*1) ((l*l - x1 - x2)*1+(m*m - x1 - x2)*1) ((l*l - x1 - x2)*(m*m - x1 - x2))
 have k1:q0 x1 1 x2 1*((l*l - x1 - x2)*1+(m*m - x1 - x2)*1)=q1 a b x1 1 x2 1*(1*1):=by
  unfold q0 q1
  grind
 have k2:q0 x1 1 x2 1*((l*l - x1 - x2)*(m*m - x1 - x2))=q2 a b x1 1 x2 1*(1*1):=by
  have:(x1 - x2)*(x1 - x2)*(q0 x1 1 x2 1*((l*l - x1 - x2)*(m*m - x1 - x2)))=(x1 - x2)*(x1 - x2)*(q2 a b x1 1 x2 1*(1*1)):=by
   unfold q0 q2
   have f1:(x1 - x2)*(x1 - x2)*(l*l - x1 - x2)=(y1 - y2)*(y1 - y2) - (x1+x2)*(x1 - x2)*(x1 - x2):=by grind
   have f2:(x1 - x2)*(x1 - x2)*(m*m - x1 - x2)=(y1+y2)*(y1+y2) - (x1+x2)*(x1 - x2)*(x1 - x2):=by grind
   generalize m*m - x1 - x2=v,l*l - x1 - x2=u at *
   have f3:(x1 - x2)*(x1 - x2)*((x1*1 - x2*1)*(x1*1 - x2*1)*(u*v))=((x1 - x2)*(x1 - x2)*u)*((x1 - x2)*(x1 - x2)*v):=by grind
   rw [f3,f1,f2];exact tO h1 h2
  grind
 refine ⟨k1,k2,?_⟩
 have:q0 x1 1 x2 1≠0:=by
  unfold q0;intro h
  rcases Rat.mul_eq_zero.1 h with h | h <;> grind
 generalize m*m - x1 - x2=v,l*l - x1 - x2=u,q2 a b x1 1 x2 1=c2,q1 a b x1 1 x2 1=c1,q0 x1 1 x2 1=c0 at *
 have k3:c0*(c1*(u*v))=c0*(c2*(u*1+v*1)):=by grind
 grind
end ws
end M
namespace M
theorem uX {u1 w1 u2 w2 t:Int} (h0:Ab (w1*w2) t) (h1:Ab (u1*w2+u2*w1) t) (h2:Ab (u1*u2) t):((hh u1 w1*hh u2 w2:Nat):Int)≤2*t:=by
 have ht:=h0.nn
 have hab:∀ x y:Int,((x.natAbs*y.natAbs:Nat):Int)=((x*y).natAbs:Nat):=fun x y=>by rw [Int.natAbs_mul]
 have big:∀ x y:Int,2*t<x→t<y→t*t<x*y:=fun x y hx hy=>by
  have h1:(2*t+1)*(t+1)≤x*y:=Int.mul_le_mul (by omega) (by omega) (by omega) (by omega)
  have h2:(2*t+1)*(t+1)=2*(t*t)+3*t+1:=by grind
  have h3:=Int.mul_nonneg ht ht;omega
 have mix:∀ u1 w1 u2 w2:Int,Ab (w1*w2) t→Ab (u1*w2+u2*w1) t→Ab (u1*u2) t→((u1*w2).natAbs:Int)≤2*t:=by
  intro u1 w1 u2 w2 h0 h1 h2
  by_cases hc:((u1*w2).natAbs:Int)≤2*t
  ·exact hc
  exfalso
  have e:(u1*w2)*(u2*w1)=(w1*w2)*(u1*u2):=by grind
  have e2:=(h0.mul h2)
  rw [←e] at e2;unfold Ab at h1 e2;generalize u2*w1=q,u1*w2=p at *
  rcases Int.le_total 0 p with hp | hp
  ·have a1:2*t<p:=by omega
   have a2:q<0:=by omega
   have a3:t < -q:=by omega
   have:t*t<p*(-q):=big _ _ a1 a3
   have e4:p*(-q)=-(p*q):=by grind
   omega
  have a1:2*t < -p:=by omega
  have a3:t<q:=by omega
  have:t*t<(-p)*q:=big _ _ a1 a3
  have e4:(-p)*q=-(p*q):=by grind
  omega
 have m1:=mix u1 w1 u2 w2 h0 h1 h2;have m2:=mix u2 w2 u1 w1 (by rw [Int.mul_comm];exact h0) (by rw [Int.add_comm];exact h1) (by rw [Int.mul_comm];exact h2);unfold Ab at h0 h2
 have c1:hh u1 w1=u1.natAbs∨hh u1 w1=w1.natAbs:=by unfold hh;omega
 have c2:hh u2 w2=u2.natAbs∨hh u2 w2=w2.natAbs:=by unfold hh;omega
 rcases c1 with c1 | c1 <;> rcases c2 with c2 | c2 <;> rw [c1,c2,hab]
 ·omega
 ·exact m1
 ·rw [Int.mul_comm];exact m2
 omega
theorem pq {u1 w1 u2 w2:Int} (h1:Int.gcd u1 w1=1) (h2:Int.gcd u2 w2=1) {g:Nat} (d0:(g:Int) ∣ w1*w2) (d1:(g:Int) ∣ u1*w2+u2*w1) (d2:(g:Int) ∣ u1*u2):g=1:=by
 have cop:∀ (k:Nat) (x y:Int),Int.gcd x y=1→(k:Int) ∣ x→(k:Int) ∣ y→k=1:=fun k x y h hx hy=>by
  have:=Int.dvd_gcd hx hy;rw [h] at this;exact Nat.dvd_one.1 this
 have gd:∀ (x:Int),(Nat.gcd g x.natAbs=1)→∀ y:Int,(g:Int) ∣ x*y→(g:Int) ∣ y:=fun x hx y hd=>by
  have:g ∣ x.natAbs*y.natAbs:=by
   rw [←Int.natAbs_mul];exact Int.ofNat_dvd_left.1 hd
  exact Int.ofNat_dvd_left.2 (Nat.Coprime.dvd_of_dvd_mul_left hx this)
 have sub:∀ x:Int,((Nat.gcd g x.natAbs:Nat):Int) ∣ g∧((Nat.gcd g x.natAbs:Nat):Int) ∣ x:=fun x=>⟨Int.natCast_dvd_natCast.2 (Nat.gcd_dvd_left _ _),Int.ofNat_dvd_left.2 (Nat.gcd_dvd_right _ _)⟩
 have k1:Nat.gcd g w1.natAbs=1:=by
  obtain ⟨a1,a2⟩:=sub w1;generalize hk:Nat.gcd g w1.natAbs=k at *
  have cu:Nat.gcd k u1.natAbs=1:=by
   refine cop _ u1 w1 h1 (Int.ofNat_dvd_left.2 (Nat.gcd_dvd_right _ _)) (Int.dvd_trans (Int.natCast_dvd_natCast.2 (Nat.gcd_dvd_left _ _)) a2)
  have gk:∀ y:Int,(k:Int) ∣ u1*y→(k:Int) ∣ y:=fun y hd=>by
   have:k ∣ u1.natAbs*y.natAbs:=by
    rw [←Int.natAbs_mul];exact Int.ofNat_dvd_left.1 hd
   exact Int.ofNat_dvd_left.2 (Nat.Coprime.dvd_of_dvd_mul_left cu this)
  have b2:=gk u2 (Int.dvd_trans a1 d2)
  have b1:(k:Int) ∣ u1*w2:=by
   have h:=Int.dvd_sub (Int.dvd_trans a1 d1) (Int.dvd_trans a2 (Int.dvd_mul_left u2 w1))
   rwa [Int.add_sub_cancel] at h
  exact cop k u2 w2 h2 b2 (gk w2 b1)
 have b:=gd w1 k1 w2 d0;have k2:Nat.gcd g u2.natAbs=1:=cop _ u2 w2 h2 (sub u2).2 (Int.dvd_trans (sub u2).1 b);have c:=gd u2 k2 u1 (by rw [Int.mul_comm];exact d2)
 have e:(g:Int) ∣ u2*w1:=by
  have h:=Int.dvd_sub d1 (Int.dvd_trans b (Int.dvd_mul_left u1 w2))
  rwa [show u1*w2+u2*w1 - u1*w2=u2*w1 by omega] at h
 exact cop g u1 w1 h1 c (gd u2 k2 w1 e)
theorem tP {q0 q1 q2 t0 t1 t2 m:Int} (hq:¬ (q0=0∧q1=0∧q2=0)) (ht:∀ g:Nat,(g:Int) ∣ t0→(g:Int) ∣ t1→(g:Int) ∣ t2→g=1)
  (e1:q0*t1=q1*t0) (e2:q0*t2=q2*t0) (e3:q1*t2=q2*t1) (a0:Ab q0 m) (a1:Ab q1 m) (a2:Ab q2 m):Ab t0 m∧Ab t1 m∧Ab t2 m:=by
 have key:∀ q:Int,∀ t:Int,t ∣ q*t0→t ∣ q*t1→t ∣ q*t2→t ∣ q:=fun q t d0 d1 d2=>by
  have g1:t ∣ ((Int.gcd (q*t0) (Int.gcd (q*t1) (q*t2)):Nat):Int):=Int.dvd_coe_gcd d0 (Int.dvd_coe_gcd d1 d2)
  have e:Int.gcd (q*t0) (Int.gcd (q*t1) (q*t2))=q.natAbs:=by
   rw [Int.gcd_mul_left]
   have:((q.natAbs*Int.gcd t1 t2:Nat):Int)=(q.natAbs:Int)*(Int.gcd t1 t2:Nat):=by push_cast;rfl
   rw [this]
   have e3:Int.gcd (q*t0) ((q.natAbs:Int)*((Int.gcd t1 t2:Nat):Int))=Int.gcd ((q.natAbs:Int)*t0) ((q.natAbs:Int)*((Int.gcd t1 t2:Nat):Int)):=by
    unfold Int.gcd;simp [Int.natAbs_mul]
   rw [e3,Int.gcd_mul_left]
   have h1:Int.gcd t0 ((Int.gcd t1 t2:Nat):Int)=1:=by
    refine ht _ (Int.gcd_dvd_left ..) ?_ ?_
    ·exact Int.dvd_trans (Int.gcd_dvd_right ..) (Int.gcd_dvd_left ..)
    exact Int.dvd_trans (Int.gcd_dvd_right ..) (Int.gcd_dvd_right ..)
   rw [h1];simp
  rw [e] at g1;exact Int.dvd_natAbs.1 g1
 have fin:∀ l:Int,q0=l*t0→q1=l*t1→q2=l*t2→Ab t0 m∧Ab t1 m∧Ab t2 m:=fun l f0 f1 f2=>by
  have hl:l≠0:=fun h=>hq ⟨by rw [f0,h];simp,by rw [f1,h];simp,by rw [f2,h];simp⟩
  have sm:∀ t:Int,Ab (l*t) m→Ab t m:=fun t h=>by
   have h1:(l*t).natAbs=l.natAbs*t.natAbs:=Int.natAbs_mul _ _;have h2:1*t.natAbs≤l.natAbs*t.natAbs:=Nat.mul_le_mul_right _ (by omega);unfold Ab at *;omega
  exact ⟨sm _ (f0 ▸ a0),sm _ (f1 ▸ a1),sm _ (f2 ▸ a2)⟩
 by_cases h0:t0=0
 ·subst h0
  by_cases h1:t1=0
  ·subst h1
   have h2:t2≠0:=fun h=>by
    subst h;have:=ht 2 (by simp) (by simp) (by simp);cases this
   have z0:q0=0:=by
    have:q0*t2=0:=by rw [e2];simp
    rcases Int.mul_eq_zero.1 this with h | h
    ·exact h
    exact absurd h h2
   have z1:q1=0:=by
    have:q1*t2=0:=by rw [e3];simp
    rcases Int.mul_eq_zero.1 this with h | h
    ·exact h
    exact absurd h h2
   obtain ⟨l,hl⟩:=key q2 t2 (by simp) (by simp) (Int.dvd_mul_left _ _);exact fin l (by rw [z0];simp) (by rw [z1];simp) (by rw [hl,Int.mul_comm])
  have z0:q0=0:=by
   have:q0*t1=0:=by rw [e1];simp
   rcases Int.mul_eq_zero.1 this with h | h
   ·exact h
   exact absurd h h1
  obtain ⟨l,hl⟩:=key q1 t1 (by simp) (Int.dvd_mul_left _ _) (by rw [e3];exact Int.dvd_mul_left _ _);refine fin l (by rw [z0];simp) (by rw [hl,Int.mul_comm]) ?_
  have:t1*q2=t1*(l*t2):=by rw [Int.mul_comm,←e3,hl];grind
  exact Int.eq_of_mul_eq_mul_left h1 this
 obtain ⟨l,hl⟩:=key q0 t0 (Int.dvd_mul_left _ _) (by rw [e1];exact Int.dvd_mul_left _ _) (by rw [e2];exact Int.dvd_mul_left _ _);refine fin l (by rw [hl,Int.mul_comm]) ?_ ?_
 ·have:t0*q1=t0*(l*t1):=by rw [Int.mul_comm,←e1,hl];grind
  exact Int.eq_of_mul_eq_mul_left h0 this
 have:t0*q2=t0*(l*t2):=by rw [Int.mul_comm,←e2,hl];grind
 exact Int.eq_of_mul_eq_mul_left h0 this
end M
namespace M
namespace ws
def i0 (x1 z1 x2 z2:Int):Int:=(x1*z2 - x2*z1)*(x1*z2 - x2*z1)
def i1 (a b x1 z1 x2 z2:Int):Int:=2*((x1*z2+x2*z1)*(a*z1*z2+x1*x2)+2*b*z1*z1*z2*z2)
def i2 (a b x1 z1 x2 z2:Int):Int:=(x1*x2 - a*z1*z2)*(x1*x2 - a*z1*z2) - 4*b*z1*z2*(x1*z2+x2*z1)
def cT (a b:Int):Int:=4*(1+a.natAbs+b.natAbs)+(1+a.natAbs)*(1+a.natAbs)+8*b.natAbs
theorem Nj {a b x1 z1 x2 z2 h k:Int} (hx1:Ab x1 h) (hz1:Ab z1 h) (hx2:Ab x2 k) (hz2:Ab z2 k) :
  Ab (i0 x1 z1 x2 z2) (cT a b*(h*h*k*k))∧Ab (i1 a b x1 z1 x2 z2) (cT a b*(h*h*k*k))∧Ab (i2 a b x1 z1 x2 z2) (cT a b*(h*h*k*k)):=by
 have ha:=Ab.of a;have hb:=Ab.of b;have hp:0≤h*h*k*k:=Int.mul_nonneg (Int.mul_nonneg (Int.mul_nonneg hx1.nn hx1.nn) hx2.nn) hx2.nn;have hA:(0:Int)≤(a.natAbs:Int)*a.natAbs:=Int.mul_nonneg (by omega) (by omega)
 have le:∀ c:Int,c≤cT a b→c*(h*h*k*k)≤cT a b*(h*h*k*k):=fun c hc=>Int.mul_le_mul_of_nonneg_right hc hp
 have eT:cT a b=5+6*a.natAbs+12*b.natAbs+(a.natAbs:Int)*a.natAbs:=by unfold cT;grind
 refine ⟨?_,?_,?_⟩
 ·have t:=(hx1.mul hz2).sub (hx2.mul hz1)
  refine (t.mul t).le (Int.le_trans (Int.le_of_eq ?_) (le 4 (by omega)))
  grind
 ·have t1:=(hx1.mul hz2).add (hx2.mul hz1)
  have t2:=((ha.mul hz1).mul hz2).add (hx1.mul hx2);have t3:=(((((Ab.num (n:=2) (by decide)).mul hb).mul hz1).mul hz1).mul hz2).mul hz2;refine ((Ab.num (n:=2) (by decide)).mul ((t1.mul t2).add t3)).le (Int.le_trans (Int.le_of_eq ?_) (le (4*(1+a.natAbs+b.natAbs)) (by omega)))
  grind
 have t1:=(hx1.mul hx2).sub ((ha.mul hz1).mul hz2);have t2:=(hx1.mul hz2).add (hx2.mul hz1);have t3:=((((Ab.num (n:=4) (by decide)).mul hb).mul hz1).mul hz2).mul t2;refine ((t1.mul t1).sub t3).le (Int.le_trans (Int.le_of_eq ?_) (le ((1+a.natAbs)*(1+a.natAbs)+8*b.natAbs) (by rw [eT];grind)))
 grind
theorem uo {P Q:ws} (h:px P*pz Q=px Q*pz P):px P=px Q∧pz P=pz Q:=by
 cases P with
 | O=>
  cases Q with
  | O=>exact ⟨rfl,rfl⟩
  | fin x y=>
  have h:(1:Int)*(x.den:Int)=x.num*0:=h;have:=x.den_nz;omega
 | fin x1 y1=>
 cases Q with
 | O=>
  have h:x1.num*0=1*(x1.den:Int):=h;have:=x1.den_nz;omega
 | fin x2 y2=>
 have:x1=x2:=Rat.eq_iff_mul_eq_mul.2 h;subst this;exact ⟨rfl,rfl⟩
theorem vT {a b:Int} (hd:ae a b≠0) (P Q:ws):¬ (i0 (px P) (pz P) (px Q) (pz Q)=0∧i1 a b (px P) (pz P) (px Q) (pz Q)=0∧i2 a b (px P) (pz P) (px Q) (pz Q)=0):=by
 rintro ⟨h0,h1,h2⟩
 have hx:px P*pz Q=px Q*pz P:=by
  unfold i0 at h0
  rcases Int.mul_eq_zero.1 h0 with h | h <;> omega
 obtain ⟨e1,e2⟩:=uo hx;rw [←e1,←e2] at h1 h2
 have eG:Wh.am a b (px P) (pz P)=0:=by rw [←h1];unfold Wh.am i1;grind
 have eF:Wh.aw a b (px P) (pz P)=0:=by rw [←h2];unfold Wh.aw i2;grind
 have hp:=fY (cop P);have:=q7 (a:=a) (b:=b) hp;rw [eG,eF] at this;have e0:hh 0 0=0:=rfl;rw [e0] at this;have hpos:(0:Int)<(hh (px P) (pz P):Int)*hh (px P) (pz P)*hh (px P) (pz P)*hh (px P) (pz P):=Int.mul_pos (Int.mul_pos (Int.mul_pos (by omega) (by omega)) (by omega)) (by omega)
 have hD:(0:Int)<4*((ae a b).natAbs:Int):=by omega
 have:=Int.mul_pos hD hpos;simp at *
 omega
theorem pD {a b:Int} {P Q:ws} (h1:On a b P) (h2:On a b Q) (S D:ws) (hS:add a P Q=S) (hD:add a P (neg Q)=D) :
  (i0 (px P) (pz P) (px Q) (pz Q)*(px S*pz D+px D*pz S)=i1 a b (px P) (pz P) (px Q) (pz Q)*(pz S*pz D))∧
  (i0 (px P) (pz P) (px Q) (pz Q)*(px S*px D)=i2 a b (px P) (pz P) (px Q) (pz Q)*(pz S*pz D))∧
  (i1 a b (px P) (pz P) (px Q) (pz Q)*(px S*px D)=i2 a b (px P) (pz P) (px Q) (pz Q)*(px S*pz D+px D*pz S)):=by
 obtain ⟨e1,e2,e3⟩:=tL h1 h2;rw [hS,hD] at e1 e2 e3;unfold q0 q1 at e1;unfold q0 q2 at e2;unfold q1 q2 at e3;unfold i0 i1 i2;refine ⟨?_,?_,?_⟩ <;> apply Rat.intCast_inj.1 <;> push_cast <;> simp only [vZ,vf]
 all_goals
  clear h1 h2 hS hD;generalize rs D=s4,rz D=z4,rx D=x4,rs S=s3,rz S=z3,rx S=x3,rs Q=s2,rz Q=z2,rx Q=x2,rs P=s1,rz P=z1,rx P=x1 at *;generalize (a:Rat)=a at *;generalize (b:Rat)=b at *
 ·clear e2 e3
  have:=congrArg (fun t=>s1*s1*s2*s2*s3*s4*t) e1
  grind
 ·clear e1 e3
  have:=congrArg (fun t=>s1*s1*s2*s2*s3*s4*t) e2
  grind
 clear e1 e2;have:=congrArg (fun t=>s1*s1*s2*s2*s3*s4*t) e3
 grind
def cU (a b:Int):Nat:=Wh.bl (2*cT a b).toNat+2
theorem rb {a b:Int} (hd:ae a b≠0) {P Q:ws} (h1:On a b P) (h2:On a b Q):hp (add a P Q)+hp (add a P (neg Q))≤2*hp P+2*hp Q+cU a b:=by
 have hp:=pD h1 h2 _ _ rfl rfl;generalize add (a:Rat) P Q=S at *;generalize add (a:Rat) P (neg Q)=D at *;obtain ⟨e1,e2,e3⟩:=hp;obtain ⟨x1,z1⟩:=mS (px P) (pz P);obtain ⟨x2,z2⟩:=mS (px Q) (pz Q);obtain ⟨a0,a1,a2⟩:=Nj (a:=a) (b:=b) x1 z1 x2 z2;obtain ⟨b0,b1,b2⟩:=tP (vT hd P Q) (fun g=>pq (cop S) (cop D)) e1 e2 e3 a0 a1 a2;have hm:=uX b0 b1 b2;have n1:=fY (cop P);have n2:=fY (cop Q);have n3:=fY (cop S);have n4:=fY (cop D)
 have hcT:0≤cT a b:=by
  have hA:(0:Int)≤(1+(a.natAbs:Int))*(1+a.natAbs):=Int.mul_nonneg (by omega) (by omega);unfold cT;omega
 unfold ws.hp hb cU;obtain ⟨c,hc⟩:=Int.eq_ofNat_of_zero_le hcT;rw [hc] at hm ⊢;clear e1 e2 e3 x1 z1 x2 z2 a0 a1 a2 b0 b1 b2 hc hcT;generalize hh (px D) (pz D)=d,hh (px S) (pz S)=s,hh (px Q) (pz Q)=q,hh (px P) (pz P)=p at *
 have e:(2*(c:Int)).toNat=2*c:=by omega
 rw [e]
 have hm:s*d≤2*(c*(p*p*q*q)):=by exact_mod_cast hm
 have p1:=ja p;have q1:=ja q;have s1:=qp n3;have d1:=qp n4;have s2:=kh n3;have d2:=kh n4;have c1:=ja (2*c);generalize Wh.bl (2*c)=C,Wh.bl d=D,Wh.bl s=S,Wh.bl q=Q,Wh.bl p=P at *
 have:2 ^ (S - 1+(D - 1))<2 ^ (C+(P+P+Q+Q)):=by
  rw [Nat.pow_add,Nat.pow_add 2 C,Nat.pow_add,Nat.pow_add,Nat.pow_add];have h1:2 ^ (S - 1)*2 ^ (D - 1)≤s*d:=Nat.mul_le_mul s1 d1;have h2:p*p*q*q<2 ^ P*2 ^ P*2 ^ Q*2 ^ Q:=Nat.mul_lt_mul'' (Nat.mul_lt_mul'' (Nat.mul_lt_mul'' p1 p1) q1) q1;have h3:=Nat.mul_lt_mul'' c1 h2
  have h4:2*(c*(p*p*q*q))=2*c*(p*p*q*q):=by grind
  omega
 have:=(Nat.pow_lt_pow_iff_right (by decide)).1 this;omega
end ws
end M
namespace M
theorem rE {a b x z d:Int} (hc:Int.gcd x z=1) (h1:d ∣ Wh.aw a b x z) (h2:d ∣ Wh.am a b x z):d ∣ 4*ae a b:=by
 have e1:d ∣ 4*ae a b*(z*z*z*z*z*z*z):=by
  rw [←t8];exact Int.dvd_sub (Int.dvd_trans h1 (Int.dvd_mul_left _ _)) (Int.dvd_trans h2 (Int.dvd_mul_left _ _))
 have e2:d ∣ 4*ae a b*(x*x*x*x*x*x*x):=by
  rw [←t7];exact Int.dvd_add (Int.dvd_trans h1 (Int.dvd_mul_left _ _)) (Int.dvd_trans h2 (Int.dvd_mul_left _ _))
 have e3:=Int.dvd_coe_gcd e2 e1;rw [Int.gcd_mul_left] at e3
 have e4:Int.gcd (x*x*x*x*x*x*x) (z*z*z*z*z*z*z)=1:=by
  unfold Int.gcd at *
  have:∀ u:Int,(u*u*u*u*u*u*u).natAbs=u.natAbs ^ 7:=fun u=>by simp [Int.natAbs_mul];grind
  rw [this,this];exact Nat.Coprime.pow 7 7 hc
 rw [e4,Nat.mul_one] at e3;exact Int.dvd_natAbs.1 e3
namespace ws
theorem gJ {a b:Int} (hd:ae a b≠0):4*(a:Rat)*a*a+27*(b:Rat)*b≠0:=by
 intro h
 apply hd
 unfold ae
 exact_mod_cast h
theorem tv {a b:Int} (hd:ae a b≠0) {P:ws} (h:On a b P):∃ d:Int,d≠0∧d ∣ 4*ae a b∧Wh.aw a b (px P) (pz P)=d*px (add a P P)∧Wh.am a b (px P) (pz P)=d*pz (add a P P):=by
 have hO:add (a:Rat) P (neg P)=O:=by
  rw [add_comm (gJ hd) h (cj h)];exact dQ _ _
 obtain ⟨-,-,e3⟩:=pD h h _ _ rfl hO
 have eG:i1 a b (px P) (pz P) (px P) (pz P)=Wh.am a b (px P) (pz P):=by unfold Wh.am i1;grind
 have eF:i2 a b (px P) (pz P) (px P) (pz P)=Wh.aw a b (px P) (pz P):=by unfold Wh.aw i2;grind
 have hne:=vT hd P P
 have h0:i0 (px P) (pz P) (px P) (pz P)=0:=by unfold i0;grind
 rw [eG,eF] at e3 hne;have hO1:px O=1:=rfl;have hO2:pz O=0:=rfl;rw [hO1,hO2,Int.mul_one,Int.mul_zero,Int.zero_add,Int.one_mul] at e3;have hc:=cop (add a P P);generalize add (a:Rat) P P=S at *
 have dv:=fun d=>rE (a:=a) (b:=b) (d:=d) (cop P)
 generalize Wh.am a b (px P) (pz P)=G,Wh.aw a b (px P) (pz P)=F at *
 have fin:∀ d:Int,F=d*px S→G=d*pz S→∃ d:Int,d≠0∧d ∣ 4*ae a b∧F=d*px S∧G=d*pz S:=fun d f g=>
  ⟨d,fun h=>hne ⟨h0,by rw [g,h];simp,by rw [f,h];simp⟩,dv d ⟨_,f⟩ ⟨_,g⟩,f,g⟩
 have cd:∀ x y k:Int,Int.gcd x y=1→x ∣ y*k→x ∣ k:=fun x y k hxy hk=>by
  have h1:x.natAbs ∣ y.natAbs*k.natAbs:=by
   rw [←Int.natAbs_mul];exact Int.natAbs_dvd_natAbs.2 hk
  exact Int.natAbs_dvd_natAbs.1 (Nat.Coprime.dvd_of_dvd_mul_left hxy h1)
 by_cases hz:pz S=0
 ·rw [hz] at e3 hc
  have hx:px S≠0:=fun h=>by rw [h] at hc;cases hc
  have hG:G=0:=by
   rw [Int.mul_zero] at e3
   rcases Int.mul_eq_zero.1 e3 with h | h
   ·exact h
   exact absurd h hx
  obtain ⟨d,hd⟩:=cd (px S) 0 F hc (by
   have:px S ∣ 1:=by
    unfold Int.gcd at hc;simp at hc
    exact Int.natAbs_dvd_natAbs.1 (by rw [hc];exact Nat.dvd_refl 1)
   exact Int.dvd_trans this (Int.one_dvd _))
  exact fin d (by rw [hd,Int.mul_comm]) (by rw [hG,hz];simp)
 obtain ⟨d,hd⟩:=cd (pz S) (px S) G (by rw [Int.gcd_comm];exact hc) ⟨F,by rw [Int.mul_comm,e3,Int.mul_comm]⟩;refine fin d ?_ (by rw [hd,Int.mul_comm])
 have:pz S*F=pz S*(d*px S):=by rw [Int.mul_comm,←e3,hd];grind
 exact Int.eq_of_mul_eq_mul_left hz this
theorem kj {a b:Int} (hd:ae a b≠0) {P:ws} (h:On a b P):4*hp P≤hp (add a P P)+hC a b+3∧hp (add a P P)≤4*hp P+hC a b:=by
 obtain ⟨d,h1,h2,h3,h4⟩:=tv hd h
 have hle:d.natAbs≤4*(ae a b).natAbs:=by
  have:=Int.natAbs_dvd_natAbs.2 h2;rw [Int.natAbs_mul] at this;exact Nat.le_of_dvd (by omega) this
 rcases Int.le_total 0 d with hs | hs
 ·have e:((d.natAbs:Nat):Int)=d:=by omega
  exact sY (d:=d.natAbs) (fY (cop P)) (by omega) hle (by rw [e];exact h3) (by rw [e];exact h4)
 have e:((d.natAbs:Nat):Int)=-d:=by omega
 have w:=sY (f:=-px (add a P P)) (g:=-pz (add a P P)) (d:=d.natAbs) (fY (cop P)) (by omega) hle (by rw [e,h3];grind) (by rw [e,h4];grind)
 have eh:hb (-px (add a P P)) (-pz (add a P P))=hp (add a P P):=by unfold hp hb hh;simp
 rw [eh] at w;exact w
def x5 (a:Rat):Nat→ws→ws
 | 0,P=>P
 | n+1,P=>add a (x5 a n P) (x5 a n P)
theorem de {a b:Rat} (hd:4*a*a*a+27*b*b≠0) {P:ws} (h:On a b P):∀ n,On a b (x5 a n P)
 | 0=>h
 | n+1=>dr hd (de hd h n) (de hd h n)
theorem uL {a b:Rat} (hd:4*a*a*a+27*b*b≠0) {P Q R S:ws} (h1:On a b P) (h2:On a b Q) (h3:On a b R) (h4:On a b S):add a (add a P Q) (add a R S)=add a (add a P R) (add a Q S):=by
 rw [dK hd h1 h2 (dr hd h3 h4),←dK hd h2 h3 h4,add_comm hd h2 h3,dK hd h3 h2 h4,←dK hd h1 h3 (dr hd h2 h4)]
theorem km {a b:Rat} (hd:4*a*a*a+27*b*b≠0) {P Q:ws} (h1:On a b P) (h2:On a b Q):∀ n,x5 a n (add a P Q)=add a (x5 a n P) (x5 a n Q)
 | 0=>rfl
 | n+1=>by
  show add a (x5 a n (add a P Q)) (x5 a n (add a P Q))=add a (add a _ _) (add a _ _)
  rw [km hd h1 h2 n,uL hd (de hd h1 n) (de hd h2 n) (de hd h1 n) (de hd h2 n)]
theorem oY {a b:Rat} (hd:4*a*a*a+27*b*b≠0) {P:ws} (h1:On a b P):∀ n,x5 a n (neg P)=neg (x5 a n P)
 | 0=>rfl
 | n+1=>by
  show add a (x5 a n (neg P)) (x5 a n (neg P))=neg (add a _ _)
  rw [oY hd h1 n,lG hd (de hd h1 n) (de hd h1 n)]
theorem rD (a:Rat):∀ n,x5 a n O=O
 | 0=>rfl
 | n+1=>by
  show add a (x5 a n O) (x5 a n O)=O
  rw [rD a n];rfl
def hs (a:Int) (P:ws) (n:Nat):Int:=(hp (x5 a n P):Nat)
def Cl (f g:Nat→Int):Prop:=∃ c:Int,∀ n,-c≤f n - g n∧f n - g n≤c
theorem Cl.refl (f:Nat→Int):Cl f f:=⟨0,fun n=>by omega⟩
theorem Cl.symm {f g:Nat→Int} (h:Cl f g):Cl g f:=by
 obtain ⟨c,h⟩:=h;exact ⟨c,fun n=>by have:=h n;omega⟩
theorem Cl.trans {f g k:Nat→Int} (h:Cl f g) (h':Cl g k):Cl f k:=by
 obtain ⟨c,h⟩:=h;obtain ⟨d,h'⟩:=h';exact ⟨c+d,fun n=>by have:=h n;have:=h' n;omega⟩
theorem Cl.add {f g k l:Nat→Int} (h:Cl f g) (h':Cl k l):Cl (fun n=>f n+k n) (fun n=>g n+l n):=by
 obtain ⟨c,h⟩:=h;obtain ⟨d,h'⟩:=h';exact ⟨c+d,fun n=>by have:=h n;have:=h' n;show _≤f n+k n - (g n+l n)∧f n+k n - (g n+l n)≤_;omega⟩
theorem Cl.sub {f g k l:Nat→Int} (h:Cl f g) (h':Cl k l):Cl (fun n=>f n - k n) (fun n=>g n - l n):=by
 obtain ⟨c,h⟩:=h;obtain ⟨d,h'⟩:=h';exact ⟨c+d,fun n=>by have:=h n;have:=h' n;show _≤f n - k n - (g n - l n)∧f n - k n - (g n - l n)≤_;omega⟩
theorem Cl.mul {f g:Nat→Int} (k:Int) (h:Cl f g):Cl (fun n=>k*f n) (fun n=>k*g n):=by
 obtain ⟨c,h⟩:=h;refine ⟨k.natAbs*c,fun n=>?_⟩;have h1:=h n;have:=(Ab.of k).mul (show Ab (f n - g n) c from h1);rw [Int.mul_sub] at this;exact this
theorem Cl.of {f g:Nat→Int} (h:∀ n,f n=g n):Cl f g:=⟨0,fun n=>by rw [h n];omega⟩
theorem vS (a:Int) (n:Nat):hs a O n=1:=by
 unfold hs;rw [rD]
 decide
theorem uc (a:Int) (P:ws) (n:Nat):1≤hs a P n:=by
 have:=uY (x5 a n P);unfold hs;omega
theorem rR {a b:Int} (hd:ae a b≠0) {P:ws} (h:On a b P) (n:Nat):4*hs a P n≤hs a P (n+1)+hC a b+3∧hs a P (n+1)≤4*hs a P n+hC a b:=by
 have:=kj hd (de (gJ hd) h n);unfold hs
 show 4*((hp (x5 a n P):Nat):Int)≤((hp (add a (x5 a n P) (x5 a n P)):Nat):Int)+_+3∧((hp (add a (x5 a n P) (x5 a n P)):Nat):Int)≤_
 omega
theorem par {a b:Int} (hd:ae a b≠0) {P Q:ws} (h1:On a b P) (h2:On a b Q):Cl (fun n=>hs a (add a P Q) n+hs a (add a P (neg Q)) n) (fun n=>2*hs a P n+2*hs a Q n):=by
 refine ⟨cU a b+hC a b+3,fun n=>?_⟩;have rd:=gJ hd;have o1:=de rd h1 n;have o2:=de rd h2 n;have k1:=rb hd o1 o2;have k2:=rb hd (dr rd o1 o2) (dr rd o1 (cj o2))
 have e1:add (a:Rat) (add a (x5 a n P) (x5 a n Q)) (add a (x5 a n P) (neg (x5 a n Q)))=add a (x5 a n P) (x5 a n P):=by
  rw [uL rd o1 o2 o1 (cj o2),add_comm rd o2 (cj o2),dQ,kD]
 have e2:add (a:Rat) (add a (x5 a n P) (x5 a n Q)) (neg (add a (x5 a n P) (neg (x5 a n Q))))=add a (x5 a n Q) (x5 a n Q):=by
  rw [lG rd o1 (cj o2),neg_neg,uL rd o1 o2 (cj o1) o2,add_comm rd o1 (cj o1),dQ,vA]
 rw [e1,e2] at k2;have w1:=kj hd o1;have w2:=kj hd o2;have e3:x5 (a:Rat) n (add a P Q)=_:=km rd h1 h2 n;have e4:x5 (a:Rat) n (add a P (neg Q))=_:=km rd h1 (cj h2) n;rw [oY rd h2] at e4;unfold hs;simp only;rw [e3,e4];omega
end ws
end M
namespace M
namespace ws
theorem Cl.div {f g:Nat→Int} {k:Int} (hk:k≠0) (h:Cl (fun n=>k*f n) (fun n=>k*g n)):Cl f g:=by
 obtain ⟨c,h⟩:=h;refine ⟨c,fun n=>?_⟩;have h1:=h n;simp only at h1;rw [←Int.mul_sub] at h1;generalize f n - g n=x at *;have h2:(k*x).natAbs=k.natAbs*x.natAbs:=Int.natAbs_mul _ _;have h3:1*x.natAbs≤k.natAbs*x.natAbs:=Nat.mul_le_mul_right _ (by omega);omega
def pr (a:Int) (P Q:ws) (n:Nat):Int:=hs a (add a P Q) n - hs a P n - hs a Q n
theorem tN {a b:Int} (hd:ae a b≠0) {P Q:ws} (h1:On a b P) (h2:On a b Q) (n:Nat):pr a P Q n=pr a Q P n:=by
 unfold pr;rw [add_comm (gJ hd) h1 h2];omega
theorem N5 (a:Int) (Q:ws) (n:Nat):pr a O Q n=-1:=by
 unfold pr;rw [vS]
 show hs a Q n - 1 - hs a Q n=-1
 omega
theorem uj {a b:Int} (hd:ae a b≠0) {P Q R:ws} (h1:On a b P) (h2:On a b Q) (h3:On a b R):Cl (pr a (add a P Q) R) (fun n=>pr a P R n+pr a Q R n):=by
 have rd:=gJ hd;have q1:=par hd (dr rd h1 h2) h3;have q2:=par hd h1 (dr rd h2 (cj h3));have q3:=par hd (dr rd h1 h3) h2;have q4:=par hd h2 h3;have e1:add (a:Rat) (add a P Q) (neg R)=add a P (add a Q (neg R)):=dK rd h1 h2 (cj h3)
 have e2:add (a:Rat) (add a P R) Q=add a (add a P Q) R:=by rw [dK rd h1 h3 h2,add_comm rd h3 h2,dK rd h1 h2 h3]
 have e3:add (a:Rat) P (neg (add a Q (neg R)))=add a (add a P R) (neg Q):=by
  rw [lG rd h2 (cj h3),neg_neg,add_comm rd (cj h2) h3,dK rd h1 h3 (cj h2)]
 rw [e1] at q1;rw [e3] at q2;rw [e2] at q3;obtain ⟨c1,q1⟩:=q1;obtain ⟨c2,q2⟩:=q2;obtain ⟨c3,q3⟩:=q3;obtain ⟨c4,q4⟩:=q4;refine ⟨c1+c2+c3+2*c4,fun n=>?_⟩;have q1:=q1 n;have q2:=q2 n;have q3:=q3 n;have q4:=q4 n;unfold pr;simp only at *;omega
theorem uZ {a b:Int} (hd:ae a b≠0) {P:ws} (h:On a b P):Cl (hs a (add a P P)) (fun n=>4*hs a P n):=by
 have q:=par hd h h;rw [add_comm (gJ hd) h (cj h),dQ] at q;obtain ⟨c,q⟩:=q;refine ⟨c+1,fun n=>?_⟩;have:=q n;simp only at this;rw [vS] at this
 show _≤hs a (add a P P) n - 4*hs a P n∧hs a (add a P P) n - 4*hs a P n≤_
 omega
theorem pF {a b:Int} (hd:ae a b≠0) {P:ws} (h:On a b P):Cl (pr a P P) (fun n=>2*hs a P n):=by
 obtain ⟨c,q⟩:=uZ hd h;refine ⟨c,fun n=>?_⟩;have:=q n;unfold pr;simp only at *;omega
def mul (a:Rat):Nat→ws→ws
 | 0,_=>O
 | n+1,P=>add a (mul a n P) P
theorem nr {a b:Rat} (hd:4*a*a*a+27*b*b≠0) {P:ws} (h:On a b P):∀ n,On a b (mul a n P)
 | 0=>trivial
 | n+1=>dr hd (nr hd h n) h
theorem lL {a b:Int} (hd:ae a b≠0) {P Q:ws} (h1:On a b P) (h2:On a b Q):∀ k:Nat,Cl (pr a (mul a k P) Q) (fun n=>(k:Int)*pr a P Q n)
 | 0
   => ⟨1,fun n=>by
   show _≤pr a O Q n - _∧pr a O Q n - _≤_
   rw [N5]
   simp⟩
 | k+1=>by
  have ih:=lL hd h1 h2 k;have:=(uj hd (nr (gJ hd) h1 k) h1 h2).trans (ih.add (Cl.refl (pr a P Q)));refine this.trans (Cl.of fun n=>?_)
  push_cast
  grind
theorem jr {a b:Int} (hd:ae a b≠0) {P Q:ws} (h1:On a b P) (h2:On a b Q) {f:Nat→Int} (h:Cl (pr a P Q) f):Cl (pr a Q P) f:=
 (Cl.of fun n=>tN hd h2 h1 n).trans h
theorem ub {a b:Int} (hd:ae a b≠0) {P:ws} (h:On a b P) (k:Nat):Cl (hs a (mul a k P)) (fun n=>(k:Int)*k*hs a P n):=by
 have rd:=gJ hd;have hm:=nr rd h k;have q1:=pF hd hm;have q2:=lL hd h hm k;have q3:=(jr hd hm h (lL hd h h k)).mul (k:Int);have q4:=((pF hd h).mul (k:Int)).mul (k:Int)
 have q5:=(jr hd h hm (Cl.refl _))
 refine Cl.div (k:=2) (by decide) (q1.symm.trans (q2.trans ?_));refine ((jr hd hm h (lL hd h h k)).mul (k:Int)).trans (q4.trans (Cl.of fun n=>?_))
 grind
end ws
end M
end
section
open Go.RowKit
abbrev dC:=Bool × (Option Addr × Nat × Nat) × Bool × (Option Addr × Nat × Nat)
def dC.val (q:dC):Value:=.agg #[.bool q.1,.slice q.2.1.1 q.2.1.2.1 q.2.1.2.2,.bool q.2.2.1,.slice q.2.2.2.1 q.2.2.2.2.1 q.2.2.2.2.2]
def ER:Rw.Enc dC where
 t:=127
 k:=4
 cells:=fun q=>[.bool q.1,.slice q.2.1.1 q.2.1.2.1 q.2.1.2.2,.bool q.2.2.1,.slice q.2.2.2.1 q.2.2.2.2.1 q.2.2.2.2.2]
 len:=fun _=>rfl
 one:=fun x u hu=>by simp only [List.mem_cons,List.not_mem_nil,or_false] at hu;rcases hu with rfl | rfl | rfl | rfl <;> rfl
 pos:=by decide
theorem vU:(Tryz.prog.info? 127).map (fun i=>(i.zero,i.size,i.bytes))=some (some (.agg #[.bool false,.slice none 0 0,.bool false,.slice none 0 0]),4,64):=by kernel_rfl
theorem tz:Rw.Fits Tryz.prog ER 121:=⟨Tryz.underlying121,by
 obtain ⟨i0,hi,hz0,hz1,hz2⟩:=info_parts vU
 exact ⟨i0,_,hi,hz0,hz1,by omega,rfl⟩⟩
theorem aF.fu {W W':World} {b1 b2:Nat} {v sl:Value} {xs:List dC} {ys:List Int} (h:aF W b1 sl ys) (hv:Rw.Own ER W b2 v xs) (hg:W.grownBy W' v.ownBlock):aF W' b1 sl ys:=by
 refine World.ownsRow.kept h hg ?_
 cases hs:sl.ownBlock with
 | none=>exact Or.inl rfl
 | some k=>exact Or.inr fun e=>p9 h hv (by decide) k e.symm hs
theorem aH.grown {W W':World} {g:Nat} {T:TypeId} {xs:Array Value} {r:Option Nat} (h:aH W g T xs) (hg:W.grownBy W' r) (hr:r≠some g):aH W' g T xs:=(hg.block g h.lt (fun e=>hr e.symm)).trans h
def uF (W:World) (n:Nat) (o:M.Out) (v:Value) (en:Bool):Prop:=match o with
 | .inf=>en=true∧∃ A l c,v=.slice A l c
 | .bad=>en=false∧∃ A l c,v=.slice A l c∧l≤n
 | .val x z=>en=false∧Wh.sz x 1000∧Wh.sz z 1000∧∃ (g cap:Nat) (s:Bool) (av:Option Addr) (lv cv:Nat) (r:Bool) (bv:Option Addr) (mv dv:Nat),v=.slice (some ⟨g,0,none⟩) (n+1) cap∧
   W.cell? ⟨g,n*4,none⟩=some (.bool s)∧W.cell? ⟨g,n*4+1,none⟩=some (.slice av lv cv)∧W.cell? ⟨g,n*4+2,none⟩=some (.bool r)∧W.cell? ⟨g,n*4+3,none⟩=some (.slice bv mv dv)∧
   Hid (s=decide (x<0))∧Hid (r=decide (z<0))∧aF W 0 (.slice av lv cv) (Wh.a_ x.natAbs)∧aF W 0 (.slice bv mv dv) (Wh.a_ z.natAbs)
theorem ng (a b X Y E:Int) (n:Nat) (w:World) (hg:M.good a b=true) (hX1:-10000≤X) (hX2:X≤10000) (hE1:0≤E) (hE2:E≤20) (hn:n≤5) :
  Calls Tryz.prog 106 #[.agg #[.int .i64 a,.int .i64 b],.agg #[.int .i64 X,.int .i64 Y,.int .i64 E],.int .i64 (n:Int)] w fun e w'=>∃ v,∃ en:Bool,e=.returned (.tuple #[v,.bool en])∧uF w' n (M.aX a b X E n) v en∧Below w.heap.size w w':=by
 have C:=(aH.new w #[.int .i64 a,.int .i64 b] 25).alloc (.cells #[.int .i64 X,.int .i64 Y,.int .i64 E] 27)
 have Q:=(aH.new (w.alloc (.cells #[.int .i64 a,.int .i64 b] 25)) #[.int .i64 X,.int .i64 Y,.int .i64 E] 27)
 rw [wI] at Q;have B:=((wK w.heap.size w).alloc (wL _) (.cells #[.int .i64 a,.int .i64 b] 25)).alloc (by rw [wI];omega) (.cells #[.int .i64 X,.int .i64 Y,.int .i64 E] 27)
 have BG:w.heap.size+2≤((w.alloc (.cells #[.int .i64 a,.int .i64 b] 25)).alloc (.cells #[.int .i64 X,.int .i64 Y,.int .i64 E] 27)).heap.size:=by rw [wI,wI];omega
 generalize hw3:(w.alloc (.cells #[.int .i64 a,.int .i64 b] 25)).alloc (.cells #[.int .i64 X,.int .i64 Y,.int .i64 E] 27)=wc at *;have ⟨q0,q1,q2⟩:=Q.aK;have f_:=C.box.c0;have g_:=C.box.c1
 by_cases h0:E=0
 ·subst h0
  have hz0:=wH (show M.aX a b X 0 n=.inf from rfl);go_enter Tryz.func106,Tryz.ntmps106
  go_wp2;exact bodyPost_ret (v:=.tuple #[.slice none 0 0,.bool true]) (by simp [results,Tryz.results106,go_sem, *]) rfl (⟨_,_,rfl,(by rw [hz0.out];exact ⟨rfl,_,_,_,rfl⟩),B⟩)
 have hE:1≤E:=by omega
 have Fd:1≤E*E∧E*E≤400:=⟨by have:=Int.mul_le_mul hE hE (by omega) (by omega);omega,by have:=Int.mul_le_mul hE2 hE2 (by omega) (by omega);omega⟩
 have hE0:(E == 0)=false:=by rw [beq_eq_false_iff_ne];exact h0
 have hout:=wH (show M.aX a b X E n=M.run a b n (.val X (E*E)) from if_neg h0);clear h0;obtain ⟨e1,e2⟩:=Fd
 have P1:=fun W=>oK X (E*E) W (by omega) (by omega) (by omega) (by omega)
 have zX:Wh.sz X 1000:=Wh.aN (Wh.bc (by omega) (by omega)) (by omega);have zE:Wh.sz (E*E) 1000:=Wh.aN (Wh.bc (by omega) (by omega)) (by omega);have zX:=wH zX;have zE:=wH zE
 have hb2:-10000≤b∧b≤10000:=⟨(M.an (M.ag hg)).2.2.1,(M.an (M.ag hg)).2.2.2⟩
 have ha2:-1000≤a∧a≤1000:=⟨(M.an (M.ag hg)).1,(M.an (M.ag hg)).2.1⟩
 obtain ⟨hb1,hb2⟩:=hb2;obtain ⟨ha1,ha2⟩:=ha2;have hg:=wH hg
 have PG:=wH fun (x z:Int) (s r:Bool) v v' W k k' (h1:aF W k v (Wh.a_ x.natAbs)) (h2:aF W k' v' (Wh.a_ z.natAbs)) (hx:Wh.sz x 1000) (hz:Wh.sz z 1000) (hs:s=decide (x<0)) (hr:r=decide (z<0))=>(hs ▸ hr ▸ gU a b x z v v' W k k' h1 h2 hx hz ha1 ha2 hb1 hb2:Calls Tryz.prog 157 #[.agg #[.int .i64 a,.int .i64 b],.agg #[.bool s,v,.bool r,v']] W fun e w'=>∃ sl,e=.returned (.agg #[.bool (decide (Wh.am a b x z<0)),sl])∧ak w' W.heap.size sl (Wh.am a b x z)∧Below W.heap.size W w')
 have PD:=wH fun (x z:Int) (s r:Bool) v v' W k k' (h1:aF W k v (Wh.a_ x.natAbs)) (h2:aF W k' v' (Wh.a_ z.natAbs)) (hx:Wh.sz x 1000) (hz:Wh.sz z 1000) (hs:s=decide (x<0)) (hr:r=decide (z<0))=>(hs ▸ hr ▸ jy a b x z v v' W k k' hg.out h1 h2 hx hz:Calls Tryz.prog 158 #[.agg #[.int .i64 a,.int .i64 b],.agg #[.bool s,v,.bool r,v']] W fun e w'=>∃ v1 v2,e=.returned (.tuple #[.agg #[.bool (decide (Wh.AE (M.ae a b) (Wh.aw a b x z) (Wh.am a b x z)<0)),v1,.bool (decide (Wh.AF (M.ae a b) (Wh.aw a b x z) (Wh.am a b x z)<0)),v2],.bool (Wh.dU (M.ae a b) (Wh.aw a b x z) (Wh.am a b x z))])∧ak w' W.heap.size v1 (Wh.AE (M.ae a b) (Wh.aw a b x z) (Wh.am a b x z))∧ak w' W.heap.size v2 (Wh.AF (M.ae a b) (Wh.aw a b x z) (Wh.am a b x z))∧Below W.heap.size W w')
 clear ha1 ha2 hb1 hb2
 have IF:=fun q A L C W=>ft q A L C W
 have Ao:=wH (show M.run a b 0 (.val X (E*E))=.val X (E*E) from rfl);generalize hZ:E*E=Z at *;replace hZ:=wH hZ;generalize hs1:decide (X<0)=s1 at *;generalize hs2:decide (Z<0)=s2 at *;replace hs1:=wH hs1.symm;replace hs2:=wH hs2.symm;have P1:=wH P1;have hQ:=wH Q;have Mi:=hZ.out;go_enter Tryz.func106,Tryz.ntmps106
 go_wp2_with (go_at_call 113;(with_reducible refine (P1.out _).mono ?_);rintro e w4 ⟨v4,u4,rfl,xF,FE,hb4⟩;obtain ⟨a4,c4,rfl,xD,wS⟩:=aF.view xF;clear xD wS;obtain ⟨b4,d4,rfl,xD,wS⟩:=aF.view FE;clear xD wS;(generalize (Wh.a_ X.natAbs).length=l4 at *);(generalize (Wh.a_ Z.natAbs).length=m4 at *);replace C:=C.keep hb4;replace B:=d_ B hb4;(replace ⟨f_,g_⟩:=C.b2))
 have AN:w.heap.size+2≤w4.heap.size:=Nat.le_trans BG hb4.size;have L:=Rw.Own.ug ER ((s1,(a4,l4,c4),s2,(b4,m4,d4)):dC) w4 (w.heap.size+2) AN;have ox:=aF.base (aF.alloc (show aF _ _ _ _ from xF) (.cells #[.bool s1,.slice a4 l4 c4,.bool s2,.slice b4 m4 d4] 127)) (Nat.zero_le _);have oz:=aF.base (aF.alloc (show aF _ _ _ _ from FE) (.cells #[.bool s1,.slice a4 l4 c4,.bool s2,.slice b4 m4 d4] 127)) (Nat.zero_le _);have C2:=C.alloc (.cells #[.bool s1,.slice a4 l4 c4,.bool s2,.slice b4 m4 d4] 127);have B2:=B.alloc B.size (.cells #[.bool s1,.slice a4 l4 c4,.bool s2,.slice b4 m4 d4] 127);have L:=wH L;have ox:=wH ox;have oz:=wH oz;clear xF FE C B f_ g_ q0 q1 q2 Q hQ hb4 P1 BG Mi
 go_loopw [2,8] (fun vi vl wr=>∃ (k:Nat) (x z:Int) (xs:List dC) (q:dC),k≤n∧vi=.int .i64 ((n - k:Nat):Int)∧Hid (M.run a b k (.val X Z)=.val x z)∧Rw.Own ER wr (w.heap.size+2) vl xs∧Hid (xs.length=k+1)∧Hid (xs[k]?=some q)∧aF wr 0 (.slice q.2.1.1 q.2.1.2.1 q.2.1.2.2) (Wh.a_ x.natAbs)∧aF wr 0 (.slice q.2.2.2.1 q.2.2.2.2.1 q.2.2.2.2.2) (Wh.a_ z.natAbs)∧Hid (q.1=decide (x<0))∧Hid (q.2.2.1=decide (z<0))∧Wh.sz x 1000∧Wh.sz z 1000∧aH wr w.heap.size 25 #[.int .i64 a,.int .i64 b]∧Below w.heap.size w wr∧w.heap.size+2≤wr.heap.size) (fun vi _ _=>(intOf vi).toNat)
 case atStart=>exact ⟨0,X,Z,[((s1,(a4,l4,c4),s2,(b4,m4,d4)):dC)],((s1,(a4,l4,c4),s2,(b4,m4,d4)):dC),Nat.zero_le _,rfl,Ao,L.out,wH rfl,wH rfl,ox.out,oz.out,hs1,hs2,zX.out,zE.out,C2,B2,by rw [wI];omega⟩
 case round=>
 clear L ox oz C2 B2 Ao hs1 hs2 zX zE AN;obtain ⟨k,x,z,xs,q,hk,rfl,hrun,L,hlen,hq,ox,oz,hs,hr,zx,zz,C,B,hz⟩:=hrel;obtain ⟨s,⟨av,lv,cv⟩,r,⟨bv,mv,dv⟩⟩:=q
 dsimp only at ox oz hs hr
 rcases L.forms with ⟨rfl,rfl⟩ | ⟨g,cap,rfl,hg1,hg2,hcp1,hcp2⟩
 ·exact absurd hlen.out (by simp)
 have hcl:=fun i u (hu:(ER.cells (s,(av,lv,cv),r,(bv,mv,dv)))[i]?=some u) (hi:i<4)=>Rw.Own.cellAt rfl L (k*4+i) u ((Rw.flat_get ER xs k i _ hq.out hi).trans hu)
 have Ew:wr.cell? ⟨g,k*4,none⟩=some (.bool s):=(hcl 0 _ rfl (by omega)).1;have Ex:wr.cell? ⟨g,k*4+1,none⟩=some (.slice av lv cv):=(hcl 1 _ rfl (by omega)).1;have Ey:wr.cell? ⟨g,k*4+2,none⟩=some (.bool r):=(hcl 2 _ rfl (by omega)).1;have Ez:wr.cell? ⟨g,k*4+3,none⟩=some (.slice bv mv dv):=(hcl 3 _ rfl (by omega)).1;clear hcl;have hlen1:=hlen.out;rw [hlen1] at hcp1 L ⊢;have ox:=wH ox;have oz:=wH oz;have zx:=wH zx;have zz:=wH zz;have L:=wH L;have f_:=C.box.c0;have g_:=C.box.c1;clear hlen1
 by_cases hlt:k<n
 ·obtain ⟨j,hj⟩:∃ j:Nat,n - k=j+1:=⟨n - k - 1,by omega⟩
  have hj2:=wH (show n - (k+1)=j by omega)
  have hjb:(j:Int)≤4:=by omega
  rw [hj];clear hj
  have DS:=wH fun v v' W i j h1 h2=>PG.out x z s r v v' W i j h1 h2 zx.out zz.out hs.out hr.out
  have AD:=wH fun v v' W i j h1 h2=>PD.out x z s r v v' W i j h1 h2 zx.out zz.out hs.out hr.out
  have hnx:M.run a b (k+1) (.val X Z)=M.nx a b (.val x z):=by show M.nx a b (M.run a b k (.val X Z))=_;rw [hrun.out]
  unfold M.nx at hnx
  dsimp only at hnx
  clear PG PD hs hr
  have zM:=fun h=>Wh.gy (Wh.gc (D:=M.ae a b) (F:=Wh.aw a b x z) (G:=Wh.am a b x z) h)
  have Ca:Wh.dU (M.ae a b) (Wh.aw a b x z) (Wh.am a b x z)=true→Wh.AE (M.ae a b) (Wh.aw a b x z) (Wh.am a b x z)=Wh.Bd (M.ae a b) (Wh.aw a b x z) (Wh.am a b x z)∧Wh.AF (M.ae a b) (Wh.aw a b x z) (Wh.am a b x z)=Wh.Bc (M.ae a b) (Wh.aw a b x z) (Wh.am a b x z):=fun h=>by unfold Wh.AE Wh.AF;rw [if_pos h,if_pos h];exact ⟨rfl,rfl⟩
  generalize Wh.dU (M.ae a b) (Wh.aw a b x z) (Wh.am a b x z)=ok,Wh.Bc (M.ae a b) (Wh.aw a b x z) (Wh.am a b x z)=dd,Wh.Bd (M.ae a b) (Wh.aw a b x z) (Wh.am a b x z)=nn,Wh.AF (M.ae a b) (Wh.aw a b x z) (Wh.am a b x z)=z',Wh.AE (M.ae a b) (Wh.aw a b x z) (Wh.am a b x z)=x' at *;have hG0:=@Wh.dx (Wh.am a b x z);generalize Wh.am a b x z=G at *;generalize decide (G<0)=sg at *;have N:=aH.new wr #[.bool s,.slice av lv cv,.bool r,.slice bv mv dv] 127;have C3:=C.alloc (.cells #[.bool s,.slice av lv cv,.bool r,.slice bv mv dv] 127);have yg:=wH (aF.alloc ox.out (.cells #[.bool s,.slice av lv cv,.bool r,.slice bv mv dv] 127));have yh:=wH (aF.alloc oz.out (.cells #[.bool s,.slice av lv cv,.bool r,.slice bv mv dv] 127));have L3:=wH (Rw.Own.alloc L.out (.cells #[.bool s,.slice av lv cv,.bool r,.slice bv mv dv] 127));have B3:=B.alloc B.size (.cells #[.bool s,.slice av lv cv,.bool r,.slice bv mv dv] 127);have yX:=C3.box.c0;have yY:=C3.box.c1;have zY:=N.aP.c0;have zf:=N.aP.c1;have zh:=N.aP.c2;have zk:=N.aP.c3
  by_cases hG:G=0
  ·rw [if_pos hG] at hnx
   have hfin:=wH (M.iB hnx n (by omega));have hl0:=hG0.2 hG;clear hnx hG hG0 zM Ca AD;generalize DI:(Wh.a_ G.natAbs).length=lg at *;subst hl0;replace DI:=wH DI
   go_wp2_with (go_at_call 157;(with_reducible refine (DS.out _ _ _ _ _ yg.out yh.out).mono ?_);rintro e w4 ⟨v4,rfl,xF,hb4⟩;obtain ⟨a4,c4,rfl,xD,wS⟩:=aF.view xF;clear xD wS;(rw [DI.out] at xF ⊢);replace C3:=C3.keep hb4;replace N:=N.keep hb4;replace B3:=d_ B3 hb4;(replace ⟨yX,yY⟩:=C3.b2);(replace ⟨zY,zf,zh,zk⟩:=N.b4))
   exact bodyPost_ret (v:=.tuple #[.slice (some ⟨g,0,none⟩) (k+1) cap,.bool true]) (by simp [results,Tryz.results106,go_sem, *]) rfl (⟨_,_,rfl,(by rw [hout.out,hfin.out];exact ⟨rfl,_,_,_,rfl⟩),B3⟩)
  rw [if_neg hG] at hnx
  have hl0:¬ (Wh.a_ G.natAbs).length=0:=fun h=>hG (hG0.1 h)
  have hlq:(((Wh.a_ G.natAbs).length:Int) == 0)=false:=by rw [beq_eq_false_iff_ne];omega
  clear hG hG0
  cases ok with
  | false=>
   have hfin:=wH (M.iA hnx n (by omega));clear hnx zM Ca;generalize decide (z'<0)=r',decide (x'<0)=s' at *
   go_wp2_with (first
    | (go_at_call 157;(with_reducible refine (DS.out _ _ _ _ _ yg.out yh.out).mono ?_);rintro e w4 ⟨v4,rfl,xF,hb4⟩;obtain ⟨a4,c4,rfl,xD,wS⟩:=aF.view xF;clear xD wS xF;(generalize (Wh.a_ G.natAbs).length=lg at *);replace L3:=wH (Rw.Own.below L3.out hb4);replace C3:=C3.keep hb4;replace N:=N.keep hb4;replace yg:=kO yg hb4;replace yh:=kO yh hb4;replace B3:=d_ B3 hb4;(replace ⟨yX,yY⟩:=C3.b2);(replace ⟨zY,zf,zh,zk⟩:=N.b4))
    | (go_at_call 158;(with_reducible refine (AD.out _ _ _ _ _ yg.out yh.out).mono ?_);rintro e w5 ⟨v5,u5,rfl,wW,AH,hb5⟩;replace C3:=C3.keep hb5;replace N:=N.keep hb5;replace yg:=kO yg hb5;replace yh:=kO yh hb5;replace B3:=d_ B3 hb5;replace L3:=wH (Rw.Own.below L3.out hb5);obtain ⟨a5,c5,rfl,xD,wS⟩:=aF.view wW;clear xD wS;obtain ⟨b5,d5,rfl,xD,wS⟩:=aF.view AH;clear xD wS;have on:=wH (aF.alloc (show aF _ _ _ _ from wW) (.cells #[.bool s',.slice a5 (Wh.a_ x'.natAbs).length c5,.bool r',.slice b5 (Wh.a_ z'.natAbs).length d5] 127));have om:=wH (aF.alloc (show aF _ _ _ _ from AH) (.cells #[.bool s',.slice a5 (Wh.a_ x'.natAbs).length c5,.bool r',.slice b5 (Wh.a_ z'.natAbs).length d5] 127));clear wW AH;(generalize (Wh.a_ x'.natAbs).length=l5 at *);(generalize (Wh.a_ z'.natAbs).length=m5 at *);replace L3:=wH (Rw.Own.alloc L3.out (.cells #[.bool s',.slice a5 l5 c5,.bool r',.slice b5 m5 d5] 127));have M_:=aH.new w5 #[.bool s',.slice a5 l5 c5,.bool r',.slice b5 m5 d5] 127;have b_:=bA w5 (.cells #[.bool s',.slice a5 l5 c5,.bool r',.slice b5 m5 d5] 127);replace C3:=C3.keep b_;replace N:=N.keep b_;replace yg:=kO yg b_;replace yh:=kO yh b_;replace B3:=d_ B3 b_;clear b_;(replace ⟨yX,yY⟩:=C3.b2);(replace ⟨zY,zf,zh,zk⟩:=N.b4);(replace ⟨DO,DP,DQ,DR⟩:=M_.b4)))
   exact bodyPost_ret (v:=.tuple #[.slice (some ⟨g,0,none⟩) (k+1) cap,.bool false]) (by simp [results,Tryz.results106,go_sem, *]) rfl (⟨_,_,rfl,(by rw [hout.out,hfin.out];exact ⟨rfl,_,_,_,rfl,by omega⟩),B3⟩)
  | true=>
  rw [if_pos rfl] at hnx;obtain ⟨hxn,hzn⟩:=Ca rfl;obtain ⟨zn,zd⟩:=zM rfl;subst hxn hzn;clear Ca zM;have zn:=wH zn;have zd:=wH zd;have hnx:=wH hnx;generalize hs5:decide (x'<0)=s' at *;generalize Dp:decide (z'<0)=r' at *;replace hs5:=wH hs5.symm;replace Dp:=wH Dp.symm;clear hrun zx zz
  go_wp2_with (first
   | (go_at_call 157;(with_reducible refine (DS.out _ _ _ _ _ yg.out yh.out).mono ?_);rintro e w4 ⟨v4,rfl,xF,hb4⟩;obtain ⟨a4,c4,rfl,xD,wS⟩:=aF.view xF;clear xD wS xF;(generalize (Wh.a_ G.natAbs).length=lg at *);replace L3:=wH (Rw.Own.below L3.out hb4);replace C3:=C3.keep hb4;replace N:=N.keep hb4;replace yg:=kO yg hb4;replace yh:=kO yh hb4;replace B3:=d_ B3 hb4;(replace ⟨yX,yY⟩:=C3.b2);(replace ⟨zY,zf,zh,zk⟩:=N.b4))
   | (go_at_call 158;(with_reducible refine (AD.out _ _ _ _ _ yg.out yh.out).mono ?_);rintro e w5 ⟨v5,u5,rfl,wW,AH,hb5⟩;replace C3:=C3.keep hb5;replace N:=N.keep hb5;replace yg:=kO yg hb5;replace yh:=kO yh hb5;replace B3:=d_ B3 hb5;replace L3:=wH (Rw.Own.below L3.out hb5);obtain ⟨a5,c5,rfl,xD,wS⟩:=aF.view wW;clear xD wS;obtain ⟨b5,d5,rfl,xD,wS⟩:=aF.view AH;clear xD wS;have on:=wH (aF.alloc (show aF _ _ _ _ from wW) (.cells #[.bool s',.slice a5 (Wh.a_ x'.natAbs).length c5,.bool r',.slice b5 (Wh.a_ z'.natAbs).length d5] 127));have om:=wH (aF.alloc (show aF _ _ _ _ from AH) (.cells #[.bool s',.slice a5 (Wh.a_ x'.natAbs).length c5,.bool r',.slice b5 (Wh.a_ z'.natAbs).length d5] 127));clear wW AH;(generalize (Wh.a_ x'.natAbs).length=l5 at *);(generalize (Wh.a_ z'.natAbs).length=m5 at *);replace L3:=wH (Rw.Own.alloc L3.out (.cells #[.bool s',.slice a5 l5 c5,.bool r',.slice b5 m5 d5] 127));have M_:=aH.new w5 #[.bool s',.slice a5 l5 c5,.bool r',.slice b5 m5 d5] 127;have b_:=bA w5 (.cells #[.bool s',.slice a5 l5 c5,.bool r',.slice b5 m5 d5] 127);replace C3:=C3.keep b_;replace N:=N.keep b_;replace yg:=kO yg b_;replace yh:=kO yh b_;replace B3:=d_ B3 b_;clear b_;(replace ⟨yX,yY⟩:=C3.b2);(replace ⟨zY,zf,zh,zk⟩:=N.b4);(replace ⟨DO,DP,DQ,DR⟩:=M_.b4))
   | (at_builtin;refine Rw.mh tz (w.heap.size+2) [((s',(a5,l5,c5),r',(b5,m5,d5)):dC)] xs _ ⟨w5.heap.size+1,0,none⟩ 1 1 (by rfl) (by rfl) (.tmp 50) (.tmp 52) (by rfl) (by rfl) (by rfl) (Rw.From.lit ER _ ((s',(a5,l5,c5),r',(b5,m5,d5)):dC) (w5.heap.size+1) (wI _ _)) (by have:=Rw.Own.alloc L3.out (.cells #[.bool s',.slice a5 l5 c5,.bool r',.slice b5 m5 d5] 127);exact this) (by have CZ:=hb4.size;have Dh:=hb5.size;(try simp only [wI] at CZ Dh ⊢);omega) (by rw [hlen.out];simp;omega) ?_;intro v6 w6 hown6 zL E7;have C6:=aH.grown (C3.alloc (.cells #[.bool s',.slice a5 l5 c5,.bool r',.slice b5 m5 d5] 127)) zL (fun e=>by have e2:g=w.heap.size:=Option.some.inj e;omega);have Nz:=wH (aF.fu (aF.alloc on.out (.cells #[.bool s',.slice a5 l5 c5,.bool r',.slice b5 m5 d5] 127)) (Rw.Own.alloc L3.out (.cells #[.bool s',.slice a5 l5 c5,.bool r',.slice b5 m5 d5] 127)) zL);have Ny:=wH (aF.fu (aF.alloc om.out (.cells #[.bool s',.slice a5 l5 c5,.bool r',.slice b5 m5 d5] 127)) (Rw.Own.alloc L3.out (.cells #[.bool s',.slice a5 l5 c5,.bool r',.slice b5 m5 d5] 127)) zL);have B6:=Below.grown (B3.alloc B3.size (.cells #[.bool s',.slice a5 l5 c5,.bool r',.slice b5 m5 d5] 127)) zL (B3.alloc B3.size (.cells #[.bool s',.slice a5 l5 c5,.bool r',.slice b5 m5 d5] 127)).size (fun k_ Ms=>by have e2:g=k_:=Option.some.inj Ms;omega);have hown6:=wH hown6;have BF:=zL.size;have yK:=hb4.size;have HQ:=hb5.size))
  go_roundw
  case rel=>exact ⟨k+1,x',z',xs ++ [((s',(a5,l5,c5),r',(b5,m5,d5)):dC)],((s',(a5,l5,c5),r',(b5,m5,d5)):dC),by omega,(by first | (rw [hj2.out];done) | (rw [hj2.out];go_num)),hnx,hown6.out,wH (by rw [List.length_append,hlen.out];rfl),wH (by rw [List.getElem?_append_right (by rw [hlen.out];omega),hlen.out,Nat.sub_self];rfl),aF.base Nz.out (Nat.zero_le _),aF.base Ny.out (Nat.zero_le _),hs5,Dp,zn.out,zd.out,C6,B6,by (try simp only [wI] at BF yK HQ);omega⟩
  case measure=>simp [intOf] <;> omega
 obtain rfl:k=n:=by omega
 rw [Nat.sub_self];go_wp2;exact bodyPost_ret (v:=.tuple #[.slice (some ⟨g,0,none⟩) (k+1) cap,.bool false]) (by simp [results,Tryz.results106,go_sem, *]) rfl (⟨_,_,rfl,(by rw [hout.out,hrun.out];exact ⟨rfl,zx.out,zz.out,g,cap,s,av,lv,cv,r,bv,mv,dv,rfl,Ew,Ex,Ey,Ez,hs,hr,ox.out,oz.out⟩),B⟩)
noncomputable def CY (n d:Int):Bool:=gC (br n d) (bX n d)
theorem gG (a b:Int) (w:World) (h1:-4000000000000000000≤a) (h2:a≤4000000000000000000) (h3:-4000000000000000000≤b) (h4:b≤4000000000000000000) :
  Calls Tryz.prog 130 #[.int .i64 (a.natAbs:Int),.int .i64 (b.natAbs:Int)] w fun e w'=>e=.returned (.int .i64 (M.gcd a b))∧w=w':=by
 rw [show M.gcd a b=M.gcd a.natAbs b.natAbs from by simp [M.gcd,Int.gcd]];exact dH _ _ _ (by omega) (by omega) (by omega) (by omega)
theorem jp (n d:Int) (w:World) (h1:-4000000000000000000≤n) (h2:n≤4000000000000000000) (h3:-4000000000000000000≤d) (h4:d≤4000000000000000000) (h0:d≠0) :
  Calls Tryz.prog 74 #[.int .i64 n,.int .i64 d] w fun e w'=>e=.returned (.tuple #[.agg #[.int .i64 (M.pick (CY (n) (d)) (br (n) (d))),.int .i64 (M.pick (CY (n) (d)) (bX (n) (d)))],.bool (CY (n) (d))]:Value)∧Below w.heap.size w w':=by
 have g1:=jJ (a:=n) h0;have g2:=nk (a:=n) h0;have t1:=da (a:=n) (d:=M.gcd n d) h1 h2 (by omega);have t2:=da (a:=d) (d:=M.gcd n d) h3 h4 (by omega)
 have E:=fun w=>ew (br n d) (bX n d) w
 unfold CY
 by_cases hn:d<0
 ·rw [dm hn,dl hn] at E ⊢
  cases hok:gC (-n.tdiv (M.gcd n d)) (-d.tdiv (M.gcd n d)) <;> simp only [hok] at E <;> have E:=wH E
  all_goals
   have w1:=IntWalk.i64_in (-n.tdiv (M.gcd n d)) (by omega);have w2:=IntWalk.i64_in (-d.tdiv (M.gcd n d)) (by omega)
   have hg0:¬ -M.gcd n d=0:=by omega
   go_enter Tryz.func74,Tryz.ntmps74
   go_wp2_with (go_at_call 114;refine (ji _ _ _ (by omega) (by omega) (by omega) (by omega)).mono ?_;rintro e w' ⟨rfl,mq,rfl⟩)
   go_region
   all_goals
    clear w1 w2
    go_wp2_with (go_at_call 121;refine (E.out _).mono ?_;rintro e w' ⟨rfl,hb⟩;have xR:=hb.size;(try simp only [wI,aO,World.heap_drewN,aI] at xR);have FF:w.heap.size<w'.heap.size:=(by omega);have GP:=fun o=>(dV hb).1 (w.heap.size) o (by (try simp only [wI,aO,World.heap_drewN,aI]);omega);have GS:=fun o=>(dV hb).2.1 (w.heap.size) o (by (try simp only [wI,aO,World.heap_drewN,aI]);omega);have Gb:w.heap.size+1<w'.heap.size:=(by omega);have GQ:=fun o=>(dV hb).1 (w.heap.size+1) o (by (try simp only [wI,aO,World.heap_drewN,aI]);omega);have GT:=fun o=>(dV hb).2.1 (w.heap.size+1) o (by (try simp only [wI,aO,World.heap_drewN,aI]);omega))
    first
     | (refine bodyPost_ret (v:=.tuple #[.agg #[.int .i64 0,.int .i64 0],.bool false]) ?_ rfl ?_;(· (simp [results,Tryz.results74,go_sem, *];done));(· (refine ⟨?_,(by repeat (first | exact wK _ _ | refine aV ?_ _ | refine aW ?_ (by assumption) | refine Below.drew ?_ | refine wJ ?_ (by first | exact wL _ | exact Nat.le_add_right _ _ | (simp <;> omega)) _ | refine aM ?_ _))⟩;(simp [M.fe];done))))
     | (refine bodyPost_ret (v:=.tuple #[.agg #[.int .i64 (-n.tdiv (M.gcd n d)),.int .i64 (-d.tdiv (M.gcd n d))],.bool true]) ?_ rfl ?_;(· (simp [results,Tryz.results74,go_sem, *];done));(· (refine ⟨?_,(by repeat (first | exact wK _ _ | refine aV ?_ _ | refine aW ?_ (by assumption) | refine Below.drew ?_ | refine wJ ?_ (by first | exact wL _ | exact Nat.le_add_right _ _ | (simp <;> omega)) _ | refine aM ?_ _))⟩;(simp [M.bn];done))))
 rw [dB (by omega),dA (by omega)] at E ⊢
 cases hok:gC (n.tdiv (M.gcd n d)) (d.tdiv (M.gcd n d)) <;> simp only [hok] at E <;> have E:=wH E
 all_goals
  have w1:=IntWalk.i64_in (n.tdiv (M.gcd n d)) (by omega);have w2:=IntWalk.i64_in (d.tdiv (M.gcd n d)) (by omega)
  have hg0:¬ M.gcd n d=0:=by omega
  go_enter Tryz.func74,Tryz.ntmps74
  go_wp2_with (go_at_call 114;refine (ji _ _ _ (by omega) (by omega) (by omega) (by omega)).mono ?_;rintro e w' ⟨rfl,mq,rfl⟩)
  go_region
  all_goals
   clear w1 w2
   go_wp2_with (go_at_call 121;refine (E.out _).mono ?_;rintro e w' ⟨rfl,hb⟩;have xR:=hb.size;(try simp only [wI,aO,World.heap_drewN,aI] at xR);have FF:w.heap.size<w'.heap.size:=(by omega);have GP:=fun o=>(dV hb).1 (w.heap.size) o (by (try simp only [wI,aO,World.heap_drewN,aI]);omega);have GS:=fun o=>(dV hb).2.1 (w.heap.size) o (by (try simp only [wI,aO,World.heap_drewN,aI]);omega);have Gb:w.heap.size+1<w'.heap.size:=(by omega);have GQ:=fun o=>(dV hb).1 (w.heap.size+1) o (by (try simp only [wI,aO,World.heap_drewN,aI]);omega);have GT:=fun o=>(dV hb).2.1 (w.heap.size+1) o (by (try simp only [wI,aO,World.heap_drewN,aI]);omega))
   first
    | (refine bodyPost_ret (v:=.tuple #[.agg #[.int .i64 0,.int .i64 0],.bool false]) ?_ rfl ?_;(· (simp [results,Tryz.results74,go_sem, *];done));(· (refine ⟨?_,(by repeat (first | exact wK _ _ | refine aV ?_ _ | refine aW ?_ (by assumption) | refine Below.drew ?_ | refine wJ ?_ (by first | exact wL _ | exact Nat.le_add_right _ _ | (simp <;> omega)) _ | refine aM ?_ _))⟩;(simp [M.fe];done))))
    | (refine bodyPost_ret (v:=.tuple #[.agg #[.int .i64 (n.tdiv (M.gcd n d)),.int .i64 (d.tdiv (M.gcd n d))],.bool true]) ?_ rfl ?_;(· (simp [results,Tryz.results74,go_sem, *];done));(· (refine ⟨?_,(by repeat (first | exact wK _ _ | refine aV ?_ _ | refine aW ?_ (by assumption) | refine Below.drew ?_ | refine wJ ?_ (by first | exact wL _ | exact Nat.le_add_right _ _ | (simp <;> omega)) _ | refine aM ?_ _))⟩;(simp [M.bn];done))))
theorem rN (n d:Int) (w:World) (h1:-4000000000000000000≤n) (h2:n≤4000000000000000000) (h3:-4000000000000000000≤d) (h4:d≤4000000000000000000) (h0:d≠0) :
  Calls Tryz.prog 79 #[.int .i64 n,.int .i64 d] w fun e w'=>e=.returned (.tuple #[.agg #[.int .i64 (M.pick (CY (n) (d)) (br (n) (d))),.int .i64 (M.pick (CY (n) (d)) (bX (n) (d)))],.bool (CY (n) (d))]:Value)∧Below w.heap.size w w':=by
 have g1:=jJ (a:=n) h0;have g2:=nk (a:=n) h0;have t1:=da (a:=n) (d:=M.gcd n d) h1 h2 (by omega);have t2:=da (a:=d) (d:=M.gcd n d) h3 h4 (by omega)
 have E:=fun w=>mN (br n d) (bX n d) w
 unfold CY
 by_cases hn:d<0
 ·rw [dm hn,dl hn] at E ⊢
  cases hok:gC (-n.tdiv (M.gcd n d)) (-d.tdiv (M.gcd n d)) <;> simp only [hok] at E <;> have E:=wH E
  all_goals
   have w1:=IntWalk.i64_in (-n.tdiv (M.gcd n d)) (by omega);have w2:=IntWalk.i64_in (-d.tdiv (M.gcd n d)) (by omega)
   have hg0:¬ -M.gcd n d=0:=by omega
   go_enter Tryz.func79,Tryz.ntmps79
   go_wp2_with (first | (go_at_call 131;refine (dE _ _ (by omega) (by omega)).mono ?_;rintro e w' ⟨rfl,rfl⟩) | (go_at_call 130;refine (gG n d _ h1 h2 h3 h4).mono ?_;rintro e w' ⟨rfl,rfl⟩))
   go_region
   all_goals
    clear w1 w2
    go_wp2_with (go_at_call 132;refine (E.out _).mono ?_;rintro e w' ⟨rfl,hb⟩;have xR:=hb.size;(try simp only [wI,aO,World.heap_drewN,aI] at xR);have FF:w.heap.size<w'.heap.size:=(by omega);have GP:=fun o=>(dV hb).1 (w.heap.size) o (by (try simp only [wI,aO,World.heap_drewN,aI]);omega);have GS:=fun o=>(dV hb).2.1 (w.heap.size) o (by (try simp only [wI,aO,World.heap_drewN,aI]);omega);have Gb:w.heap.size+1<w'.heap.size:=(by omega);have GQ:=fun o=>(dV hb).1 (w.heap.size+1) o (by (try simp only [wI,aO,World.heap_drewN,aI]);omega);have GT:=fun o=>(dV hb).2.1 (w.heap.size+1) o (by (try simp only [wI,aO,World.heap_drewN,aI]);omega))
    first
     | (refine bodyPost_ret (v:=.tuple #[.agg #[.int .i64 0,.int .i64 0],.bool false]) ?_ rfl ?_;(· (simp [results,Tryz.results79,go_sem, *];done));(· (refine ⟨?_,(by repeat (first | exact wK _ _ | refine aV ?_ _ | refine aW ?_ (by assumption) | refine Below.drew ?_ | refine wJ ?_ (by first | exact wL _ | exact Nat.le_add_right _ _ | (simp <;> omega)) _ | refine aM ?_ _))⟩;(simp [M.fe];done))))
     | (refine bodyPost_ret (v:=.tuple #[.agg #[.int .i64 (-n.tdiv (M.gcd n d)),.int .i64 (-d.tdiv (M.gcd n d))],.bool true]) ?_ rfl ?_;(· (simp [results,Tryz.results79,go_sem, *];done));(· (refine ⟨?_,(by repeat (first | exact wK _ _ | refine aV ?_ _ | refine aW ?_ (by assumption) | refine Below.drew ?_ | refine wJ ?_ (by first | exact wL _ | exact Nat.le_add_right _ _ | (simp <;> omega)) _ | refine aM ?_ _))⟩;(simp [M.bn];done))))
 rw [dB (by omega),dA (by omega)] at E ⊢
 cases hok:gC (n.tdiv (M.gcd n d)) (d.tdiv (M.gcd n d)) <;> simp only [hok] at E <;> have E:=wH E
 all_goals
  have w1:=IntWalk.i64_in (n.tdiv (M.gcd n d)) (by omega);have w2:=IntWalk.i64_in (d.tdiv (M.gcd n d)) (by omega)
  have hg0:¬ M.gcd n d=0:=by omega
  go_enter Tryz.func79,Tryz.ntmps79
  go_wp2_with (first | (go_at_call 131;refine (dE _ _ (by omega) (by omega)).mono ?_;rintro e w' ⟨rfl,rfl⟩) | (go_at_call 130;refine (gG n d _ h1 h2 h3 h4).mono ?_;rintro e w' ⟨rfl,rfl⟩))
  go_region
  all_goals
   clear w1 w2
   go_wp2_with (go_at_call 132;refine (E.out _).mono ?_;rintro e w' ⟨rfl,hb⟩;have xR:=hb.size;(try simp only [wI,aO,World.heap_drewN,aI] at xR);have FF:w.heap.size<w'.heap.size:=(by omega);have GP:=fun o=>(dV hb).1 (w.heap.size) o (by (try simp only [wI,aO,World.heap_drewN,aI]);omega);have GS:=fun o=>(dV hb).2.1 (w.heap.size) o (by (try simp only [wI,aO,World.heap_drewN,aI]);omega);have Gb:w.heap.size+1<w'.heap.size:=(by omega);have GQ:=fun o=>(dV hb).1 (w.heap.size+1) o (by (try simp only [wI,aO,World.heap_drewN,aI]);omega);have GT:=fun o=>(dV hb).2.1 (w.heap.size+1) o (by (try simp only [wI,aO,World.heap_drewN,aI]);omega))
   first
    | (refine bodyPost_ret (v:=.tuple #[.agg #[.int .i64 0,.int .i64 0],.bool false]) ?_ rfl ?_;(· (simp [results,Tryz.results79,go_sem, *];done));(· (refine ⟨?_,(by repeat (first | exact wK _ _ | refine aV ?_ _ | refine aW ?_ (by assumption) | refine Below.drew ?_ | refine wJ ?_ (by first | exact wL _ | exact Nat.le_add_right _ _ | (simp <;> omega)) _ | refine aM ?_ _))⟩;(simp [M.fe];done))))
    | (refine bodyPost_ret (v:=.tuple #[.agg #[.int .i64 (n.tdiv (M.gcd n d)),.int .i64 (d.tdiv (M.gcd n d))],.bool true]) ?_ rfl ?_;(· (simp [results,Tryz.results79,go_sem, *];done));(· (refine ⟨?_,(by repeat (first | exact wK _ _ | refine aV ?_ _ | refine aW ?_ (by assumption) | refine Below.drew ?_ | refine wJ ?_ (by first | exact wL _ | exact Nat.le_add_right _ _ | (simp <;> omega)) _ | refine aM ?_ _))⟩;(simp [M.bn];done))))
end
end Go.Proofs.YtggekfbfechonaaGreat
