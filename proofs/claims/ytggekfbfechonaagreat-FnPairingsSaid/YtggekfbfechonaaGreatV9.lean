/-
  Joined texts: contracts and plain lemmas.
-/
import Derived.Test.YtggekfbfechonaaGreatV1
import Derived.Test.YtggekfbfechonaaGreatV8
import Derived.Test.YtggekfbfechonaaGreatV2
import Derived.Test.YtggekfbfechonaaGreatV3
import Derived.Deep.DeepCutAuto
import Derived.Deep.RegionWith
set_option linter.unusedSimpArgs false
set_option linter.unusedVariables false
set_option maxRecDepth 100000
set_option maxHeartbeats 8000000
namespace Go.Proofs.YtggekfbfechonaaGreat
section
open Go.RowKit
namespace M
inductive Out where
 | inf
 | bad
 | val (x z:Int)
def nx (a b:Int):Out→Out
 | .val x z=>if Wh.aw a b x z=0 then .inf else if Wh.dl (M.af a b) (Wh.bE a b x z) (Wh.aw a b x z)=true then .val (Wh.C8 (M.af a b) (Wh.bE a b x z) (Wh.aw a b x z)) (Wh.C7 (M.af a b) (Wh.bE a b x z) (Wh.aw a b x z)) else .bad
 | o=>o
def run (a b:Int):Nat→Out→Out
 | 0,o=>o
 | k+1,o=>nx a b (run a b k o)
theorem lV {a b:Int} {o:Out} {k:Nat} (h:run a b k o=.inf):∀ n,k≤n→run a b n o=.inf
 | 0,hn=>by
        obtain rfl:k=0:=by omega
        exact h
 | n+1,hn=>by
  by_cases e:k=n+1
  ·exact e ▸ h
  show nx a b (run a b n o)=.inf
  rw [lV h n (by omega)];rfl
theorem lU {a b:Int} {o:Out} {k:Nat} (h:run a b k o=.bad):∀ n,k≤n→run a b n o=.bad
 | 0,hn=>by
        obtain rfl:k=0:=by omega
        exact h
 | n+1,hn=>by
  by_cases e:k=n+1
  ·exact e ▸ h
  show nx a b (run a b n o)=.bad
  rw [lU h n (by omega)];rfl
def df:Out→Int
 | .val x z=>max (Wh.bl x.natAbs:Nat) (Wh.bl z.natAbs:Nat)
 | _=>0
def isInf:Out→Bool
 | .inf=>true
 | _=>false
def isOk:Out→Bool
 | .bad=>false
 | _=>true
def ai (a b X E:Int) (n:Nat):Out:=if E=0 then .inf else run a b n (.val X (E*E))
end M
namespace Wh
theorem mF {n k:Nat} (h:n<2 ^ k):bl n≤k:=by
 unfold bl
 split
 ·omega
 rename_i h0
 have:=(Nat.log2_lt h0 (k:=k)).2 h;omega
theorem jp {z:Int} {n:Nat} (h:sz z n):bl z.natAbs≤14*n:=by
 refine mF (Nat.lt_of_lt_of_le h ?_);rw [Nat.pow_mul];exact Nat.pow_le_pow_left (by decide) n
theorem jl {x z:Int} (h:cZ x z=true):sz x 1000∧sz z 1000:=by
 unfold cZ M.ins at h;simp only [Bool.and_eq_true,decide_eq_true_eq] at h;exact ⟨aQ (aY.1 h.1.1) (by omega),aQ (aY.1 (show (a_ z.natAbs).length≤80 by omega)) (by omega)⟩
theorem jR {D F G:Int} (h:dl D F G=true):cZ (C8 D F G) (C7 D F G)=true:=by
 unfold dl at h;rw [Bool.and_eq_true] at h;exact h.2
end Wh
def nY (base:Nat) (x z:Int) (v:Value) (W:World):Prop:=∃ s1 s2,v=.agg #[.bool (decide (x<0)),s1,.bool (decide (z<0)),s2]∧aF W base s1 (Wh.a_ x.natAbs)∧aF W base s2 (Wh.a_ z.natAbs)
theorem nY.view {base:Nat} {x z:Int} {v:Value} {W:World} (h:nY base x z v W):∃ (s:Bool) (a:Option Addr) (l c:Nat),Hid (s=decide (x<0))∧∃ (r:Bool) (b:Option Addr) (m d:Nat),Hid (r=decide (z<0))∧v=.agg #[.bool s,.slice a l c,.bool r,.slice b m d]∧aF W base (.slice a l c) (Wh.a_ x.natAbs)∧aF W base (.slice b m d) (Wh.a_ z.natAbs):=by
 obtain ⟨s1,s2,rfl,h1,h2⟩:=h;obtain ⟨a,c,rfl,-,-⟩:=aF.view h1;obtain ⟨b,d,rfl,-,-⟩:=aF.view h2;exact ⟨_,a,_,c,xL rfl,_,b,_,d,xL rfl,rfl,h1,h2⟩
theorem nY.KH {base k j:Nat} {x z:Int} {s1 s2:Value} {W:World} (h1:aF W k s1 (Wh.a_ x.natAbs)) (h2:aF W j s2 (Wh.a_ z.natAbs)) (hk:base≤k) (hj:base≤j):(Rg.Val.at (nY base x z)).ok (.agg #[.bool (decide (x<0)),s1,.bool (decide (z<0)),s2]) W:=fun _ hb=>⟨s1,s2,rfl,(aF.below h1 hb).base hk,(aF.below h2 hb).base hj⟩
theorem ii (q:Bool) (A:Option Addr) (L C:Nat) (W:World):Sem.run Tryz.prog (Instr.field 125 (.agg #[.bool q,.slice A L C]) 1) W=.ok (.slice A L C) W:=by kernel_rfl
theorem aH.aK {W:World} {g:Nat} {T:TypeId} {u v x:Value} (h:aH W g T #[u,v,x]):W.cell? ⟨g,0,none⟩=some u∧W.cell? ⟨g,1,none⟩=some v∧W.cell? ⟨g,2,none⟩=some x:=⟨h.cell 0,h.cell 1,h.cell 2⟩
theorem rE (a b X Y E:Int) (n:Nat) (w:World) (hg:M.good a b=true) (hX1:-10000≤X) (hX2:X≤10000) (hE1:0≤E) (hE2:E≤20) (hn:n≤5) :
  Calls Tryz.prog 105 #[.agg #[.int .i64 a,.int .i64 b],.agg #[.int .i64 X,.int .i64 Y,.int .i64 E],.int .i64 (n:Int)] w fun e w'=>e=.returned (.tuple #[.int .i64 (M.df (M.ai a b X E n)),.bool (M.isInf (M.ai a b X E n)),.bool (M.isOk (M.ai a b X E n))])∧Below w.heap.size w w':=by
 have C:=(aH.new w #[.int .i64 a,.int .i64 b] 25).alloc (.cells #[.int .i64 X,.int .i64 Y,.int .i64 E] 27)
 have Q:=(aH.new (w.alloc (.cells #[.int .i64 a,.int .i64 b] 25)) #[.int .i64 X,.int .i64 Y,.int .i64 E] 27)
 rw [xM] at Q;have B:=((xO w.heap.size w).alloc (xP _) (.cells #[.int .i64 a,.int .i64 b] 25)).alloc (by rw [xM];omega) (.cells #[.int .i64 X,.int .i64 Y,.int .i64 E] 27)
 have DM:w.heap.size+2≤((w.alloc (.cells #[.int .i64 a,.int .i64 b] 25)).alloc (.cells #[.int .i64 X,.int .i64 Y,.int .i64 E] 27)).heap.size:=by rw [xM,xM];omega
 generalize hw3:(w.alloc (.cells #[.int .i64 a,.int .i64 b] 25)).alloc (.cells #[.int .i64 X,.int .i64 Y,.int .i64 E] 27)=wc at *;have ⟨q0,q1,q2⟩:=Q.aK;have f_:=C.box.c0;have i_:=C.box.c1
 by_cases h0:E=0
 ·subst h0
  have hz0:M.ai a b X 0 n=.inf:=rfl;rw [hz0];clear hz0;go_enter Tryz.func105,Tryz.ntmps105
  go_wp2;exact bodyPost_ret (v:=.tuple #[.int .i64 0,.bool true,.bool true]) (by simp [results,Tryz.results105,go_sem, *]) rfl (⟨rfl,B⟩)
 have hE:1≤E:=by omega
 have Id:1≤E*E∧E*E≤400:=⟨by have:=Int.mul_le_mul hE hE (by omega) (by omega);omega,by have:=Int.mul_le_mul hE2 hE2 (by omega) (by omega);omega⟩
 have hE0:(E == 0)=false:=by rw [beq_eq_false_iff_ne];exact h0
 have hout:M.ai a b X E n=M.run a b n (.val X (E*E)):=if_neg h0;rw [hout];clear hout h0;obtain ⟨e1,e2⟩:=Id
 have P1:=xL fun W=>bj X W (by omega) (by omega)
 have P2:=xL fun W=>bj (E*E) W (by omega) (by omega)
 have zX:Wh.sz X 1000:=Wh.aQ (Wh.bc (by omega) (by omega)) (by omega);have zE:Wh.sz (E*E) 1000:=Wh.aQ (Wh.bc (by omega) (by omega)) (by omega);have zX:=xL zX;have zE:=xL zE
 have hb2:-10000≤b∧b≤10000:=⟨(M.an (M.am hg)).2.2.1,(M.an (M.am hg)).2.2.2⟩
 have ha2:-1000≤a∧a≤1000:=⟨(M.an (M.am hg)).1,(M.an (M.am hg)).2.1⟩
 obtain ⟨hb1,hb2⟩:=hb2;obtain ⟨ha1,ha2⟩:=ha2;have hg:=xL hg
 have PG:=xL fun (x z:Int) (s r:Bool) v v' W k k' (h1:aF W k v (Wh.a_ x.natAbs)) (h2:aF W k' v' (Wh.a_ z.natAbs)) (hx:Wh.sz x 1000) (hz:Wh.sz z 1000) (hs:s=decide (x<0)) (hr:r=decide (z<0))=>(hs ▸ hr ▸ dm a b x z v v' W k k' h1 h2 hx hz ha1 ha2 hb1 hb2:Calls Tryz.prog 154 #[.agg #[.int .i64 a,.int .i64 b],.agg #[.bool s,v,.bool r,v']] W fun e w'=>∃ sl,e=.returned (.agg #[.bool (decide (Wh.aw a b x z<0)),sl])∧aj w' W.heap.size sl (Wh.aw a b x z)∧Below W.heap.size W w')
 have PD:=xL fun (x z:Int) (s r:Bool) v v' W k k' (h1:aF W k v (Wh.a_ x.natAbs)) (h2:aF W k' v' (Wh.a_ z.natAbs)) (hx:Wh.sz x 1000) (hz:Wh.sz z 1000) (hs:s=decide (x<0)) (hr:r=decide (z<0))=>(hs ▸ hr ▸ p9 a b x z v v' W k k' hg.out h1 h2 hx hz:Calls Tryz.prog 155 #[.agg #[.int .i64 a,.int .i64 b],.agg #[.bool s,v,.bool r,v']] W fun e w'=>∃ v1 v2,e=.returned (.tuple #[.agg #[.bool (decide (Wh.BN (M.af a b) (Wh.bE a b x z) (Wh.aw a b x z)<0)),v1,.bool (decide (Wh.BO (M.af a b) (Wh.bE a b x z) (Wh.aw a b x z)<0)),v2],.bool (Wh.dl (M.af a b) (Wh.bE a b x z) (Wh.aw a b x z))])∧aj w' W.heap.size v1 (Wh.BN (M.af a b) (Wh.bE a b x z) (Wh.aw a b x z))∧aj w' W.heap.size v2 (Wh.BO (M.af a b) (Wh.bE a b x z) (Wh.aw a b x z))∧Below W.heap.size W w')
 have PB:=xL fun (x:Int) (s:Bool) v W k (h1:aF W k v (Wh.a_ x.natAbs)) (hx:Wh.sz x 1000) (hs:s=decide (x<0))=>(hs ▸ mE x v W k h1 (Wh.aY.2 (Wh.aQ hx (by omega))) (Nat.le_trans (Wh.jp hx) (by omega)):Calls Tryz.prog 156 #[.agg #[.bool s,v]] W fun e w'=>e=.returned (.int .i64 (Wh.bl x.natAbs:Nat))∧Below W.heap.size W w')
 clear ha1 ha2 hb1 hb2
 have Mu:=fun q A L C W=>ii q A L C W
 have i2:IntKind.i64.wrap (E*E)=E*E:=IntWalk.i64_in _ (by omega);have i2:=xL i2;go_enter Tryz.func105,Tryz.ntmps105
 go_upto_region 3 with fail
 refine Rg.bS 11 [.is (.pointer (some ⟨w.heap.size+1,0,none⟩)),.is (.int .i64 X),.at (aJ (wc.heap.size) (X)),.is (.pointer (some ⟨w.heap.size+1,2,none⟩)),.is (.int .i64 E),.is (.pointer (some ⟨w.heap.size+1,2,none⟩)),.is (.int .i64 E),.is (.int .i64 (E*E)),.at (aJ (wc.heap.size) (E*E)),.at (nY (wc.heap.size) (X) (E*E)),.new (wc.heap.size) 127 #[.bool false,.slice none 0 0,.bool false,.slice none 0 0]] (by kernel_rfl) (by kernel_rfl) (by kernel_rfl) ⟨?_,?_,?_,?_,?_,?_,?_,?_,?_,?_,?_,fun h_=>absurd h_ (by decide),trivial⟩ ?_
 ·intro _ zZ w_ hB hr
  have e4:zZ.tmps[4]?=some (.pointer (some ⟨w.heap.size+1,0,none⟩)):=hr 4 (by decide);exact Rg.aG rfl (by go_simp)
 ·intro _ zZ w_ hB hr
  have e15:=Rg.c_ (hr 15 (by decide));have k0:=aE hB Q.aK.1;exact Rg.aG rfl (by go_simp)
 ·intro _ zZ w_ hB hr
  have e16:=Rg.c_ (hr 16 (by decide));have ef:=Rg.ef zZ;refine Rg.ae rfl (by go_simp;exact ⟨rfl,rfl⟩) ?_;refine (P1.out _).mono ?_;rintro e w5 ⟨yQ,rfl,xg,hb5⟩;exact ⟨_,rfl,aJ.at xg (by have:=hB.size;omega),hb5⟩
 ·intro _ zZ w_ hB hr
  have e4:zZ.tmps[4]?=some (.pointer (some ⟨w.heap.size+1,0,none⟩)):=hr 4 (by decide);exact Rg.aG rfl (by go_simp)
 ·intro _ zZ w_ hB hr
  have e18:=Rg.c_ (hr 18 (by decide));have k2:=aE hB Q.aK.2.2;exact Rg.aG rfl (by go_simp)
 ·intro _ zZ w_ hB hr
  have e4:zZ.tmps[4]?=some (.pointer (some ⟨w.heap.size+1,0,none⟩)):=hr 4 (by decide);exact Rg.aG rfl (by go_simp)
 ·intro _ zZ w_ hB hr
  have e20:=Rg.c_ (hr 20 (by decide));have k2:=aE hB Q.aK.2.2;exact Rg.aG rfl (by go_simp)
 ·intro _ zZ w_ hB hr
  have e19:=Rg.c_ (hr 19 (by decide));have e21:=Rg.c_ (hr 21 (by decide));exact Rg.aG rfl (by go_simp <;> exact Rg.wo (by omega))
 ·intro _ zZ w_ hB hr
  have e22:=Rg.c_ (hr 22 (by decide));have ef:=Rg.ef zZ;refine Rg.ae rfl (by go_simp;exact ⟨rfl,rfl⟩) ?_;refine (P2.out _).mono ?_;rintro e w5 ⟨yQ,rfl,xg,hb5⟩;exact ⟨_,rfl,aJ.at xg (by have:=hB.size;omega),hb5⟩
 ·intro _ zZ w_ hB hr
  obtain ⟨v17,e17,n17⟩:∃ v,zZ.tmps[17]?=some v∧(Rg.Val.at (aJ (wc.heap.size) (X))).ok v w_:=hr 17 (by decide);obtain ⟨EH,a17,D5,c17,Dx,rfl,Jw⟩:=(Rg.ah n17).view;obtain ⟨v23,e23,n23⟩:∃ v,zZ.tmps[23]?=some v∧(Rg.Val.at (aJ (wc.heap.size) (E*E))).ok v w_:=hr 23 (by decide);obtain ⟨s23,a23,l23,c23,Dz,rfl,Gm⟩:=(Rg.ah n23).view;obtain rfl:=Dx.out;obtain rfl:=Dz.out;exact Rg.vR rfl (by first | (go_simp;done) | (go_simp;rfl)) (nY.KH Jw Gm (xP _) (xP _))
 ·intro _ zZ w_ hB hr
  exact ⟨by have:=hB.size;omega,rfl,by first | (go_simp;done) | (go_simp;rfl)⟩
 intro vals wz hB hv hne;have n9:(Rg.Val.new (wc.heap.size) 127 #[.bool false,.slice none 0 0,.bool false,.slice none 0 0]).ok (vals 10) wz:=hv 10 (by decide);have n24:(Rg.Val.at (nY (wc.heap.size) (X) (E*E))).ok (vals 9) wz:=hv 9 (by decide);simp only [Rg.ay,Rg.fill,Act.put,Nat.reduceAdd];clear hv;obtain ⟨g9,Hb,yH,o9⟩:=n9;replace o9:aH wz g9 127 #[.bool false,.slice none 0 0,.bool false,.slice none 0 0]:=o9;obtain ⟨s24,a24,EX,c24,DK,G9,Ft,m24,GC,Iq,zV,Hj,p24⟩:=(Rg.ah n24).view;simp only [yH,zV];clear yH zV;have ⟨p0,p1,p2,p3,y0,y1,y2,y3,_⟩:=o9.aN;have R:=aH.uG o9 (.bool s24) (.slice a24 EX c24) (.bool G9) (.slice Ft m24 GC);have ox:=xL (aF.base (aF.dH Hj o9 (by decide) (.bool s24) (.slice a24 EX c24) (.bool G9) (.slice Ft m24 GC)) (Nat.zero_le _));have oz:=xL (aF.base (aF.dH p24 o9 (by decide) (.bool s24) (.slice a24 EX c24) (.bool G9) (.slice Ft m24 GC)) (Nat.zero_le _))
 have hkg:w.heap.size+2≤g9:=by omega
 have B2:Below w.heap.size w ((((wz.setCell ⟨g9,0,none⟩ (.bool s24)).setCell ⟨g9,1,none⟩ (.slice a24 EX c24)).setCell ⟨g9,2,none⟩ (.bool G9)).setCell ⟨g9,3,none⟩ (.slice Ft m24 GC)):=xN (xN (xN (xN (d_ B hB) (by simp <;> omega) _) (by simp <;> omega) _) (by simp <;> omega) _) (by simp <;> omega) _;have C2:=((((C.keep hB).other (i:=0) (show w.heap.size≠g9 by omega) (.bool s24)).other (i:=1) (show w.heap.size≠g9 by omega) (.slice a24 EX c24)).other (i:=2) (show w.heap.size≠g9 by omega) (.bool G9)).other (i:=3) (show w.heap.size≠g9 by omega) (.slice Ft m24 GC);unfold Rg.aX Rg.aX Oper.wp
 go_simp
 clear p0 p1 p2 p3 y0 y1 y2 y3 o9 Hj p24 hB B Q q0 q1 q2 f_ i_ C DM Hb i2 P1 P2 hE0 hw3;generalize ((((wz.setCell ⟨g9,0,none⟩ (.bool s24)).setCell ⟨g9,1,none⟩ (.slice a24 EX c24)).setCell ⟨g9,2,none⟩ (.bool G9)).setCell ⟨g9,3,none⟩ (.slice Ft m24 GC))=wd at *;have CX:M.run a b 0 (.val X (E*E))=.val X (E*E):=rfl;generalize hZ:E*E=Z at *;replace hZ:=xL hZ;replace CX:=xL CX;go_wp2
 go_loopw [26] (fun vi wr=>∃ (k:Nat) (x z:Int) (s:Bool) (av:Option Addr) (lv cv:Nat) (r:Bool) (bv:Option Addr) (mv dv:Nat),k≤n∧vi=.int .i64 k∧Hid (M.run a b k (.val X Z)=.val x z)∧aH wr g9 127 #[.bool s,.slice av lv cv,.bool r,.slice bv mv dv]∧aF wr 0 (.slice av lv cv) (Wh.a_ x.natAbs)∧aF wr 0 (.slice bv mv dv) (Wh.a_ z.natAbs)∧Hid (s=decide (x<0))∧Hid (r=decide (z<0))∧Wh.sz x 1000∧Wh.sz z 1000∧aH wr w.heap.size 25 #[.int .i64 a,.int .i64 b]∧Below w.heap.size w wr) (fun vi _=>n - (intOf vi).toNat)
 case atStart=>exact ⟨0,X,Z,s24,a24,EX,c24,G9,Ft,m24,GC,Nat.zero_le _,rfl,CX,R,ox.out,oz.out,DK,Iq,zX.out,zE.out,C2,B2⟩
 case round=>
 clear R ox oz C2 B2 CX DK Iq zX zE;obtain ⟨k,x,z,s,av,lv,cv,r,bv,mv,dv,hk,rfl,hrun,R,ox,oz,hs,hr,zx,zz,C,B⟩:=hrel;have ox:=xL ox;have oz:=xL oz;have zx:=xL zx;have zz:=xL zz;have xT:=R.aN.c0;have xU:=R.aN.c1;have xX:=R.aN.c2;have xY:=R.aN.c3;have f_:=C.box.c0;have i_:=C.box.c1
 by_cases hlt:k<n
 ·have Fp:=xL fun v v' W i j h1 h2=>PG.out x z s r v v' W i j h1 h2 zx.out zz.out hs.out hr.out
  have BI:=xL fun v v' W i j h1 h2=>PD.out x z s r v v' W i j h1 h2 zx.out zz.out hs.out hr.out
  have hnx:M.run a b (k+1) (.val X Z)=M.nx a b (.val x z):=by show M.nx a b (M.run a b k (.val X Z))=_;rw [hrun.out]
  unfold M.nx at hnx
  dsimp only at hnx
  clear PG PD PB hs hr
  have BT:=fun h=>Wh.jl (Wh.jR (D:=M.af a b) (F:=Wh.bE a b x z) (G:=Wh.aw a b x z) h)
  have Ev:Wh.dl (M.af a b) (Wh.bE a b x z) (Wh.aw a b x z)=true→Wh.BN (M.af a b) (Wh.bE a b x z) (Wh.aw a b x z)=Wh.C8 (M.af a b) (Wh.bE a b x z) (Wh.aw a b x z)∧Wh.BO (M.af a b) (Wh.bE a b x z) (Wh.aw a b x z)=Wh.C7 (M.af a b) (Wh.bE a b x z) (Wh.aw a b x z):=fun h=>by unfold Wh.BN Wh.BO;rw [if_pos h,if_pos h];exact ⟨rfl,rfl⟩
  generalize Wh.dl (M.af a b) (Wh.bE a b x z) (Wh.aw a b x z)=ok,Wh.C7 (M.af a b) (Wh.bE a b x z) (Wh.aw a b x z)=dd,Wh.C8 (M.af a b) (Wh.bE a b x z) (Wh.aw a b x z)=nn,Wh.BO (M.af a b) (Wh.bE a b x z) (Wh.aw a b x z)=z',Wh.BN (M.af a b) (Wh.bE a b x z) (Wh.aw a b x z)=x' at *;have hG0:=@Wh.ei (Wh.aw a b x z);generalize Wh.aw a b x z=G at *;generalize decide (G<0)=sg at *
  by_cases hG:G=0
  ·rw [if_pos hG] at hnx
   have hfin:=xL (M.lV hnx n (by omega));have hl0:=hG0.2 hG;clear hnx hG hG0 BT Ev BI;generalize GW:(Wh.a_ G.natAbs).length=lg at *;subst hl0;replace GW:=xL GW
   go_wp2_with (go_at_call 154;(with_reducible refine (Fp.out _ _ _ _ _ ox.out oz.out).mono ?_);rintro e w4 ⟨v4,rfl,yD,hb4⟩;obtain ⟨a4,c4,rfl,yA,xj⟩:=aF.view yD;clear yA xj;(rw [GW.out] at yD ⊢);replace C:=C.keep hb4;replace R:=R.keep hb4;replace B:=d_ B hb4;(replace ⟨f_,i_⟩:=C.b2);(replace ⟨xT,xU,xX,xY⟩:=R.b4))
   exact bodyPost_ret (v:=.tuple #[.int .i64 0,.bool true,.bool true]) (by simp [results,Tryz.results105,go_sem, *]) rfl (⟨by rw [hZ.out,hfin.out];rfl,B⟩)
  rw [if_neg hG] at hnx
  have hl0:¬ (Wh.a_ G.natAbs).length=0:=fun h=>hG (hG0.1 h)
  have hlq:(((Wh.a_ G.natAbs).length:Int) == 0)=false:=by rw [beq_eq_false_iff_ne];omega
  clear hG hG0
  cases ok with
  | false=>
   have hfin:=xL (M.lU hnx n (by omega));clear hnx BT Ev;generalize decide (z'<0)=r',decide (x'<0)=s' at *
   go_wp2_with (first
    | (go_at_call 154;(with_reducible refine (Fp.out _ _ _ _ _ ox.out oz.out).mono ?_);rintro e w4 ⟨v4,rfl,yD,hb4⟩;obtain ⟨a4,c4,rfl,yA,xj⟩:=aF.view yD;clear yA xj yD;(generalize (Wh.a_ G.natAbs).length=lg at *);replace C:=C.keep hb4;replace R:=R.keep hb4;replace ox:=kO ox hb4;replace oz:=kO oz hb4;replace B:=d_ B hb4;(replace ⟨f_,i_⟩:=C.b2);(replace ⟨xT,xU,xX,xY,t_,xQ,xW,xe⟩:=R.yF))
    | (go_at_call 155;(with_reducible refine (BI.out _ _ _ _ _ ox.out oz.out).mono ?_);rintro e w5 ⟨v5,u5,rfl,xg,Bw,hb5⟩;replace C:=C.keep hb5;replace R:=R.keep hb5;replace ox:=kO ox hb5;replace oz:=kO oz hb5;replace B:=d_ B hb5;obtain ⟨a5,c5,rfl,yA,xj⟩:=aF.view xg;clear yA xj;obtain ⟨b5,d5,rfl,yA,xj⟩:=aF.view Bw;clear yA xj;have on:=xL (show aF _ _ _ _ from xg);have om:=xL (show aF _ _ _ _ from Bw);clear xg Bw;(generalize (Wh.a_ x'.natAbs).length=l5 at *);(generalize (Wh.a_ z'.natAbs).length=m5 at *);have N:=aH.new w5 #[.bool s',.slice a5 l5 c5,.bool r',.slice b5 m5 d5] 127;have b_:=bA w5 (.cells #[.bool s',.slice a5 l5 c5,.bool r',.slice b5 m5 d5] 127);replace C:=C.keep b_;replace R:=R.keep b_;replace ox:=kO ox b_;replace oz:=kO oz b_;replace on:=kO on b_;replace om:=kO om b_;replace B:=d_ B b_;clear b_;(replace ⟨f_,i_⟩:=C.b2);(replace ⟨xT,xU,xX,xY,t_,xQ,xW,xe⟩:=R.yF);(replace ⟨CJ,CK,CL,CM⟩:=N.b4)))
   exact bodyPost_ret (v:=.tuple #[.int .i64 0,.bool false,.bool false]) (by simp [results,Tryz.results105,go_sem, *]) rfl (⟨by rw [hZ.out,hfin.out];rfl,B⟩)
  | true=>
  rw [if_pos rfl] at hnx;obtain ⟨hxn,hzn⟩:=Ev rfl;obtain ⟨zn,zd⟩:=BT rfl;subst hxn hzn;clear Ev BT;have zn:=xL zn;have zd:=xL zd;have hnx:=xL hnx;generalize hs5:decide (x'<0)=s' at *;generalize Gb:decide (z'<0)=r' at *;replace hs5:=xL hs5.symm;replace Gb:=xL Gb.symm;clear hrun zx zz
  go_wp2_with (first
   | (go_at_call 154;(with_reducible refine (Fp.out _ _ _ _ _ ox.out oz.out).mono ?_);rintro e w4 ⟨v4,rfl,yD,hb4⟩;obtain ⟨a4,c4,rfl,yA,xj⟩:=aF.view yD;clear yA xj yD;(generalize (Wh.a_ G.natAbs).length=lg at *);replace C:=C.keep hb4;replace R:=R.keep hb4;replace ox:=kO ox hb4;replace oz:=kO oz hb4;replace B:=d_ B hb4;(replace ⟨f_,i_⟩:=C.b2);(replace ⟨xT,xU,xX,xY,t_,xQ,xW,xe⟩:=R.yF))
   | (go_at_call 155;(with_reducible refine (BI.out _ _ _ _ _ ox.out oz.out).mono ?_);rintro e w5 ⟨v5,u5,rfl,xg,Bw,hb5⟩;replace C:=C.keep hb5;replace R:=R.keep hb5;replace ox:=kO ox hb5;replace oz:=kO oz hb5;replace B:=d_ B hb5;obtain ⟨a5,c5,rfl,yA,xj⟩:=aF.view xg;clear yA xj;obtain ⟨b5,d5,rfl,yA,xj⟩:=aF.view Bw;clear yA xj;have on:=xL (show aF _ _ _ _ from xg);have om:=xL (show aF _ _ _ _ from Bw);clear xg Bw;(generalize (Wh.a_ x'.natAbs).length=l5 at *);(generalize (Wh.a_ z'.natAbs).length=m5 at *);have N:=aH.new w5 #[.bool s',.slice a5 l5 c5,.bool r',.slice b5 m5 d5] 127;have b_:=bA w5 (.cells #[.bool s',.slice a5 l5 c5,.bool r',.slice b5 m5 d5] 127);replace C:=C.keep b_;replace R:=R.keep b_;replace ox:=kO ox b_;replace oz:=kO oz b_;replace on:=kO on b_;replace om:=kO om b_;replace B:=d_ B b_;clear b_;(replace ⟨f_,i_⟩:=C.b2);(replace ⟨xT,xU,xX,xY,t_,xQ,xW,xe⟩:=R.yF);(replace ⟨CJ,CK,CL,CM⟩:=N.b4)))
  go_roundw
  case rel=>exact ⟨k+1,_,_,s',a5,l5,c5,r',b5,m5,d5,by omega,by go_num,hnx,aH.uG R (.bool s') (.slice a5 l5 c5) (.bool r') (.slice b5 m5 d5),aF.base (aF.dH on.out R (by decide) (.bool s') (.slice a5 l5 c5) (.bool r') (.slice b5 m5 d5)) (Nat.zero_le _),aF.base (aF.dH om.out R (by decide) (.bool s') (.slice a5 l5 c5) (.bool r') (.slice b5 m5 d5)) (Nat.zero_le _),hs5,Gb,zn.out,zd.out,(((C.other (show w.heap.size≠g9 by omega) _).other (show w.heap.size≠g9 by omega) _).other (show w.heap.size≠g9 by omega) _).other (show w.heap.size≠g9 by omega) _,xN (xN (xN (xN B (by simp <;> omega) _) (by simp <;> omega) _) (by simp <;> omega) _) (by simp <;> omega) _⟩
  case measure=>simp [intOf] <;> omega
 obtain rfl:k=n:=by omega
 have P1:=xL fun v W i h=>PB.out x s v W i h zx.out hs.out
 have P2:=xL fun v W i h=>PB.out z r v W i h zz.out hr.out
 have hfin:=xL (show M.df (M.run a b k (.val X Z))=max ((Wh.bl x.natAbs:Nat):Int) ((Wh.bl z.natAbs:Nat):Int)∧M.isInf (M.run a b k (.val X Z))=false∧M.isOk (M.run a b k (.val X Z))=true by rw [hrun.out];exact ⟨rfl,rfl,rfl⟩)
 have hm1:(Wh.bl x.natAbs:Int)≤14000:=by have:=Wh.jp zx.out;omega
 have hm2:(Wh.bl z.natAbs:Int)≤14000:=by have:=Wh.jp zz.out;omega
 generalize Wh.bl z.natAbs=k2,Wh.bl x.natAbs=k1 at *;have hmax:=xL (show (if (k1:Int)<k2 then (k2:Int) else k1)=max (k1:Int) k2 by split <;> omega);clear PG PD PB hs hr zx zz hrun
 go_upto_region 13 with fail
 refine Rg.bS 10 [.is (.pointer (some ⟨g9,0,none⟩)),.is (.agg #[.bool s,.slice av lv cv]),.is (.int .i64 (k1:Nat)),.is (.pointer (some ⟨g9,2,none⟩)),.is (.agg #[.bool r,.slice bv mv dv]),.is (.int .i64 (k2:Nat)),.is (.int .i64 (max (k1:Int) k2)),.is (.int .i64 (max (k1:Int) k2)),.is (.bool false),.is (.bool true)] (by kernel_rfl) (by kernel_rfl) (by kernel_rfl) ⟨?_,?_,?_,?_,?_,?_,?_,?_,?_,?_,trivial⟩ ?_
 ·intro _ zZ w_ hB hr
  have e9:zZ.tmps[9]?=some (.pointer (some ⟨g9,0,none⟩)):=hr 9 (by decide);exact Rg.aG rfl (by go_simp)
 ·intro _ zZ w_ hB hr
  have e44:=Rg.c_ (hr 44 (by decide));have k0:=aE hB R.aN.c0;have k1:=aE hB R.aN.c1;exact Rg.aG rfl (by go_simp)
 ·intro _ zZ w_ hB hr
  have e45:=Rg.c_ (hr 45 (by decide));have ef:=Rg.ef zZ;exact Rg.bX rfl (by go_simp) (P1.out _ _ _ (aF.below ox.out hB))
 ·intro _ zZ w_ hB hr
  have e9:zZ.tmps[9]?=some (.pointer (some ⟨g9,0,none⟩)):=hr 9 (by decide);exact Rg.aG rfl (by go_simp)
 ·intro _ zZ w_ hB hr
  have e47:=Rg.c_ (hr 47 (by decide));have k2:=aE hB R.aN.c2;have k3:=aE hB R.aN.c3;exact Rg.aG rfl (by go_simp)
 ·intro _ zZ w_ hB hr
  have e48:=Rg.c_ (hr 48 (by decide));have ef:=Rg.ef zZ;exact Rg.bX rfl (by go_simp) (P2.out _ _ _ (aF.below oz.out hB))
 ·intro _ zZ w_ hB hr
  have e46:=Rg.c_ (hr 46 (by decide));have e49:=Rg.c_ (hr 49 (by decide));exact Rg.aG rfl (by go_simp;first | done | (rw [hmax.out];done) | (simp only [hmax.out];done))
 ·intro _ zZ w_ hB hr
  have e50:=Rg.c_ (hr 50 (by decide));exact Rg.aG rfl (by go_simp)
 ·intro _ zZ w_ hB hr
  have ec:=Rg.ec zZ;exact Rg.aG rfl (by go_simp)
 ·intro _ zZ w_ hB hr
  have ec:=Rg.ec zZ;exact Rg.aG rfl (by go_simp)
 intro vals wy hB9 hv hne;have Af:vals 7=.int .i64 (max (k1:Int) k2):=hv 7 (by decide);have Ay:vals 8=.bool false:=hv 8 (by decide);have zV:vals 9=.bool true:=hv 9 (by decide);simp only [Rg.ay,Rg.fill,Act.put,Nat.reduceAdd];clear hv;simp only [Af,Ay,zV];clear Af Ay zV;unfold Rg.aX;go_wp2;exact bodyPost_ret (v:=.tuple #[.int .i64 (max (k1:Int) k2),.bool false,.bool true]) (by simp [results,Tryz.results105,go_sem, *]) rfl (⟨by rw [hZ.out,hfin.out.1,hfin.out.2.1,hfin.out.2.2],d_ B hB9⟩)
abbrev iF:=Bool × (Option Addr × Nat × Nat) × Bool × (Option Addr × Nat × Nat)
def iF.val (q:iF):Value:=.agg #[.bool q.1,.slice q.2.1.1 q.2.1.2.1 q.2.1.2.2,.bool q.2.2.1,.slice q.2.2.2.1 q.2.2.2.2.1 q.2.2.2.2.2]
def ER:Rw.Enc iF where
 t:=127
 k:=4
 cells:=fun q=>[.bool q.1,.slice q.2.1.1 q.2.1.2.1 q.2.1.2.2,.bool q.2.2.1,.slice q.2.2.2.1 q.2.2.2.2.1 q.2.2.2.2.2]
 len:=fun _=>rfl
 one:=fun x u hu=>by simp only [List.mem_cons,List.not_mem_nil,or_false] at hu;rcases hu with rfl | rfl | rfl | rfl <;> rfl
 pos:=by decide
theorem wT:(Tryz.prog.info? 127).map (fun i=>(i.zero,i.size,i.bytes))=some (some (.agg #[.bool false,.slice none 0 0,.bool false,.slice none 0 0]),4,64):=by kernel_rfl
theorem wP:Rw.Fits Tryz.prog ER 121:=⟨Tryz.underlying121,by
 obtain ⟨i0,hi,hz0,hz1,hz2⟩:=info_parts wT
 exact ⟨i0,_,hi,hz0,hz1,by omega,rfl⟩⟩
theorem aF.oZ {W W':World} {b1 b2:Nat} {v sl:Value} {xs:List iF} {ys:List Int} (h:aF W b1 sl ys) (hv:Rw.Own ER W b2 v xs) (hg:W.grownBy W' v.ownBlock):aF W' b1 sl ys:=by
 refine World.ownsRow.kept h hg ?_
 cases hs:sl.ownBlock with
 | none=>exact Or.inl rfl
 | some k=>exact Or.inr fun e=>qK h hv (by decide) k e.symm hs
theorem aH.grown {W W':World} {g:Nat} {T:TypeId} {xs:Array Value} {r:Option Nat} (h:aH W g T xs) (hg:W.grownBy W' r) (hr:r≠some g):aH W' g T xs:=(hg.block g h.lt (fun e=>hr e.symm)).trans h
def ue (W:World) (n:Nat) (o:M.Out) (v:Value) (en:Bool):Prop:=match o with
 | .inf=>en=true∧∃ A l c,v=.slice A l c
 | .bad=>en=false∧∃ A l c,v=.slice A l c∧l≤n
 | .val x z=>en=false∧Wh.sz x 1000∧Wh.sz z 1000∧∃ (g cap:Nat) (s:Bool) (av:Option Addr) (lv cv:Nat) (r:Bool) (bv:Option Addr) (mv dv:Nat),v=.slice (some ⟨g,0,none⟩) (n+1) cap∧
   W.cell? ⟨g,n*4,none⟩=some (.bool s)∧W.cell? ⟨g,n*4+1,none⟩=some (.slice av lv cv)∧W.cell? ⟨g,n*4+2,none⟩=some (.bool r)∧W.cell? ⟨g,n*4+3,none⟩=some (.slice bv mv dv)∧
   Hid (s=decide (x<0))∧Hid (r=decide (z<0))∧aF W 0 (.slice av lv cv) (Wh.a_ x.natAbs)∧aF W 0 (.slice bv mv dv) (Wh.a_ z.natAbs)
theorem nk (a b X Y E:Int) (n:Nat) (w:World) (hg:M.good a b=true) (hX1:-10000≤X) (hX2:X≤10000) (hE1:0≤E) (hE2:E≤20) (hn:n≤5) :
  Calls Tryz.prog 106 #[.agg #[.int .i64 a,.int .i64 b],.agg #[.int .i64 X,.int .i64 Y,.int .i64 E],.int .i64 (n:Int)] w fun e w'=>∃ v,∃ en:Bool,e=.returned (.tuple #[v,.bool en])∧ue w' n (M.ai a b X E n) v en∧Below w.heap.size w w':=by
 have C:=(aH.new w #[.int .i64 a,.int .i64 b] 25).alloc (.cells #[.int .i64 X,.int .i64 Y,.int .i64 E] 27)
 have Q:=(aH.new (w.alloc (.cells #[.int .i64 a,.int .i64 b] 25)) #[.int .i64 X,.int .i64 Y,.int .i64 E] 27)
 rw [xM] at Q;have B:=((xO w.heap.size w).alloc (xP _) (.cells #[.int .i64 a,.int .i64 b] 25)).alloc (by rw [xM];omega) (.cells #[.int .i64 X,.int .i64 Y,.int .i64 E] 27)
 have DM:w.heap.size+2≤((w.alloc (.cells #[.int .i64 a,.int .i64 b] 25)).alloc (.cells #[.int .i64 X,.int .i64 Y,.int .i64 E] 27)).heap.size:=by rw [xM,xM];omega
 generalize hw3:(w.alloc (.cells #[.int .i64 a,.int .i64 b] 25)).alloc (.cells #[.int .i64 X,.int .i64 Y,.int .i64 E] 27)=wc at *;have ⟨q0,q1,q2⟩:=Q.aK;have f_:=C.box.c0;have i_:=C.box.c1
 by_cases h0:E=0
 ·subst h0
  have hz0:=xL (show M.ai a b X 0 n=.inf from rfl);go_enter Tryz.func106,Tryz.ntmps106
  go_wp2;exact bodyPost_ret (v:=.tuple #[.slice none 0 0,.bool true]) (by simp [results,Tryz.results106,go_sem, *]) rfl (⟨_,_,rfl,(by rw [hz0.out];exact ⟨rfl,_,_,_,rfl⟩),B⟩)
 have hE:1≤E:=by omega
 have Id:1≤E*E∧E*E≤400:=⟨by have:=Int.mul_le_mul hE hE (by omega) (by omega);omega,by have:=Int.mul_le_mul hE2 hE2 (by omega) (by omega);omega⟩
 have hE0:(E == 0)=false:=by rw [beq_eq_false_iff_ne];exact h0
 have hout:=xL (show M.ai a b X E n=M.run a b n (.val X (E*E)) from if_neg h0);clear h0;obtain ⟨e1,e2⟩:=Id
 have P1:=fun W=>vg X (E*E) W (by omega) (by omega) (by omega) (by omega)
 have zX:Wh.sz X 1000:=Wh.aQ (Wh.bc (by omega) (by omega)) (by omega);have zE:Wh.sz (E*E) 1000:=Wh.aQ (Wh.bc (by omega) (by omega)) (by omega);have zX:=xL zX;have zE:=xL zE
 have hb2:-10000≤b∧b≤10000:=⟨(M.an (M.am hg)).2.2.1,(M.an (M.am hg)).2.2.2⟩
 have ha2:-1000≤a∧a≤1000:=⟨(M.an (M.am hg)).1,(M.an (M.am hg)).2.1⟩
 obtain ⟨hb1,hb2⟩:=hb2;obtain ⟨ha1,ha2⟩:=ha2;have hg:=xL hg
 have PG:=xL fun (x z:Int) (s r:Bool) v v' W k k' (h1:aF W k v (Wh.a_ x.natAbs)) (h2:aF W k' v' (Wh.a_ z.natAbs)) (hx:Wh.sz x 1000) (hz:Wh.sz z 1000) (hs:s=decide (x<0)) (hr:r=decide (z<0))=>(hs ▸ hr ▸ jt a b x z v v' W k k' h1 h2 hx hz ha1 ha2 hb1 hb2:Calls Tryz.prog 157 #[.agg #[.int .i64 a,.int .i64 b],.agg #[.bool s,v,.bool r,v']] W fun e w'=>∃ sl,e=.returned (.agg #[.bool (decide (Wh.aw a b x z<0)),sl])∧aj w' W.heap.size sl (Wh.aw a b x z)∧Below W.heap.size W w')
 have PD:=xL fun (x z:Int) (s r:Bool) v v' W k k' (h1:aF W k v (Wh.a_ x.natAbs)) (h2:aF W k' v' (Wh.a_ z.natAbs)) (hx:Wh.sz x 1000) (hz:Wh.sz z 1000) (hs:s=decide (x<0)) (hr:r=decide (z<0))=>(hs ▸ hr ▸ oO a b x z v v' W k k' hg.out h1 h2 hx hz:Calls Tryz.prog 158 #[.agg #[.int .i64 a,.int .i64 b],.agg #[.bool s,v,.bool r,v']] W fun e w'=>∃ v1 v2,e=.returned (.tuple #[.agg #[.bool (decide (Wh.BN (M.af a b) (Wh.bE a b x z) (Wh.aw a b x z)<0)),v1,.bool (decide (Wh.BO (M.af a b) (Wh.bE a b x z) (Wh.aw a b x z)<0)),v2],.bool (Wh.dl (M.af a b) (Wh.bE a b x z) (Wh.aw a b x z))])∧aj w' W.heap.size v1 (Wh.BN (M.af a b) (Wh.bE a b x z) (Wh.aw a b x z))∧aj w' W.heap.size v2 (Wh.BO (M.af a b) (Wh.bE a b x z) (Wh.aw a b x z))∧Below W.heap.size W w')
 clear ha1 ha2 hb1 hb2
 have Mu:=fun q A L C W=>ii q A L C W
 have CX:=xL (show M.run a b 0 (.val X (E*E))=.val X (E*E) from rfl);generalize hZ:E*E=Z at *;replace hZ:=xL hZ;generalize hs1:decide (X<0)=s1 at *;generalize hs2:decide (Z<0)=s2 at *;replace hs1:=xL hs1.symm;replace hs2:=xL hs2.symm;have P1:=xL P1;have hQ:=xL Q;have hZE:=hZ.out;go_enter Tryz.func106,Tryz.ntmps106
 go_wp2_with (go_at_call 113;(with_reducible refine (P1.out _).mono ?_);rintro e w4 ⟨v4,u4,rfl,yD,Ip,hb4⟩;obtain ⟨a4,c4,rfl,yA,xj⟩:=aF.view yD;clear yA xj;obtain ⟨b4,d4,rfl,yA,xj⟩:=aF.view Ip;clear yA xj;(generalize (Wh.a_ X.natAbs).length=l4 at *);(generalize (Wh.a_ Z.natAbs).length=m4 at *);replace C:=C.keep hb4;replace B:=d_ B hb4;(replace ⟨f_,i_⟩:=C.b2))
 have Cb:w.heap.size+2≤w4.heap.size:=Nat.le_trans DM hb4.size;have L:=Rw.Own.Nq ER ((s1,(a4,l4,c4),s2,(b4,m4,d4)):iF) w4 (w.heap.size+2) Cb;have ox:=aF.base (aF.alloc (show aF _ _ _ _ from yD) (.cells #[.bool s1,.slice a4 l4 c4,.bool s2,.slice b4 m4 d4] 127)) (Nat.zero_le _);have oz:=aF.base (aF.alloc (show aF _ _ _ _ from Ip) (.cells #[.bool s1,.slice a4 l4 c4,.bool s2,.slice b4 m4 d4] 127)) (Nat.zero_le _);have C2:=C.alloc (.cells #[.bool s1,.slice a4 l4 c4,.bool s2,.slice b4 m4 d4] 127);have B2:=B.alloc B.size (.cells #[.bool s1,.slice a4 l4 c4,.bool s2,.slice b4 m4 d4] 127);have L:=xL L;have ox:=xL ox;have oz:=xL oz;clear yD Ip C B f_ i_ q0 q1 q2 Q hQ hb4 P1 DM hZE
 go_loopw [2,8] (fun vi vl wr=>∃ (k:Nat) (x z:Int) (xs:List iF) (q:iF),k≤n∧vi=.int .i64 ((n - k:Nat):Int)∧Hid (M.run a b k (.val X Z)=.val x z)∧Rw.Own ER wr (w.heap.size+2) vl xs∧Hid (xs.length=k+1)∧Hid (xs[k]?=some q)∧aF wr 0 (.slice q.2.1.1 q.2.1.2.1 q.2.1.2.2) (Wh.a_ x.natAbs)∧aF wr 0 (.slice q.2.2.2.1 q.2.2.2.2.1 q.2.2.2.2.2) (Wh.a_ z.natAbs)∧Hid (q.1=decide (x<0))∧Hid (q.2.2.1=decide (z<0))∧Wh.sz x 1000∧Wh.sz z 1000∧aH wr w.heap.size 25 #[.int .i64 a,.int .i64 b]∧Below w.heap.size w wr∧w.heap.size+2≤wr.heap.size) (fun vi _ _=>(intOf vi).toNat)
 case atStart=>exact ⟨0,X,Z,[((s1,(a4,l4,c4),s2,(b4,m4,d4)):iF)],((s1,(a4,l4,c4),s2,(b4,m4,d4)):iF),Nat.zero_le _,rfl,CX,L.out,xL rfl,xL rfl,ox.out,oz.out,hs1,hs2,zX.out,zE.out,C2,B2,by rw [xM];omega⟩
 case round=>
 clear L ox oz C2 B2 CX hs1 hs2 zX zE Cb;obtain ⟨k,x,z,xs,q,hk,rfl,hrun,L,hlen,hq,ox,oz,hs,hr,zx,zz,C,B,hz⟩:=hrel;obtain ⟨s,⟨av,lv,cv⟩,r,⟨bv,mv,dv⟩⟩:=q
 dsimp only at ox oz hs hr
 rcases L.forms with ⟨rfl,rfl⟩ | ⟨g,cap,rfl,hg1,hg2,hcp1,hcp2⟩
 ·exact absurd hlen.out (by simp)
 have hcl:=fun i u (hu:(ER.cells (s,(av,lv,cv),r,(bv,mv,dv)))[i]?=some u) (hi:i<4)=>Rw.Own.cellAt rfl L (k*4+i) u ((Rw.flat_get ER xs k i _ hq.out hi).trans hu)
 have GJ:wr.cell? ⟨g,k*4,none⟩=some (.bool s):=(hcl 0 _ rfl (by omega)).1;have GK:wr.cell? ⟨g,k*4+1,none⟩=some (.slice av lv cv):=(hcl 1 _ rfl (by omega)).1;have GL:wr.cell? ⟨g,k*4+2,none⟩=some (.bool r):=(hcl 2 _ rfl (by omega)).1;have GM:wr.cell? ⟨g,k*4+3,none⟩=some (.slice bv mv dv):=(hcl 3 _ rfl (by omega)).1;clear hcl;have hlen1:=hlen.out;rw [hlen1] at hcp1 L ⊢;have ox:=xL ox;have oz:=xL oz;have zx:=xL zx;have zz:=xL zz;have L:=xL L;have f_:=C.box.c0;have i_:=C.box.c1;clear hlen1
 by_cases hlt:k<n
 ·obtain ⟨j,hj⟩:∃ j:Nat,n - k=j+1:=⟨n - k - 1,by omega⟩
  have hj2:=xL (show n - (k+1)=j by omega)
  have hjb:(j:Int)≤4:=by omega
  rw [hj];clear hj
  have Fp:=xL fun v v' W i j h1 h2=>PG.out x z s r v v' W i j h1 h2 zx.out zz.out hs.out hr.out
  have BI:=xL fun v v' W i j h1 h2=>PD.out x z s r v v' W i j h1 h2 zx.out zz.out hs.out hr.out
  have hnx:M.run a b (k+1) (.val X Z)=M.nx a b (.val x z):=by show M.nx a b (M.run a b k (.val X Z))=_;rw [hrun.out]
  unfold M.nx at hnx
  dsimp only at hnx
  clear PG PD hs hr
  have BT:=fun h=>Wh.jl (Wh.jR (D:=M.af a b) (F:=Wh.bE a b x z) (G:=Wh.aw a b x z) h)
  have Ev:Wh.dl (M.af a b) (Wh.bE a b x z) (Wh.aw a b x z)=true→Wh.BN (M.af a b) (Wh.bE a b x z) (Wh.aw a b x z)=Wh.C8 (M.af a b) (Wh.bE a b x z) (Wh.aw a b x z)∧Wh.BO (M.af a b) (Wh.bE a b x z) (Wh.aw a b x z)=Wh.C7 (M.af a b) (Wh.bE a b x z) (Wh.aw a b x z):=fun h=>by unfold Wh.BN Wh.BO;rw [if_pos h,if_pos h];exact ⟨rfl,rfl⟩
  generalize Wh.dl (M.af a b) (Wh.bE a b x z) (Wh.aw a b x z)=ok,Wh.C7 (M.af a b) (Wh.bE a b x z) (Wh.aw a b x z)=dd,Wh.C8 (M.af a b) (Wh.bE a b x z) (Wh.aw a b x z)=nn,Wh.BO (M.af a b) (Wh.bE a b x z) (Wh.aw a b x z)=z',Wh.BN (M.af a b) (Wh.bE a b x z) (Wh.aw a b x z)=x' at *;have hG0:=@Wh.ei (Wh.aw a b x z);generalize Wh.aw a b x z=G at *;generalize decide (G<0)=sg at *;have N:=aH.new wr #[.bool s,.slice av lv cv,.bool r,.slice bv mv dv] 127;have C3:=C.alloc (.cells #[.bool s,.slice av lv cv,.bool r,.slice bv mv dv] 127);have B_:=xL (aF.alloc ox.out (.cells #[.bool s,.slice av lv cv,.bool r,.slice bv mv dv] 127));have CA:=xL (aF.alloc oz.out (.cells #[.bool s,.slice av lv cv,.bool r,.slice bv mv dv] 127));have L3:=xL (Rw.Own.alloc L.out (.cells #[.bool s,.slice av lv cv,.bool r,.slice bv mv dv] 127));have B3:=B.alloc B.size (.cells #[.bool s,.slice av lv cv,.bool r,.slice bv mv dv] 127);have Bh:=C3.box.c0;have Bi:=C3.box.c1;have CJ:=N.aN.c0;have CK:=N.aN.c1;have CL:=N.aN.c2;have CM:=N.aN.c3
  by_cases hG:G=0
  ·rw [if_pos hG] at hnx
   have hfin:=xL (M.lV hnx n (by omega));have hl0:=hG0.2 hG;clear hnx hG hG0 BT Ev BI;generalize GW:(Wh.a_ G.natAbs).length=lg at *;subst hl0;replace GW:=xL GW
   go_wp2_with (go_at_call 157;(with_reducible refine (Fp.out _ _ _ _ _ B_.out CA.out).mono ?_);rintro e w4 ⟨v4,rfl,yD,hb4⟩;obtain ⟨a4,c4,rfl,yA,xj⟩:=aF.view yD;clear yA xj;(rw [GW.out] at yD ⊢);replace C3:=C3.keep hb4;replace N:=N.keep hb4;replace B3:=d_ B3 hb4;(replace ⟨Bh,Bi⟩:=C3.b2);(replace ⟨CJ,CK,CL,CM⟩:=N.b4))
   exact bodyPost_ret (v:=.tuple #[.slice (some ⟨g,0,none⟩) (k+1) cap,.bool true]) (by simp [results,Tryz.results106,go_sem, *]) rfl (⟨_,_,rfl,(by rw [hout.out,hfin.out];exact ⟨rfl,_,_,_,rfl⟩),B3⟩)
  rw [if_neg hG] at hnx
  have hl0:¬ (Wh.a_ G.natAbs).length=0:=fun h=>hG (hG0.1 h)
  have hlq:(((Wh.a_ G.natAbs).length:Int) == 0)=false:=by rw [beq_eq_false_iff_ne];omega
  clear hG hG0
  cases ok with
  | false=>
   have hfin:=xL (M.lU hnx n (by omega));clear hnx BT Ev;generalize decide (z'<0)=r',decide (x'<0)=s' at *
   go_wp2_with (first
    | (go_at_call 157;(with_reducible refine (Fp.out _ _ _ _ _ B_.out CA.out).mono ?_);rintro e w4 ⟨v4,rfl,yD,hb4⟩;obtain ⟨a4,c4,rfl,yA,xj⟩:=aF.view yD;clear yA xj yD;(generalize (Wh.a_ G.natAbs).length=lg at *);replace L3:=xL (Rw.Own.below L3.out hb4);replace C3:=C3.keep hb4;replace N:=N.keep hb4;replace B_:=kO B_ hb4;replace CA:=kO CA hb4;replace B3:=d_ B3 hb4;(replace ⟨Bh,Bi⟩:=C3.b2);(replace ⟨CJ,CK,CL,CM⟩:=N.b4))
    | (go_at_call 158;(with_reducible refine (BI.out _ _ _ _ _ B_.out CA.out).mono ?_);rintro e w5 ⟨v5,u5,rfl,xg,Bw,hb5⟩;replace C3:=C3.keep hb5;replace N:=N.keep hb5;replace B_:=kO B_ hb5;replace CA:=kO CA hb5;replace B3:=d_ B3 hb5;replace L3:=xL (Rw.Own.below L3.out hb5);obtain ⟨a5,c5,rfl,yA,xj⟩:=aF.view xg;clear yA xj;obtain ⟨b5,d5,rfl,yA,xj⟩:=aF.view Bw;clear yA xj;have on:=xL (aF.alloc (show aF _ _ _ _ from xg) (.cells #[.bool s',.slice a5 (Wh.a_ x'.natAbs).length c5,.bool r',.slice b5 (Wh.a_ z'.natAbs).length d5] 127));have om:=xL (aF.alloc (show aF _ _ _ _ from Bw) (.cells #[.bool s',.slice a5 (Wh.a_ x'.natAbs).length c5,.bool r',.slice b5 (Wh.a_ z'.natAbs).length d5] 127));clear xg Bw;(generalize (Wh.a_ x'.natAbs).length=l5 at *);(generalize (Wh.a_ z'.natAbs).length=m5 at *);replace L3:=xL (Rw.Own.alloc L3.out (.cells #[.bool s',.slice a5 l5 c5,.bool r',.slice b5 m5 d5] 127));have M_:=aH.new w5 #[.bool s',.slice a5 l5 c5,.bool r',.slice b5 m5 d5] 127;have b_:=bA w5 (.cells #[.bool s',.slice a5 l5 c5,.bool r',.slice b5 m5 d5] 127);replace C3:=C3.keep b_;replace N:=N.keep b_;replace B_:=kO B_ b_;replace CA:=kO CA b_;replace B3:=d_ B3 b_;clear b_;(replace ⟨Bh,Bi⟩:=C3.b2);(replace ⟨CJ,CK,CL,CM⟩:=N.b4);(replace ⟨Hx,Hy,Hz,H0⟩:=M_.b4)))
   exact bodyPost_ret (v:=.tuple #[.slice (some ⟨g,0,none⟩) (k+1) cap,.bool false]) (by simp [results,Tryz.results106,go_sem, *]) rfl (⟨_,_,rfl,(by rw [hout.out,hfin.out];exact ⟨rfl,_,_,_,rfl,by omega⟩),B3⟩)
  | true=>
  rw [if_pos rfl] at hnx;obtain ⟨hxn,hzn⟩:=Ev rfl;obtain ⟨zn,zd⟩:=BT rfl;subst hxn hzn;clear Ev BT;have zn:=xL zn;have zd:=xL zd;have hnx:=xL hnx;generalize hs5:decide (x'<0)=s' at *;generalize Gb:decide (z'<0)=r' at *;replace hs5:=xL hs5.symm;replace Gb:=xL Gb.symm;clear hrun zx zz
  go_wp2_with (first
   | (go_at_call 157;(with_reducible refine (Fp.out _ _ _ _ _ B_.out CA.out).mono ?_);rintro e w4 ⟨v4,rfl,yD,hb4⟩;obtain ⟨a4,c4,rfl,yA,xj⟩:=aF.view yD;clear yA xj yD;(generalize (Wh.a_ G.natAbs).length=lg at *);replace L3:=xL (Rw.Own.below L3.out hb4);replace C3:=C3.keep hb4;replace N:=N.keep hb4;replace B_:=kO B_ hb4;replace CA:=kO CA hb4;replace B3:=d_ B3 hb4;(replace ⟨Bh,Bi⟩:=C3.b2);(replace ⟨CJ,CK,CL,CM⟩:=N.b4))
   | (go_at_call 158;(with_reducible refine (BI.out _ _ _ _ _ B_.out CA.out).mono ?_);rintro e w5 ⟨v5,u5,rfl,xg,Bw,hb5⟩;replace C3:=C3.keep hb5;replace N:=N.keep hb5;replace B_:=kO B_ hb5;replace CA:=kO CA hb5;replace B3:=d_ B3 hb5;replace L3:=xL (Rw.Own.below L3.out hb5);obtain ⟨a5,c5,rfl,yA,xj⟩:=aF.view xg;clear yA xj;obtain ⟨b5,d5,rfl,yA,xj⟩:=aF.view Bw;clear yA xj;have on:=xL (aF.alloc (show aF _ _ _ _ from xg) (.cells #[.bool s',.slice a5 (Wh.a_ x'.natAbs).length c5,.bool r',.slice b5 (Wh.a_ z'.natAbs).length d5] 127));have om:=xL (aF.alloc (show aF _ _ _ _ from Bw) (.cells #[.bool s',.slice a5 (Wh.a_ x'.natAbs).length c5,.bool r',.slice b5 (Wh.a_ z'.natAbs).length d5] 127));clear xg Bw;(generalize (Wh.a_ x'.natAbs).length=l5 at *);(generalize (Wh.a_ z'.natAbs).length=m5 at *);replace L3:=xL (Rw.Own.alloc L3.out (.cells #[.bool s',.slice a5 l5 c5,.bool r',.slice b5 m5 d5] 127));have M_:=aH.new w5 #[.bool s',.slice a5 l5 c5,.bool r',.slice b5 m5 d5] 127;have b_:=bA w5 (.cells #[.bool s',.slice a5 l5 c5,.bool r',.slice b5 m5 d5] 127);replace C3:=C3.keep b_;replace N:=N.keep b_;replace B_:=kO B_ b_;replace CA:=kO CA b_;replace B3:=d_ B3 b_;clear b_;(replace ⟨Bh,Bi⟩:=C3.b2);(replace ⟨CJ,CK,CL,CM⟩:=N.b4);(replace ⟨Hx,Hy,Hz,H0⟩:=M_.b4))
   | (at_builtin;refine Rw.wb wP (w.heap.size+2) [((s',(a5,l5,c5),r',(b5,m5,d5)):iF)] xs _ ⟨w5.heap.size+1,0,none⟩ 1 1 (by rfl) (by rfl) (.tmp 50) (.tmp 52) (by rfl) (by rfl) (by rfl) (Rw.From.lit ER _ ((s',(a5,l5,c5),r',(b5,m5,d5)):iF) (w5.heap.size+1) (xM _ _)) (by have:=Rw.Own.alloc L3.out (.cells #[.bool s',.slice a5 l5 c5,.bool r',.slice b5 m5 d5] 127);exact this) (by have Bb:=hb4.size;have BP:=hb5.size;(try simp only [xM] at Bb BP ⊢);omega) (by rw [hlen.out];simp;omega) ?_;intro v6 w6 hown6 GO hbl6;have C6:=aH.grown (C3.alloc (.cells #[.bool s',.slice a5 l5 c5,.bool r',.slice b5 m5 d5] 127)) GO (fun e=>by have e2:g=w.heap.size:=Option.some.inj e;omega);have on6:=xL (aF.oZ (aF.alloc on.out (.cells #[.bool s',.slice a5 l5 c5,.bool r',.slice b5 m5 d5] 127)) (Rw.Own.alloc L3.out (.cells #[.bool s',.slice a5 l5 c5,.bool r',.slice b5 m5 d5] 127)) GO);have om6:=xL (aF.oZ (aF.alloc om.out (.cells #[.bool s',.slice a5 l5 c5,.bool r',.slice b5 m5 d5] 127)) (Rw.Own.alloc L3.out (.cells #[.bool s',.slice a5 l5 c5,.bool r',.slice b5 m5 d5] 127)) GO);have B6:=Below.grown (B3.alloc B3.size (.cells #[.bool s',.slice a5 l5 c5,.bool r',.slice b5 m5 d5] 127)) GO (B3.alloc B3.size (.cells #[.bool s',.slice a5 l5 c5,.bool r',.slice b5 m5 d5] 127)).size (fun k_ Ex=>by have e2:g=k_:=Option.some.inj Ex;omega);have hown6:=xL hown6;have Hf:=GO.size;have DW:=hb4.size;have Jt:=hb5.size))
  go_roundw
  case rel=>exact ⟨k+1,x',z',xs ++ [((s',(a5,l5,c5),r',(b5,m5,d5)):iF)],((s',(a5,l5,c5),r',(b5,m5,d5)):iF),by omega,(by first | (rw [hj2.out];done) | (rw [hj2.out];go_num)),hnx,hown6.out,xL (by rw [List.length_append,hlen.out];rfl),xL (by rw [List.getElem?_append_right (by rw [hlen.out];omega),hlen.out,Nat.sub_self];rfl),aF.base on6.out (Nat.zero_le _),aF.base om6.out (Nat.zero_le _),hs5,Gb,zn.out,zd.out,C6,B6,by (try simp only [xM] at Hf DW Jt);omega⟩
  case measure=>simp [intOf] <;> omega
 obtain rfl:k=n:=by omega
 rw [Nat.sub_self];go_wp2;exact bodyPost_ret (v:=.tuple #[.slice (some ⟨g,0,none⟩) (k+1) cap,.bool false]) (by simp [results,Tryz.results106,go_sem, *]) rfl (⟨_,_,rfl,(by rw [hout.out,hrun.out];exact ⟨rfl,zx.out,zz.out,g,cap,s,av,lv,cv,r,bv,mv,dv,rfl,GJ,GK,GL,GM,hs,hr,ox.out,oz.out⟩),B⟩)
noncomputable def C9 (n d:Int):Bool:=f5 (br n d) (bW n d)
theorem gA (a b:Int) (w:World) (h1:-4000000000000000000≤a) (h2:a≤4000000000000000000) (h3:-4000000000000000000≤b) (h4:b≤4000000000000000000) :
  Calls Tryz.prog 130 #[.int .i64 (a.natAbs:Int),.int .i64 (b.natAbs:Int)] w fun e w'=>e=.returned (.int .i64 (M.gcd a b))∧w=w':=by
 rw [show M.gcd a b=M.gcd a.natAbs b.natAbs from by simp [M.gcd,Int.gcd]];exact dJ _ _ _ (by omega) (by omega) (by omega) (by omega)
theorem je (n d:Int) (w:World) (h1:-4000000000000000000≤n) (h2:n≤4000000000000000000) (h3:-4000000000000000000≤d) (h4:d≤4000000000000000000) (h0:d≠0) :
  Calls Tryz.prog 74 #[.int .i64 n,.int .i64 d] w fun e w'=>e=.returned (.tuple #[.agg #[.int .i64 (M.pick (C9 (n) (d)) (br (n) (d))),.int .i64 (M.pick (C9 (n) (d)) (bW (n) (d)))],.bool (C9 (n) (d))]:Value)∧Below w.heap.size w w':=by
 have g1:=iz (a:=n) h0;have g2:=ns (a:=n) h0;have t1:=dc (a:=n) (d:=M.gcd n d) h1 h2 (by omega);have t2:=dc (a:=d) (d:=M.gcd n d) h3 h4 (by omega)
 have E:=fun w=>fB (br n d) (bW n d) w
 unfold C9
 by_cases hn:d<0
 ·rw [d7 hn,d6 hn] at E ⊢
  cases hok:f5 (-n.tdiv (M.gcd n d)) (-d.tdiv (M.gcd n d)) <;> simp only [hok] at E <;> have E:=xL E
  all_goals
   have w1:=IntWalk.i64_in (-n.tdiv (M.gcd n d)) (by omega);have w2:=IntWalk.i64_in (-d.tdiv (M.gcd n d)) (by omega)
   have hg0:¬ -M.gcd n d=0:=by omega
   go_enter Tryz.func74,Tryz.ntmps74
   go_wp2_with (go_at_call 114;refine (jW _ _ _ (by omega) (by omega) (by omega) (by omega)).mono ?_;rintro e w' ⟨rfl,mq,rfl⟩)
   go_region
   all_goals
    clear w1 w2
    go_wp2_with (go_at_call 121;refine (E.out _).mono ?_;rintro e w' ⟨rfl,hb⟩;have yO:=hb.size;(try simp only [xM,aP,World.heap_drewN,aI] at yO);have E8:w.heap.size<w'.heap.size:=(by omega);have GR:=fun o=>(dX hb).1 (w.heap.size) o (by (try simp only [xM,aP,World.heap_drewN,aI]);omega);have GU:=fun o=>(dX hb).2.1 (w.heap.size) o (by (try simp only [xM,aP,World.heap_drewN,aI]);omega);have Gd:w.heap.size+1<w'.heap.size:=(by omega);have GS:=fun o=>(dX hb).1 (w.heap.size+1) o (by (try simp only [xM,aP,World.heap_drewN,aI]);omega);have GV:=fun o=>(dX hb).2.1 (w.heap.size+1) o (by (try simp only [xM,aP,World.heap_drewN,aI]);omega))
    first
     | (refine bodyPost_ret (v:=.tuple #[.agg #[.int .i64 0,.int .i64 0],.bool false]) ?_ rfl ?_;(· (simp [results,Tryz.results74,go_sem, *];done));(· (refine ⟨?_,(by repeat (first | exact xO _ _ | refine aS ?_ _ | refine aW ?_ (by assumption) | refine Below.drew ?_ | refine xN ?_ (by first | exact xP _ | exact Nat.le_add_right _ _ | (simp <;> omega)) _ | refine aO ?_ _))⟩;(simp [M.fc];done))))
     | (refine bodyPost_ret (v:=.tuple #[.agg #[.int .i64 (-n.tdiv (M.gcd n d)),.int .i64 (-d.tdiv (M.gcd n d))],.bool true]) ?_ rfl ?_;(· (simp [results,Tryz.results74,go_sem, *];done));(· (refine ⟨?_,(by repeat (first | exact xO _ _ | refine aS ?_ _ | refine aW ?_ (by assumption) | refine Below.drew ?_ | refine xN ?_ (by first | exact xP _ | exact Nat.le_add_right _ _ | (simp <;> omega)) _ | refine aO ?_ _))⟩;(simp [M.dS];done))))
 rw [cw (by omega),cr (by omega)] at E ⊢
 cases hok:f5 (n.tdiv (M.gcd n d)) (d.tdiv (M.gcd n d)) <;> simp only [hok] at E <;> have E:=xL E
 all_goals
  have w1:=IntWalk.i64_in (n.tdiv (M.gcd n d)) (by omega);have w2:=IntWalk.i64_in (d.tdiv (M.gcd n d)) (by omega)
  have hg0:¬ M.gcd n d=0:=by omega
  go_enter Tryz.func74,Tryz.ntmps74
  go_wp2_with (go_at_call 114;refine (jW _ _ _ (by omega) (by omega) (by omega) (by omega)).mono ?_;rintro e w' ⟨rfl,mq,rfl⟩)
  go_region
  all_goals
   clear w1 w2
   go_wp2_with (go_at_call 121;refine (E.out _).mono ?_;rintro e w' ⟨rfl,hb⟩;have yO:=hb.size;(try simp only [xM,aP,World.heap_drewN,aI] at yO);have E8:w.heap.size<w'.heap.size:=(by omega);have GR:=fun o=>(dX hb).1 (w.heap.size) o (by (try simp only [xM,aP,World.heap_drewN,aI]);omega);have GU:=fun o=>(dX hb).2.1 (w.heap.size) o (by (try simp only [xM,aP,World.heap_drewN,aI]);omega);have Gd:w.heap.size+1<w'.heap.size:=(by omega);have GS:=fun o=>(dX hb).1 (w.heap.size+1) o (by (try simp only [xM,aP,World.heap_drewN,aI]);omega);have GV:=fun o=>(dX hb).2.1 (w.heap.size+1) o (by (try simp only [xM,aP,World.heap_drewN,aI]);omega))
   first
    | (refine bodyPost_ret (v:=.tuple #[.agg #[.int .i64 0,.int .i64 0],.bool false]) ?_ rfl ?_;(· (simp [results,Tryz.results74,go_sem, *];done));(· (refine ⟨?_,(by repeat (first | exact xO _ _ | refine aS ?_ _ | refine aW ?_ (by assumption) | refine Below.drew ?_ | refine xN ?_ (by first | exact xP _ | exact Nat.le_add_right _ _ | (simp <;> omega)) _ | refine aO ?_ _))⟩;(simp [M.fc];done))))
    | (refine bodyPost_ret (v:=.tuple #[.agg #[.int .i64 (n.tdiv (M.gcd n d)),.int .i64 (d.tdiv (M.gcd n d))],.bool true]) ?_ rfl ?_;(· (simp [results,Tryz.results74,go_sem, *];done));(· (refine ⟨?_,(by repeat (first | exact xO _ _ | refine aS ?_ _ | refine aW ?_ (by assumption) | refine Below.drew ?_ | refine xN ?_ (by first | exact xP _ | exact Nat.le_add_right _ _ | (simp <;> omega)) _ | refine aO ?_ _))⟩;(simp [M.dS];done))))
theorem rc (n d:Int) (w:World) (h1:-4000000000000000000≤n) (h2:n≤4000000000000000000) (h3:-4000000000000000000≤d) (h4:d≤4000000000000000000) (h0:d≠0) :
  Calls Tryz.prog 79 #[.int .i64 n,.int .i64 d] w fun e w'=>e=.returned (.tuple #[.agg #[.int .i64 (M.pick (C9 (n) (d)) (br (n) (d))),.int .i64 (M.pick (C9 (n) (d)) (bW (n) (d)))],.bool (C9 (n) (d))]:Value)∧Below w.heap.size w w':=by
 have g1:=iz (a:=n) h0;have g2:=ns (a:=n) h0;have t1:=dc (a:=n) (d:=M.gcd n d) h1 h2 (by omega);have t2:=dc (a:=d) (d:=M.gcd n d) h3 h4 (by omega)
 have E:=fun w=>mR (br n d) (bW n d) w
 unfold C9
 by_cases hn:d<0
 ·rw [d7 hn,d6 hn] at E ⊢
  cases hok:f5 (-n.tdiv (M.gcd n d)) (-d.tdiv (M.gcd n d)) <;> simp only [hok] at E <;> have E:=xL E
  all_goals
   have w1:=IntWalk.i64_in (-n.tdiv (M.gcd n d)) (by omega);have w2:=IntWalk.i64_in (-d.tdiv (M.gcd n d)) (by omega)
   have hg0:¬ -M.gcd n d=0:=by omega
   go_enter Tryz.func79,Tryz.ntmps79
   go_wp2_with (first | (go_at_call 131;refine (dG _ _ (by omega) (by omega)).mono ?_;rintro e w' ⟨rfl,rfl⟩) | (go_at_call 130;refine (gA n d _ h1 h2 h3 h4).mono ?_;rintro e w' ⟨rfl,rfl⟩))
   go_region
   all_goals
    clear w1 w2
    go_wp2_with (go_at_call 132;refine (E.out _).mono ?_;rintro e w' ⟨rfl,hb⟩;have yO:=hb.size;(try simp only [xM,aP,World.heap_drewN,aI] at yO);have E8:w.heap.size<w'.heap.size:=(by omega);have GR:=fun o=>(dX hb).1 (w.heap.size) o (by (try simp only [xM,aP,World.heap_drewN,aI]);omega);have GU:=fun o=>(dX hb).2.1 (w.heap.size) o (by (try simp only [xM,aP,World.heap_drewN,aI]);omega);have Gd:w.heap.size+1<w'.heap.size:=(by omega);have GS:=fun o=>(dX hb).1 (w.heap.size+1) o (by (try simp only [xM,aP,World.heap_drewN,aI]);omega);have GV:=fun o=>(dX hb).2.1 (w.heap.size+1) o (by (try simp only [xM,aP,World.heap_drewN,aI]);omega))
    first
     | (refine bodyPost_ret (v:=.tuple #[.agg #[.int .i64 0,.int .i64 0],.bool false]) ?_ rfl ?_;(· (simp [results,Tryz.results79,go_sem, *];done));(· (refine ⟨?_,(by repeat (first | exact xO _ _ | refine aS ?_ _ | refine aW ?_ (by assumption) | refine Below.drew ?_ | refine xN ?_ (by first | exact xP _ | exact Nat.le_add_right _ _ | (simp <;> omega)) _ | refine aO ?_ _))⟩;(simp [M.fc];done))))
     | (refine bodyPost_ret (v:=.tuple #[.agg #[.int .i64 (-n.tdiv (M.gcd n d)),.int .i64 (-d.tdiv (M.gcd n d))],.bool true]) ?_ rfl ?_;(· (simp [results,Tryz.results79,go_sem, *];done));(· (refine ⟨?_,(by repeat (first | exact xO _ _ | refine aS ?_ _ | refine aW ?_ (by assumption) | refine Below.drew ?_ | refine xN ?_ (by first | exact xP _ | exact Nat.le_add_right _ _ | (simp <;> omega)) _ | refine aO ?_ _))⟩;(simp [M.dS];done))))
 rw [cw (by omega),cr (by omega)] at E ⊢
 cases hok:f5 (n.tdiv (M.gcd n d)) (d.tdiv (M.gcd n d)) <;> simp only [hok] at E <;> have E:=xL E
 all_goals
  have w1:=IntWalk.i64_in (n.tdiv (M.gcd n d)) (by omega);have w2:=IntWalk.i64_in (d.tdiv (M.gcd n d)) (by omega)
  have hg0:¬ M.gcd n d=0:=by omega
  go_enter Tryz.func79,Tryz.ntmps79
  go_wp2_with (first | (go_at_call 131;refine (dG _ _ (by omega) (by omega)).mono ?_;rintro e w' ⟨rfl,rfl⟩) | (go_at_call 130;refine (gA n d _ h1 h2 h3 h4).mono ?_;rintro e w' ⟨rfl,rfl⟩))
  go_region
  all_goals
   clear w1 w2
   go_wp2_with (go_at_call 132;refine (E.out _).mono ?_;rintro e w' ⟨rfl,hb⟩;have yO:=hb.size;(try simp only [xM,aP,World.heap_drewN,aI] at yO);have E8:w.heap.size<w'.heap.size:=(by omega);have GR:=fun o=>(dX hb).1 (w.heap.size) o (by (try simp only [xM,aP,World.heap_drewN,aI]);omega);have GU:=fun o=>(dX hb).2.1 (w.heap.size) o (by (try simp only [xM,aP,World.heap_drewN,aI]);omega);have Gd:w.heap.size+1<w'.heap.size:=(by omega);have GS:=fun o=>(dX hb).1 (w.heap.size+1) o (by (try simp only [xM,aP,World.heap_drewN,aI]);omega);have GV:=fun o=>(dX hb).2.1 (w.heap.size+1) o (by (try simp only [xM,aP,World.heap_drewN,aI]);omega))
   first
    | (refine bodyPost_ret (v:=.tuple #[.agg #[.int .i64 0,.int .i64 0],.bool false]) ?_ rfl ?_;(· (simp [results,Tryz.results79,go_sem, *];done));(· (refine ⟨?_,(by repeat (first | exact xO _ _ | refine aS ?_ _ | refine aW ?_ (by assumption) | refine Below.drew ?_ | refine xN ?_ (by first | exact xP _ | exact Nat.le_add_right _ _ | (simp <;> omega)) _ | refine aO ?_ _))⟩;(simp [M.fc];done))))
    | (refine bodyPost_ret (v:=.tuple #[.agg #[.int .i64 (n.tdiv (M.gcd n d)),.int .i64 (d.tdiv (M.gcd n d))],.bool true]) ?_ rfl ?_;(· (simp [results,Tryz.results79,go_sem, *];done));(· (refine ⟨?_,(by repeat (first | exact xO _ _ | refine aS ?_ _ | refine aW ?_ (by assumption) | refine Below.drew ?_ | refine xN ?_ (by first | exact xP _ | exact Nat.le_add_right _ _ | (simp <;> omega)) _ | refine aO ?_ _))⟩;(simp [M.dS];done))))
namespace M
noncomputable def yU (n d:Int):Option (Int × Int):=if C9 n d then some (br n d,bW n d) else none
def fN (r:Option (Int × Int)):Int:=(r.getD (0,0)).1
def fD (r:Option (Int × Int)):Int:=(r.getD (0,0)).2
theorem rb (n d:Int):(.tuple #[.agg #[.int .i64 (M.pick (C9 (n) (d)) (br (n) (d))),.int .i64 (M.pick (C9 (n) (d)) (bW (n) (d)))],.bool (C9 (n) (d))]:Value)=.tuple #[.agg #[.int .i64 (fN (yU n d)),.int .i64 (fD (yU n d))],.bool (yU n d).isSome]:=by
 unfold yU
 cases h:C9 n d <;> simp [M.fc,M.dS,fN,fD]
theorem ta {n d:Int} (h:f5 n d=true):-1000000000≤n∧n≤1000000000∧1≤d∧d≤1000000000:=by
 unfold f5 at h;simp only [Bool.and_eq_true] at h;have h1:=M.fJ h.1.1;have h2:=M.fJ h.1.2;omega
end M
theorem jU (n d:Int) (w:World) (h1:-4000000000000000000≤n) (h2:n≤4000000000000000000) (h3:-4000000000000000000≤d) (h4:d≤4000000000000000000) (h0:d≠0) :
  Calls Tryz.prog 79 #[.int .i64 n,.int .i64 d] w fun e w'=>e=.returned (.tuple #[.agg #[.int .i64 (M.fN (M.yU n d)),.int .i64 (M.fD (M.yU n d))],.bool (M.yU n d).isSome])∧Below w.heap.size w w':=by
 rw [←M.rb];exact rc n d w h1 h2 h3 h4 h0
theorem eO (n d:Int) (w:World) (h1:-4000000000000000000≤n) (h2:n≤4000000000000000000) (h3:-4000000000000000000≤d) (h4:d≤4000000000000000000) (h0:d≠0) :
  Calls Tryz.prog 74 #[.int .i64 n,.int .i64 d] w fun e w'=>e=.returned (.tuple #[.agg #[.int .i64 (M.fN (M.yU n d)),.int .i64 (M.fD (M.yU n d))],.bool (M.yU n d).isSome])∧Below w.heap.size w w':=by
 rw [←M.rb];exact je n d w h1 h2 h3 h4 h0
namespace M
noncomputable def pn (a:Int):Int:=fN (yU a 4096)
noncomputable def pd (a:Int):Int:=fD (yU a 4096)
def aM (lo hi:Int):Bool:=decide (lo≤hi) && decide (-409600000≤lo) && decide (hi≤409600000)
theorem bQ {lo hi:Int} (h:aM lo hi=true):lo≤hi∧-409600000≤lo∧hi≤409600000:=by
 unfold aM at h;simp only [Bool.and_eq_true,decide_eq_true_eq] at h;exact ⟨h.1.1,h.1.2,h.2⟩
theorem pB (a:Int):∃ g q n:Int,M.gcd a 4096=g∧1≤g∧g≤4096∧4096=g*q∧1≤q∧q≤4096∧a=n*g:=by
 have h1:(M.gcd a 4096) ∣ 4096:=Int.gcd_dvd_right ..;have h2:(M.gcd a 4096) ∣ a:=Int.gcd_dvd_left ..;have h3:=iz (a:=a) (b:=4096) (by decide);obtain ⟨q,hq⟩:=h1;obtain ⟨n,hn⟩:=h2;generalize M.gcd a 4096=g at *
 have hq1:1≤q:=by
  rcases Int.lt_or_le q 1 with h | h
  ·have:=Int.mul_nonpos_of_nonneg_of_nonpos (a:=g) (b:=q) (by omega) (by omega)
   omega
  exact h
 have hg:g≤4096:=Int.le_of_dvd (by decide) ⟨q,hq⟩;have hq2:q≤4096:=Int.le_of_dvd (by decide) ⟨g,by rw [Int.mul_comm];exact hq⟩;exact ⟨g,q,n,rfl,by omega,hg,hq,hq1,hq2,by rw [hn,Int.mul_comm]⟩
theorem oy {a g q n:Int} (hg:M.gcd a 4096=g) (h1:1≤g) (hq:4096=g*q) (hn:a=n*g):yU a 4096=if f5 n q then some (n,q) else none:=by
 have e1:br a 4096=n:=by rw [cw (by omega),hg,hn,Int.mul_tdiv_cancel _ (by omega)]
 have e2:bW a 4096=q:=by rw [cr (by omega),hg,hq,Int.mul_tdiv_cancel_left _ (by omega)]
 unfold yU C9;rw [e1,e2]
theorem gJ {a:Int} (h:(yU a 4096).isSome=true):f5 (pn a) (pd a)=true∧1≤pd a∧pd a≤4096∧(4096:Int) % pd a=0∧pn a*(4096 / pd a)=a∧1≤4096 / pd a∧4096 / pd a≤4096∧-1000000000≤pn a∧pn a≤1000000000:=by
 obtain ⟨g,q,n,hg,h1,h2,hq,h3,h4,hn⟩:=pB a;have hf:=oy hg h1 hq hn;unfold pn pd;rw [hf] at h ⊢
 split at h
 ·rename_i hok
  have hb:=ta hok;rw [if_pos hok]
  show f5 n q=true∧_
  have hdiv:(4096:Int) / q=g:=by rw [hq];exact Int.mul_ediv_cancel _ (by omega)
  refine ⟨hok,h3,h4,?_,?_,?_,?_,hb.1,hb.2.1⟩
  ·show (4096:Int) % q=0
   rw [hq];exact Int.mul_emod_left _ _
  ·show n*(4096 / q)=a
   rw [hdiv,hn]
  ·show 1≤(4096:Int) / q
   omega
  show (4096:Int) / q≤4096
  omega
 cases h
theorem bG {a:Int} (h1:-409600000≤a) (h2:a≤409600000):(yU a 4096).isSome=true:=by
 obtain ⟨g,q,n,hg,hg1,hg2,hq,h3,h4,hn⟩:=pB a;rw [oy hg hg1 hq hn]
 have hnb:-1000000000≤n∧n≤1000000000:=by
  constructor
  ·rcases Int.lt_or_le n (-1000000000) with h | h
   ·have:n*g≤n*1:=Int.mul_le_mul_of_nonpos_left (by omega) hg1
    omega
   exact h
  rcases Int.lt_or_le 1000000000 n with h | h
  ·have:n*1≤n*g:=Int.mul_le_mul_of_nonneg_left hg1 (by omega)
   omega
  exact h
 have Mx:M.gcd n q=1:=by
  have e1:M.gcd (n*g) (q*g)=M.gcd n q*g:=by
   unfold M.gcd;rw [Int.gcd_mul_right]
   have:(g.natAbs:Int)=g:=by omega
   rw [Int.natCast_mul,this]
  rw [←hn,Int.mul_comm q g,←hq,hg] at e1;have:=Int.eq_of_mul_eq_mul_right (a:=g) (b:=1) (c:=M.gcd n q) (by omega) (by omega);exact this.symm
 have hok:f5 n q=true:=by
  unfold f5 M.ins;rw [Mx];simp only [Bool.and_eq_true,decide_eq_true_eq];exact ⟨⟨by omega,hnb⟩,rfl⟩
 rw [if_pos hok];rfl
theorem uy {a:Int} (h:(yU a 4096).isSome=true):-4096000000000≤a∧a≤4096000000000:=by
 obtain ⟨-,-,-,-,h5,h6,h7,h8,h9⟩:=gJ h;generalize 4096 / pd a=g at *;have:=aL (x:=pn a) (y:=g) (m:=1000000000) (n:=4096) (by omega) (by omega) (by omega) (by omega);omega
theorem ov {a b:Int} (hb:0<b) (h:a.tmod b<0):a.tdiv b - 1=a / b:=by
 have h1:=Int.mul_tdiv_add_tmod a b;have h2:=Int.lt_tmod_of_pos a hb;exact ((Int.ediv_emod_unique (r:=a.tmod b+b) hb).2 ⟨by rw [Int.mul_sub];omega,by omega,by omega⟩ |>.1).symm
theorem ou {a b:Int} (hb:0<b) (h:¬ a.tmod b<0):a.tdiv b=a / b:=by
 have h1:=Int.mul_tdiv_add_tmod a b;have h2:=Int.tmod_lt_of_pos a hb;exact ((Int.ediv_emod_unique hb).2 ⟨by omega,by omega,h2⟩ |>.1).symm
end M
theorem iL (a b:Int) (w:World) (h1:-4000000000000000000≤a) (h2:a≤4000000000000000000) (hb:0<b) (hb2:b≤4000000000000000000) :
  Calls Tryz.prog 116 #[.int .i64 a,.int .i64 b] w fun e w'=>e=.returned (.int .i64 (a / b))∧w=w':=by
 have t1:=dc (a:=a) (d:=b) h1 h2 (by omega);have m1:=Int.tmod_lt_of_pos a hb;have m2:=Int.lt_tmod_of_pos a hb;have hf:=M.ou (a:=a) hb;have ht:=M.ov (a:=a) hb
 have hb0:¬ b=0:=by omega
 by_cases h:a.tmod b<0
 ·have ht2:=xL (ht h)
  clear hf ht;go_enter Tryz.func116,Tryz.ntmps116
  go_wp2;go_ret;exact ⟨by first | rfl | (rw [←ht2.out];rfl),rfl⟩
 have hf2:=xL (hf h);clear ht hf;go_enter Tryz.func116,Tryz.ntmps116
 go_wp2;go_ret;exact ⟨by first | rfl | (rw [←hf2.out];rfl),rfl⟩
theorem mQ (a b:Int) (w:World) (h1:-4000000000000000000≤a) (h2:a≤4000000000000000000) (hb:0<b) (hb2:b≤4000000000000000000) :
  Calls Tryz.prog 162 #[.int .i64 a,.int .i64 b] w fun e w'=>e=.returned (.int .i64 (a / b))∧w=w':=by
 have t1:=dc (a:=a) (d:=b) h1 h2 (by omega);have m1:=Int.tmod_lt_of_pos a hb;have m2:=Int.lt_tmod_of_pos a hb;have hf:=M.ou (a:=a) hb;have ht:=M.ov (a:=a) hb
 have hb0:¬ b=0:=by omega
 have hb1:(b == 0)=false:=by rw [beq_eq_false_iff_ne];exact hb0
 by_cases h:a.tmod b<0
 ·have ht2:=xL (ht h)
  clear hf ht;go_enter Tryz.func162,Tryz.ntmps162
  go_wp2;go_ret;exact ⟨by first | rfl | (rw [←ht2.out];rfl),rfl⟩
 have hf2:=xL (hf h);clear ht hf;go_enter Tryz.func162,Tryz.ntmps162
 go_wp2;go_ret;exact ⟨by first | rfl | (rw [←hf2.out];rfl),rfl⟩
theorem ek {a b k:Int} (h1:-k≤a) (h2:a≤k) (hb:0<b) (hk:0≤k):-k≤a / b∧a / b≤k:=by
 have e1:=Int.mul_ediv_add_emod a b;have e2:=Int.emod_nonneg a (by omega:b≠0);have e3:=Int.emod_lt_of_pos a hb
 constructor
 ·rcases Int.lt_or_le (a / b) (-k) with h | h
  ·have:b*(a / b)≤b*(-k - 1):=Int.mul_le_mul_of_nonneg_left (by omega) (by omega)
   have h4:b*(-k - 1)≤1*(-k - 1):=Int.mul_le_mul_of_nonpos_right (by omega) (by omega)
   have h5:b*(-k - 1)=b*(-k) - b:=by rw [Int.mul_sub,Int.mul_one]
   have h6:b*(-k)≤1*(-k):=Int.mul_le_mul_of_nonpos_right (by omega) (by omega);omega
  exact h
 rcases Int.lt_or_le k (a / b) with h | h
 ·have h4:b*(k+1)≤b*(a / b):=Int.mul_le_mul_of_nonneg_left (by omega) (by omega)
  have h5:1*(k+1)≤b*(k+1):=Int.mul_le_mul_of_nonneg_right (by omega) (by omega);omega
 exact h
theorem vE (a b:Int) (w:World) (h1:-4000000000000000000≤a) (h2:a≤4000000000000000000) (hb:0<b) (hb2:b≤4000000000000000000) :
  Calls Tryz.prog 163 #[.int .i64 a,.int .i64 b] w fun e w'=>e=.returned (.int .i64 (-(-a / b)))∧w=w':=by
 have P:=fun W=>mQ (-a) b W (by omega) (by omega) hb hb2
 have hq:=ek (a:=-a) (b:=b) (k:=4000000000000000000) (by omega) (by omega) hb (by omega);obtain ⟨q1,q2⟩:=hq;generalize -a / b=q at *;replace P:=xL P;go_enter Tryz.func163,Tryz.ntmps163
 go_wp2_with (go_at_call 162;(with_reducible refine (P.out _).mono ?_);rintro e w4 ⟨rfl,rfl⟩)
 go_ret;exact ⟨rfl,rfl⟩
theorem iC (lo hi:Int) (w:World) :
  Calls Tryz.prog 117 #[.agg #[.int .i64 lo,.int .i64 hi]] w fun e w'=>e=.returned (.bool (M.aM lo hi))∧Below w.heap.size w w':=by
 unfold M.aM
 by_cases h1:lo≤hi
 ·by_cases h2:-409600000≤lo
  ·by_cases h3:hi≤409600000
   all_goals
    go_enter Tryz.func117,Tryz.ntmps117
    go_wp2;go_ret;exact ⟨dj (by simp [h1,h2,h3]),(by repeat (first | exact xO _ _ | refine aS ?_ _ | refine aW ?_ (by assumption) | refine Below.drew ?_ | refine xN ?_ (by first | exact xP _ | exact Nat.le_add_right _ _ | (simp <;> omega)) _ | refine aO ?_ _))⟩
  go_enter Tryz.func117,Tryz.ntmps117
  go_wp2;go_ret;exact ⟨dj (by simp [h1,h2] <;> omega),(by repeat (first | exact xO _ _ | refine aS ?_ _ | refine aW ?_ (by assumption) | refine Below.drew ?_ | refine xN ?_ (by first | exact xP _ | exact Nat.le_add_right _ _ | (simp <;> omega)) _ | refine aO ?_ _))⟩
 go_enter Tryz.func117,Tryz.ntmps117
 go_wp2;go_ret;exact ⟨dj (by simp [h1] <;> omega),(by repeat (first | exact xO _ _ | refine aS ?_ _ | refine aW ?_ (by assumption) | refine Below.drew ?_ | refine xN ?_ (by first | exact xP _ | exact Nat.le_add_right _ _ | (simp <;> omega)) _ | refine aO ?_ _))⟩
theorem vL (a b c d:Int) (w:World) (h1:-4000000000000000000≤a) (h2:a≤4000000000000000000) (h3:-4000000000000000000≤b) (h4:b≤4000000000000000000) (h5:-4000000000000000000≤c) (h6:c≤4000000000000000000) (h7:-4000000000000000000≤d) (h8:d≤4000000000000000000) :
  Calls Tryz.prog 146 #[.agg #[.int .i64 a,.int .i64 b],.agg #[.int .i64 c,.int .i64 d]] w fun e w'=>e=.returned (.agg #[.int .i64 (a+c),.int .i64 (b+d)])∧Below w.heap.size w w':=by
 go_enter Tryz.func146,Tryz.ntmps146
 go_wp2;exact bodyPost_ret (v:=.agg #[.int .i64 (a+c),.int .i64 (b+d)]) (by simp [results,Tryz.results146,go_sem, *]) rfl (⟨rfl,(by repeat (first | exact xO _ _ | refine aS ?_ _ | refine aW ?_ (by assumption) | refine Below.drew ?_ | refine xN ?_ (by first | exact xP _ | exact Nat.le_add_right _ _ | (simp <;> omega)) _ | refine aO ?_ _))⟩)
theorem tn (a b c d:Int) (w:World) (h1:-4000000000000000000≤a) (h2:a≤4000000000000000000) (h3:-4000000000000000000≤b) (h4:b≤4000000000000000000) (h5:-4000000000000000000≤c) (h6:c≤4000000000000000000) (h7:-4000000000000000000≤d) (h8:d≤4000000000000000000) :
  Calls Tryz.prog 147 #[.agg #[.int .i64 a,.int .i64 b],.agg #[.int .i64 c,.int .i64 d]] w fun e w'=>e=.returned (.agg #[.int .i64 (a - d),.int .i64 (b - c)])∧Below w.heap.size w w':=by
 go_enter Tryz.func147,Tryz.ntmps147
 go_wp2;exact bodyPost_ret (v:=.agg #[.int .i64 (a - d),.int .i64 (b - c)]) (by simp [results,Tryz.results147,go_sem, *]) rfl (⟨rfl,(by repeat (first | exact xO _ _ | refine aS ?_ _ | refine aW ?_ (by assumption) | refine Below.drew ?_ | refine xN ?_ (by first | exact xP _ | exact Nat.le_add_right _ _ | (simp <;> omega)) _ | refine aO ?_ _))⟩)
theorem rN (a b c d:Int) (w:World) :
  Calls Tryz.prog 65 #[.agg #[.int .i64 a,.int .i64 b],.agg #[.int .i64 c,.int .i64 d]] w fun e w'=>e=.returned (.agg #[.int .i64 (max a c),.int .i64 (min b d)])∧Below w.heap.size w w':=by
 go_enter Tryz.func65,Tryz.ntmps65
 go_wp2;exact bodyPost_ret (v:=.agg #[.int .i64 (max a c),.int .i64 (min b d)]) (by simp [results,Tryz.results65,go_sem, *]) rfl (⟨rfl,(by repeat (first | exact xO _ _ | refine aS ?_ _ | refine aW ?_ (by assumption) | refine Below.drew ?_ | refine xN ?_ (by first | exact xP _ | exact Nat.le_add_right _ _ | (simp <;> omega)) _ | refine aO ?_ _))⟩)
theorem fA (lo hi:Int) (ok:Bool) (w:World) :
  Calls Tryz.prog 58 #[.agg #[.int .i64 lo,.int .i64 hi],.bool ok] w fun e w'=>e=.returned (.tuple #[.agg #[.int .i64 (M.pick (ok && M.aM lo hi) (M.pn lo)),.int .i64 (M.pick (ok && M.aM lo hi) (M.pd (lo))),.int .i64 (M.pick (ok && M.aM lo hi) (M.pn (hi))),.int .i64 (M.pick (ok && M.aM lo hi) (M.pd (hi)))],.bool (ok && M.aM lo hi)])∧Below w.heap.size w w':=by
 have PV:=xL fun W=>iC lo hi W
 cases ok with
 | false=>
  go_enter Tryz.func58,Tryz.ntmps58
  go_wp2;exact bodyPost_ret (v:=.tuple #[.agg #[.int .i64 0,.int .i64 0,.int .i64 0,.int .i64 0],.bool false]) (by simp [results,Tryz.results58,go_sem, *]) rfl (⟨by simp [M.pick],(by repeat (first | exact xO _ _ | refine aS ?_ _ | refine aW ?_ (by assumption) | refine Below.drew ?_ | refine xN ?_ (by first | exact xP _ | exact Nat.le_add_right _ _ | (simp <;> omega)) _ | refine aO ?_ _))⟩)
 | true=>
 cases hs:M.aM lo hi with
 | false=>
  have Ec:=PV.out;rw [hs] at Ec;have Ec:=xL Ec;clear PV hs
  have R:=((aH.new (w.alloc (.cells #[.int .i64 lo,.int .i64 hi] 74)) #[.int .i64 0,.int .i64 0,.int .i64 0,.int .i64 0] 33))
  rw [xM] at R;have B:=((xO w.heap.size w).alloc (xP _) (.cells #[.int .i64 lo,.int .i64 hi] 74)).alloc (by rw [xM];omega) (.cells #[.int .i64 0,.int .i64 0,.int .i64 0,.int .i64 0] 33);go_enter Tryz.func58,Tryz.ntmps58
  go_wp2_with (go_at_call 117;(with_reducible refine (Ec.out _).mono ?_);rintro e w4 ⟨rfl,hb4⟩;have R2:=(R.keep hb4).aN;(have ⟨c0,c1,c2,c3,f0,f1,f2,f3,_⟩:=R2);have B4:=d_ B hb4)
  exact bodyPost_ret (v:=.tuple #[.agg #[.int .i64 0,.int .i64 0,.int .i64 0,.int .i64 0],.bool false]) (by simp [results,Tryz.results58,go_sem, *]) rfl (⟨by simp [M.pick],xN (xN (xN (xN B4 (by simp <;> omega) _) (by simp <;> omega) _) (by simp <;> omega) _) (by simp <;> omega) _⟩)
 | true=>
 obtain ⟨h1,h2,h3⟩:=M.bQ hs;have Ec:=PV.out;rw [hs] at Ec;have Ec:=xL Ec;clear PV hs
 have P1:=fun W=>eO lo 4096 W (by omega) (by omega) (by omega) (by omega) (by omega)
 have P2:=fun W=>eO hi 4096 W (by omega) (by omega) (by omega) (by omega) (by omega)
 have e1:=xL (show M.pn lo=M.fN (M.yU lo 4096) from rfl);have e2:=xL (show M.pd lo=M.fD (M.yU lo 4096) from rfl);have e3:=xL (show M.pn hi=M.fN (M.yU hi 4096) from rfl);have e4:=xL (show M.pd hi=M.fD (M.yU hi 4096) from rfl);generalize M.fD (M.yU hi 4096)=p4,M.fN (M.yU hi 4096)=p3,M.fD (M.yU lo 4096)=p2,M.fN (M.yU lo 4096)=p1,(M.yU hi 4096).isSome=o2,(M.yU lo 4096).isSome=o1 at *;replace P1:=xL P1;replace P2:=xL P2;have S:=(aH.new w #[.int .i64 lo,.int .i64 hi] 74).alloc (.cells #[.int .i64 0,.int .i64 0,.int .i64 0,.int .i64 0] 33)
 have R:=((aH.new (w.alloc (.cells #[.int .i64 lo,.int .i64 hi] 74)) #[.int .i64 0,.int .i64 0,.int .i64 0,.int .i64 0] 33))
 rw [xM] at R;have B:=((xO w.heap.size w).alloc (xP _) (.cells #[.int .i64 lo,.int .i64 hi] 74)).alloc (by rw [xM];omega) (.cells #[.int .i64 0,.int .i64 0,.int .i64 0,.int .i64 0] 33);generalize hw3:(w.alloc (.cells #[.int .i64 lo,.int .i64 hi] 74)).alloc (.cells #[.int .i64 0,.int .i64 0,.int .i64 0,.int .i64 0] 33)=wc at *;have A5:=S.box.c0;have A6:=S.box.c1;go_enter Tryz.func58,Tryz.ntmps58
 go_wp2_with (first
  | (go_at_call 117;(with_reducible refine (Ec.out _).mono ?_);rintro e w4 ⟨rfl,hb4⟩;replace S:=S.keep hb4;replace R:=R.keep hb4;replace B:=d_ B hb4;(replace ⟨A5,A6⟩:=S.b2);(replace ⟨xT,xU,xX,xY,t_,xQ,xW,xe⟩:=R.yF))
  | (go_at_call 74;(with_reducible refine (P1.out _).mono ?_);rintro e w5 ⟨rfl,hb5⟩;replace S:=S.keep hb5;replace R:=R.keep hb5;replace B:=d_ B hb5;have F:=aH.new w5 #[.int .i64 p1,.int .i64 p2] 31;have b_:=bA w5 (.cells #[.int .i64 p1,.int .i64 p2] 31);replace S:=S.keep b_;replace R:=R.keep b_;replace B:=d_ B b_;clear b_;(replace ⟨A5,A6⟩:=S.b2);(replace ⟨xT,xU,xX,xY,t_,xQ,xW,xe⟩:=R.yF);(replace ⟨A1,A2⟩:=F.b2))
  | (go_at_call 74;(with_reducible refine (P2.out _).mono ?_);rintro e w6 ⟨rfl,hb6⟩;replace S:=S.keep hb6;replace R:=R.keep hb6;replace F:=F.keep hb6;replace B:=d_ B hb6;have G:=aH.new w6 #[.int .i64 p3,.int .i64 p4] 31;have b_:=bA w6 (.cells #[.int .i64 p3,.int .i64 p4] 31);replace S:=S.keep b_;replace R:=R.keep b_;replace F:=F.keep b_;replace B:=d_ B b_;clear b_;(replace ⟨A5,A6⟩:=S.b2);(replace ⟨xT,xU,xX,xY,t_,xQ,xW,xe⟩:=R.yF);(replace ⟨A1,A2⟩:=F.b2);(replace ⟨DD,DE⟩:=G.b2)))
 exact bodyPost_ret (v:=.tuple #[.agg #[.int .i64 p1,.int .i64 p2,.int .i64 p3,.int .i64 p4],.bool true]) (by simp [results,Tryz.results58,go_sem, *]) rfl (⟨by simp [M.pick,e1.out,e2.out,e3.out,e4.out],xN (xN (xN (xN B (by simp <;> omega) _) (by simp <;> omega) _) (by simp <;> omega) _) (by simp <;> omega) _⟩)
theorem fp (a:Int) (w:World) (h:(M.yU a 4096).isSome=true) :
  Calls Tryz.prog 153 #[.agg #[.int .i64 (M.pn a),.int .i64 (M.pd a)]] w fun e w'=>e=.returned (.tuple #[.int .i64 a,.bool (M.ins a (-409600000) 409600000)])∧Below w.heap.size w w':=by
 obtain ⟨hok,d1,d2,hm,hp,g1,g2,n1,n2⟩:=M.gJ h;have Mt:=M.uy h;obtain ⟨r1,r2⟩:=Mt
 have PF:=fun W=>mR (M.pn a) (M.pd a) W
 rw [hok] at PF;generalize M.pd a=d,M.pn a=n at *
 have hd0:¬ d=0:=by omega
 have ht:(4096:Int).tmod d=0:=by rw [Int.tmod_eq_emod_of_nonneg (by omega)];exact hm
 have hq:(4096:Int).tdiv d=4096 / d:=Int.tdiv_eq_ediv_of_nonneg (by omega)
 have PI:=fun W=>dq a (-409600000) 409600000 W
 replace PF:=xL PF;replace PI:=xL PI;clear h hok;generalize 4096 / d=g at *;have hq2:=xL hq;have hp2:=xL hp;have hw1:=xL (show IntKind.i64.wrap g=g from IntWalk.i64_in _ (by omega));have hw2:=xL (show IntKind.i64.wrap (n*g)=a by rw [hp];exact IntWalk.i64_in _ (by omega));clear hq hp;have hm2:=xL hm;have V:=aH.new w #[.int .i64 n,.int .i64 d] 31;have B:=(xO w.heap.size w).alloc (xP _) (.cells #[.int .i64 n,.int .i64 d] 31);generalize hw3:w.alloc (.cells #[.int .i64 n,.int .i64 d] 31)=wc at *;have x8:=V.box.c0;have x9:=V.box.c1;go_enter Tryz.func153,Tryz.ntmps153
 go_upto_region 3 with (go_at_call 132;(with_reducible refine (PF.out _).mono ?_);rintro e w4 ⟨rfl,hb4⟩;replace V:=V.keep hb4;replace B:=d_ B hb4;(replace ⟨x8,x9⟩:=V.b2))
 refine Rg.bS 7 [.is (.pointer (some ⟨w.heap.size,0,none⟩)),.is (.int .i64 n),.is (.pointer (some ⟨w.heap.size,1,none⟩)),.is (.int .i64 d),.is (.int .i64 g),.is (.int .i64 a),.is (.int .i64 a)] (by kernel_rfl) (by kernel_rfl) (by kernel_rfl) ⟨?_,?_,?_,?_,?_,?_,?_,trivial⟩ ?_
 ·intro _ zZ w_ hB hr
  have e1:zZ.tmps[1]?=some (.pointer (some ⟨w.heap.size,0,none⟩)):=hr 1 (by decide);exact Rg.aG rfl (by go_simp)
 ·intro _ zZ w_ hB hr
  have e14:=Rg.c_ (hr 14 (by decide));have k0:=aE hB V.box.c0;exact Rg.aG rfl (by go_simp)
 ·intro _ zZ w_ hB hr
  have e1:zZ.tmps[1]?=some (.pointer (some ⟨w.heap.size,0,none⟩)):=hr 1 (by decide);exact Rg.aG rfl (by go_simp)
 ·intro _ zZ w_ hB hr
  have e16:=Rg.c_ (hr 16 (by decide));have k1:=aE hB V.box.c1;exact Rg.aG rfl (by go_simp)
 ·intro _ zZ w_ hB hr
  have e17:=Rg.c_ (hr 17 (by decide));have ec:=Rg.ec zZ;exact Rg.aG rfl (by go_simp;first | done | (rw [hq2.out];first | done | rw [hw1.out] | (exact ⟨hd0,by rw [hw1.out]⟩)) | (simp only [hq2.out,hw1.out];done) | (simp [hq2.out,hw1.out,hd0];done))
 ·intro _ zZ w_ hB hr
  have e15:=Rg.c_ (hr 15 (by decide));have e18:=Rg.c_ (hr 18 (by decide));exact Rg.aG rfl (by go_simp;first | done | (rw [hw2.out];done) | exact hw2.out)
 ·intro _ zZ w_ hB hr
  have e19:=Rg.c_ (hr 19 (by decide));exact Rg.aG rfl (by go_simp)
 intro vals wz hB hv hne;have DZ:vals 6=.int .i64 a:=hv 6 (by decide);simp only [Rg.ay,Rg.fill,Act.put,Nat.reduceAdd];clear hv;simp only [DZ];clear DZ;unfold Rg.aX
 go_wp2_with (go_at_call 78;(with_reducible refine (PI.out _).mono ?_);rintro e w6 ⟨rfl,rfl⟩)
 go_ret2;exact ⟨rfl,d_ B hB⟩
theorem gp (a b:Int) (w:World) (h1:(M.yU a 4096).isSome=true) (h2:(M.yU b 4096).isSome=true) :
  Calls Tryz.prog 136 #[.agg #[.int .i64 (M.pn a),.int .i64 (M.pd a),.int .i64 (M.pn b),.int .i64 (M.pd b)]] w fun e w'=>e=.returned (.bool (M.aM a b))∧Below w.heap.size w w':=by
 have P1:=xL fun W=>fp a W h1
 have P2:=xL fun W=>fp b W h2
 have hs:M.aM a b=(M.ins a (-409600000) 409600000 && M.ins b (-409600000) 409600000 && decide (a≤b)):=by
  rw [Bool.eq_iff_iff];unfold M.aM M.ins;simp only [Bool.and_eq_true,decide_eq_true_eq];omega
 rw [hs];clear hs;generalize M.pd b=d2,M.pn b=n2,M.pd a=d1,M.pn a=n1 at *;have V:=aH.new w #[.int .i64 n1,.int .i64 d1,.int .i64 n2,.int .i64 d2] 33;have B:=(xO w.heap.size w).alloc (xP _) (.cells #[.int .i64 n1,.int .i64 d1,.int .i64 n2,.int .i64 d2] 33);generalize hw3:w.alloc (.cells #[.int .i64 n1,.int .i64 d1,.int .i64 n2,.int .i64 d2] 33)=wc at *;have x8:=V.aN.c0;have x9:=V.aN.c1;have AW:=V.aN.c2;have AX:=V.aN.c3;generalize M.ins b (-409600000) 409600000=i2,M.ins a (-409600000) 409600000=i1 at *
 by_cases hab:a≤b <;> cases i1 <;> cases i2
 all_goals
  go_enter Tryz.func136,Tryz.ntmps136
  go_wp2_with (go_at_call 153;first | ((with_reducible refine (P1.out _).mono ?_);rintro e w4 ⟨rfl,hb4⟩;have V4:=V.keep hb4;have B4:=d_ B hb4;have y0:=V4.aN.c0;have y1:=V4.aN.c1;have y2:=V4.aN.c2;have y3:=V4.aN.c3) | ((with_reducible refine (P2.out _).mono ?_);rintro e w5 ⟨rfl,hb5⟩;have B5:=d_ B4 hb5))
  all_goals
   go_ret;exact ⟨by first | rfl | (simp [hab];done) | (exact dj (by simp [hab];done)) | (exact dj (by simp <;> omega)),B5⟩
theorem eM (a b:Int) (w:World) (h1:(M.yU a 4096).isSome=true) (h2:(M.yU b 4096).isSome=true) :
  Calls Tryz.prog 101 #[.agg #[.int .i64 (M.pn a),.int .i64 (M.pd a),.int .i64 (M.pn b),.int .i64 (M.pd b)]] w fun e w'=>e=.returned (.tuple #[.int .i64 a,.int .i64 b])∧Below w.heap.size w w':=by
 have P1:=xL fun W=>fp a W h1
 have P2:=xL fun W=>fp b W h2
 generalize M.ins b (-409600000) 409600000=i2,M.ins a (-409600000) 409600000=i1,M.pd b=d2,M.pn b=n2,M.pd a=d1,M.pn a=n1 at *;have V:=aH.new w #[.int .i64 n1,.int .i64 d1,.int .i64 n2,.int .i64 d2] 33;have B:=(xO w.heap.size w).alloc (xP _) (.cells #[.int .i64 n1,.int .i64 d1,.int .i64 n2,.int .i64 d2] 33);generalize hw3:w.alloc (.cells #[.int .i64 n1,.int .i64 d1,.int .i64 n2,.int .i64 d2] 33)=wc at *;have x8:=V.aN.c0;have x9:=V.aN.c1;have AW:=V.aN.c2;have AX:=V.aN.c3;go_enter Tryz.func101,Tryz.ntmps101
 go_wp2_with (go_at_call 153;first | ((with_reducible refine (P1.out _).mono ?_);rintro e w4 ⟨rfl,hb4⟩;have V4:=V.keep hb4;have B4:=d_ B hb4;have y0:=V4.aN.c0;have y1:=V4.aN.c1;have y2:=V4.aN.c2;have y3:=V4.aN.c3) | ((with_reducible refine (P2.out _).mono ?_);rintro e w5 ⟨rfl,hb5⟩;have B5:=d_ B4 hb5))
 go_ret2;exact ⟨rfl,B5⟩
end
section
namespace M
theorem ja {p:Int} (h:1≤p):∀ k:Nat,1≤el p k
 | 0=>by simp [el]
 | k+1=>by
  have h1:=ja h k;have:=Int.mul_le_mul h1 h (by omega) (by omega)
  simpa [el] using this
theorem qF {p:Int} (h:1≤p) (k:Nat):el p k≤el p (k+1):=by
 have h1:=ja h k;have:=Int.mul_le_mul_of_nonneg_left h (show 0≤el p k by omega);simp only [el];omega
theorem kC {p:Int} (h:1≤p) {i j:Nat} (hij:i≤j):el p i≤el p j:=by
 induction j with
 | zero=>
      obtain rfl:i=0:=by omega
      exact Int.le_refl _
 | succ j ih=>
 rcases Nat.lt_or_ge i (j+1) with q | q
 ·exact Int.le_trans (ih (by omega)) (qF h j)
 obtain rfl:i=j+1:=by omega
 exact Int.le_refl _
def uR (p:Int) (d:Nat):Prop:=el p d≤1000000000∧1000000000<el p (d+1)
theorem uR.le {p:Int} {d j:Nat} (hp:1≤p) (h:uR p d) (hj:j≤d):el p j≤1000000000:=Int.le_trans (kC hp hj) h.1
end M
end
section
open Go.RowKit
theorem mW (p:Int) (k:Nat) (w:World) (p1:1≤p) (hb:M.el p k≤4000000000000000000) (hk:k≤1000) :
  Calls Tryz.prog 76 #[.int .i64 p,.int .i64 k] w fun e w'=>e=.returned (.int .i64 (M.el p k))∧w=w':=by
 go_enter Tryz.func76,Tryz.ntmps76
 go_wp2
 go_loop [5,7] (fun vo vi=>∃ j:Nat,j≤k∧vi=.int .i64 j∧vo=.int .i64 (M.el p j)) (fun _ vi=>(k - (intOf vi).toNat))
 case atStart=>exact ⟨0,by omega,rfl,rfl⟩
 case round=>
 obtain ⟨j,hj,rfl,rfl⟩:=hrel
 by_cases hlt:j<k
 ·have h1:=M.ja p1 j
  have h2:=M.kC p1 (show j+1≤k from hlt);have h3:M.el p j*p≤4000000000000000000:=Int.le_trans h2 hb;have h4:0≤M.el p j*p:=Int.mul_nonneg (by omega) (by omega);go_wp2
  go_round
  case rel=>exact ⟨j+1,by omega,by go_num,rfl⟩
  case measure=>simp [intOf];omega
 obtain rfl:j=k:=by omega
 go_wp2;go_ret;exact ⟨rfl,rfl⟩
theorem qH (a b:Int) (w:World) :
  Calls Tryz.prog 165 #[.int .i64 a,.int .i64 b] w fun e w'=>e=.returned (.int .i64 (min a b))∧w=w':=by
 by_cases h:a<b
 ·have h2:min a b=a:=by omega
  rw [h2];go_enter Tryz.func165,Tryz.ntmps165
  go_wp2;go_ret;exact ⟨rfl,rfl⟩
 have h2:min a b=b:=by omega
 rw [h2];go_enter Tryz.func165,Tryz.ntmps165
 go_wp2;go_ret;exact ⟨rfl,rfl⟩
end
end Go.Proofs.YtggekfbfechonaaGreat
