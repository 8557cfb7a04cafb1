/-
  Joined texts: contracts and plain lemmas.
-/
import Derived.Test.YtgfkcoablfjbcaaGreatU1
import Derived.Test.YtgfkcoablfjbcaaGreatU7
import Derived.Test.YtgfkcoablfjbcaaGreatU2
import Derived.Deep.DeepCutAuto
import Derived.Deep.RegionWith
set_option linter.unusedSimpArgs false
set_option linter.unusedVariables false
set_option maxRecDepth 100000
set_option maxHeartbeats 8000000
namespace Go.Proofs.YtgfkcoablfjbcaaGreat
section
open Go.RowKit
namespace M
inductive Out where
 | inf
 | bad
 | val (x z:Int)
def nx (a b:Int):Out→Out
 | .val x z=>if Wh.bI a b x z=0 then .inf else if Wh.dp (M.bC a b) (Wh.bQ a b x z) (Wh.bI a b x z)=true then .val (Wh.DI (M.bC a b) (Wh.bQ a b x z) (Wh.bI a b x z)) (Wh.DH (M.bC a b) (Wh.bQ a b x z) (Wh.bI a b x z)) else .bad
 | o=>o
def run (a b:Int):Nat→Out→Out
 | 0,o=>o
 | k+1,o=>nx a b (run a b k o)
theorem mc {a b:Int} {o:Out} {k:Nat} (h:run a b k o=.inf):∀ n,k≤n→run a b n o=.inf
 | 0,hn=>by
        obtain rfl:k=0:=by omega
        exact h
 | n+1,hn=>by
  by_cases e:k=n+1
  ·exact e ▸ h
  show nx a b (run a b n o)=.inf
  rw [mc h n (by omega)];rfl
theorem mZ {a b:Int} {o:Out} {k:Nat} (h:run a b k o=.bad):∀ n,k≤n→run a b n o=.bad
 | 0,hn=>by
        obtain rfl:k=0:=by omega
        exact h
 | n+1,hn=>by
  by_cases e:k=n+1
  ·exact e ▸ h
  show nx a b (run a b n o)=.bad
  rw [mZ h n (by omega)];rfl
def et:Out→Int
 | .val x z=>max (Wh.bl x.natAbs:Nat) (Wh.bl z.natAbs:Nat)
 | _=>0
def isInf:Out→Bool
 | .inf=>true
 | _=>false
def isOk:Out→Bool
 | .bad=>false
 | _=>true
def ar (a b X E:Int) (n:Nat):Out:=if E=0 then .inf else run a b n (.val X (E*E))
end M
namespace Wh
theorem xY {n k:Nat} (h:n<2 ^ k):bl n≤k:=by
 unfold bl
 split
 ·omega
 rename_i h0
 have:=(Nat.log2_lt h0 (k:=k)).2 h;omega
theorem kX {z:Int} {n:Nat} (h:sz z n):bl z.natAbs≤14*n:=by
 refine xY (Nat.lt_of_lt_of_le h ?_);rw [Nat.pow_mul];exact Nat.pow_le_pow_left (by decide) n
theorem kS {x z:Int} (h:cg x z=true):sz x 1000∧sz z 1000:=by
 unfold cg M.ins at h;simp only [Bool.and_eq_true,decide_eq_true_eq] at h;exact ⟨aP (aW.1 h.1.1) (by omega),aP (aW.1 (show (d_ z.natAbs).length≤80 by omega)) (by omega)⟩
theorem jw {D F G:Int} (h:dp D F G=true):cg (DI D F G) (DH D F G)=true:=by
 unfold dp at h;rw [Bool.and_eq_true] at h;exact h.2
end Wh
def pA (base:Nat) (x z:Int) (v:Value) (W:World):Prop:=∃ s1 s2,v=.agg #[.bool (decide (x<0)),s1,.bool (decide (z<0)),s2]∧aF W base s1 (Wh.d_ x.natAbs)∧aF W base s2 (Wh.d_ z.natAbs)
theorem pA.view {base:Nat} {x z:Int} {v:Value} {W:World} (h:pA base x z v W):∃ (s:Bool) (a:Option Addr) (l c:Nat),Hid (s=decide (x<0))∧∃ (r:Bool) (b:Option Addr) (m d:Nat),Hid (r=decide (z<0))∧v=.agg #[.bool s,.slice a l c,.bool r,.slice b m d]∧aF W base (.slice a l c) (Wh.d_ x.natAbs)∧aF W base (.slice b m d) (Wh.d_ z.natAbs):=by
 obtain ⟨s1,s2,rfl,h1,h2⟩:=h;obtain ⟨a,c,rfl,-,-⟩:=aF.view h1;obtain ⟨b,d,rfl,-,-⟩:=aF.view h2;exact ⟨_,a,_,c,yI rfl,_,b,_,d,yI rfl,rfl,h1,h2⟩
theorem pA.Ja {base k j:Nat} {x z:Int} {s1 s2:Value} {W:World} (h1:aF W k s1 (Wh.d_ x.natAbs)) (h2:aF W j s2 (Wh.d_ z.natAbs)) (hk:base≤k) (hj:base≤j):(Rg.Val.at (pA base x z)).ok (.agg #[.bool (decide (x<0)),s1,.bool (decide (z<0)),s2]) W:=fun _ hb=>⟨s1,s2,rfl,(aF.below h1 hb).base hk,(aF.below h2 hb).base hj⟩
theorem i8 (q:Bool) (A:Option Addr) (L C:Nat) (W:World):Sem.run Tryz.prog (Instr.field 136 (.agg #[.bool q,.slice A L C]) 1) W=.ok (.slice A L C) W:=by kernel_rfl
theorem aH.aR {W:World} {g:Nat} {T:TypeId} {u v x:Value} (h:aH W g T #[u,v,x]):W.cell? ⟨g,0,none⟩=some u∧W.cell? ⟨g,1,none⟩=some v∧W.cell? ⟨g,2,none⟩=some x:=⟨h.cell 0,h.cell 1,h.cell 2⟩
theorem sj (a b X Y E:Int) (n:Nat) (w:World) (hg:M.good a b=true) (hX1:-10000≤X) (hX2:X≤10000) (hE1:0≤E) (hE2:E≤20) (hn:n≤5) :
  Calls Tryz.prog 136 #[.agg #[.int .i64 a,.int .i64 b],.agg #[.int .i64 X,.int .i64 Y,.int .i64 E],.int .i64 (n:Int)] w fun e w'=>e=.returned (.tuple #[.int .i64 (M.et (M.ar a b X E n)),.bool (M.isInf (M.ar a b X E n)),.bool (M.isOk (M.ar a b X E n))])∧Below w.heap.size w w':=by
 have C:=(aH.new w #[.int .i64 a,.int .i64 b] 29).alloc (.cells #[.int .i64 X,.int .i64 Y,.int .i64 E] 57)
 have Q:=(aH.new (w.alloc (.cells #[.int .i64 a,.int .i64 b] 29)) #[.int .i64 X,.int .i64 Y,.int .i64 E] 57)
 rw [yJ] at Q;have B:=((yL w.heap.size w).alloc (yM _) (.cells #[.int .i64 a,.int .i64 b] 29)).alloc (by rw [yJ];omega) (.cells #[.int .i64 X,.int .i64 Y,.int .i64 E] 57)
 have C8:w.heap.size+2≤((w.alloc (.cells #[.int .i64 a,.int .i64 b] 29)).alloc (.cells #[.int .i64 X,.int .i64 Y,.int .i64 E] 57)).heap.size:=by rw [yJ,yJ];omega
 generalize hw3:(w.alloc (.cells #[.int .i64 a,.int .i64 b] 29)).alloc (.cells #[.int .i64 X,.int .i64 Y,.int .i64 E] 57)=wc at *;have ⟨q0,q1,q2⟩:=Q.aR;have j_:=C.box.c0;have l_:=C.box.c1
 by_cases h0:E=0
 ·subst h0
  have hz0:M.ar a b X 0 n=.inf:=rfl;rw [hz0];clear hz0;go_enter Tryz.func136,Tryz.ntmps136
  go_wp2;exact bodyPost_ret (v:=.tuple #[.int .i64 0,.bool true,.bool true]) (by simp [results,Tryz.results136,go_sem, *]) rfl (⟨rfl,B⟩)
 have hE:1≤E:=by omega
 have I8:1≤E*E∧E*E≤400:=⟨by have:=Int.mul_le_mul hE hE (by omega) (by omega);omega,by have:=Int.mul_le_mul hE2 hE2 (by omega) (by omega);omega⟩
 have hE0:(E == 0)=false:=by rw [beq_eq_false_iff_ne];exact h0
 have hout:M.ar a b X E n=M.run a b n (.val X (E*E)):=if_neg h0;rw [hout];clear hout h0;obtain ⟨e1,e2⟩:=I8
 have P1:=yI fun W=>bi X W (by omega) (by omega)
 have P2:=yI fun W=>bi (E*E) W (by omega) (by omega)
 have zX:Wh.sz X 1000:=Wh.aP (Wh.bV (by omega) (by omega)) (by omega);have zE:Wh.sz (E*E) 1000:=Wh.aP (Wh.bV (by omega) (by omega)) (by omega);have zX:=yI zX;have zE:=yI zE
 have hb2:-10000≤b∧b≤10000:=⟨(M.am (M.bK hg)).2.2.1,(M.am (M.bK hg)).2.2.2⟩
 have ha2:-1000≤a∧a≤1000:=⟨(M.am (M.bK hg)).1,(M.am (M.bK hg)).2.1⟩
 obtain ⟨hb1,hb2⟩:=hb2;obtain ⟨ha1,ha2⟩:=ha2;have hg:=yI hg
 have PG:=yI fun (x z:Int) (s r:Bool) v v' W k k' (h1:aF W k v (Wh.d_ x.natAbs)) (h2:aF W k' v' (Wh.d_ z.natAbs)) (hx:Wh.sz x 1000) (hz:Wh.sz z 1000) (hs:s=decide (x<0)) (hr:r=decide (z<0))=>(hs ▸ hr ▸ dq a b x z v v' W k k' h1 h2 hx hz ha1 ha2 hb1 hb2:Calls Tryz.prog 148 #[.agg #[.int .i64 a,.int .i64 b],.agg #[.bool s,v,.bool r,v']] W fun e w'=>∃ sl,e=.returned (.agg #[.bool (decide (Wh.bI a b x z<0)),sl])∧ah w' W.heap.size sl (Wh.bI a b x z)∧Below W.heap.size W w')
 have PD:=yI fun (x z:Int) (s r:Bool) v v' W k k' (h1:aF W k v (Wh.d_ x.natAbs)) (h2:aF W k' v' (Wh.d_ z.natAbs)) (hx:Wh.sz x 1000) (hz:Wh.sz z 1000) (hs:s=decide (x<0)) (hr:r=decide (z<0))=>(hs ▸ hr ▸ rA a b x z v v' W k k' hg.out h1 h2 hx hz:Calls Tryz.prog 149 #[.agg #[.int .i64 a,.int .i64 b],.agg #[.bool s,v,.bool r,v']] W fun e w'=>∃ v1 v2,e=.returned (.tuple #[.agg #[.bool (decide (Wh.BK (M.bC a b) (Wh.bQ a b x z) (Wh.bI a b x z)<0)),v1,.bool (decide (Wh.BL (M.bC a b) (Wh.bQ a b x z) (Wh.bI a b x z)<0)),v2],.bool (Wh.dp (M.bC a b) (Wh.bQ a b x z) (Wh.bI a b x z))])∧ah w' W.heap.size v1 (Wh.BK (M.bC a b) (Wh.bQ a b x z) (Wh.bI a b x z))∧ah w' W.heap.size v2 (Wh.BL (M.bC a b) (Wh.bQ a b x z) (Wh.bI a b x z))∧Below W.heap.size W w')
 have PB:=yI fun (x:Int) (s:Bool) v W k (h1:aF W k v (Wh.d_ x.natAbs)) (hx:Wh.sz x 1000) (hs:s=decide (x<0))=>(hs ▸ nH x v W k h1 (Wh.aW.2 (Wh.aP hx (by omega))) (Nat.le_trans (Wh.kX hx) (by omega)):Calls Tryz.prog 150 #[.agg #[.bool s,v]] W fun e w'=>e=.returned (.int .i64 (Wh.bl x.natAbs:Nat))∧Below W.heap.size W w')
 clear ha1 ha2 hb1 hb2
 have MG:=fun q A L C W=>i8 q A L C W
 have i2:IntKind.i64.wrap (E*E)=E*E:=IntWalk.i64_in _ (by omega);have i2:=yI i2;go_enter Tryz.func136,Tryz.ntmps136
 go_upto_region 3 with fail
 refine Rg.bJ 11 [.is (.pointer (some ⟨w.heap.size+1,0,none⟩)),.is (.int .i64 X),.at (aJ (wc.heap.size) (X)),.is (.pointer (some ⟨w.heap.size+1,2,none⟩)),.is (.int .i64 E),.is (.pointer (some ⟨w.heap.size+1,2,none⟩)),.is (.int .i64 E),.is (.int .i64 (E*E)),.at (aJ (wc.heap.size) (E*E)),.at (pA (wc.heap.size) (X) (E*E)),.new (wc.heap.size) 157 #[.bool false,.slice none 0 0,.bool false,.slice none 0 0]] (by kernel_rfl) (by kernel_rfl) (by kernel_rfl) ⟨?_,?_,?_,?_,?_,?_,?_,?_,?_,?_,?_,fun h_=>absurd h_ (by decide),trivial⟩ ?_
 ·intro _ zZ w_ hB hr
  have e4:zZ.tmps[4]?=some (.pointer (some ⟨w.heap.size+1,0,none⟩)):=hr 4 (by decide);exact Rg.aG rfl (by go_simp)
 ·intro _ zZ w_ hB hr
  have e15:=Rg.a_ (hr 15 (by decide));have k0:=aE hB Q.aR.1;exact Rg.aG rfl (by go_simp)
 ·intro _ zZ w_ hB hr
  have e16:=Rg.a_ (hr 16 (by decide));have ef:=Rg.ef zZ;refine Rg.aZ rfl (by go_simp;exact ⟨rfl,rfl⟩) ?_;refine (P1.out _).mono ?_;rintro e w5 ⟨y_,rfl,yT,hb5⟩;exact ⟨_,rfl,aJ.at yT (by have:=hB.size;omega),hb5⟩
 ·intro _ zZ w_ hB hr
  have e4:zZ.tmps[4]?=some (.pointer (some ⟨w.heap.size+1,0,none⟩)):=hr 4 (by decide);exact Rg.aG rfl (by go_simp)
 ·intro _ zZ w_ hB hr
  have e18:=Rg.a_ (hr 18 (by decide));have k2:=aE hB Q.aR.2.2;exact Rg.aG rfl (by go_simp)
 ·intro _ zZ w_ hB hr
  have e4:zZ.tmps[4]?=some (.pointer (some ⟨w.heap.size+1,0,none⟩)):=hr 4 (by decide);exact Rg.aG rfl (by go_simp)
 ·intro _ zZ w_ hB hr
  have e20:=Rg.a_ (hr 20 (by decide));have k2:=aE hB Q.aR.2.2;exact Rg.aG rfl (by go_simp)
 ·intro _ zZ w_ hB hr
  have e19:=Rg.a_ (hr 19 (by decide));have e21:=Rg.a_ (hr 21 (by decide));exact Rg.aG rfl (by go_simp <;> exact Rg.wo (by omega))
 ·intro _ zZ w_ hB hr
  have e22:=Rg.a_ (hr 22 (by decide));have ef:=Rg.ef zZ;refine Rg.aZ rfl (by go_simp;exact ⟨rfl,rfl⟩) ?_;refine (P2.out _).mono ?_;rintro e w5 ⟨y_,rfl,yT,hb5⟩;exact ⟨_,rfl,aJ.at yT (by have:=hB.size;omega),hb5⟩
 ·intro _ zZ w_ hB hr
  obtain ⟨v17,e17,n17⟩:∃ v,zZ.tmps[17]?=some v∧(Rg.Val.at (aJ (wc.heap.size) (X))).ok v w_:=hr 17 (by decide);obtain ⟨D5,a17,D3,c17,Do,rfl,JM⟩:=(Rg.ag n17).view;obtain ⟨v23,e23,n23⟩:∃ v,zZ.tmps[23]?=some v∧(Rg.Val.at (aJ (wc.heap.size) (E*E))).ok v w_:=hr 23 (by decide);obtain ⟨s23,a23,l23,c23,Dq,rfl,GS⟩:=(Rg.ag n23).view;obtain rfl:=Do.out;obtain rfl:=Dq.out;exact Rg.xE rfl (by first | (go_simp;done) | (go_simp;rfl)) (pA.Ja JM GS (yM _) (yM _))
 ·intro _ zZ w_ hB hr
  exact ⟨by have:=hB.size;omega,rfl,by first | (go_simp;done) | (go_simp;rfl)⟩
 intro vals wz hB hv hne;have n9:(Rg.Val.new (wc.heap.size) 157 #[.bool false,.slice none 0 0,.bool false,.slice none 0 0]).ok (vals 10) wz:=hv 10 (by decide);have n24:(Rg.Val.at (pA (wc.heap.size) (X) (E*E))).ok (vals 9) wz:=hv 9 (by decide);simp only [Rg.ak,Rg.fill,Act.put,Nat.reduceAdd];clear hv;obtain ⟨g9,Gv,yt,o9⟩:=n9;replace o9:aH wz g9 157 #[.bool false,.slice none 0 0,.bool false,.slice none 0 0]:=o9;obtain ⟨s24,a24,EH,c24,C4,Ga,FT,m24,Fk,H6,Ad,G0,p24⟩:=(Rg.ag n24).view;simp only [yt,Ad];clear yt Ad;have ⟨p0,p1,p2,p3,y0,y1,y2,y3,_⟩:=o9.aM;have R:=aH.kz o9 (.bool s24) (.slice a24 EH c24) (.bool Ga) (.slice FT m24 Fk);have ox:=yI (aF.base (aF.dK G0 o9 (by decide) (.bool s24) (.slice a24 EH c24) (.bool Ga) (.slice FT m24 Fk)) (Nat.zero_le _));have oz:=yI (aF.base (aF.dK p24 o9 (by decide) (.bool s24) (.slice a24 EH c24) (.bool Ga) (.slice FT m24 Fk)) (Nat.zero_le _))
 have hkg:w.heap.size+2≤g9:=by omega
 have B2:Below w.heap.size w ((((wz.setCell ⟨g9,0,none⟩ (.bool s24)).setCell ⟨g9,1,none⟩ (.slice a24 EH c24)).setCell ⟨g9,2,none⟩ (.bool Ga)).setCell ⟨g9,3,none⟩ (.slice FT m24 Fk)):=yK (yK (yK (yK (f_ B hB) (by simp <;> omega) _) (by simp <;> omega) _) (by simp <;> omega) _) (by simp <;> omega) _;have C2:=((((C.keep hB).other (i:=0) (show w.heap.size≠g9 by omega) (.bool s24)).other (i:=1) (show w.heap.size≠g9 by omega) (.slice a24 EH c24)).other (i:=2) (show w.heap.size≠g9 by omega) (.bool Ga)).other (i:=3) (show w.heap.size≠g9 by omega) (.slice FT m24 Fk);unfold Rg.aX Rg.aX Oper.wp
 go_simp
 clear p0 p1 p2 p3 y0 y1 y2 y3 o9 G0 p24 hB B Q q0 q1 q2 j_ l_ C C8 Gv i2 P1 P2 hE0 hw3;generalize ((((wz.setCell ⟨g9,0,none⟩ (.bool s24)).setCell ⟨g9,1,none⟩ (.slice a24 EH c24)).setCell ⟨g9,2,none⟩ (.bool Ga)).setCell ⟨g9,3,none⟩ (.slice FT m24 Fk))=wd at *;have Cg:M.run a b 0 (.val X (E*E))=.val X (E*E):=rfl;generalize hZ:E*E=Z at *;replace hZ:=yI hZ;replace Cg:=yI Cg;go_wp2
 go_loopw [26] (fun vi wr=>∃ (k:Nat) (x z:Int) (s:Bool) (av:Option Addr) (lv cv:Nat) (r:Bool) (bv:Option Addr) (mv dv:Nat),k≤n∧vi=.int .i64 k∧Hid (M.run a b k (.val X Z)=.val x z)∧aH wr g9 157 #[.bool s,.slice av lv cv,.bool r,.slice bv mv dv]∧aF wr 0 (.slice av lv cv) (Wh.d_ x.natAbs)∧aF wr 0 (.slice bv mv dv) (Wh.d_ z.natAbs)∧Hid (s=decide (x<0))∧Hid (r=decide (z<0))∧Wh.sz x 1000∧Wh.sz z 1000∧aH wr w.heap.size 29 #[.int .i64 a,.int .i64 b]∧Below w.heap.size w wr) (fun vi _=>n - (intOf vi).toNat)
 case atStart=>exact ⟨0,X,Z,s24,a24,EH,c24,Ga,FT,m24,Fk,Nat.zero_le _,rfl,Cg,R,ox.out,oz.out,C4,H6,zX.out,zE.out,C2,B2⟩
 case round=>
 clear R ox oz C2 B2 Cg C4 H6 zX zE;obtain ⟨k,x,z,s,av,lv,cv,r,bv,mv,dv,hk,rfl,hrun,R,ox,oz,hs,hr,zx,zz,C,B⟩:=hrel;have ox:=yI ox;have oz:=yI oz;have zx:=yI zx;have zz:=yI zz;have p_:=R.aM.c0;have r_:=R.aM.c1;have yO:=R.aM.c2;have yP:=R.aM.c3;have j_:=C.box.c0;have l_:=C.box.c1
 by_cases hlt:k<n
 ·have FQ:=yI fun v v' W i j h1 h2=>PG.out x z s r v v' W i j h1 h2 zx.out zz.out hs.out hr.out
  have BD:=yI fun v v' W i j h1 h2=>PD.out x z s r v v' W i j h1 h2 zx.out zz.out hs.out hr.out
  have hnx:M.run a b (k+1) (.val X Z)=M.nx a b (.val x z):=by show M.nx a b (M.run a b k (.val X Z))=_;rw [hrun.out]
  unfold M.nx at hnx
  dsimp only at hnx
  clear PG PD PB hs hr
  have BS:=fun h=>Wh.kS (Wh.jw (D:=M.bC a b) (F:=Wh.bQ a b x z) (G:=Wh.bI a b x z) h)
  have Ei:Wh.dp (M.bC a b) (Wh.bQ a b x z) (Wh.bI a b x z)=true→Wh.BK (M.bC a b) (Wh.bQ a b x z) (Wh.bI a b x z)=Wh.DI (M.bC a b) (Wh.bQ a b x z) (Wh.bI a b x z)∧Wh.BL (M.bC a b) (Wh.bQ a b x z) (Wh.bI a b x z)=Wh.DH (M.bC a b) (Wh.bQ a b x z) (Wh.bI a b x z):=fun h=>by unfold Wh.BK Wh.BL;rw [if_pos h,if_pos h];exact ⟨rfl,rfl⟩
  generalize Wh.dp (M.bC a b) (Wh.bQ a b x z) (Wh.bI a b x z)=ok,Wh.DH (M.bC a b) (Wh.bQ a b x z) (Wh.bI a b x z)=dd,Wh.DI (M.bC a b) (Wh.bQ a b x z) (Wh.bI a b x z)=nn,Wh.BL (M.bC a b) (Wh.bQ a b x z) (Wh.bI a b x z)=z',Wh.BK (M.bC a b) (Wh.bQ a b x z) (Wh.bI a b x z)=x' at *;have hG0:=@Wh.eu (Wh.bI a b x z);generalize Wh.bI a b x z=G at *;generalize decide (G<0)=sg at *
  by_cases hG:G=0
  ·rw [if_pos hG] at hnx
   have hfin:=yI (M.mc hnx n (by omega));have hl0:=hG0.2 hG;clear hnx hG hG0 BS Ei BD;generalize F_:(Wh.d_ G.natAbs).length=lg at *;subst hl0;replace F_:=yI F_
   go_wp2_with (go_at_call 148;(with_reducible refine (FQ.out _ _ _ _ _ ox.out oz.out).mono ?_);rintro e w4 ⟨v4,rfl,yh,hb4⟩;obtain ⟨a4,c4,rfl,yg,yf⟩:=aF.view yh;clear yg yf;(rw [F_.out] at yh ⊢);replace C:=C.keep hb4;replace R:=R.keep hb4;replace B:=f_ B hb4;(replace ⟨j_,l_⟩:=C.b2);(replace ⟨p_,r_,yO,yP⟩:=R.b4))
   exact bodyPost_ret (v:=.tuple #[.int .i64 0,.bool true,.bool true]) (by simp [results,Tryz.results136,go_sem, *]) rfl (⟨by rw [hZ.out,hfin.out];rfl,B⟩)
  rw [if_neg hG] at hnx
  have hl0:¬ (Wh.d_ G.natAbs).length=0:=fun h=>hG (hG0.1 h)
  have hlq:(((Wh.d_ G.natAbs).length:Int) == 0)=false:=by rw [beq_eq_false_iff_ne];omega
  clear hG hG0
  cases ok with
  | false=>
   have hfin:=yI (M.mZ hnx n (by omega));clear hnx BS Ei;generalize decide (z'<0)=r',decide (x'<0)=s' at *
   go_wp2_with (first
    | (go_at_call 148;(with_reducible refine (FQ.out _ _ _ _ _ ox.out oz.out).mono ?_);rintro e w4 ⟨v4,rfl,yh,hb4⟩;obtain ⟨a4,c4,rfl,yg,yf⟩:=aF.view yh;clear yg yf yh;(generalize (Wh.d_ G.natAbs).length=lg at *);replace C:=C.keep hb4;replace R:=R.keep hb4;replace ox:=kO ox hb4;replace oz:=kO oz hb4;replace B:=f_ B hb4;(replace ⟨j_,l_⟩:=C.b2);(replace ⟨p_,r_,yO,yP,t_,x_,yQ,yR⟩:=R.yk))
    | (go_at_call 149;(with_reducible refine (BD.out _ _ _ _ _ ox.out oz.out).mono ?_);rintro e w5 ⟨v5,u5,rfl,yT,B0,hb5⟩;replace C:=C.keep hb5;replace R:=R.keep hb5;replace ox:=kO ox hb5;replace oz:=kO oz hb5;replace B:=f_ B hb5;obtain ⟨a5,c5,rfl,yg,yf⟩:=aF.view yT;clear yg yf;obtain ⟨b5,d5,rfl,yg,yf⟩:=aF.view B0;clear yg yf;have on:=yI (show aF _ _ _ _ from yT);have om:=yI (show aF _ _ _ _ from B0);clear yT B0;(generalize (Wh.d_ x'.natAbs).length=l5 at *);(generalize (Wh.d_ z'.natAbs).length=m5 at *);have N:=aH.new w5 #[.bool s',.slice a5 l5 c5,.bool r',.slice b5 m5 d5] 157;have b_:=bA w5 (.cells #[.bool s',.slice a5 l5 c5,.bool r',.slice b5 m5 d5] 157);replace C:=C.keep b_;replace R:=R.keep b_;replace ox:=kO ox b_;replace oz:=kO oz b_;replace on:=kO on b_;replace om:=kO om b_;replace B:=f_ B b_;clear b_;(replace ⟨j_,l_⟩:=C.b2);(replace ⟨p_,r_,yO,yP,t_,x_,yQ,yR⟩:=R.yk);(replace ⟨CQ,CR,CS,CT⟩:=N.b4)))
   exact bodyPost_ret (v:=.tuple #[.int .i64 0,.bool false,.bool false]) (by simp [results,Tryz.results136,go_sem, *]) rfl (⟨by rw [hZ.out,hfin.out];rfl,B⟩)
  | true=>
  rw [if_pos rfl] at hnx;obtain ⟨hxn,hzn⟩:=Ei rfl;obtain ⟨zn,zd⟩:=BS rfl;subst hxn hzn;clear Ei BS;have zn:=yI zn;have zd:=yI zd;have hnx:=yI hnx;generalize hs5:decide (x'<0)=s' at *;generalize GE:decide (z'<0)=r' at *;replace hs5:=yI hs5.symm;replace GE:=yI GE.symm;clear hrun zx zz
  go_wp2_with (first
   | (go_at_call 148;(with_reducible refine (FQ.out _ _ _ _ _ ox.out oz.out).mono ?_);rintro e w4 ⟨v4,rfl,yh,hb4⟩;obtain ⟨a4,c4,rfl,yg,yf⟩:=aF.view yh;clear yg yf yh;(generalize (Wh.d_ G.natAbs).length=lg at *);replace C:=C.keep hb4;replace R:=R.keep hb4;replace ox:=kO ox hb4;replace oz:=kO oz hb4;replace B:=f_ B hb4;(replace ⟨j_,l_⟩:=C.b2);(replace ⟨p_,r_,yO,yP,t_,x_,yQ,yR⟩:=R.yk))
   | (go_at_call 149;(with_reducible refine (BD.out _ _ _ _ _ ox.out oz.out).mono ?_);rintro e w5 ⟨v5,u5,rfl,yT,B0,hb5⟩;replace C:=C.keep hb5;replace R:=R.keep hb5;replace ox:=kO ox hb5;replace oz:=kO oz hb5;replace B:=f_ B hb5;obtain ⟨a5,c5,rfl,yg,yf⟩:=aF.view yT;clear yg yf;obtain ⟨b5,d5,rfl,yg,yf⟩:=aF.view B0;clear yg yf;have on:=yI (show aF _ _ _ _ from yT);have om:=yI (show aF _ _ _ _ from B0);clear yT B0;(generalize (Wh.d_ x'.natAbs).length=l5 at *);(generalize (Wh.d_ z'.natAbs).length=m5 at *);have N:=aH.new w5 #[.bool s',.slice a5 l5 c5,.bool r',.slice b5 m5 d5] 157;have b_:=bA w5 (.cells #[.bool s',.slice a5 l5 c5,.bool r',.slice b5 m5 d5] 157);replace C:=C.keep b_;replace R:=R.keep b_;replace ox:=kO ox b_;replace oz:=kO oz b_;replace on:=kO on b_;replace om:=kO om b_;replace B:=f_ B b_;clear b_;(replace ⟨j_,l_⟩:=C.b2);(replace ⟨p_,r_,yO,yP,t_,x_,yQ,yR⟩:=R.yk);(replace ⟨CQ,CR,CS,CT⟩:=N.b4)))
  go_roundw
  case rel=>exact ⟨k+1,_,_,s',a5,l5,c5,r',b5,m5,d5,by omega,by go_num,hnx,aH.kz R (.bool s') (.slice a5 l5 c5) (.bool r') (.slice b5 m5 d5),aF.base (aF.dK on.out R (by decide) (.bool s') (.slice a5 l5 c5) (.bool r') (.slice b5 m5 d5)) (Nat.zero_le _),aF.base (aF.dK om.out R (by decide) (.bool s') (.slice a5 l5 c5) (.bool r') (.slice b5 m5 d5)) (Nat.zero_le _),hs5,GE,zn.out,zd.out,(((C.other (show w.heap.size≠g9 by omega) _).other (show w.heap.size≠g9 by omega) _).other (show w.heap.size≠g9 by omega) _).other (show w.heap.size≠g9 by omega) _,yK (yK (yK (yK B (by simp <;> omega) _) (by simp <;> omega) _) (by simp <;> omega) _) (by simp <;> omega) _⟩
  case measure=>simp [intOf] <;> omega
 obtain rfl:k=n:=by omega
 have P1:=yI fun v W i h=>PB.out x s v W i h zx.out hs.out
 have P2:=yI fun v W i h=>PB.out z r v W i h zz.out hr.out
 have hfin:=yI (show M.et (M.run a b k (.val X Z))=max ((Wh.bl x.natAbs:Nat):Int) ((Wh.bl z.natAbs:Nat):Int)∧M.isInf (M.run a b k (.val X Z))=false∧M.isOk (M.run a b k (.val X Z))=true by rw [hrun.out];exact ⟨rfl,rfl,rfl⟩)
 have hm1:(Wh.bl x.natAbs:Int)≤14000:=by have:=Wh.kX zx.out;omega
 have hm2:(Wh.bl z.natAbs:Int)≤14000:=by have:=Wh.kX zz.out;omega
 generalize Wh.bl z.natAbs=k2,Wh.bl x.natAbs=k1 at *;have hmax:=yI (show (if (k1:Int)<k2 then (k2:Int) else k1)=max (k1:Int) k2 by split <;> omega);clear PG PD PB hs hr zx zz hrun
 go_upto_region 13 with fail
 refine Rg.bJ 10 [.is (.pointer (some ⟨g9,0,none⟩)),.is (.agg #[.bool s,.slice av lv cv]),.is (.int .i64 (k1:Nat)),.is (.pointer (some ⟨g9,2,none⟩)),.is (.agg #[.bool r,.slice bv mv dv]),.is (.int .i64 (k2:Nat)),.is (.int .i64 (max (k1:Int) k2)),.is (.int .i64 (max (k1:Int) k2)),.is (.bool false),.is (.bool true)] (by kernel_rfl) (by kernel_rfl) (by kernel_rfl) ⟨?_,?_,?_,?_,?_,?_,?_,?_,?_,?_,trivial⟩ ?_
 ·intro _ zZ w_ hB hr
  have e9:zZ.tmps[9]?=some (.pointer (some ⟨g9,0,none⟩)):=hr 9 (by decide);exact Rg.aG rfl (by go_simp)
 ·intro _ zZ w_ hB hr
  have e44:=Rg.a_ (hr 44 (by decide));have k0:=aE hB R.aM.c0;have k1:=aE hB R.aM.c1;exact Rg.aG rfl (by go_simp)
 ·intro _ zZ w_ hB hr
  have e45:=Rg.a_ (hr 45 (by decide));have ef:=Rg.ef zZ;exact Rg.bU rfl (by go_simp) (P1.out _ _ _ (aF.below ox.out hB))
 ·intro _ zZ w_ hB hr
  have e9:zZ.tmps[9]?=some (.pointer (some ⟨g9,0,none⟩)):=hr 9 (by decide);exact Rg.aG rfl (by go_simp)
 ·intro _ zZ w_ hB hr
  have e47:=Rg.a_ (hr 47 (by decide));have k2:=aE hB R.aM.c2;have k3:=aE hB R.aM.c3;exact Rg.aG rfl (by go_simp)
 ·intro _ zZ w_ hB hr
  have e48:=Rg.a_ (hr 48 (by decide));have ef:=Rg.ef zZ;exact Rg.bU rfl (by go_simp) (P2.out _ _ _ (aF.below oz.out hB))
 ·intro _ zZ w_ hB hr
  have e46:=Rg.a_ (hr 46 (by decide));have e49:=Rg.a_ (hr 49 (by decide));exact Rg.aG rfl (by go_simp;first | done | (rw [hmax.out];done) | (simp only [hmax.out];done))
 ·intro _ zZ w_ hB hr
  have e50:=Rg.a_ (hr 50 (by decide));exact Rg.aG rfl (by go_simp)
 ·intro _ zZ w_ hB hr
  have ec:=Rg.ec zZ;exact Rg.aG rfl (by go_simp)
 ·intro _ zZ w_ hB hr
  have ec:=Rg.ec zZ;exact Rg.aG rfl (by go_simp)
 intro vals wy hB9 hv hne;have BI:vals 7=.int .i64 (max (k1:Int) k2):=hv 7 (by decide);have CG:vals 8=.bool false:=hv 8 (by decide);have Ad:vals 9=.bool true:=hv 9 (by decide);simp only [Rg.ak,Rg.fill,Act.put,Nat.reduceAdd];clear hv;simp only [BI,CG,Ad];clear BI CG Ad;unfold Rg.aX;go_wp2;exact bodyPost_ret (v:=.tuple #[.int .i64 (max (k1:Int) k2),.bool false,.bool true]) (by simp [results,Tryz.results136,go_sem, *]) rfl (⟨by rw [hZ.out,hfin.out.1,hfin.out.2.1,hfin.out.2.2],f_ B hB9⟩)
abbrev iN:=Bool × (Option Addr × Nat × Nat) × Bool × (Option Addr × Nat × Nat)
def iN.val (q:iN):Value:=.agg #[.bool q.1,.slice q.2.1.1 q.2.1.2.1 q.2.1.2.2,.bool q.2.2.1,.slice q.2.2.2.1 q.2.2.2.2.1 q.2.2.2.2.2]
def ER:Rw.Enc iN where
 t:=157
 k:=4
 cells:=fun q=>[.bool q.1,.slice q.2.1.1 q.2.1.2.1 q.2.1.2.2,.bool q.2.2.1,.slice q.2.2.2.1 q.2.2.2.2.1 q.2.2.2.2.2]
 len:=fun _=>rfl
 one:=fun x u hu=>by simp only [List.mem_cons,List.not_mem_nil,or_false] at hu;rcases hu with rfl | rfl | rfl | rfl <;> rfl
 pos:=by decide
theorem xm:(Tryz.prog.info? 157).map (fun i=>(i.zero,i.size,i.bytes))=some (some (.agg #[.bool false,.slice none 0 0,.bool false,.slice none 0 0]),4,64):=by kernel_rfl
theorem xj:Rw.Fits Tryz.prog ER 151:=⟨Tryz.underlying151,by
 obtain ⟨i0,hi,hz0,hz1,hz2⟩:=info_parts xm
 exact ⟨i0,_,hi,hz0,hz1,by omega,rfl⟩⟩
theorem aF.p9 {W W':World} {b1 b2:Nat} {v sl:Value} {xs:List iN} {ys:List Int} (h:aF W b1 sl ys) (hv:Rw.Own ER W b2 v xs) (hg:W.grownBy W' v.ownBlock):aF W' b1 sl ys:=by
 refine World.ownsRow.kept h hg ?_
 cases hs:sl.ownBlock with
 | none=>exact Or.inl rfl
 | some k=>exact Or.inr fun e=>gK h hv (by decide) k e.symm hs
theorem aH.grown {W W':World} {g:Nat} {T:TypeId} {xs:Array Value} {r:Option Nat} (h:aH W g T xs) (hg:W.grownBy W' r) (hr:r≠some g):aH W' g T xs:=(hg.block g h.lt (fun e=>hr e.symm)).trans h
def wP (W:World) (n:Nat) (o:M.Out) (v:Value) (en:Bool):Prop:=match o with
 | .inf=>en=true∧∃ A l c,v=.slice A l c
 | .bad=>en=false∧∃ A l c,v=.slice A l c∧l≤n
 | .val x z=>en=false∧Wh.sz x 1000∧Wh.sz z 1000∧∃ (g cap:Nat) (s:Bool) (av:Option Addr) (lv cv:Nat) (r:Bool) (bv:Option Addr) (mv dv:Nat),v=.slice (some ⟨g,0,none⟩) (n+1) cap∧
   W.cell? ⟨g,n*4,none⟩=some (.bool s)∧W.cell? ⟨g,n*4+1,none⟩=some (.slice av lv cv)∧W.cell? ⟨g,n*4+2,none⟩=some (.bool r)∧W.cell? ⟨g,n*4+3,none⟩=some (.slice bv mv dv)∧
   Hid (s=decide (x<0))∧Hid (r=decide (z<0))∧aF W 0 (.slice av lv cv) (Wh.d_ x.natAbs)∧aF W 0 (.slice bv mv dv) (Wh.d_ z.natAbs)
theorem pE (a b X Y E:Int) (n:Nat) (w:World) (hg:M.good a b=true) (hX1:-10000≤X) (hX2:X≤10000) (hE1:0≤E) (hE2:E≤20) (hn:n≤5) :
  Calls Tryz.prog 130 #[.agg #[.int .i64 a,.int .i64 b],.agg #[.int .i64 X,.int .i64 Y,.int .i64 E],.int .i64 (n:Int)] w fun e w'=>∃ v,∃ en:Bool,e=.returned (.tuple #[v,.bool en])∧wP w' n (M.ar a b X E n) v en∧Below w.heap.size w w':=by
 have C:=(aH.new w #[.int .i64 a,.int .i64 b] 29).alloc (.cells #[.int .i64 X,.int .i64 Y,.int .i64 E] 57)
 have Q:=(aH.new (w.alloc (.cells #[.int .i64 a,.int .i64 b] 29)) #[.int .i64 X,.int .i64 Y,.int .i64 E] 57)
 rw [yJ] at Q;have B:=((yL w.heap.size w).alloc (yM _) (.cells #[.int .i64 a,.int .i64 b] 29)).alloc (by rw [yJ];omega) (.cells #[.int .i64 X,.int .i64 Y,.int .i64 E] 57)
 have C8:w.heap.size+2≤((w.alloc (.cells #[.int .i64 a,.int .i64 b] 29)).alloc (.cells #[.int .i64 X,.int .i64 Y,.int .i64 E] 57)).heap.size:=by rw [yJ,yJ];omega
 generalize hw3:(w.alloc (.cells #[.int .i64 a,.int .i64 b] 29)).alloc (.cells #[.int .i64 X,.int .i64 Y,.int .i64 E] 57)=wc at *;have ⟨q0,q1,q2⟩:=Q.aR;have j_:=C.box.c0;have l_:=C.box.c1
 by_cases h0:E=0
 ·subst h0
  have hz0:=yI (show M.ar a b X 0 n=.inf from rfl);go_enter Tryz.func130,Tryz.ntmps130
  go_wp2;exact bodyPost_ret (v:=.tuple #[.slice none 0 0,.bool true]) (by simp [results,Tryz.results130,go_sem, *]) rfl (⟨_,_,rfl,(by rw [hz0.out];exact ⟨rfl,_,_,_,rfl⟩),B⟩)
 have hE:1≤E:=by omega
 have I8:1≤E*E∧E*E≤400:=⟨by have:=Int.mul_le_mul hE hE (by omega) (by omega);omega,by have:=Int.mul_le_mul hE2 hE2 (by omega) (by omega);omega⟩
 have hE0:(E == 0)=false:=by rw [beq_eq_false_iff_ne];exact h0
 have hout:=yI (show M.ar a b X E n=M.run a b n (.val X (E*E)) from if_neg h0);clear h0;obtain ⟨e1,e2⟩:=I8
 have P1:=fun W=>xK X (E*E) W (by omega) (by omega) (by omega) (by omega)
 have zX:Wh.sz X 1000:=Wh.aP (Wh.bV (by omega) (by omega)) (by omega);have zE:Wh.sz (E*E) 1000:=Wh.aP (Wh.bV (by omega) (by omega)) (by omega);have zX:=yI zX;have zE:=yI zE
 have hb2:-10000≤b∧b≤10000:=⟨(M.am (M.bK hg)).2.2.1,(M.am (M.bK hg)).2.2.2⟩
 have ha2:-1000≤a∧a≤1000:=⟨(M.am (M.bK hg)).1,(M.am (M.bK hg)).2.1⟩
 obtain ⟨hb1,hb2⟩:=hb2;obtain ⟨ha1,ha2⟩:=ha2;have hg:=yI hg
 have PG:=yI fun (x z:Int) (s r:Bool) v v' W k k' (h1:aF W k v (Wh.d_ x.natAbs)) (h2:aF W k' v' (Wh.d_ z.natAbs)) (hx:Wh.sz x 1000) (hz:Wh.sz z 1000) (hs:s=decide (x<0)) (hr:r=decide (z<0))=>(hs ▸ hr ▸ kh a b x z v v' W k k' h1 h2 hx hz ha1 ha2 hb1 hb2:Calls Tryz.prog 143 #[.agg #[.int .i64 a,.int .i64 b],.agg #[.bool s,v,.bool r,v']] W fun e w'=>∃ sl,e=.returned (.agg #[.bool (decide (Wh.bI a b x z<0)),sl])∧ah w' W.heap.size sl (Wh.bI a b x z)∧Below W.heap.size W w')
 have PD:=yI fun (x z:Int) (s r:Bool) v v' W k k' (h1:aF W k v (Wh.d_ x.natAbs)) (h2:aF W k' v' (Wh.d_ z.natAbs)) (hx:Wh.sz x 1000) (hz:Wh.sz z 1000) (hs:s=decide (x<0)) (hr:r=decide (z<0))=>(hs ▸ hr ▸ pr a b x z v v' W k k' hg.out h1 h2 hx hz:Calls Tryz.prog 144 #[.agg #[.int .i64 a,.int .i64 b],.agg #[.bool s,v,.bool r,v']] W fun e w'=>∃ v1 v2,e=.returned (.tuple #[.agg #[.bool (decide (Wh.BK (M.bC a b) (Wh.bQ a b x z) (Wh.bI a b x z)<0)),v1,.bool (decide (Wh.BL (M.bC a b) (Wh.bQ a b x z) (Wh.bI a b x z)<0)),v2],.bool (Wh.dp (M.bC a b) (Wh.bQ a b x z) (Wh.bI a b x z))])∧ah w' W.heap.size v1 (Wh.BK (M.bC a b) (Wh.bQ a b x z) (Wh.bI a b x z))∧ah w' W.heap.size v2 (Wh.BL (M.bC a b) (Wh.bQ a b x z) (Wh.bI a b x z))∧Below W.heap.size W w')
 clear ha1 ha2 hb1 hb2
 have MG:=fun q A L C W=>i8 q A L C W
 have Cg:=yI (show M.run a b 0 (.val X (E*E))=.val X (E*E) from rfl);generalize hZ:E*E=Z at *;replace hZ:=yI hZ;generalize hs1:decide (X<0)=s1 at *;generalize hs2:decide (Z<0)=s2 at *;replace hs1:=yI hs1.symm;replace hs2:=yI hs2.symm;have P1:=yI P1;have hQ:=yI Q;have hZE:=hZ.out;go_enter Tryz.func130,Tryz.ntmps130
 go_wp2_with (go_at_call 142;(with_reducible refine (P1.out _).mono ?_);rintro e w4 ⟨v4,u4,rfl,yh,H4,hb4⟩;obtain ⟨a4,c4,rfl,yg,yf⟩:=aF.view yh;clear yg yf;obtain ⟨b4,d4,rfl,yg,yf⟩:=aF.view H4;clear yg yf;(generalize (Wh.d_ X.natAbs).length=l4 at *);(generalize (Wh.d_ Z.natAbs).length=m4 at *);replace C:=C.keep hb4;replace B:=f_ B hb4;(replace ⟨j_,l_⟩:=C.b2))
 have Ab:w.heap.size+2≤w4.heap.size:=Nat.le_trans C8 hb4.size;have L:=Rw.Own.M8 ER ((s1,(a4,l4,c4),s2,(b4,m4,d4)):iN) w4 (w.heap.size+2) Ab;have ox:=aF.base (aF.alloc (show aF _ _ _ _ from yh) (.cells #[.bool s1,.slice a4 l4 c4,.bool s2,.slice b4 m4 d4] 157)) (Nat.zero_le _);have oz:=aF.base (aF.alloc (show aF _ _ _ _ from H4) (.cells #[.bool s1,.slice a4 l4 c4,.bool s2,.slice b4 m4 d4] 157)) (Nat.zero_le _);have C2:=C.alloc (.cells #[.bool s1,.slice a4 l4 c4,.bool s2,.slice b4 m4 d4] 157);have B2:=B.alloc B.size (.cells #[.bool s1,.slice a4 l4 c4,.bool s2,.slice b4 m4 d4] 157);have L:=yI L;have ox:=yI ox;have oz:=yI oz;clear yh H4 C B j_ l_ q0 q1 q2 Q hQ hb4 P1 C8 hZE
 go_loopw [2,8] (fun vi vl wr=>∃ (k:Nat) (x z:Int) (xs:List iN) (q:iN),k≤n∧vi=.int .i64 ((n - k:Nat):Int)∧Hid (M.run a b k (.val X Z)=.val x z)∧Rw.Own ER wr (w.heap.size+2) vl xs∧Hid (xs.length=k+1)∧Hid (xs[k]?=some q)∧aF wr 0 (.slice q.2.1.1 q.2.1.2.1 q.2.1.2.2) (Wh.d_ x.natAbs)∧aF wr 0 (.slice q.2.2.2.1 q.2.2.2.2.1 q.2.2.2.2.2) (Wh.d_ z.natAbs)∧Hid (q.1=decide (x<0))∧Hid (q.2.2.1=decide (z<0))∧Wh.sz x 1000∧Wh.sz z 1000∧aH wr w.heap.size 29 #[.int .i64 a,.int .i64 b]∧Below w.heap.size w wr∧w.heap.size+2≤wr.heap.size) (fun vi _ _=>(intOf vi).toNat)
 case atStart=>exact ⟨0,X,Z,[((s1,(a4,l4,c4),s2,(b4,m4,d4)):iN)],((s1,(a4,l4,c4),s2,(b4,m4,d4)):iN),Nat.zero_le _,rfl,Cg,L.out,yI rfl,yI rfl,ox.out,oz.out,hs1,hs2,zX.out,zE.out,C2,B2,by rw [yJ];omega⟩
 case round=>
 clear L ox oz C2 B2 Cg hs1 hs2 zX zE Ab;obtain ⟨k,x,z,xs,q,hk,rfl,hrun,L,hlen,hq,ox,oz,hs,hr,zx,zz,C,B,hz⟩:=hrel;obtain ⟨s,⟨av,lv,cv⟩,r,⟨bv,mv,dv⟩⟩:=q
 dsimp only at ox oz hs hr
 rcases L.forms with ⟨rfl,rfl⟩ | ⟨g,cap,rfl,hg1,hg2,hcp1,hcp2⟩
 ·exact absurd hlen.out (by simp)
 have hcl:=fun i u (hu:(ER.cells (s,(av,lv,cv),r,(bv,mv,dv)))[i]?=some u) (hi:i<4)=>Rw.Own.cellAt rfl L (k*4+i) u ((Rw.flat_get ER xs k i _ hq.out hi).trans hu)
 have Fr:wr.cell? ⟨g,k*4,none⟩=some (.bool s):=(hcl 0 _ rfl (by omega)).1;have Fs:wr.cell? ⟨g,k*4+1,none⟩=some (.slice av lv cv):=(hcl 1 _ rfl (by omega)).1;have Ft:wr.cell? ⟨g,k*4+2,none⟩=some (.bool r):=(hcl 2 _ rfl (by omega)).1;have Fu:wr.cell? ⟨g,k*4+3,none⟩=some (.slice bv mv dv):=(hcl 3 _ rfl (by omega)).1;clear hcl;have hlen1:=hlen.out;rw [hlen1] at hcp1 L ⊢;have ox:=yI ox;have oz:=yI oz;have zx:=yI zx;have zz:=yI zz;have L:=yI L;have j_:=C.box.c0;have l_:=C.box.c1;clear hlen1
 by_cases hlt:k<n
 ·obtain ⟨j,hj⟩:∃ j:Nat,n - k=j+1:=⟨n - k - 1,by omega⟩
  have hj2:=yI (show n - (k+1)=j by omega)
  have hjb:(j:Int)≤4:=by omega
  rw [hj];clear hj
  have FQ:=yI fun v v' W i j h1 h2=>PG.out x z s r v v' W i j h1 h2 zx.out zz.out hs.out hr.out
  have BD:=yI fun v v' W i j h1 h2=>PD.out x z s r v v' W i j h1 h2 zx.out zz.out hs.out hr.out
  have hnx:M.run a b (k+1) (.val X Z)=M.nx a b (.val x z):=by show M.nx a b (M.run a b k (.val X Z))=_;rw [hrun.out]
  unfold M.nx at hnx
  dsimp only at hnx
  clear PG PD hs hr
  have BS:=fun h=>Wh.kS (Wh.jw (D:=M.bC a b) (F:=Wh.bQ a b x z) (G:=Wh.bI a b x z) h)
  have Ei:Wh.dp (M.bC a b) (Wh.bQ a b x z) (Wh.bI a b x z)=true→Wh.BK (M.bC a b) (Wh.bQ a b x z) (Wh.bI a b x z)=Wh.DI (M.bC a b) (Wh.bQ a b x z) (Wh.bI a b x z)∧Wh.BL (M.bC a b) (Wh.bQ a b x z) (Wh.bI a b x z)=Wh.DH (M.bC a b) (Wh.bQ a b x z) (Wh.bI a b x z):=fun h=>by unfold Wh.BK Wh.BL;rw [if_pos h,if_pos h];exact ⟨rfl,rfl⟩
  generalize Wh.dp (M.bC a b) (Wh.bQ a b x z) (Wh.bI a b x z)=ok,Wh.DH (M.bC a b) (Wh.bQ a b x z) (Wh.bI a b x z)=dd,Wh.DI (M.bC a b) (Wh.bQ a b x z) (Wh.bI a b x z)=nn,Wh.BL (M.bC a b) (Wh.bQ a b x z) (Wh.bI a b x z)=z',Wh.BK (M.bC a b) (Wh.bQ a b x z) (Wh.bI a b x z)=x' at *;have hG0:=@Wh.eu (Wh.bI a b x z);generalize Wh.bI a b x z=G at *;generalize decide (G<0)=sg at *;have N:=aH.new wr #[.bool s,.slice av lv cv,.bool r,.slice bv mv dv] 157;have C3:=C.alloc (.cells #[.bool s,.slice av lv cv,.bool r,.slice bv mv dv] 157);have CC:=yI (aF.alloc ox.out (.cells #[.bool s,.slice av lv cv,.bool r,.slice bv mv dv] 157));have CD:=yI (aF.alloc oz.out (.cells #[.bool s,.slice av lv cv,.bool r,.slice bv mv dv] 157));have L3:=yI (Rw.Own.alloc L.out (.cells #[.bool s,.slice av lv cv,.bool r,.slice bv mv dv] 157));have B3:=B.alloc B.size (.cells #[.bool s,.slice av lv cv,.bool r,.slice bv mv dv] 157);have Be:=C3.box.c0;have Bf:=C3.box.c1;have CQ:=N.aM.c0;have CR:=N.aM.c1;have CS:=N.aM.c2;have CT:=N.aM.c3
  by_cases hG:G=0
  ·rw [if_pos hG] at hnx
   have hfin:=yI (M.mc hnx n (by omega));have hl0:=hG0.2 hG;clear hnx hG hG0 BS Ei BD;generalize F_:(Wh.d_ G.natAbs).length=lg at *;subst hl0;replace F_:=yI F_
   go_wp2_with (go_at_call 143;(with_reducible refine (FQ.out _ _ _ _ _ CC.out CD.out).mono ?_);rintro e w4 ⟨v4,rfl,yh,hb4⟩;obtain ⟨a4,c4,rfl,yg,yf⟩:=aF.view yh;clear yg yf;(rw [F_.out] at yh ⊢);replace C3:=C3.keep hb4;replace N:=N.keep hb4;replace B3:=f_ B3 hb4;(replace ⟨Be,Bf⟩:=C3.b2);(replace ⟨CQ,CR,CS,CT⟩:=N.b4))
   exact bodyPost_ret (v:=.tuple #[.slice (some ⟨g,0,none⟩) (k+1) cap,.bool true]) (by simp [results,Tryz.results130,go_sem, *]) rfl (⟨_,_,rfl,(by rw [hout.out,hfin.out];exact ⟨rfl,_,_,_,rfl⟩),B3⟩)
  rw [if_neg hG] at hnx
  have hl0:¬ (Wh.d_ G.natAbs).length=0:=fun h=>hG (hG0.1 h)
  have hlq:(((Wh.d_ G.natAbs).length:Int) == 0)=false:=by rw [beq_eq_false_iff_ne];omega
  clear hG hG0
  cases ok with
  | false=>
   have hfin:=yI (M.mZ hnx n (by omega));clear hnx BS Ei;generalize decide (z'<0)=r',decide (x'<0)=s' at *
   go_wp2_with (first
    | (go_at_call 143;(with_reducible refine (FQ.out _ _ _ _ _ CC.out CD.out).mono ?_);rintro e w4 ⟨v4,rfl,yh,hb4⟩;obtain ⟨a4,c4,rfl,yg,yf⟩:=aF.view yh;clear yg yf yh;(generalize (Wh.d_ G.natAbs).length=lg at *);replace L3:=yI (Rw.Own.below L3.out hb4);replace C3:=C3.keep hb4;replace N:=N.keep hb4;replace CC:=kO CC hb4;replace CD:=kO CD hb4;replace B3:=f_ B3 hb4;(replace ⟨Be,Bf⟩:=C3.b2);(replace ⟨CQ,CR,CS,CT⟩:=N.b4))
    | (go_at_call 144;(with_reducible refine (BD.out _ _ _ _ _ CC.out CD.out).mono ?_);rintro e w5 ⟨v5,u5,rfl,yT,B0,hb5⟩;replace C3:=C3.keep hb5;replace N:=N.keep hb5;replace CC:=kO CC hb5;replace CD:=kO CD hb5;replace B3:=f_ B3 hb5;replace L3:=yI (Rw.Own.below L3.out hb5);obtain ⟨a5,c5,rfl,yg,yf⟩:=aF.view yT;clear yg yf;obtain ⟨b5,d5,rfl,yg,yf⟩:=aF.view B0;clear yg yf;have on:=yI (aF.alloc (show aF _ _ _ _ from yT) (.cells #[.bool s',.slice a5 (Wh.d_ x'.natAbs).length c5,.bool r',.slice b5 (Wh.d_ z'.natAbs).length d5] 157));have om:=yI (aF.alloc (show aF _ _ _ _ from B0) (.cells #[.bool s',.slice a5 (Wh.d_ x'.natAbs).length c5,.bool r',.slice b5 (Wh.d_ z'.natAbs).length d5] 157));clear yT B0;(generalize (Wh.d_ x'.natAbs).length=l5 at *);(generalize (Wh.d_ z'.natAbs).length=m5 at *);replace L3:=yI (Rw.Own.alloc L3.out (.cells #[.bool s',.slice a5 l5 c5,.bool r',.slice b5 m5 d5] 157));have M_:=aH.new w5 #[.bool s',.slice a5 l5 c5,.bool r',.slice b5 m5 d5] 157;have b_:=bA w5 (.cells #[.bool s',.slice a5 l5 c5,.bool r',.slice b5 m5 d5] 157);replace C3:=C3.keep b_;replace N:=N.keep b_;replace CC:=kO CC b_;replace CD:=kO CD b_;replace B3:=f_ B3 b_;clear b_;(replace ⟨Be,Bf⟩:=C3.b2);(replace ⟨CQ,CR,CS,CT⟩:=N.b4);(replace ⟨G5,G6,G7,G8⟩:=M_.b4)))
   exact bodyPost_ret (v:=.tuple #[.slice (some ⟨g,0,none⟩) (k+1) cap,.bool false]) (by simp [results,Tryz.results130,go_sem, *]) rfl (⟨_,_,rfl,(by rw [hout.out,hfin.out];exact ⟨rfl,_,_,_,rfl,by omega⟩),B3⟩)
  | true=>
  rw [if_pos rfl] at hnx;obtain ⟨hxn,hzn⟩:=Ei rfl;obtain ⟨zn,zd⟩:=BS rfl;subst hxn hzn;clear Ei BS;have zn:=yI zn;have zd:=yI zd;have hnx:=yI hnx;generalize hs5:decide (x'<0)=s' at *;generalize GE:decide (z'<0)=r' at *;replace hs5:=yI hs5.symm;replace GE:=yI GE.symm;clear hrun zx zz
  go_wp2_with (first
   | (go_at_call 143;(with_reducible refine (FQ.out _ _ _ _ _ CC.out CD.out).mono ?_);rintro e w4 ⟨v4,rfl,yh,hb4⟩;obtain ⟨a4,c4,rfl,yg,yf⟩:=aF.view yh;clear yg yf yh;(generalize (Wh.d_ G.natAbs).length=lg at *);replace L3:=yI (Rw.Own.below L3.out hb4);replace C3:=C3.keep hb4;replace N:=N.keep hb4;replace CC:=kO CC hb4;replace CD:=kO CD hb4;replace B3:=f_ B3 hb4;(replace ⟨Be,Bf⟩:=C3.b2);(replace ⟨CQ,CR,CS,CT⟩:=N.b4))
   | (go_at_call 144;(with_reducible refine (BD.out _ _ _ _ _ CC.out CD.out).mono ?_);rintro e w5 ⟨v5,u5,rfl,yT,B0,hb5⟩;replace C3:=C3.keep hb5;replace N:=N.keep hb5;replace CC:=kO CC hb5;replace CD:=kO CD hb5;replace B3:=f_ B3 hb5;replace L3:=yI (Rw.Own.below L3.out hb5);obtain ⟨a5,c5,rfl,yg,yf⟩:=aF.view yT;clear yg yf;obtain ⟨b5,d5,rfl,yg,yf⟩:=aF.view B0;clear yg yf;have on:=yI (aF.alloc (show aF _ _ _ _ from yT) (.cells #[.bool s',.slice a5 (Wh.d_ x'.natAbs).length c5,.bool r',.slice b5 (Wh.d_ z'.natAbs).length d5] 157));have om:=yI (aF.alloc (show aF _ _ _ _ from B0) (.cells #[.bool s',.slice a5 (Wh.d_ x'.natAbs).length c5,.bool r',.slice b5 (Wh.d_ z'.natAbs).length d5] 157));clear yT B0;(generalize (Wh.d_ x'.natAbs).length=l5 at *);(generalize (Wh.d_ z'.natAbs).length=m5 at *);replace L3:=yI (Rw.Own.alloc L3.out (.cells #[.bool s',.slice a5 l5 c5,.bool r',.slice b5 m5 d5] 157));have M_:=aH.new w5 #[.bool s',.slice a5 l5 c5,.bool r',.slice b5 m5 d5] 157;have b_:=bA w5 (.cells #[.bool s',.slice a5 l5 c5,.bool r',.slice b5 m5 d5] 157);replace C3:=C3.keep b_;replace N:=N.keep b_;replace CC:=kO CC b_;replace CD:=kO CD b_;replace B3:=f_ B3 b_;clear b_;(replace ⟨Be,Bf⟩:=C3.b2);(replace ⟨CQ,CR,CS,CT⟩:=N.b4);(replace ⟨G5,G6,G7,G8⟩:=M_.b4))
   | (at_builtin;refine Rw.xu xj (w.heap.size+2) [((s',(a5,l5,c5),r',(b5,m5,d5)):iN)] xs _ ⟨w5.heap.size+1,0,none⟩ 1 1 (by rfl) (by rfl) (.tmp 50) (.tmp 52) (by rfl) (by rfl) (by rfl) (Rw.From.lit ER _ ((s',(a5,l5,c5),r',(b5,m5,d5)):iN) (w5.heap.size+1) (yJ _ _)) (by have:=Rw.Own.alloc L3.out (.cells #[.bool s',.slice a5 l5 c5,.bool r',.slice b5 m5 d5] 157);exact this) (by have h1_:=hb4.size;have h2_:=hb5.size;(try simp only [yJ] at h1_ h2_ ⊢);omega) (by rw [hlen.out];simp;omega) ?_;intro v6 w6 hown6 Fz hbl6;have C6:=aH.grown (C3.alloc (.cells #[.bool s',.slice a5 l5 c5,.bool r',.slice b5 m5 d5] 157)) Fz (fun e=>by have e2:g=w.heap.size:=Option.some.inj e;omega);have on6:=yI (aF.p9 (aF.alloc on.out (.cells #[.bool s',.slice a5 l5 c5,.bool r',.slice b5 m5 d5] 157)) (Rw.Own.alloc L3.out (.cells #[.bool s',.slice a5 l5 c5,.bool r',.slice b5 m5 d5] 157)) Fz);have om6:=yI (aF.p9 (aF.alloc om.out (.cells #[.bool s',.slice a5 l5 c5,.bool r',.slice b5 m5 d5] 157)) (Rw.Own.alloc L3.out (.cells #[.bool s',.slice a5 l5 c5,.bool r',.slice b5 m5 d5] 157)) Fz);have B6:=Below.grown (B3.alloc B3.size (.cells #[.bool s',.slice a5 l5 c5,.bool r',.slice b5 m5 d5] 157)) Fz (B3.alloc B3.size (.cells #[.bool s',.slice a5 l5 c5,.bool r',.slice b5 m5 d5] 157)).size (fun k_ hk_=>by have e2:g=k_:=Option.some.inj hk_;omega);have hown6:=yI hown6;have hz6:=Fz.size;have hz7:=hb4.size;have M5:=hb5.size))
  go_roundw
  case rel=>exact ⟨k+1,x',z',xs ++ [((s',(a5,l5,c5),r',(b5,m5,d5)):iN)],((s',(a5,l5,c5),r',(b5,m5,d5)):iN),by omega,(by first | (rw [hj2.out];done) | (rw [hj2.out];go_num)),hnx,hown6.out,yI (by rw [List.length_append,hlen.out];rfl),yI (by rw [List.getElem?_append_right (by rw [hlen.out];omega),hlen.out,Nat.sub_self];rfl),aF.base on6.out (Nat.zero_le _),aF.base om6.out (Nat.zero_le _),hs5,GE,zn.out,zd.out,C6,B6,by (try simp only [yJ] at hz6 hz7 M5);omega⟩
  case measure=>simp [intOf] <;> omega
 obtain rfl:k=n:=by omega
 rw [Nat.sub_self];go_wp2;exact bodyPost_ret (v:=.tuple #[.slice (some ⟨g,0,none⟩) (k+1) cap,.bool false]) (by simp [results,Tryz.results130,go_sem, *]) rfl (⟨_,_,rfl,(by rw [hout.out,hrun.out];exact ⟨rfl,zx.out,zz.out,g,cap,s,av,lv,cv,r,bv,mv,dv,rfl,Fr,Fs,Ft,Fu,hs,hr,ox.out,oz.out⟩),B⟩)
noncomputable def Cp (n d:Int):Bool:=dy (b9 n d) (bT n d)
theorem gR (a b:Int) (w:World) (h1:-4000000000000000000≤a) (h2:a≤4000000000000000000) (h3:-4000000000000000000≤b) (h4:b≤4000000000000000000) :
  Calls Tryz.prog 83 #[.int .i64 (a.natAbs:Int),.int .i64 (b.natAbs:Int)] w fun e w'=>e=.returned (.int .i64 (M.gcd a b))∧w=w':=by
 rw [show M.gcd a b=M.gcd a.natAbs b.natAbs from by simp [M.gcd,Int.gcd]];exact dM _ _ _ (by omega) (by omega) (by omega) (by omega)
theorem kM (n d:Int) (w:World) (h1:-4000000000000000000≤n) (h2:n≤4000000000000000000) (h3:-4000000000000000000≤d) (h4:d≤4000000000000000000) (h0:d≠0) :
  Calls Tryz.prog 63 #[.int .i64 n,.int .i64 d] w fun e w'=>e=.returned (.tuple #[.agg #[.int .i64 (M.pick (Cp (n) (d)) (b9 (n) (d))),.int .i64 (M.pick (Cp (n) (d)) (bT (n) (d)))],.bool (Cp (n) (d))]:Value)∧Below w.heap.size w w':=by
 have g1:=jM (a:=n) h0;have g2:=pJ (a:=n) h0;have t1:=dk (a:=n) (d:=M.gcd n d) h1 h2 (by omega);have t2:=dk (a:=d) (d:=M.gcd n d) h3 h4 (by omega)
 have E:=fun w=>iD (b9 n d) (bT n d) w
 unfold Cp
 by_cases hn:d<0
 ·rw [d9 hn,d8 hn] at E ⊢
  cases hok:dy (-n.tdiv (M.gcd n d)) (-d.tdiv (M.gcd n d)) <;> simp only [hok] at E <;> have E:=yI E
  all_goals
   have w1:=IntWalk.i64_in (-n.tdiv (M.gcd n d)) (by omega);have w2:=IntWalk.i64_in (-d.tdiv (M.gcd n d)) (by omega)
   have hg0:¬ -M.gcd n d=0:=by omega
   go_enter Tryz.func63,Tryz.ntmps63
   go_wp2_with (go_at_call 75;refine (kA _ _ _ (by omega) (by omega) (by omega) (by omega)).mono ?_;rintro e w' ⟨rfl,mq,rfl⟩)
   go_region
   all_goals
    clear w1 w2
    go_wp2_with (go_at_call 62;refine (E.out _).mono ?_;rintro e w' ⟨rfl,hb⟩;have Dv:=hb.size;(try simp only [yJ,aO,World.heap_drewN,aI] at Dv);have Eo:w.heap.size<w'.heap.size:=(by omega);have F4:=fun o=>(da hb).1 (w.heap.size) o (by (try simp only [yJ,aO,World.heap_drewN,aI]);omega);have F7:=fun o=>(da hb).2.1 (w.heap.size) o (by (try simp only [yJ,aO,World.heap_drewN,aI]);omega);have GH:w.heap.size+1<w'.heap.size:=(by omega);have F5:=fun o=>(da hb).1 (w.heap.size+1) o (by (try simp only [yJ,aO,World.heap_drewN,aI]);omega);have F8:=fun o=>(da hb).2.1 (w.heap.size+1) o (by (try simp only [yJ,aO,World.heap_drewN,aI]);omega))
    first
     | (refine bodyPost_ret (v:=.tuple #[.agg #[.int .i64 0,.int .i64 0],.bool false]) ?_ rfl ?_;(· (simp [results,Tryz.results63,go_sem, *];done));(· (refine ⟨?_,(by repeat (first | exact yL _ _ | refine aQ ?_ _ | refine aS ?_ (by assumption) | refine Below.drew ?_ | refine yK ?_ (by first | exact yM _ | exact Nat.le_add_right _ _ | (simp <;> omega)) _ | refine aL ?_ _))⟩;(simp [M.f8];done))))
     | (refine bodyPost_ret (v:=.tuple #[.agg #[.int .i64 (-n.tdiv (M.gcd n d)),.int .i64 (-d.tdiv (M.gcd n d))],.bool true]) ?_ rfl ?_;(· (simp [results,Tryz.results63,go_sem, *];done));(· (refine ⟨?_,(by repeat (first | exact yL _ _ | refine aQ ?_ _ | refine aS ?_ (by assumption) | refine Below.drew ?_ | refine yK ?_ (by first | exact yM _ | exact Nat.le_add_right _ _ | (simp <;> omega)) _ | refine aL ?_ _))⟩;(simp [M.ek];done))))
 rw [dE (by omega),dD (by omega)] at E ⊢
 cases hok:dy (n.tdiv (M.gcd n d)) (d.tdiv (M.gcd n d)) <;> simp only [hok] at E <;> have E:=yI E
 all_goals
  have w1:=IntWalk.i64_in (n.tdiv (M.gcd n d)) (by omega);have w2:=IntWalk.i64_in (d.tdiv (M.gcd n d)) (by omega)
  have hg0:¬ M.gcd n d=0:=by omega
  go_enter Tryz.func63,Tryz.ntmps63
  go_wp2_with (go_at_call 75;refine (kA _ _ _ (by omega) (by omega) (by omega) (by omega)).mono ?_;rintro e w' ⟨rfl,mq,rfl⟩)
  go_region
  all_goals
   clear w1 w2
   go_wp2_with (go_at_call 62;refine (E.out _).mono ?_;rintro e w' ⟨rfl,hb⟩;have Dv:=hb.size;(try simp only [yJ,aO,World.heap_drewN,aI] at Dv);have Eo:w.heap.size<w'.heap.size:=(by omega);have F4:=fun o=>(da hb).1 (w.heap.size) o (by (try simp only [yJ,aO,World.heap_drewN,aI]);omega);have F7:=fun o=>(da hb).2.1 (w.heap.size) o (by (try simp only [yJ,aO,World.heap_drewN,aI]);omega);have GH:w.heap.size+1<w'.heap.size:=(by omega);have F5:=fun o=>(da hb).1 (w.heap.size+1) o (by (try simp only [yJ,aO,World.heap_drewN,aI]);omega);have F8:=fun o=>(da hb).2.1 (w.heap.size+1) o (by (try simp only [yJ,aO,World.heap_drewN,aI]);omega))
   first
    | (refine bodyPost_ret (v:=.tuple #[.agg #[.int .i64 0,.int .i64 0],.bool false]) ?_ rfl ?_;(· (simp [results,Tryz.results63,go_sem, *];done));(· (refine ⟨?_,(by repeat (first | exact yL _ _ | refine aQ ?_ _ | refine aS ?_ (by assumption) | refine Below.drew ?_ | refine yK ?_ (by first | exact yM _ | exact Nat.le_add_right _ _ | (simp <;> omega)) _ | refine aL ?_ _))⟩;(simp [M.f8];done))))
    | (refine bodyPost_ret (v:=.tuple #[.agg #[.int .i64 (n.tdiv (M.gcd n d)),.int .i64 (d.tdiv (M.gcd n d))],.bool true]) ?_ rfl ?_;(· (simp [results,Tryz.results63,go_sem, *];done));(· (refine ⟨?_,(by repeat (first | exact yL _ _ | refine aQ ?_ _ | refine aS ?_ (by assumption) | refine Below.drew ?_ | refine yK ?_ (by first | exact yM _ | exact Nat.le_add_right _ _ | (simp <;> omega)) _ | refine aL ?_ _))⟩;(simp [M.ek];done))))
theorem tO (n d:Int) (w:World) (h1:-4000000000000000000≤n) (h2:n≤4000000000000000000) (h3:-4000000000000000000≤d) (h4:d≤4000000000000000000) (h0:d≠0) :
  Calls Tryz.prog 107 #[.int .i64 n,.int .i64 d] w fun e w'=>e=.returned (.tuple #[.agg #[.int .i64 (M.pick (Cp (n) (d)) (b9 (n) (d))),.int .i64 (M.pick (Cp (n) (d)) (bT (n) (d)))],.bool (Cp (n) (d))]:Value)∧Below w.heap.size w w':=by
 have g1:=jM (a:=n) h0;have g2:=pJ (a:=n) h0;have t1:=dk (a:=n) (d:=M.gcd n d) h1 h2 (by omega);have t2:=dk (a:=d) (d:=M.gcd n d) h3 h4 (by omega)
 have E:=fun w=>j9 (b9 n d) (bT n d) w
 unfold Cp
 by_cases hn:d<0
 ·rw [d9 hn,d8 hn] at E ⊢
  cases hok:dy (-n.tdiv (M.gcd n d)) (-d.tdiv (M.gcd n d)) <;> simp only [hok] at E <;> have E:=yI E
  all_goals
   have w1:=IntWalk.i64_in (-n.tdiv (M.gcd n d)) (by omega);have w2:=IntWalk.i64_in (-d.tdiv (M.gcd n d)) (by omega)
   have hg0:¬ -M.gcd n d=0:=by omega
   go_enter Tryz.func107,Tryz.ntmps107
   go_wp2_with (first | (go_at_call 84;refine (dJ _ _ (by omega) (by omega)).mono ?_;rintro e w' ⟨rfl,rfl⟩) | (go_at_call 83;refine (gR n d _ h1 h2 h3 h4).mono ?_;rintro e w' ⟨rfl,rfl⟩))
   go_region
   all_goals
    clear w1 w2
    go_wp2_with (go_at_call 61;refine (E.out _).mono ?_;rintro e w' ⟨rfl,hb⟩;have Dv:=hb.size;(try simp only [yJ,aO,World.heap_drewN,aI] at Dv);have Eo:w.heap.size<w'.heap.size:=(by omega);have F4:=fun o=>(da hb).1 (w.heap.size) o (by (try simp only [yJ,aO,World.heap_drewN,aI]);omega);have F7:=fun o=>(da hb).2.1 (w.heap.size) o (by (try simp only [yJ,aO,World.heap_drewN,aI]);omega);have GH:w.heap.size+1<w'.heap.size:=(by omega);have F5:=fun o=>(da hb).1 (w.heap.size+1) o (by (try simp only [yJ,aO,World.heap_drewN,aI]);omega);have F8:=fun o=>(da hb).2.1 (w.heap.size+1) o (by (try simp only [yJ,aO,World.heap_drewN,aI]);omega))
    first
     | (refine bodyPost_ret (v:=.tuple #[.agg #[.int .i64 0,.int .i64 0],.bool false]) ?_ rfl ?_;(· (simp [results,Tryz.results107,go_sem, *];done));(· (refine ⟨?_,(by repeat (first | exact yL _ _ | refine aQ ?_ _ | refine aS ?_ (by assumption) | refine Below.drew ?_ | refine yK ?_ (by first | exact yM _ | exact Nat.le_add_right _ _ | (simp <;> omega)) _ | refine aL ?_ _))⟩;(simp [M.f8];done))))
     | (refine bodyPost_ret (v:=.tuple #[.agg #[.int .i64 (-n.tdiv (M.gcd n d)),.int .i64 (-d.tdiv (M.gcd n d))],.bool true]) ?_ rfl ?_;(· (simp [results,Tryz.results107,go_sem, *];done));(· (refine ⟨?_,(by repeat (first | exact yL _ _ | refine aQ ?_ _ | refine aS ?_ (by assumption) | refine Below.drew ?_ | refine yK ?_ (by first | exact yM _ | exact Nat.le_add_right _ _ | (simp <;> omega)) _ | refine aL ?_ _))⟩;(simp [M.ek];done))))
 rw [dE (by omega),dD (by omega)] at E ⊢
 cases hok:dy (n.tdiv (M.gcd n d)) (d.tdiv (M.gcd n d)) <;> simp only [hok] at E <;> have E:=yI E
 all_goals
  have w1:=IntWalk.i64_in (n.tdiv (M.gcd n d)) (by omega);have w2:=IntWalk.i64_in (d.tdiv (M.gcd n d)) (by omega)
  have hg0:¬ M.gcd n d=0:=by omega
  go_enter Tryz.func107,Tryz.ntmps107
  go_wp2_with (first | (go_at_call 84;refine (dJ _ _ (by omega) (by omega)).mono ?_;rintro e w' ⟨rfl,rfl⟩) | (go_at_call 83;refine (gR n d _ h1 h2 h3 h4).mono ?_;rintro e w' ⟨rfl,rfl⟩))
  go_region
  all_goals
   clear w1 w2
   go_wp2_with (go_at_call 61;refine (E.out _).mono ?_;rintro e w' ⟨rfl,hb⟩;have Dv:=hb.size;(try simp only [yJ,aO,World.heap_drewN,aI] at Dv);have Eo:w.heap.size<w'.heap.size:=(by omega);have F4:=fun o=>(da hb).1 (w.heap.size) o (by (try simp only [yJ,aO,World.heap_drewN,aI]);omega);have F7:=fun o=>(da hb).2.1 (w.heap.size) o (by (try simp only [yJ,aO,World.heap_drewN,aI]);omega);have GH:w.heap.size+1<w'.heap.size:=(by omega);have F5:=fun o=>(da hb).1 (w.heap.size+1) o (by (try simp only [yJ,aO,World.heap_drewN,aI]);omega);have F8:=fun o=>(da hb).2.1 (w.heap.size+1) o (by (try simp only [yJ,aO,World.heap_drewN,aI]);omega))
   first
    | (refine bodyPost_ret (v:=.tuple #[.agg #[.int .i64 0,.int .i64 0],.bool false]) ?_ rfl ?_;(· (simp [results,Tryz.results107,go_sem, *];done));(· (refine ⟨?_,(by repeat (first | exact yL _ _ | refine aQ ?_ _ | refine aS ?_ (by assumption) | refine Below.drew ?_ | refine yK ?_ (by first | exact yM _ | exact Nat.le_add_right _ _ | (simp <;> omega)) _ | refine aL ?_ _))⟩;(simp [M.f8];done))))
    | (refine bodyPost_ret (v:=.tuple #[.agg #[.int .i64 (n.tdiv (M.gcd n d)),.int .i64 (d.tdiv (M.gcd n d))],.bool true]) ?_ rfl ?_;(· (simp [results,Tryz.results107,go_sem, *];done));(· (refine ⟨?_,(by repeat (first | exact yL _ _ | refine aQ ?_ _ | refine aS ?_ (by assumption) | refine Below.drew ?_ | refine yK ?_ (by first | exact yM _ | exact Nat.le_add_right _ _ | (simp <;> omega)) _ | refine aL ?_ _))⟩;(simp [M.ek];done))))
namespace M
noncomputable def zp (n d:Int):Option (Int × Int):=if Cp n d then some (b9 n d,bT n d) else none
def fN (r:Option (Int × Int)):Int:=(r.getD (0,0)).1
def fD (r:Option (Int × Int)):Int:=(r.getD (0,0)).2
theorem tN (n d:Int):(.tuple #[.agg #[.int .i64 (M.pick (Cp (n) (d)) (b9 (n) (d))),.int .i64 (M.pick (Cp (n) (d)) (bT (n) (d)))],.bool (Cp (n) (d))]:Value)=.tuple #[.agg #[.int .i64 (fN (zp n d)),.int .i64 (fD (zp n d))],.bool (zp n d).isSome]:=by
 unfold zp
 cases h:Cp n d <;> simp [M.f8,M.ek,fN,fD]
theorem ur {n d:Int} (h:dy n d=true):-1000000000≤n∧n≤1000000000∧1≤d∧d≤1000000000:=by
 unfold dy at h;simp only [Bool.and_eq_true] at h;have h1:=M.fY h.1.1;have h2:=M.fY h.1.2;omega
end M
theorem nZ (n d:Int) (w:World) (h1:-4000000000000000000≤n) (h2:n≤4000000000000000000) (h3:-4000000000000000000≤d) (h4:d≤4000000000000000000) (h0:d≠0) :
  Calls Tryz.prog 107 #[.int .i64 n,.int .i64 d] w fun e w'=>e=.returned (.tuple #[.agg #[.int .i64 (M.fN (M.zp n d)),.int .i64 (M.fD (M.zp n d))],.bool (M.zp n d).isSome])∧Below w.heap.size w w':=by
 rw [←M.tN];exact tO n d w h1 h2 h3 h4 h0
theorem kN (n d:Int) (w:World) (h1:-4000000000000000000≤n) (h2:n≤4000000000000000000) (h3:-4000000000000000000≤d) (h4:d≤4000000000000000000) (h0:d≠0) :
  Calls Tryz.prog 63 #[.int .i64 n,.int .i64 d] w fun e w'=>e=.returned (.tuple #[.agg #[.int .i64 (M.fN (M.zp n d)),.int .i64 (M.fD (M.zp n d))],.bool (M.zp n d).isSome])∧Below w.heap.size w w':=by
 rw [←M.tN];exact kM n d w h1 h2 h3 h4 h0
theorem uq (n:Int) (w:World) :
  Calls Tryz.prog 68 #[.int .i64 n] w fun e w'=>e=.returned (.agg #[.int .i64 n,.int .i64 1])∧Below w.heap.size w w':=by
 go_enter Tryz.func68,Tryz.ntmps68
 go_wp2;exact bodyPost_ret (v:=.agg #[.int .i64 n,.int .i64 1]) (by simp [results,Tryz.results68,go_sem, *]) rfl (⟨rfl,(by repeat (first | exact yL _ _ | refine aQ ?_ _ | refine aS ?_ (by assumption) | refine Below.drew ?_ | refine yK ?_ (by first | exact yM _ | exact Nat.le_add_right _ _ | (simp <;> omega)) _ | refine aL ?_ _))⟩)
namespace M
noncomputable def pn (a:Int):Int:=fN (zp a 4096)
noncomputable def pd (a:Int):Int:=fD (zp a 4096)
def aN (lo hi:Int):Bool:=decide (lo≤hi) && decide (-409600000≤lo) && decide (hi≤409600000)
theorem bw {lo hi:Int} (h:aN lo hi=true):lo≤hi∧-409600000≤lo∧hi≤409600000:=by
 unfold aN at h;simp only [Bool.and_eq_true,decide_eq_true_eq] at h;exact ⟨h.1.1,h.1.2,h.2⟩
theorem qL (a:Int):∃ g q n:Int,M.gcd a 4096=g∧1≤g∧g≤4096∧4096=g*q∧1≤q∧q≤4096∧a=n*g:=by
 have h1:(M.gcd a 4096) ∣ 4096:=Int.gcd_dvd_right ..;have h2:(M.gcd a 4096) ∣ a:=Int.gcd_dvd_left ..;have h3:=jM (a:=a) (b:=4096) (by decide);obtain ⟨q,hq⟩:=h1;obtain ⟨n,hn⟩:=h2;generalize M.gcd a 4096=g at *
 have hq1:1≤q:=by
  rcases Int.lt_or_le q 1 with h | h
  ·have:=Int.mul_nonpos_of_nonneg_of_nonpos (a:=g) (b:=q) (by omega) (by omega)
   omega
  exact h
 have hg:g≤4096:=Int.le_of_dvd (by decide) ⟨q,hq⟩;have hq2:q≤4096:=Int.le_of_dvd (by decide) ⟨g,by rw [Int.mul_comm];exact hq⟩;exact ⟨g,q,n,rfl,by omega,hg,hq,hq1,hq2,by rw [hn,Int.mul_comm]⟩
theorem mF {a g q n:Int} (hg:M.gcd a 4096=g) (h1:1≤g) (hq:4096=g*q) (hn:a=n*g):zp a 4096=if dy n q then some (n,q) else none:=by
 have e1:b9 a 4096=n:=by rw [dE (by omega),hg,hn,Int.mul_tdiv_cancel _ (by omega)]
 have e2:bT a 4096=q:=by rw [dD (by omega),hg,hq,Int.mul_tdiv_cancel_left _ (by omega)]
 unfold zp Cp;rw [e1,e2]
theorem pK {a:Int} (h:(zp a 4096).isSome=true):dy (pn a) (pd a)=true∧1≤pd a∧pd a≤4096∧(4096:Int) % pd a=0∧pn a*(4096 / pd a)=a∧1≤4096 / pd a∧4096 / pd a≤4096∧-1000000000≤pn a∧pn a≤1000000000:=by
 obtain ⟨g,q,n,hg,h1,h2,hq,h3,h4,hn⟩:=qL a;have hf:=mF hg h1 hq hn;unfold pn pd;rw [hf] at h ⊢
 split at h
 ·rename_i hok
  have hb:=ur hok;rw [if_pos hok]
  show dy n q=true∧_
  have hdiv:(4096:Int) / q=g:=by rw [hq];exact Int.mul_ediv_cancel _ (by omega)
  refine ⟨hok,h3,h4,?_,?_,?_,?_,hb.1,hb.2.1⟩
  ·show (4096:Int) % q=0
   rw [hq];exact Int.mul_emod_left _ _
  ·show n*(4096 / q)=a
   rw [hdiv,hn]
  ·show 1≤(4096:Int) / q
   omega
  show (4096:Int) / q≤4096
  omega
 cases h
theorem bM {a:Int} (h1:-409600000≤a) (h2:a≤409600000):(zp a 4096).isSome=true:=by
 obtain ⟨g,q,n,hg,hg1,hg2,hq,h3,h4,hn⟩:=qL a;rw [mF hg hg1 hq hn]
 have hnb:-1000000000≤n∧n≤1000000000:=by
  constructor
  ·rcases Int.lt_or_le n (-1000000000) with h | h
   ·have:n*g≤n*1:=Int.mul_le_mul_of_nonpos_left (by omega) hg1
    omega
   exact h
  rcases Int.lt_or_le 1000000000 n with h | h
  ·have:n*1≤n*g:=Int.mul_le_mul_of_nonneg_left hg1 (by omega)
   omega
  exact h
 have MJ:M.gcd n q=1:=by
  have e1:M.gcd (n*g) (q*g)=M.gcd n q*g:=by
   unfold M.gcd;rw [Int.gcd_mul_right]
   have:(g.natAbs:Int)=g:=by omega
   rw [Int.natCast_mul,this]
  rw [←hn,Int.mul_comm q g,←hq,hg] at e1;have:=Int.eq_of_mul_eq_mul_right (a:=g) (b:=1) (c:=M.gcd n q) (by omega) (by omega);exact this.symm
 have hok:dy n q=true:=by
  unfold dy M.ins;rw [MJ];simp only [Bool.and_eq_true,decide_eq_true_eq];exact ⟨⟨by omega,hnb⟩,rfl⟩
 rw [if_pos hok];rfl
theorem wj {a:Int} (h:(zp a 4096).isSome=true):-4096000000000≤a∧a≤4096000000000:=by
 obtain ⟨-,-,-,-,h5,h6,h7,h8,h9⟩:=pK h;generalize 4096 / pd a=g at *;have:=aK (x:=pn a) (y:=g) (m:=1000000000) (n:=4096) (by omega) (by omega) (by omega) (by omega);omega
theorem qI {a b:Int} (hb:0<b) (h:a.tmod b<0):a.tdiv b - 1=a / b:=by
 have h1:=Int.mul_tdiv_add_tmod a b;have h2:=Int.lt_tmod_of_pos a hb;exact ((Int.ediv_emod_unique (r:=a.tmod b+b) hb).2 ⟨by rw [Int.mul_sub];omega,by omega,by omega⟩ |>.1).symm
theorem qH {a b:Int} (hb:0<b) (h:¬ a.tmod b<0):a.tdiv b=a / b:=by
 have h1:=Int.mul_tdiv_add_tmod a b;have h2:=Int.tmod_lt_of_pos a hb;exact ((Int.ediv_emod_unique hb).2 ⟨by omega,by omega,h2⟩ |>.1).symm
end M
theorem fA (a b:Int) (w:World) (h1:-4000000000000000000≤a) (h2:a≤4000000000000000000) (hb:0<b) (hb2:b≤4000000000000000000) :
  Calls Tryz.prog 120 #[.int .i64 a,.int .i64 b] w fun e w'=>e=.returned (.int .i64 (a / b))∧w=w':=by
 have t1:=dk (a:=a) (d:=b) h1 h2 (by omega);have m1:=Int.tmod_lt_of_pos a hb;have m2:=Int.lt_tmod_of_pos a hb;have hf:=M.qH (a:=a) hb;have ht:=M.qI (a:=a) hb
 have hb0:¬ b=0:=by omega
 by_cases h:a.tmod b<0
 ·have ht2:=yI (ht h)
  clear hf ht;go_enter Tryz.func120,Tryz.ntmps120
  go_wp2;go_ret;exact ⟨by first | rfl | (rw [←ht2.out];rfl),rfl⟩
 have hf2:=yI (hf h);clear ht hf;go_enter Tryz.func120,Tryz.ntmps120
 go_wp2;go_ret;exact ⟨by first | rfl | (rw [←hf2.out];rfl),rfl⟩
theorem j8 (a b:Int) (w:World) (h1:-4000000000000000000≤a) (h2:a≤4000000000000000000) (hb:0<b) (hb2:b≤4000000000000000000) :
  Calls Tryz.prog 93 #[.int .i64 a,.int .i64 b] w fun e w'=>e=.returned (.int .i64 (a / b))∧w=w':=by
 have t1:=dk (a:=a) (d:=b) h1 h2 (by omega);have m1:=Int.tmod_lt_of_pos a hb;have m2:=Int.lt_tmod_of_pos a hb;have hf:=M.qH (a:=a) hb;have ht:=M.qI (a:=a) hb
 have hb0:¬ b=0:=by omega
 have hb1:(b == 0)=false:=by rw [beq_eq_false_iff_ne];exact hb0
 by_cases h:a.tmod b<0
 ·have ht2:=yI (ht h)
  clear hf ht;go_enter Tryz.func93,Tryz.ntmps93
  go_wp2;go_ret;exact ⟨by first | rfl | (rw [←ht2.out];rfl),rfl⟩
 have hf2:=yI (hf h);clear ht hf;go_enter Tryz.func93,Tryz.ntmps93
 go_wp2;go_ret;exact ⟨by first | rfl | (rw [←hf2.out];rfl),rfl⟩
theorem dR {a b k:Int} (h1:-k≤a) (h2:a≤k) (hb:0<b) (hk:0≤k):-k≤a / b∧a / b≤k:=by
 have e1:=Int.mul_ediv_add_emod a b;have e2:=Int.emod_nonneg a (by omega:b≠0);have e3:=Int.emod_lt_of_pos a hb
 constructor
 ·rcases Int.lt_or_le (a / b) (-k) with h | h
  ·have:b*(a / b)≤b*(-k - 1):=Int.mul_le_mul_of_nonneg_left (by omega) (by omega)
   have h4:b*(-k - 1)≤1*(-k - 1):=Int.mul_le_mul_of_nonpos_right (by omega) (by omega)
   have h5:b*(-k - 1)=b*(-k) - b:=by rw [Int.mul_sub,Int.mul_one]
   have h6:b*(-k)≤1*(-k):=Int.mul_le_mul_of_nonpos_right (by omega) (by omega);omega
  exact h
 rcases Int.lt_or_le k (a / b) with h | h
 ·have h4:b*(k+1)≤b*(a / b):=Int.mul_le_mul_of_nonneg_left (by omega) (by omega)
  have h5:1*(k+1)≤b*(k+1):=Int.mul_le_mul_of_nonneg_right (by omega) (by omega);omega
 exact h
theorem th (a b:Int) (w:World) (h1:-4000000000000000000≤a) (h2:a≤4000000000000000000) (hb:0<b) (hb2:b≤4000000000000000000) :
  Calls Tryz.prog 94 #[.int .i64 a,.int .i64 b] w fun e w'=>e=.returned (.int .i64 (-(-a / b)))∧w=w':=by
 have P:=fun W=>j8 (-a) b W (by omega) (by omega) hb hb2
 have hq:=dR (a:=-a) (b:=b) (k:=4000000000000000000) (by omega) (by omega) hb (by omega);obtain ⟨q1,q2⟩:=hq;generalize -a / b=q at *;replace P:=yI P;go_enter Tryz.func94,Tryz.ntmps94
 go_wp2_with (go_at_call 93;(with_reducible refine (P.out _).mono ?_);rintro e w4 ⟨rfl,rfl⟩)
 go_ret;exact ⟨rfl,rfl⟩
theorem mr (lo hi:Int) (w:World) :
  Calls Tryz.prog 119 #[.agg #[.int .i64 lo,.int .i64 hi]] w fun e w'=>e=.returned (.bool (M.aN lo hi))∧Below w.heap.size w w':=by
 unfold M.aN
 by_cases h1:lo≤hi
 ·by_cases h2:-409600000≤lo
  ·by_cases h3:hi≤409600000
   all_goals
    go_enter Tryz.func119,Tryz.ntmps119
    go_wp2;go_ret;exact ⟨dB (by simp [h1,h2,h3]),(by repeat (first | exact yL _ _ | refine aQ ?_ _ | refine aS ?_ (by assumption) | refine Below.drew ?_ | refine yK ?_ (by first | exact yM _ | exact Nat.le_add_right _ _ | (simp <;> omega)) _ | refine aL ?_ _))⟩
  go_enter Tryz.func119,Tryz.ntmps119
  go_wp2;go_ret;exact ⟨dB (by simp [h1,h2] <;> omega),(by repeat (first | exact yL _ _ | refine aQ ?_ _ | refine aS ?_ (by assumption) | refine Below.drew ?_ | refine yK ?_ (by first | exact yM _ | exact Nat.le_add_right _ _ | (simp <;> omega)) _ | refine aL ?_ _))⟩
 go_enter Tryz.func119,Tryz.ntmps119
 go_wp2;go_ret;exact ⟨dB (by simp [h1] <;> omega),(by repeat (first | exact yL _ _ | refine aQ ?_ _ | refine aS ?_ (by assumption) | refine Below.drew ?_ | refine yK ?_ (by first | exact yM _ | exact Nat.le_add_right _ _ | (simp <;> omega)) _ | refine aL ?_ _))⟩
theorem xA (a b c d:Int) (w:World) (h1:-4000000000000000000≤a) (h2:a≤4000000000000000000) (h3:-4000000000000000000≤b) (h4:b≤4000000000000000000) (h5:-4000000000000000000≤c) (h6:c≤4000000000000000000) (h7:-4000000000000000000≤d) (h8:d≤4000000000000000000) :
  Calls Tryz.prog 100 #[.agg #[.int .i64 a,.int .i64 b],.agg #[.int .i64 c,.int .i64 d]] w fun e w'=>e=.returned (.agg #[.int .i64 (a+c),.int .i64 (b+d)])∧Below w.heap.size w w':=by
 go_enter Tryz.func100,Tryz.ntmps100
 go_wp2;exact bodyPost_ret (v:=.agg #[.int .i64 (a+c),.int .i64 (b+d)]) (by simp [results,Tryz.results100,go_sem, *]) rfl (⟨rfl,(by repeat (first | exact yL _ _ | refine aQ ?_ _ | refine aS ?_ (by assumption) | refine Below.drew ?_ | refine yK ?_ (by first | exact yM _ | exact Nat.le_add_right _ _ | (simp <;> omega)) _ | refine aL ?_ _))⟩)
theorem vH (a b c d:Int) (w:World) (h1:-4000000000000000000≤a) (h2:a≤4000000000000000000) (h3:-4000000000000000000≤b) (h4:b≤4000000000000000000) (h5:-4000000000000000000≤c) (h6:c≤4000000000000000000) (h7:-4000000000000000000≤d) (h8:d≤4000000000000000000) :
  Calls Tryz.prog 101 #[.agg #[.int .i64 a,.int .i64 b],.agg #[.int .i64 c,.int .i64 d]] w fun e w'=>e=.returned (.agg #[.int .i64 (a - d),.int .i64 (b - c)])∧Below w.heap.size w w':=by
 go_enter Tryz.func101,Tryz.ntmps101
 go_wp2;exact bodyPost_ret (v:=.agg #[.int .i64 (a - d),.int .i64 (b - c)]) (by simp [results,Tryz.results101,go_sem, *]) rfl (⟨rfl,(by repeat (first | exact yL _ _ | refine aQ ?_ _ | refine aS ?_ (by assumption) | refine Below.drew ?_ | refine yK ?_ (by first | exact yM _ | exact Nat.le_add_right _ _ | (simp <;> omega)) _ | refine aL ?_ _))⟩)
theorem sw (a b c d:Int) (w:World) :
  Calls Tryz.prog 124 #[.agg #[.int .i64 a,.int .i64 b],.agg #[.int .i64 c,.int .i64 d]] w fun e w'=>e=.returned (.agg #[.int .i64 (max a c),.int .i64 (min b d)])∧Below w.heap.size w w':=by
 go_enter Tryz.func124,Tryz.ntmps124
 go_wp2;exact bodyPost_ret (v:=.agg #[.int .i64 (max a c),.int .i64 (min b d)]) (by simp [results,Tryz.results124,go_sem, *]) rfl (⟨rfl,(by repeat (first | exact yL _ _ | refine aQ ?_ _ | refine aS ?_ (by assumption) | refine Below.drew ?_ | refine yK ?_ (by first | exact yM _ | exact Nat.le_add_right _ _ | (simp <;> omega)) _ | refine aL ?_ _))⟩)
namespace M
def ch (a b c d:Int):Int:=min (a*c) (min (a*d) (min (b*c) (b*d)))
def cZ (a b c d:Int):Int:=max (a*c) (max (a*d) (max (b*c) (b*d)))
theorem wH {a b c d:Int} (h1:-1000000000≤a) (h2:a≤1000000000) (h3:-1000000000≤b) (h4:b≤1000000000) (h5:-1000000000≤c) (h6:c≤1000000000) (h7:-1000000000≤d) (h8:d≤1000000000) :
  -1000000000000000000≤ch a b c d∧ch a b c d≤1000000000000000000∧-1000000000000000000≤cZ a b c d∧cZ a b c d≤1000000000000000000:=by
 have q1:=aK (x:=a) (y:=c) (m:=1000000000) (n:=1000000000) h1 h2 h5 h6;have q2:=aK (x:=a) (y:=d) (m:=1000000000) (n:=1000000000) h1 h2 h7 h8;have q3:=aK (x:=b) (y:=c) (m:=1000000000) (n:=1000000000) h3 h4 h5 h6;have q4:=aK (x:=b) (y:=d) (m:=1000000000) (n:=1000000000) h3 h4 h7 h8;unfold ch cZ;omega
end M
theorem uN {P:Program} (ts:Array TypeId) (t:TypeId) (p q r s:Int) (W:World):Sem.run P (Builtin.min_ ts t #[.int .i64 p,.int .i64 q,.int .i64 r,.int .i64 s]) W=.ok (.int .i64 (min p (min q (min r s)))) W:=by
 simp [Builtin.min_,Builtin.min2]
 repeat' split
 all_goals omega
theorem uM {P:Program} (ts:Array TypeId) (t:TypeId) (p q r s:Int) (W:World):Sem.run P (Builtin.max_ ts t #[.int .i64 p,.int .i64 q,.int .i64 r,.int .i64 s]) W=.ok (.int .i64 (max p (max q (max r s)))) W:=by
 simp [Builtin.max_,Builtin.max2]
 repeat' split
 all_goals omega
theorem vZ (a b c d:Int) (w:World) (h1:-1000000000≤a) (h2:a≤1000000000) (h3:-1000000000≤b) (h4:b≤1000000000) (h5:-1000000000≤c) (h6:c≤1000000000) (h7:-1000000000≤d) (h8:d≤1000000000) :
  Calls Tryz.prog 99 #[.agg #[.int .i64 a,.int .i64 b],.agg #[.int .i64 c,.int .i64 d]] w fun e w'=>e=.returned (.agg #[.int .i64 (M.ch a b c d / 4096),.int .i64 (-(-M.cZ a b c d / 4096))])∧Below w.heap.size w w':=by
 have q1:=M.aK (x:=a) (y:=c) (m:=1000000000) (n:=1000000000) h1 h2 h5 h6;have q2:=M.aK (x:=a) (y:=d) (m:=1000000000) (n:=1000000000) h1 h2 h7 h8;have q3:=M.aK (x:=b) (y:=c) (m:=1000000000) (n:=1000000000) h3 h4 h5 h6;have q4:=M.aK (x:=b) (y:=d) (m:=1000000000) (n:=1000000000) h3 h4 h7 h8;obtain ⟨t1,t2,t3,t4⟩:=M.wH h1 h2 h3 h4 h5 h6 h7 h8;have Aa:M.ch a b c d=min (a*c) (min (a*d) (min (b*c) (b*d))):=rfl;have hma:M.cZ a b c d=max (a*c) (max (a*d) (max (b*c) (b*d))):=rfl
 have P1:=fun W=>fA (M.ch a b c d) 4096 W (by omega) (by omega) (by omega) (by omega)
 have P2:=fun W=>fA (-M.cZ a b c d) 4096 W (by omega) (by omega) (by omega) (by omega)
 have f2:=dR (a:=-M.cZ a b c d) (b:=4096) (k:=1000000000000000000) (by omega) (by omega) (by omega) (by omega);obtain ⟨f3,f4⟩:=f2;replace P1:=yI P1;replace P2:=yI P2;generalize M.cZ a b c d=ma,M.ch a b c d=mi at *;have S:=((aH.new w #[.int .i64 a,.int .i64 b] 68).alloc (.cells #[.int .i64 c,.int .i64 d] 68)).alloc (.cells #[.int .i64 0,.int .i64 0] 68);have T:=(aH.new (w.alloc (.cells #[.int .i64 a,.int .i64 b] 68)) #[.int .i64 c,.int .i64 d] 68).alloc (.cells #[.int .i64 0,.int .i64 0] 68);rw [yJ] at T;have R:=aH.new ((w.alloc (.cells #[.int .i64 a,.int .i64 b] 68)).alloc (.cells #[.int .i64 c,.int .i64 d] 68)) #[.int .i64 0,.int .i64 0] 68;rw [cW] at R;have B:=(((yL w.heap.size w).alloc (yM _) (.cells #[.int .i64 a,.int .i64 b] 68)).alloc (by rw [yJ];omega) (.cells #[.int .i64 c,.int .i64 d] 68)).alloc (by rw [cW];omega) (.cells #[.int .i64 0,.int .i64 0] 68);generalize hw3:((w.alloc (.cells #[.int .i64 a,.int .i64 b] 68)).alloc (.cells #[.int .i64 c,.int .i64 d] 68)).alloc (.cells #[.int .i64 0,.int .i64 0] 68)=wc at *;replace Aa:=yI Aa;replace hma:=yI hma;go_enter Tryz.func99,Tryz.ntmps99
 go_wp2
 go_upto_region 1 with fail
 refine Rg.bJ 24 [.is (.pointer (some ⟨w.heap.size,0,none⟩)),.is (.int .i64 a),.is (.pointer (some ⟨w.heap.size+1,0,none⟩)),.is (.int .i64 c),.is (.int .i64 (a*c)),.is (.pointer (some ⟨w.heap.size,0,none⟩)),.is (.int .i64 a),.is (.pointer (some ⟨w.heap.size+1,1,none⟩)),.is (.int .i64 d),.is (.int .i64 (a*d)),.is (.pointer (some ⟨w.heap.size,1,none⟩)),.is (.int .i64 b),.is (.pointer (some ⟨w.heap.size+1,0,none⟩)),.is (.int .i64 c),.is (.int .i64 (b*c)),.is (.pointer (some ⟨w.heap.size,1,none⟩)),.is (.int .i64 b),.is (.pointer (some ⟨w.heap.size+1,1,none⟩)),.is (.int .i64 d),.is (.int .i64 (b*d)),.is (.int .i64 (a*c)),.is (.int .i64 (a*d)),.is (.int .i64 (b*c)),.is (.int .i64 (b*d))] (by kernel_rfl) (by kernel_rfl) (by kernel_rfl) ⟨?_,?_,?_,?_,?_,?_,?_,?_,?_,?_,?_,?_,?_,?_,?_,?_,?_,?_,?_,?_,?_,?_,?_,?_,trivial⟩ ?_
 ·intro _ zZ w_ hB hr
  have e2:zZ.tmps[2]?=some (.pointer (some ⟨w.heap.size,0,none⟩)):=hr 2 (by decide);exact Rg.aG rfl (by go_simp)
 ·intro _ zZ w_ hB hr
  have e9:=Rg.a_ (hr 9 (by decide));have k0:=aE hB S.box.c0;exact Rg.aG rfl (by go_simp)
 ·intro _ zZ w_ hB hr
  have e3:zZ.tmps[3]?=some (.pointer (some ⟨w.heap.size+1,0,none⟩)):=hr 3 (by decide);exact Rg.aG rfl (by go_simp)
 ·intro _ zZ w_ hB hr
  have e11:=Rg.a_ (hr 11 (by decide));have k0:=aE hB T.box.c0;exact Rg.aG rfl (by go_simp)
 ·intro _ zZ w_ hB hr
  have e10:=Rg.a_ (hr 10 (by decide));have e12:=Rg.a_ (hr 12 (by decide));exact Rg.aG rfl (by go_simp <;> exact Rg.wo (by omega))
 ·intro _ zZ w_ hB hr
  have e2:zZ.tmps[2]?=some (.pointer (some ⟨w.heap.size,0,none⟩)):=hr 2 (by decide);exact Rg.aG rfl (by go_simp)
 ·intro _ zZ w_ hB hr
  have e14:=Rg.a_ (hr 14 (by decide));have k0:=aE hB S.box.c0;exact Rg.aG rfl (by go_simp)
 ·intro _ zZ w_ hB hr
  have e3:zZ.tmps[3]?=some (.pointer (some ⟨w.heap.size+1,0,none⟩)):=hr 3 (by decide);exact Rg.aG rfl (by go_simp)
 ·intro _ zZ w_ hB hr
  have e16:=Rg.a_ (hr 16 (by decide));have k1:=aE hB T.box.c1;exact Rg.aG rfl (by go_simp)
 ·intro _ zZ w_ hB hr
  have e15:=Rg.a_ (hr 15 (by decide));have e17:=Rg.a_ (hr 17 (by decide));exact Rg.aG rfl (by go_simp <;> exact Rg.wo (by omega))
 ·intro _ zZ w_ hB hr
  have e2:zZ.tmps[2]?=some (.pointer (some ⟨w.heap.size,0,none⟩)):=hr 2 (by decide);exact Rg.aG rfl (by go_simp)
 ·intro _ zZ w_ hB hr
  have e19:=Rg.a_ (hr 19 (by decide));have k1:=aE hB S.box.c1;exact Rg.aG rfl (by go_simp)
 ·intro _ zZ w_ hB hr
  have e3:zZ.tmps[3]?=some (.pointer (some ⟨w.heap.size+1,0,none⟩)):=hr 3 (by decide);exact Rg.aG rfl (by go_simp)
 ·intro _ zZ w_ hB hr
  have e21:=Rg.a_ (hr 21 (by decide));have k0:=aE hB T.box.c0;exact Rg.aG rfl (by go_simp)
 ·intro _ zZ w_ hB hr
  have e20:=Rg.a_ (hr 20 (by decide));have e22:=Rg.a_ (hr 22 (by decide));exact Rg.aG rfl (by go_simp <;> exact Rg.wo (by omega))
 ·intro _ zZ w_ hB hr
  have e2:zZ.tmps[2]?=some (.pointer (some ⟨w.heap.size,0,none⟩)):=hr 2 (by decide);exact Rg.aG rfl (by go_simp)
 ·intro _ zZ w_ hB hr
  have e24:=Rg.a_ (hr 24 (by decide));have k1:=aE hB S.box.c1;exact Rg.aG rfl (by go_simp)
 ·intro _ zZ w_ hB hr
  have e3:zZ.tmps[3]?=some (.pointer (some ⟨w.heap.size+1,0,none⟩)):=hr 3 (by decide);exact Rg.aG rfl (by go_simp)
 ·intro _ zZ w_ hB hr
  have e26:=Rg.a_ (hr 26 (by decide));have k1:=aE hB T.box.c1;exact Rg.aG rfl (by go_simp)
 ·intro _ zZ w_ hB hr
  have e25:=Rg.a_ (hr 25 (by decide));have e27:=Rg.a_ (hr 27 (by decide));exact Rg.aG rfl (by go_simp <;> exact Rg.wo (by omega))
 ·intro _ zZ w_ hB hr
  have e13:=Rg.a_ (hr 13 (by decide));exact Rg.aG rfl (by go_simp)
 ·intro _ zZ w_ hB hr
  have e18:=Rg.a_ (hr 18 (by decide));exact Rg.aG rfl (by go_simp)
 ·intro _ zZ w_ hB hr
  have e23:=Rg.a_ (hr 23 (by decide));exact Rg.aG rfl (by go_simp)
 ·intro _ zZ w_ hB hr
  have e28:=Rg.a_ (hr 28 (by decide));exact Rg.aG rfl (by go_simp)
 intro vals wz hB hv hne;have D8:vals 20=.int .i64 (a*c):=hv 20 (by decide);have It:vals 21=.int .i64 (a*d):=hv 21 (by decide);have CF:vals 22=.int .i64 (b*c):=hv 22 (by decide);have D9:vals 23=.int .i64 (b*d):=hv 23 (by decide);simp only [Rg.ak,Rg.fill,Act.put,Nat.reduceAdd];clear hv;simp only [D8,It,CF,D9];clear D8 It CF D9;replace R:=R.keep hB;have ⟨c0,c1,f0,f1,_⟩:=R.box;have hw4:=f_ B hB;clear S T hw3 hB B;generalize b*d=s,b*c=r,a*d=q,a*c=p at *;unfold Rg.aX;have P3:=P1.out;have P4:=P2.out;rw [Aa.out] at P3;rw [hma.out] at P4;replace P3:=yI P3;replace P4:=yI P4;rw [Aa.out] at t1 t2;rw [hma.out] at t3 t4 f3 f4;clear P1 P2
 have m4:=fun (W:World) ts t=>uN (P:=Tryz.prog) ts t p q r s W
 have x4:=fun (W:World) ts t=>uM (P:=Tryz.prog) ts t p q r s W
 rw [show w.heap.size+2=w.heap.size+1+1 by omega] at c0 c1 f0 f1
 go_wp2_with (go_at_call 120;first | ((with_reducible refine (P3.out _).mono ?_);rintro e w4 ⟨rfl,rfl⟩) | ((with_reducible refine (P4.out _).mono ?_);rintro e w4 ⟨rfl,rfl⟩))
 exact bodyPost_ret (v:=.agg #[.int .i64 (min p (min q (min r s)) / 4096),.int .i64 (-(-max p (max q (max r s)) / 4096))]) (by simp [results,Tryz.results99,go_sem, *]) rfl (⟨by rw [Aa.out,hma.out],(by repeat (first | exact yL _ _ | refine aQ ?_ _ | refine aS ?_ (by assumption) | refine Below.drew ?_ | refine yK ?_ (by first | exact yM _ | exact Nat.le_add_right _ _ | (simp <;> omega)) _ | refine aL ?_ _))⟩)
theorem gI (a:Int) (w:World) (h:(M.zp a 4096).isSome=true) :
  Calls Tryz.prog 106 #[.agg #[.int .i64 (M.pn a),.int .i64 (M.pd a)]] w fun e w'=>e=.returned (.tuple #[.int .i64 a,.bool (M.ins a (-409600000) 409600000)])∧Below w.heap.size w w':=by
 obtain ⟨hok,d1,d2,hm,hp,g1,g2,n1,n2⟩:=M.pK h;have ME:=M.wj h;obtain ⟨r1,r2⟩:=ME
 have PF:=fun W=>j9 (M.pn a) (M.pd a) W
 rw [hok] at PF;generalize M.pd a=d,M.pn a=n at *
 have hd0:¬ d=0:=by omega
 have ht:(4096:Int).tmod d=0:=by rw [Int.tmod_eq_emod_of_nonneg (by omega)];exact hm
 have hq:(4096:Int).tdiv d=4096 / d:=Int.tdiv_eq_ediv_of_nonneg (by omega)
 have PI:=fun W=>dT a (-409600000) 409600000 W
 replace PF:=yI PF;replace PI:=yI PI;clear h hok;generalize 4096 / d=g at *;have hq2:=yI hq;have hp2:=yI hp;have hw1:=yI (show IntKind.i64.wrap g=g from IntWalk.i64_in _ (by omega));have hw2:=yI (show IntKind.i64.wrap (n*g)=a by rw [hp];exact IntWalk.i64_in _ (by omega));clear hq hp;have hm2:=yI hm;have V:=aH.new w #[.int .i64 n,.int .i64 d] 45;have B:=(yL w.heap.size w).alloc (yM _) (.cells #[.int .i64 n,.int .i64 d] 45);generalize hw3:w.alloc (.cells #[.int .i64 n,.int .i64 d] 45)=wc at *;have yd:=V.box.c0;have ye:=V.box.c1;go_enter Tryz.func106,Tryz.ntmps106
 go_upto_region 3 with (go_at_call 61;(with_reducible refine (PF.out _).mono ?_);rintro e w4 ⟨rfl,hb4⟩;replace V:=V.keep hb4;replace B:=f_ B hb4;(replace ⟨yd,ye⟩:=V.b2))
 refine Rg.bJ 7 [.is (.pointer (some ⟨w.heap.size,0,none⟩)),.is (.int .i64 n),.is (.pointer (some ⟨w.heap.size,1,none⟩)),.is (.int .i64 d),.is (.int .i64 g),.is (.int .i64 a),.is (.int .i64 a)] (by kernel_rfl) (by kernel_rfl) (by kernel_rfl) ⟨?_,?_,?_,?_,?_,?_,?_,trivial⟩ ?_
 ·intro _ zZ w_ hB hr
  have e1:zZ.tmps[1]?=some (.pointer (some ⟨w.heap.size,0,none⟩)):=hr 1 (by decide);exact Rg.aG rfl (by go_simp)
 ·intro _ zZ w_ hB hr
  have e14:=Rg.a_ (hr 14 (by decide));have k0:=aE hB V.box.c0;exact Rg.aG rfl (by go_simp)
 ·intro _ zZ w_ hB hr
  have e1:zZ.tmps[1]?=some (.pointer (some ⟨w.heap.size,0,none⟩)):=hr 1 (by decide);exact Rg.aG rfl (by go_simp)
 ·intro _ zZ w_ hB hr
  have e16:=Rg.a_ (hr 16 (by decide));have k1:=aE hB V.box.c1;exact Rg.aG rfl (by go_simp)
 ·intro _ zZ w_ hB hr
  have e17:=Rg.a_ (hr 17 (by decide));have ec:=Rg.ec zZ;exact Rg.aG rfl (by go_simp;first | done | (rw [hq2.out];first | done | rw [hw1.out] | (exact ⟨hd0,by rw [hw1.out]⟩)) | (simp only [hq2.out,hw1.out];done) | (simp [hq2.out,hw1.out,hd0];done))
 ·intro _ zZ w_ hB hr
  have e15:=Rg.a_ (hr 15 (by decide));have e18:=Rg.a_ (hr 18 (by decide));exact Rg.aG rfl (by go_simp;first | done | (rw [hw2.out];done) | exact hw2.out)
 ·intro _ zZ w_ hB hr
  have e19:=Rg.a_ (hr 19 (by decide));exact Rg.aG rfl (by go_simp)
 intro vals wz hB hv hne;have Cl:vals 6=.int .i64 a:=hv 6 (by decide);simp only [Rg.ak,Rg.fill,Act.put,Nat.reduceAdd];clear hv;simp only [Cl];clear Cl;unfold Rg.aX
 go_wp2_with (go_at_call 47;(with_reducible refine (PI.out _).mono ?_);rintro e w6 ⟨rfl,rfl⟩)
 go_ret2;exact ⟨rfl,f_ B hB⟩
theorem kI (a b:Int) (w:World) (h1:(M.zp a 4096).isSome=true) (h2:(M.zp b 4096).isSome=true) :
  Calls Tryz.prog 108 #[.agg #[.int .i64 (M.pn a),.int .i64 (M.pd a),.int .i64 (M.pn b),.int .i64 (M.pd b)]] w fun e w'=>e=.returned (.bool (M.aN a b))∧Below w.heap.size w w':=by
 have P1:=yI fun W=>gI a W h1
 have P2:=yI fun W=>gI b W h2
 have hs:M.aN a b=(M.ins a (-409600000) 409600000 && M.ins b (-409600000) 409600000 && decide (a≤b)):=by
  rw [Bool.eq_iff_iff];unfold M.aN M.ins;simp only [Bool.and_eq_true,decide_eq_true_eq];omega
 rw [hs];clear hs;generalize M.pd b=d2,M.pn b=n2,M.pd a=d1,M.pn a=n1 at *;have V:=aH.new w #[.int .i64 n1,.int .i64 d1,.int .i64 n2,.int .i64 d2] 64;have B:=(yL w.heap.size w).alloc (yM _) (.cells #[.int .i64 n1,.int .i64 d1,.int .i64 n2,.int .i64 d2] 64);generalize hw3:w.alloc (.cells #[.int .i64 n1,.int .i64 d1,.int .i64 n2,.int .i64 d2] 64)=wc at *;have yd:=V.aM.c0;have ye:=V.aM.c1;have AA:=V.aM.c2;have AB:=V.aM.c3;generalize M.ins b (-409600000) 409600000=i2,M.ins a (-409600000) 409600000=i1 at *
 by_cases hab:a≤b <;> cases i1 <;> cases i2
 all_goals
  go_enter Tryz.func108,Tryz.ntmps108
  go_wp2_with (go_at_call 106;first | ((with_reducible refine (P1.out _).mono ?_);rintro e w4 ⟨rfl,hb4⟩;have V4:=V.keep hb4;have B4:=f_ B hb4;have y0:=V4.aM.c0;have y1:=V4.aM.c1;have y2:=V4.aM.c2;have y3:=V4.aM.c3) | ((with_reducible refine (P2.out _).mono ?_);rintro e w5 ⟨rfl,hb5⟩;have B5:=f_ B4 hb5))
  all_goals
   go_ret;exact ⟨by first | rfl | (simp [hab];done) | (exact dB (by simp [hab];done)) | (exact dB (by simp <;> omega)),B5⟩
theorem dm (a b:Int) (w:World) (h1:(M.zp a 4096).isSome=true) (h2:(M.zp b 4096).isSome=true) :
  Calls Tryz.prog 89 #[.agg #[.int .i64 (M.pn a),.int .i64 (M.pd a),.int .i64 (M.pn b),.int .i64 (M.pd b)]] w fun e w'=>e=.returned (.tuple #[.int .i64 a,.int .i64 b])∧Below w.heap.size w w':=by
 have P1:=yI fun W=>gI a W h1
 have P2:=yI fun W=>gI b W h2
 generalize M.ins b (-409600000) 409600000=i2,M.ins a (-409600000) 409600000=i1,M.pd b=d2,M.pn b=n2,M.pd a=d1,M.pn a=n1 at *;have V:=aH.new w #[.int .i64 n1,.int .i64 d1,.int .i64 n2,.int .i64 d2] 64;have B:=(yL w.heap.size w).alloc (yM _) (.cells #[.int .i64 n1,.int .i64 d1,.int .i64 n2,.int .i64 d2] 64);generalize hw3:w.alloc (.cells #[.int .i64 n1,.int .i64 d1,.int .i64 n2,.int .i64 d2] 64)=wc at *;have yd:=V.aM.c0;have ye:=V.aM.c1;have AA:=V.aM.c2;have AB:=V.aM.c3;go_enter Tryz.func89,Tryz.ntmps89
 go_wp2_with (go_at_call 106;first | ((with_reducible refine (P1.out _).mono ?_);rintro e w4 ⟨rfl,hb4⟩;have V4:=V.keep hb4;have B4:=f_ B hb4;have y0:=V4.aM.c0;have y1:=V4.aM.c1;have y2:=V4.aM.c2;have y3:=V4.aM.c3) | ((with_reducible refine (P2.out _).mono ?_);rintro e w5 ⟨rfl,hb5⟩;have B5:=f_ B4 hb5))
 go_ret2;exact ⟨rfl,B5⟩
end
section
namespace M
theorem kG {p:Int} (h:1≤p):∀ k:Nat,1≤fC p k
 | 0=>by simp [fC]
 | k+1=>by
  have h1:=kG h k;have:=Int.mul_le_mul h1 h (by omega) (by omega)
  simpa [fC] using this
theorem rH {p:Int} (h:1≤p) (k:Nat):fC p k≤fC p (k+1):=by
 have h1:=kG h k;have:=Int.mul_le_mul_of_nonneg_left h (show 0≤fC p k by omega);simp only [fC];omega
theorem lH {p:Int} (h:1≤p) {i j:Nat} (hij:i≤j):fC p i≤fC p j:=by
 induction j with
 | zero=>
      obtain rfl:i=0:=by omega
      exact Int.le_refl _
 | succ j ih=>
 rcases Nat.lt_or_ge i (j+1) with q | q
 ·exact Int.le_trans (ih (by omega)) (rH h j)
 obtain rfl:i=j+1:=by omega
 exact Int.le_refl _
def vw (p:Int) (d:Nat):Prop:=fC p d≤1000000000∧1000000000<fC p (d+1)
theorem vw.le {p:Int} {d j:Nat} (hp:1≤p) (h:vw p d) (hj:j≤d):fC p j≤1000000000:=Int.le_trans (lH hp hj) h.1
end M
end
section
open Go.RowKit
theorem nj (p:Int) (k:Nat) (w:World) (p1:1≤p) (hb:M.fC p k≤4000000000000000000) (hk:k≤1000) :
  Calls Tryz.prog 138 #[.int .i64 p,.int .i64 k] w fun e w'=>e=.returned (.int .i64 (M.fC p k))∧w=w':=by
 go_enter Tryz.func138,Tryz.ntmps138
 go_wp2
 go_loop [5,7] (fun vo vi=>∃ j:Nat,j≤k∧vi=.int .i64 j∧vo=.int .i64 (M.fC p j)) (fun _ vi=>(k - (intOf vi).toNat))
 case atStart=>exact ⟨0,by omega,rfl,rfl⟩
 case round=>
 obtain ⟨j,hj,rfl,rfl⟩:=hrel
 by_cases hlt:j<k
 ·have h1:=M.kG p1 j
  have h2:=M.lH p1 (show j+1≤k from hlt);have h3:M.fC p j*p≤4000000000000000000:=Int.le_trans h2 hb;have h4:0≤M.fC p j*p:=Int.mul_nonneg (by omega) (by omega);go_wp2
  go_round
  case rel=>exact ⟨j+1,by omega,by go_num,rfl⟩
  case measure=>simp [intOf];omega
 obtain rfl:j=k:=by omega
 go_wp2;go_ret;exact ⟨rfl,rfl⟩
theorem lM (a b:Int) (w:World) :
  Calls Tryz.prog 90 #[.int .i64 a,.int .i64 b] w fun e w'=>e=.returned (.int .i64 (min a b))∧w=w':=by
 by_cases h:a<b
 ·have h2:min a b=a:=by omega
  rw [h2];go_enter Tryz.func90,Tryz.ntmps90
  go_wp2;go_ret;exact ⟨rfl,rfl⟩
 have h2:min a b=b:=by omega
 rw [h2];go_enter Tryz.func90,Tryz.ntmps90
 go_wp2;go_ret;exact ⟨rfl,rfl⟩
end
end Go.Proofs.YtgfkcoablfjbcaaGreat
