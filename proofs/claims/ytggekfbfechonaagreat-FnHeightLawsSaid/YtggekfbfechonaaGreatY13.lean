/-
  Joined texts: contracts and plain lemmas.
-/
import Derived.Test.YtggekfbfechonaaGreatY1
import Derived.Test.YtggekfbfechonaaGreatY12
set_option linter.unusedSimpArgs false
set_option linter.unusedVariables false
set_option maxRecDepth 100000
set_option maxHeartbeats 8000000
namespace Go.Proofs.YtggekfbfechonaaGreat
section
open Go.RowKit
namespace M
noncomputable def gM (a X1 Y1 E1 X2 Y2 E2:Int):Bool:=if sD X1 Y1 E1 X2 Y2 E2=0 then true else dp (yl a X1 Y1 E1 X2 Y2 E2) (yI a X1 Y1 E1 X2 Y2 E2) X1 E1 X2 E2
noncomputable def BP (a X1 Y1 E1 X2 Y2 E2:Int):Int:=if sD X1 Y1 E1 X2 Y2 E2=0 then 0 else if dp (yl a X1 Y1 E1 X2 Y2 E2) (yI a X1 Y1 E1 X2 Y2 E2) X1 E1 X2 E2 then BO (yl a X1 Y1 E1 X2 Y2 E2) (yI a X1 Y1 E1 X2 Y2 E2) X1 E1 X2 E2 else 0
noncomputable def Be (a X1 Y1 E1 X2 Y2 E2:Int):Int:=if sD X1 Y1 E1 X2 Y2 E2=0 then 0 else if dp (yl a X1 Y1 E1 X2 Y2 E2) (yI a X1 Y1 E1 X2 Y2 E2) X1 E1 X2 E2 then DZ (yl a X1 Y1 E1 X2 Y2 E2) (yI a X1 Y1 E1 X2 Y2 E2) X1 Y1 E1 X2 E2 else 0
noncomputable def Ai (a X1 Y1 E1 X2 Y2 E2:Int):Int:=if sD X1 Y1 E1 X2 Y2 E2=0 then 0 else if dp (yl a X1 Y1 E1 X2 Y2 E2) (yI a X1 Y1 E1 X2 Y2 E2) X1 E1 X2 E2 then zK (yl a X1 Y1 E1 X2 Y2 E2) (yI a X1 Y1 E1 X2 Y2 E2) X1 E1 X2 E2 else 0
theorem tn (n d X1 E1 X2 E2:Int):n*n*(E1*E1)*(E2*E2) - X1*d*d*(E2*E2) - X2*d*d*(E1*E1)=top n d X1 E1 X2 E2:=by unfold top;grind
theorem su (d E1 E2:Int):d*d*(E1*E1)*(E2*E2)=bot d E1 E2:=by unfold bot;grind
theorem pP {Y:Int} (h:Y*Y≤4000000000000):-2000000≤Y∧Y≤2000000:=by
 refine ⟨Int.not_lt.1 fun q=>?_,Int.not_lt.1 fun q=>?_⟩
 ·have:=Int.mul_le_mul_of_nonneg_left (show (2000001:Int)≤-Y by omega) (show 0≤-Y by omega)
  have e:-Y*-Y=Y*Y:=Int.neg_mul_neg Y Y;rw [e] at this;omega
 have:=Int.mul_le_mul_of_nonneg_left (show (2000001:Int)≤Y by omega) (show 0≤Y by omega);omega
theorem da {x b:Int} (hx:0≤x) (hb:0<b):0≤x.tdiv b∧x.tdiv b≤x:=by
 rw [Int.tdiv_eq_ediv_of_nonneg hx];exact ⟨Int.ediv_nonneg hx (by omega),Int.ediv_le_self _ hx⟩
end M
theorem nt (a b X1 Y1 E1 X2 Y2 E2:Int) (w:World) (ha1:-1000≤a) (ha2:a≤1000) (hx1:-10000≤X1) (hx2:X1≤10000) (hy1:-3000000≤Y1) (hy2:Y1≤3000000) (he1:1≤E1) (he2:E1≤20) (hx3:-10000≤X2) (hx4:X2≤10000) (hy3:-3000000≤Y2) (hy4:Y2≤3000000) (BD:1≤E2) (Bf:E2≤20) (hb1:-10000≤b) (hb2:b≤10000) (hc1:Y1*Y1=M.cv a b X1 E1) (hc2:Y2*Y2=M.cv a b X2 E2) :
  Calls Tryz.prog 92 #[.agg #[.int .i64 a,.int .i64 b],.agg #[.int .i64 X1,.int .i64 Y1,.int .i64 E1],.agg #[.int .i64 X2,.int .i64 Y2,.int .i64 E2]] w fun e w'=>e=.returned (.tuple #[.agg #[.int .i64 (M.BP a X1 Y1 E1 X2 Y2 E2),.int .i64 (M.Be a X1 Y1 E1 X2 Y2 E2),.int .i64 (M.Ai a X1 Y1 E1 X2 Y2 E2)],.bool (M.gM a X1 Y1 E1 X2 Y2 E2)])∧Below w.heap.size w w':=by
 have PS:=fun W=>qI a b X1 Y1 E1 X2 Y2 E2 W ha1 ha2 hx1 hx2 hy1 hy2 he1 he2 hx3 hx4 hy3 hy4 BD Bf
 have hE1:(E1 == 0)=false:=by rw [beq_eq_false_iff_ne];omega
 have hE2:(E2 == 0)=false:=by rw [beq_eq_false_iff_ne];omega
 by_cases h0:M.sD X1 Y1 E1 X2 Y2 E2=0
 ·have e1:M.yl a X1 Y1 E1 X2 Y2 E2=1:=if_pos h0
  have e2:M.yI a X1 Y1 E1 X2 Y2 E2=0:=if_pos h0;have hf:=wH (show M.BP a X1 Y1 E1 X2 Y2 E2=0∧M.Be a X1 Y1 E1 X2 Y2 E2=0∧M.Ai a X1 Y1 E1 X2 Y2 E2=0∧M.gM a X1 Y1 E1 X2 Y2 E2=true from ⟨if_pos h0,if_pos h0,if_pos h0,if_pos h0⟩);rw [e1,e2] at PS;rw [hf.out.1,hf.out.2.1,hf.out.2.2.1,hf.out.2.2.2];clear e1 e2 hf h0 hc1 hc2;have PS:=wH PS;have C:=(((aH.new w #[.int .i64 a,.int .i64 b] 25).alloc (.cells #[.int .i64 X1,.int .i64 Y1,.int .i64 E1] 27)).alloc (.cells #[.int .i64 X2,.int .i64 Y2,.int .i64 E2] 27)).alloc (.cells #[.int .i64 0,.int .i64 0,.int .i64 0] 27);have Q:=((aH.new (w.alloc (.cells #[.int .i64 a,.int .i64 b] 25)) #[.int .i64 X1,.int .i64 Y1,.int .i64 E1] 27).alloc (.cells #[.int .i64 X2,.int .i64 Y2,.int .i64 E2] 27)).alloc (.cells #[.int .i64 0,.int .i64 0,.int .i64 0] 27);rw [wI] at Q;have U:=(aH.new ((w.alloc (.cells #[.int .i64 a,.int .i64 b] 25)).alloc (.cells #[.int .i64 X1,.int .i64 Y1,.int .i64 E1] 27)) #[.int .i64 X2,.int .i64 Y2,.int .i64 E2] 27).alloc (.cells #[.int .i64 0,.int .i64 0,.int .i64 0] 27);rw [wI,wI] at U;have R:=aH.new (((w.alloc (.cells #[.int .i64 a,.int .i64 b] 25)).alloc (.cells #[.int .i64 X1,.int .i64 Y1,.int .i64 E1] 27)).alloc (.cells #[.int .i64 X2,.int .i64 Y2,.int .i64 E2] 27)) #[.int .i64 0,.int .i64 0,.int .i64 0] 27;rw [wI,wI,wI] at R;have B:=((((wK w.heap.size w).alloc (wL _) (.cells #[.int .i64 a,.int .i64 b] 25)).alloc (by rw [wI];omega) (.cells #[.int .i64 X1,.int .i64 Y1,.int .i64 E1] 27)).alloc (by rw [wI,wI];omega) (.cells #[.int .i64 X2,.int .i64 Y2,.int .i64 E2] 27)).alloc (by rw [wI,wI,wI];omega) (.cells #[.int .i64 0,.int .i64 0,.int .i64 0] 27);generalize hw3:(((w.alloc (.cells #[.int .i64 a,.int .i64 b] 25)).alloc (.cells #[.int .i64 X1,.int .i64 Y1,.int .i64 E1] 27)).alloc (.cells #[.int .i64 X2,.int .i64 Y2,.int .i64 E2] 27)).alloc (.cells #[.int .i64 0,.int .i64 0,.int .i64 0] 27)=wc at *;have ⟨q0,q1,q2⟩:=Q.aK;have ⟨u0,u1,u2⟩:=U.aK;have f_:=C.box.c0;have g_:=C.box.c1;have ⟨r0,r1,r2⟩:=R.aK;go_enter Tryz.func92,Tryz.ntmps92
  go_wp2_with (go_at_call 148;(with_reducible refine (PS.out _).mono ?_);rintro e w4 ⟨rfl,hb4⟩;replace B:=d_ B hb4;replace R:=R.keep hb4;(obtain ⟨r0,r1,r2⟩:=R.aK);have f0:=R.xC 0;have f1:=R.xC 1;have f2:=R.xC 2;have rl:=R.lt)
  exact bodyPost_ret (v:=.tuple #[.agg #[.int .i64 0,.int .i64 0,.int .i64 0],.bool true]) (by simp [results,Tryz.results92,go_sem, *]) rfl (⟨rfl,wJ (wJ (wJ B (by simp;omega) _) (by simp;omega) _) (by simp;omega) _⟩)
 have hsb:=M.un (a:=a) ha1 ha2 hx1 hx2 hy1 hy2 he1 he2 hx3 hx4 hy3 hy4 BD Bf;obtain ⟨hs,hd0,hg,hn,hdd⟩:=M.pM (a:=a) h0
 have g1:=show M.BP a X1 Y1 E1 X2 Y2 E2=_ from if_neg h0
 have g2:=show M.Be a X1 Y1 E1 X2 Y2 E2=_ from if_neg h0
 have g3:=show M.Ai a X1 Y1 E1 X2 Y2 E2=_ from if_neg h0
 have g4:=show M.gM a X1 Y1 E1 X2 Y2 E2=_ from if_neg h0
 rw [g1,g2,g3,g4];clear g1 g2 g3 g4;generalize M.yI a X1 Y1 E1 X2 Y2 E2=d,M.yl a X1 Y1 E1 X2 Y2 E2=n at *
 have hn1:-200000000000≤n∧n≤200000000000:=by omega
 have hd1:d≤200000000000:=by omega
 have hbd:=fun (k:M.dp n d X1 E1 X2 E2=true)=>M.lk (n:=n) (m:=d) (by omega) he1 he2 BD Bf hx2 hx4 hg k
 have B_:=fun (k:M.dp n d X1 E1 X2 E2=true)=>M.vC hc1 hc2 (by omega) (by omega) (by omega) hs h0 k
 have hii:=fun (k:M.dp n d X1 E1 X2 E2=true)=>M.oP (by omega) (by omega) (by omega) k
 clear hsb hn hdd hs h0 hc1 hc2 hg
 by_cases hbig:8000<d∨200*d<(n.natAbs:Int)
 ·have hk:M.dp n d X1 E1 X2 E2=false:=by
   cases hq:M.dp n d X1 E1 X2 E2
   ·rfl
   have:=hbd hq;omega
  rw [hk];clear hbd B_ hii hk;have hz:=wH (show (if false=true then M.BO n d X1 E1 X2 E2 else 0)=0∧(if false=true then M.DZ n d X1 Y1 E1 X2 E2 else 0)=0∧(if false=true then M.zK n d X1 E1 X2 E2 else 0)=0 from ⟨rfl,rfl,rfl⟩);rw [hz.out.1,hz.out.2.1,hz.out.2.2];clear hz
  have PA:=fun W=>dE n W (by omega) (by omega)
  have hh:decide (200*d<(n.natAbs:Int))=true∨8000<d:=by rcases hbig with h | h;exact Or.inr h;exact Or.inl (decide_eq_true h)
  have hnn:(n.natAbs:Int)≤200000000000:=by omega
  generalize (n.natAbs:Int)=na at *;have PS:=wH PS;have PA:=wH PA;have C:=(((aH.new w #[.int .i64 a,.int .i64 b] 25).alloc (.cells #[.int .i64 X1,.int .i64 Y1,.int .i64 E1] 27)).alloc (.cells #[.int .i64 X2,.int .i64 Y2,.int .i64 E2] 27)).alloc (.cells #[.int .i64 0,.int .i64 0,.int .i64 0] 27);have Q:=((aH.new (w.alloc (.cells #[.int .i64 a,.int .i64 b] 25)) #[.int .i64 X1,.int .i64 Y1,.int .i64 E1] 27).alloc (.cells #[.int .i64 X2,.int .i64 Y2,.int .i64 E2] 27)).alloc (.cells #[.int .i64 0,.int .i64 0,.int .i64 0] 27);rw [wI] at Q;have U:=(aH.new ((w.alloc (.cells #[.int .i64 a,.int .i64 b] 25)).alloc (.cells #[.int .i64 X1,.int .i64 Y1,.int .i64 E1] 27)) #[.int .i64 X2,.int .i64 Y2,.int .i64 E2] 27).alloc (.cells #[.int .i64 0,.int .i64 0,.int .i64 0] 27);rw [wI,wI] at U;have R:=aH.new (((w.alloc (.cells #[.int .i64 a,.int .i64 b] 25)).alloc (.cells #[.int .i64 X1,.int .i64 Y1,.int .i64 E1] 27)).alloc (.cells #[.int .i64 X2,.int .i64 Y2,.int .i64 E2] 27)) #[.int .i64 0,.int .i64 0,.int .i64 0] 27;rw [wI,wI,wI] at R;have B:=((((wK w.heap.size w).alloc (wL _) (.cells #[.int .i64 a,.int .i64 b] 25)).alloc (by rw [wI];omega) (.cells #[.int .i64 X1,.int .i64 Y1,.int .i64 E1] 27)).alloc (by rw [wI,wI];omega) (.cells #[.int .i64 X2,.int .i64 Y2,.int .i64 E2] 27)).alloc (by rw [wI,wI,wI];omega) (.cells #[.int .i64 0,.int .i64 0,.int .i64 0] 27);generalize hw3:(((w.alloc (.cells #[.int .i64 a,.int .i64 b] 25)).alloc (.cells #[.int .i64 X1,.int .i64 Y1,.int .i64 E1] 27)).alloc (.cells #[.int .i64 X2,.int .i64 Y2,.int .i64 E2] 27)).alloc (.cells #[.int .i64 0,.int .i64 0,.int .i64 0] 27)=wc at *;have ⟨q0,q1,q2⟩:=Q.aK;have ⟨u0,u1,u2⟩:=U.aK;have f_:=C.box.c0;have g_:=C.box.c1;have ⟨r0,r1,r2⟩:=R.aK
  by_cases h8:8000<d
  ·clear hh hbig
   go_enter Tryz.func92,Tryz.ntmps92
   go_wp2_with first | (go_at_call 148;(with_reducible refine (PS.out _).mono ?_);rintro e w4 ⟨rfl,hb4⟩;replace B:=d_ B hb4;replace R:=R.keep hb4;(obtain ⟨r0,r1,r2⟩:=R.aK);have f0:=R.xC 0;have f1:=R.xC 1;have f2:=R.xC 2;have rl:=R.lt) | (go_at_call 131;(with_reducible refine (PA.out _).mono ?_);rintro e w5 ⟨rfl,rfl⟩)
   exact bodyPost_ret (v:=.tuple #[.agg #[.int .i64 0,.int .i64 0,.int .i64 0],.bool false]) (by simp [results,Tryz.results92,go_sem, *]) rfl (⟨rfl,wJ (wJ (wJ B (by simp;omega) _) (by simp;omega) _) (by simp;omega) _⟩)
  have h9:200*d<na:=by omega
  clear hh hbig;go_enter Tryz.func92,Tryz.ntmps92
  go_wp2_with first | (go_at_call 148;(with_reducible refine (PS.out _).mono ?_);rintro e w4 ⟨rfl,hb4⟩;replace B:=d_ B hb4;replace R:=R.keep hb4;(obtain ⟨r0,r1,r2⟩:=R.aK);have f0:=R.xC 0;have f1:=R.xC 1;have f2:=R.xC 2;have rl:=R.lt) | (go_at_call 131;(with_reducible refine (PA.out _).mono ?_);rintro e w5 ⟨rfl,rfl⟩)
  exact bodyPost_ret (v:=.tuple #[.agg #[.int .i64 0,.int .i64 0,.int .i64 0],.bool false]) (by simp [results,Tryz.results92,go_sem, *]) rfl (⟨rfl,wJ (wJ (wJ B (by simp;omega) _) (by simp;omega) _) (by simp;omega) _⟩)
 have Fe:d≤8000:=by omega
 have hn8:-1600000≤n∧n≤1600000:=by omega
 have hna:(n.natAbs:Int)≤200*d:=by omega
 have PA:=fun W=>dE n W (by omega) (by omega)
 have hnn:(n.natAbs:Int)≤1600000:=by omega
 have sb1:=M.aL (x:=n) (y:=n) (m:=1600000) (n:=1600000) (by omega) (by omega) (by omega) (by omega);have Jn:=M.aL (x:=E1) (y:=E1) (m:=20) (n:=20) (by omega) (by omega) (by omega) (by omega);have Jo:=M.aL (x:=n*n) (y:=E1*E1) (m:=2560000000000) (n:=400) (by omega) (by omega) (by omega) (by omega);have Jp:=M.aL (x:=E2) (y:=E2) (m:=20) (n:=20) (by omega) (by omega) (by omega) (by omega);have Jq:=M.aL (x:=n*n*(E1*E1)) (y:=E2*E2) (m:=1024000000000000) (n:=400) (by omega) (by omega) (by omega) (by omega);have Jr:=M.aL (x:=X1) (y:=d) (m:=10000) (n:=8000) (by omega) (by omega) (by omega) (by omega);have Js:=M.aL (x:=X1*d) (y:=d) (m:=80000000) (n:=8000) (by omega) (by omega) (by omega) (by omega);have Jt:=M.aL (x:=X1*d*d) (y:=E2*E2) (m:=640000000000) (n:=400) (by omega) (by omega) (by omega) (by omega);have Ju:=M.aL (x:=X2) (y:=d) (m:=10000) (n:=8000) (by omega) (by omega) (by omega) (by omega);have FN:=M.aL (x:=X2*d) (y:=d) (m:=80000000) (n:=8000) (by omega) (by omega) (by omega) (by omega);have FO:=M.aL (x:=X2*d*d) (y:=E1*E1) (m:=640000000000) (n:=400) (by omega) (by omega) (by omega) (by omega);have FP:=M.aL (x:=d) (y:=d) (m:=8000) (n:=8000) (by omega) (by omega) (by omega) (by omega);have FQ:=M.aL (x:=d*d) (y:=E1*E1) (m:=64000000) (n:=400) (by omega) (by omega) (by omega) (by omega);have FR:=M.aL (x:=d*d*(E1*E1)) (y:=E2*E2) (m:=25600000000) (n:=400) (by omega) (by omega) (by omega) (by omega);have ht:n*n*(E1*E1)*(E2*E2) - X1*d*d*(E2*E2) - X2*d*d*(E1*E1)=M.top n d X1 E1 X2 E2:=M.tn ..;have hb:d*d*(E1*E1)*(E2*E2)=M.bot d E1 E2:=M.su ..;have hbp:0<M.bot d E1 E2:=M.jH (by omega) (by omega) (by omega)
 have PE:=fun W=>gf (n*n*(E1*E1)*(E2*E2) - X1*d*d*(E2*E2) - X2*d*d*(E1*E1)) (d*d*(E1*E1)*(E2*E2)) W (by omega) (by omega) (by omega) (by omega) (by omega)
 have hpx:br (n*n*(E1*E1)*(E2*E2) - X1*d*d*(E2*E2) - X2*d*d*(E1*E1)) (d*d*(E1*E1)*(E2*E2))=M.BO n d X1 E1 X2 E2:=by rw [ht,hb];rfl
 have JY:bX (n*n*(E1*E1)*(E2*E2) - X1*d*d*(E2*E2) - X2*d*d*(E1*E1)) (d*d*(E1*E1)*(E2*E2))=bX (M.top n d X1 E1 X2 E2) (M.bot d E1 E2):=by rw [ht,hb]
 rw [hpx,JY] at PE;have hF:=M.f8 (t:=M.top n d X1 E1 X2 E2) (b:=M.bot d E1 E2) (by omega);have hF0:=(M.fd (t:=M.top n d X1 E1 X2 E2) (b:=M.bot d E1 E2) (by omega)).2.1;have hxs:(M.BO n d X1 E1 X2 E2).natAbs≤(M.top n d X1 E1 X2 E2).natAbs:=hF.1;have hR:=M.gB (show 0≤bX (M.top n d X1 E1 X2 E2) (M.bot d E1 E2) by omega)
 have PR:=fun W=>jh (bX (M.top n d X1 E1 X2 E2) (M.bot d E1 E2)) W (by omega) (by omega)
 have hre:M.root (bX (M.top n d X1 E1 X2 E2) (M.bot d E1 E2))=M.zK n d X1 E1 X2 E2:=rfl;rw [hre] at PR hR;have hok:M.dp n d X1 E1 X2 E2=(decide (M.zK n d X1 E1 X2 E2*M.zK n d X1 E1 X2 E2=bX (M.top n d X1 E1 X2 E2) (M.bot d E1 E2)) && decide (M.zK n d X1 E1 X2 E2≤20) && M.ins (M.BO n d X1 E1 X2 E2) (-10000) 10000):=rfl
 have PI:=fun W=>ch (M.BO n d X1 E1 X2 E2) (-10000) 10000 W
 have hF1:bX (M.top n d X1 E1 X2 E2) (M.bot d E1 E2)≤11000000000000:=by omega
 have hF2:M.zK n d X1 E1 X2 E2*M.zK n d X1 E1 X2 E2≤11000000000000:=Int.le_trans hR.2.1 hF1;clear hF hF0 hxs hre hbp hpx JY ht hb hbd hna;generalize Je:M.BO n d X1 E1 X2 E2=x at *;generalize hee:M.zK n d X1 E1 X2 E2=e at *;generalize bX (M.top n d X1 E1 X2 E2) (M.bot d E1 E2)=F at *;obtain ⟨R0,R1,R2⟩:=hR;clear R2;have R3:0≤e*e:=Int.mul_nonneg R0 R0;have PS:=wH PS;have PA:=wH PA;have PE:=wH PE;have PR:=wH PR;generalize (n.natAbs:Int)=na at *;have hfz:=wH (show (if false=true then x else 0)=0∧(if false=true then M.DZ n d X1 Y1 E1 X2 E2 else 0)=0∧(if false=true then e else 0)=0 from ⟨rfl,rfl,rfl⟩)
 by_cases c1:e*e=F
 ·subst c1
  clear R1 hF1;have R4:=hF2
  by_cases c2:e≤20
  ·cases c3:M.ins x (-10000) 10000
   ·have hk:M.dp n d X1 E1 X2 E2=false:=by rw [hok,c3,Bool.and_false]
    rw [hk,hfz.out.1,hfz.out.2.1,hfz.out.2.2];clear hk hfz hok B_ hii;rw [c3] at PI;have PI:=wH PI;have C:=(((aH.new w #[.int .i64 a,.int .i64 b] 25).alloc (.cells #[.int .i64 X1,.int .i64 Y1,.int .i64 E1] 27)).alloc (.cells #[.int .i64 X2,.int .i64 Y2,.int .i64 E2] 27)).alloc (.cells #[.int .i64 0,.int .i64 0,.int .i64 0] 27);have Q:=((aH.new (w.alloc (.cells #[.int .i64 a,.int .i64 b] 25)) #[.int .i64 X1,.int .i64 Y1,.int .i64 E1] 27).alloc (.cells #[.int .i64 X2,.int .i64 Y2,.int .i64 E2] 27)).alloc (.cells #[.int .i64 0,.int .i64 0,.int .i64 0] 27);rw [wI] at Q;have U:=(aH.new ((w.alloc (.cells #[.int .i64 a,.int .i64 b] 25)).alloc (.cells #[.int .i64 X1,.int .i64 Y1,.int .i64 E1] 27)) #[.int .i64 X2,.int .i64 Y2,.int .i64 E2] 27).alloc (.cells #[.int .i64 0,.int .i64 0,.int .i64 0] 27);rw [wI,wI] at U;have R:=aH.new (((w.alloc (.cells #[.int .i64 a,.int .i64 b] 25)).alloc (.cells #[.int .i64 X1,.int .i64 Y1,.int .i64 E1] 27)).alloc (.cells #[.int .i64 X2,.int .i64 Y2,.int .i64 E2] 27)) #[.int .i64 0,.int .i64 0,.int .i64 0] 27;rw [wI,wI,wI] at R;have B:=((((wK w.heap.size w).alloc (wL _) (.cells #[.int .i64 a,.int .i64 b] 25)).alloc (by rw [wI];omega) (.cells #[.int .i64 X1,.int .i64 Y1,.int .i64 E1] 27)).alloc (by rw [wI,wI];omega) (.cells #[.int .i64 X2,.int .i64 Y2,.int .i64 E2] 27)).alloc (by rw [wI,wI,wI];omega) (.cells #[.int .i64 0,.int .i64 0,.int .i64 0] 27);generalize hw3:(((w.alloc (.cells #[.int .i64 a,.int .i64 b] 25)).alloc (.cells #[.int .i64 X1,.int .i64 Y1,.int .i64 E1] 27)).alloc (.cells #[.int .i64 X2,.int .i64 Y2,.int .i64 E2] 27)).alloc (.cells #[.int .i64 0,.int .i64 0,.int .i64 0] 27)=wc at *;have ⟨q0,q1,q2⟩:=Q.aK;have ⟨u0,u1,u2⟩:=U.aK;have f_:=C.box.c0;have g_:=C.box.c1;have ⟨r0,r1,r2⟩:=R.aK;go_enter Tryz.func92,Tryz.ntmps92
    go_wp2_with first | (go_at_call 148;(with_reducible refine (PS.out _).mono ?_);rintro e w4 ⟨rfl,hb4⟩;replace B:=d_ B hb4;replace R:=R.keep hb4;replace Q:=Q.keep hb4;replace U:=U.keep hb4;replace C:=C.keep hb4;(obtain ⟨q0,q1,q2⟩:=Q.aK);(obtain ⟨u0,u1,u2⟩:=U.aK);(obtain ⟨r0,r1,r2⟩:=R.aK);have f0:=R.xC 0;have f1:=R.xC 1;have f2:=R.xC 2;have rl:=R.lt) | (go_at_call 131;(with_reducible refine (PA.out _).mono ?_);rintro e w5 ⟨rfl,rfl⟩)
    go_region
    all_goals
     go_wp2_with first | (go_at_call 149;(with_reducible refine (PE.out _).mono ?_);rintro e w6 ⟨rfl,hb6⟩;replace B:=B.trans ((aM (wK w4.heap.size w4) 1).mono B.size);replace R:=R.drew;replace Q:=Q.drew;replace U:=U.drew;replace C:=C.drew;replace B:=d_ B hb6;replace R:=R.keep hb6;replace Q:=Q.keep hb6;replace U:=U.keep hb6;replace C:=C.keep hb6;(obtain ⟨q0,q1,q2⟩:=Q.aK);(obtain ⟨u0,u1,u2⟩:=U.aK);(obtain ⟨r0,r1,r2⟩:=R.aK);have f0:=R.xC 0;have f1:=R.xC 1;have f2:=R.xC 2;have rl:=R.lt) | (go_at_call 150;(with_reducible refine (PR.out _).mono ?_);rintro e w7 ⟨rfl,rfl⟩) | (go_at_call 78;(with_reducible refine (PI.out _).mono ?_);rintro e w8 ⟨rfl,rfl⟩)
     exact bodyPost_ret (v:=.tuple #[.agg #[.int .i64 0,.int .i64 0,.int .i64 0],.bool false]) (by simp [results,Tryz.results92,go_sem, *]) rfl (⟨rfl,wJ (wJ (wJ B (by simp;omega) _) (by simp;omega) _) (by simp;omega) _⟩)
   have hk:M.dp n d X1 E1 X2 E2=true:=by rw [hok,c3,decide_eq_true c2,decide_eq_true rfl];rfl
   rw [c3] at PI;have PI:=wH PI;clear hok;obtain ⟨i1,i2,i3,i4,i5,i6⟩:=hii hk;obtain ⟨y1,y2⟩:=B_ hk;rw [hk];have hft:=wH (show (if true=true then x else 0)=x∧(if true=true then M.DZ n d X1 Y1 E1 X2 E2 else 0)=M.DZ n d X1 Y1 E1 X2 E2∧(if true=true then e else 0)=e from ⟨rfl,rfl,rfl⟩);rw [hft.out.1,hft.out.2.1,hft.out.2.2];clear hft hfz B_ hii hk i5 i6;generalize M.DZ n d X1 Y1 E1 X2 E2=Y at *;have hcv:=M.mG (a:=a) (b:=b) (x:=x) (e:=e) ha1 ha2 hb1 hb2 i3 i4 (by omega) i2;have hYb:-2000000≤Y∧Y≤2000000:=M.pP (by omega);clear hcv y2;have FS:=M.aL (x:=X1) (y:=e) (m:=10000) (n:=20) (by omega) (by omega) (by omega) (by omega);have FT:=M.aL (x:=X1*e) (y:=e) (m:=200000) (n:=20) (by omega) (by omega) (by omega) (by omega);have Gz:=M.aL (x:=x) (y:=E1*E1) (m:=10000) (n:=400) (by omega) (by omega) (by omega) (by omega);have G0:=M.aL (x:=n) (y:=X1*e*e - x*(E1*E1)) (m:=1600000) (n:=8000000) (by omega) (by omega) (by omega) (by omega);have G3:=M.aL (x:=d) (y:=E1*E1) (m:=8000) (n:=400) (by omega) (by omega) (by omega) (by omega);have G4:=M.aL (x:=d*(E1*E1)) (y:=e) (m:=3200000) (n:=20) (by omega) (by omega) (by omega) (by omega);have G5:=M.aL (x:=d*(E1*E1)*e) (y:=e) (m:=64000000) (n:=20) (by omega) (by omega) (by omega) (by omega);have p1:0<d*(E1*E1)*e*e:=Int.mul_pos (Int.mul_pos (Int.mul_pos hd0 (Int.mul_pos (by omega) (by omega))) (by omega)) (by omega)
   have P2:=fun W=>gf (n*(X1*e*e - x*(E1*E1))) (d*(E1*E1)*e*e) W (by omega) (by omega) (by omega) (by omega) (by omega)
   have s1:=M.f8 (t:=n*(X1*e*e - x*(E1*E1))) (b:=d*(E1*E1)*e*e) (by omega);have a1:=M.fd (t:=n*(X1*e*e - x*(E1*E1))) (b:=d*(E1*E1)*e*e) (by omega);generalize bX (n*(X1*e*e - x*(E1*E1))) (d*(E1*E1)*e*e)=under,br (n*(X1*e*e - x*(E1*E1))) (d*(E1*E1)*e*e)=up at *
   have s2:-12800000000000≤up∧up≤12800000000000:=by omega
   have s3:under≤1280000000:=by omega
   obtain ⟨a1,a2,a3⟩:=a1;clear s1 a3;have G6:=M.aL (x:=up) (y:=E1*E1) (m:=12800000000000) (n:=400) (by omega) (by omega) (by omega) (by omega);have G7:=M.aL (x:=up*(E1*E1)) (y:=E1) (m:=5120000000000000) (n:=20) (by omega) (by omega) (by omega) (by omega);have G8:=M.aL (x:=Y1) (y:=under) (m:=3000000) (n:=1280000000) (by omega) (by omega) (by omega) (by omega);have G9:=M.aL (x:=under) (y:=E1*E1) (m:=1280000000) (n:=400) (by omega) (by omega) (by omega) (by omega);have G_:=M.aL (x:=under*(E1*E1)) (y:=E1) (m:=512000000000) (n:=20) (by omega) (by omega) (by omega) (by omega);have p2:0<under*(E1*E1)*E1:=Int.mul_pos (Int.mul_pos a2 (Int.mul_pos (by omega) (by omega))) (by omega)
   have P3:=fun W=>gf (up*(E1*E1)*E1 - Y1*under) (under*(E1*E1)*E1) W (by omega) (by omega) (by omega) (by omega) (by omega)
   have s1:=M.f8 (t:=up*(E1*E1)*E1 - Y1*under) (b:=under*(E1*E1)*E1) (by omega);have a3:=M.fd (t:=up*(E1*E1)*E1 - Y1*under) (b:=under*(E1*E1)*E1) (by omega);generalize bX (up*(E1*E1)*E1 - Y1*under) (under*(E1*E1)*E1)=bottom,br (up*(E1*E1)*E1 - Y1*under) (under*(E1*E1)*E1)=y at *;obtain ⟨a3,a4,a5⟩:=a3;have hY:=M.wA hd0 (by omega) (by omega) y1 a1 a2 a3 a4 a5
   have s4:bottom≤10240000000000:=by omega
   clear a1 a3 a5 y1 s1;have HA:=M.aL (x:=e) (y:=e) (m:=20) (n:=20) (by omega) (by omega) (by omega) (by omega);have Ir:=M.aL (x:=e*e) (y:=e) (m:=400) (n:=20) (by omega) (by omega) (by omega) (by omega);have ee:0≤e*e*e:=Int.mul_nonneg R3 R0;have hq:=M.da ee a4
   have hb0:bottom≠0:=by omega
   have Cv:(bottom == 0)=false:=by rw [beq_eq_false_iff_ne];omega
   have P2:=wH P2;have P3:=wH P3;have hY:=wH hY
   have hyb2:-2000000≤y*(e*e*e).tdiv bottom∧y*(e*e*e).tdiv bottom≤2000000:=by rw [hY.out];exact hYb
   have C:=(((aH.new w #[.int .i64 a,.int .i64 b] 25).alloc (.cells #[.int .i64 X1,.int .i64 Y1,.int .i64 E1] 27)).alloc (.cells #[.int .i64 X2,.int .i64 Y2,.int .i64 E2] 27)).alloc (.cells #[.int .i64 0,.int .i64 0,.int .i64 0] 27);have Q:=((aH.new (w.alloc (.cells #[.int .i64 a,.int .i64 b] 25)) #[.int .i64 X1,.int .i64 Y1,.int .i64 E1] 27).alloc (.cells #[.int .i64 X2,.int .i64 Y2,.int .i64 E2] 27)).alloc (.cells #[.int .i64 0,.int .i64 0,.int .i64 0] 27);rw [wI] at Q;have U:=(aH.new ((w.alloc (.cells #[.int .i64 a,.int .i64 b] 25)).alloc (.cells #[.int .i64 X1,.int .i64 Y1,.int .i64 E1] 27)) #[.int .i64 X2,.int .i64 Y2,.int .i64 E2] 27).alloc (.cells #[.int .i64 0,.int .i64 0,.int .i64 0] 27);rw [wI,wI] at U;have R:=aH.new (((w.alloc (.cells #[.int .i64 a,.int .i64 b] 25)).alloc (.cells #[.int .i64 X1,.int .i64 Y1,.int .i64 E1] 27)).alloc (.cells #[.int .i64 X2,.int .i64 Y2,.int .i64 E2] 27)) #[.int .i64 0,.int .i64 0,.int .i64 0] 27;rw [wI,wI,wI] at R;have B:=((((wK w.heap.size w).alloc (wL _) (.cells #[.int .i64 a,.int .i64 b] 25)).alloc (by rw [wI];omega) (.cells #[.int .i64 X1,.int .i64 Y1,.int .i64 E1] 27)).alloc (by rw [wI,wI];omega) (.cells #[.int .i64 X2,.int .i64 Y2,.int .i64 E2] 27)).alloc (by rw [wI,wI,wI];omega) (.cells #[.int .i64 0,.int .i64 0,.int .i64 0] 27);generalize hw3:(((w.alloc (.cells #[.int .i64 a,.int .i64 b] 25)).alloc (.cells #[.int .i64 X1,.int .i64 Y1,.int .i64 E1] 27)).alloc (.cells #[.int .i64 X2,.int .i64 Y2,.int .i64 E2] 27)).alloc (.cells #[.int .i64 0,.int .i64 0,.int .i64 0] 27)=wc at *;have ⟨q0,q1,q2⟩:=Q.aK;have ⟨u0,u1,u2⟩:=U.aK;have f_:=C.box.c0;have g_:=C.box.c1;have ⟨r0,r1,r2⟩:=R.aK;go_enter Tryz.func92,Tryz.ntmps92
   go_wp2_with first | (go_at_call 148;(with_reducible refine (PS.out _).mono ?_);rintro e w4 ⟨rfl,hb4⟩;replace B:=d_ B hb4;replace R:=R.keep hb4;replace Q:=Q.keep hb4;replace U:=U.keep hb4;replace C:=C.keep hb4;(obtain ⟨q0,q1,q2⟩:=Q.aK);(obtain ⟨u0,u1,u2⟩:=U.aK);(obtain ⟨r0,r1,r2⟩:=R.aK);have f0:=R.xC 0;have f1:=R.xC 1;have f2:=R.xC 2;have rl:=R.lt) | (go_at_call 131;(with_reducible refine (PA.out _).mono ?_);rintro e w5 ⟨rfl,rfl⟩)
   go_region
   all_goals
    go_wp2_with first | (go_at_call 149;(with_reducible refine (PE.out _).mono ?_);rintro e w6 ⟨rfl,hb6⟩;replace B:=B.trans ((aM (wK w4.heap.size w4) 1).mono B.size);replace R:=R.drew;replace Q:=Q.drew;replace U:=U.drew;replace C:=C.drew;replace B:=d_ B hb6;replace R:=R.keep hb6;replace Q:=Q.keep hb6;replace U:=U.keep hb6;replace C:=C.keep hb6;(obtain ⟨q0,q1,q2⟩:=Q.aK);(obtain ⟨u0,u1,u2⟩:=U.aK);(obtain ⟨r0,r1,r2⟩:=R.aK);have f0:=R.xC 0;have f1:=R.xC 1;have f2:=R.xC 2;have rl:=R.lt) | (go_at_call 150;(with_reducible refine (PR.out _).mono ?_);rintro e w7 ⟨rfl,rfl⟩) | (go_at_call 78;(with_reducible refine (PI.out _).mono ?_);rintro e w8 ⟨rfl,rfl⟩) | (go_at_call 149;(with_reducible refine (P2.out _).mono ?_);rintro e w9 ⟨rfl,wb⟩;replace B:=d_ B wb;replace R:=R.keep wb;replace Q:=Q.keep wb;replace U:=U.keep wb;replace C:=C.keep wb;(obtain ⟨q0,q1,q2⟩:=Q.aK);(obtain ⟨u0,u1,u2⟩:=U.aK);(obtain ⟨r0,r1,r2⟩:=R.aK);have f0:=R.xC 0;have f1:=R.xC 1;have f2:=R.xC 2;have rl:=R.lt) | (go_at_call 149;(with_reducible refine (P3.out _).mono ?_);rintro e wa ⟨rfl,hba⟩;replace B:=d_ B hba;replace R:=R.keep hba;replace Q:=Q.keep hba;replace U:=U.keep hba;replace C:=C.keep hba;(obtain ⟨q0,q1,q2⟩:=Q.aK);(obtain ⟨u0,u1,u2⟩:=U.aK);(obtain ⟨r0,r1,r2⟩:=R.aK);have f0:=R.xC 0;have f1:=R.xC 1;have f2:=R.xC 2;have rl:=R.lt)
    exact bodyPost_ret (v:=.tuple #[.agg #[.int .i64 x,.int .i64 (y*(e*e*e).tdiv bottom),.int .i64 e],.bool true]) (by simp [results,Tryz.results92,go_sem, *]) rfl (⟨by rw [hY.out],wJ (wJ (wJ B (by simp;omega) _) (by simp;omega) _) (by simp;omega) _⟩)
  have hk:M.dp n d X1 E1 X2 E2=false:=by rw [hok,decide_eq_false c2,Bool.and_false];rfl
  rw [hk,hfz.out.1,hfz.out.2.1,hfz.out.2.2];clear hk hfz hok B_ hii;have PI:=wH PI
  have c4:20<e:=by omega
  clear c2;have C:=(((aH.new w #[.int .i64 a,.int .i64 b] 25).alloc (.cells #[.int .i64 X1,.int .i64 Y1,.int .i64 E1] 27)).alloc (.cells #[.int .i64 X2,.int .i64 Y2,.int .i64 E2] 27)).alloc (.cells #[.int .i64 0,.int .i64 0,.int .i64 0] 27);have Q:=((aH.new (w.alloc (.cells #[.int .i64 a,.int .i64 b] 25)) #[.int .i64 X1,.int .i64 Y1,.int .i64 E1] 27).alloc (.cells #[.int .i64 X2,.int .i64 Y2,.int .i64 E2] 27)).alloc (.cells #[.int .i64 0,.int .i64 0,.int .i64 0] 27);rw [wI] at Q;have U:=(aH.new ((w.alloc (.cells #[.int .i64 a,.int .i64 b] 25)).alloc (.cells #[.int .i64 X1,.int .i64 Y1,.int .i64 E1] 27)) #[.int .i64 X2,.int .i64 Y2,.int .i64 E2] 27).alloc (.cells #[.int .i64 0,.int .i64 0,.int .i64 0] 27);rw [wI,wI] at U;have R:=aH.new (((w.alloc (.cells #[.int .i64 a,.int .i64 b] 25)).alloc (.cells #[.int .i64 X1,.int .i64 Y1,.int .i64 E1] 27)).alloc (.cells #[.int .i64 X2,.int .i64 Y2,.int .i64 E2] 27)) #[.int .i64 0,.int .i64 0,.int .i64 0] 27;rw [wI,wI,wI] at R;have B:=((((wK w.heap.size w).alloc (wL _) (.cells #[.int .i64 a,.int .i64 b] 25)).alloc (by rw [wI];omega) (.cells #[.int .i64 X1,.int .i64 Y1,.int .i64 E1] 27)).alloc (by rw [wI,wI];omega) (.cells #[.int .i64 X2,.int .i64 Y2,.int .i64 E2] 27)).alloc (by rw [wI,wI,wI];omega) (.cells #[.int .i64 0,.int .i64 0,.int .i64 0] 27);generalize hw3:(((w.alloc (.cells #[.int .i64 a,.int .i64 b] 25)).alloc (.cells #[.int .i64 X1,.int .i64 Y1,.int .i64 E1] 27)).alloc (.cells #[.int .i64 X2,.int .i64 Y2,.int .i64 E2] 27)).alloc (.cells #[.int .i64 0,.int .i64 0,.int .i64 0] 27)=wc at *;have ⟨q0,q1,q2⟩:=Q.aK;have ⟨u0,u1,u2⟩:=U.aK;have f_:=C.box.c0;have g_:=C.box.c1;have ⟨r0,r1,r2⟩:=R.aK;go_enter Tryz.func92,Tryz.ntmps92
  go_wp2_with first | (go_at_call 148;(with_reducible refine (PS.out _).mono ?_);rintro e w4 ⟨rfl,hb4⟩;replace B:=d_ B hb4;replace R:=R.keep hb4;replace Q:=Q.keep hb4;replace U:=U.keep hb4;replace C:=C.keep hb4;(obtain ⟨q0,q1,q2⟩:=Q.aK);(obtain ⟨u0,u1,u2⟩:=U.aK);(obtain ⟨r0,r1,r2⟩:=R.aK);have f0:=R.xC 0;have f1:=R.xC 1;have f2:=R.xC 2;have rl:=R.lt) | (go_at_call 131;(with_reducible refine (PA.out _).mono ?_);rintro e w5 ⟨rfl,rfl⟩)
  go_region
  all_goals
   go_wp2_with first | (go_at_call 149;(with_reducible refine (PE.out _).mono ?_);rintro e w6 ⟨rfl,hb6⟩;replace B:=B.trans ((aM (wK w4.heap.size w4) 1).mono B.size);replace R:=R.drew;replace Q:=Q.drew;replace U:=U.drew;replace C:=C.drew;replace B:=d_ B hb6;replace R:=R.keep hb6;replace Q:=Q.keep hb6;replace U:=U.keep hb6;replace C:=C.keep hb6;(obtain ⟨q0,q1,q2⟩:=Q.aK);(obtain ⟨u0,u1,u2⟩:=U.aK);(obtain ⟨r0,r1,r2⟩:=R.aK);have f0:=R.xC 0;have f1:=R.xC 1;have f2:=R.xC 2;have rl:=R.lt) | (go_at_call 150;(with_reducible refine (PR.out _).mono ?_);rintro e w7 ⟨rfl,rfl⟩) | (go_at_call 78;(with_reducible refine (PI.out _).mono ?_);rintro e w8 ⟨rfl,rfl⟩)
   exact bodyPost_ret (v:=.tuple #[.agg #[.int .i64 0,.int .i64 0,.int .i64 0],.bool false]) (by simp [results,Tryz.results92,go_sem, *]) rfl (⟨rfl,wJ (wJ (wJ B (by simp;omega) _) (by simp;omega) _) (by simp;omega) _⟩)
 have hk:M.dp n d X1 E1 X2 E2=false:=by rw [hok,decide_eq_false c1];rfl
 rw [hk,hfz.out.1,hfz.out.2.1,hfz.out.2.2];clear hk hfz hok B_ hii;have PI:=wH PI;have c1b:(e*e == F)=false:=beq_eq_false_iff_ne.2 c1
 have c1c:(e*e != F)=true:=by simp [c1]
 have C:=(((aH.new w #[.int .i64 a,.int .i64 b] 25).alloc (.cells #[.int .i64 X1,.int .i64 Y1,.int .i64 E1] 27)).alloc (.cells #[.int .i64 X2,.int .i64 Y2,.int .i64 E2] 27)).alloc (.cells #[.int .i64 0,.int .i64 0,.int .i64 0] 27);have Q:=((aH.new (w.alloc (.cells #[.int .i64 a,.int .i64 b] 25)) #[.int .i64 X1,.int .i64 Y1,.int .i64 E1] 27).alloc (.cells #[.int .i64 X2,.int .i64 Y2,.int .i64 E2] 27)).alloc (.cells #[.int .i64 0,.int .i64 0,.int .i64 0] 27);rw [wI] at Q;have U:=(aH.new ((w.alloc (.cells #[.int .i64 a,.int .i64 b] 25)).alloc (.cells #[.int .i64 X1,.int .i64 Y1,.int .i64 E1] 27)) #[.int .i64 X2,.int .i64 Y2,.int .i64 E2] 27).alloc (.cells #[.int .i64 0,.int .i64 0,.int .i64 0] 27);rw [wI,wI] at U;have R:=aH.new (((w.alloc (.cells #[.int .i64 a,.int .i64 b] 25)).alloc (.cells #[.int .i64 X1,.int .i64 Y1,.int .i64 E1] 27)).alloc (.cells #[.int .i64 X2,.int .i64 Y2,.int .i64 E2] 27)) #[.int .i64 0,.int .i64 0,.int .i64 0] 27;rw [wI,wI,wI] at R;have B:=((((wK w.heap.size w).alloc (wL _) (.cells #[.int .i64 a,.int .i64 b] 25)).alloc (by rw [wI];omega) (.cells #[.int .i64 X1,.int .i64 Y1,.int .i64 E1] 27)).alloc (by rw [wI,wI];omega) (.cells #[.int .i64 X2,.int .i64 Y2,.int .i64 E2] 27)).alloc (by rw [wI,wI,wI];omega) (.cells #[.int .i64 0,.int .i64 0,.int .i64 0] 27);generalize hw3:(((w.alloc (.cells #[.int .i64 a,.int .i64 b] 25)).alloc (.cells #[.int .i64 X1,.int .i64 Y1,.int .i64 E1] 27)).alloc (.cells #[.int .i64 X2,.int .i64 Y2,.int .i64 E2] 27)).alloc (.cells #[.int .i64 0,.int .i64 0,.int .i64 0] 27)=wc at *;have ⟨q0,q1,q2⟩:=Q.aK;have ⟨u0,u1,u2⟩:=U.aK;have f_:=C.box.c0;have g_:=C.box.c1;have ⟨r0,r1,r2⟩:=R.aK;go_enter Tryz.func92,Tryz.ntmps92
 go_wp2_with first | (go_at_call 148;(with_reducible refine (PS.out _).mono ?_);rintro e w4 ⟨rfl,hb4⟩;replace B:=d_ B hb4;replace R:=R.keep hb4;replace Q:=Q.keep hb4;replace U:=U.keep hb4;replace C:=C.keep hb4;(obtain ⟨q0,q1,q2⟩:=Q.aK);(obtain ⟨u0,u1,u2⟩:=U.aK);(obtain ⟨r0,r1,r2⟩:=R.aK);have f0:=R.xC 0;have f1:=R.xC 1;have f2:=R.xC 2;have rl:=R.lt) | (go_at_call 131;(with_reducible refine (PA.out _).mono ?_);rintro e w5 ⟨rfl,rfl⟩)
 go_region
 all_goals
  go_wp2_with first | (go_at_call 149;(with_reducible refine (PE.out _).mono ?_);rintro e w6 ⟨rfl,hb6⟩;replace B:=B.trans ((aM (wK w4.heap.size w4) 1).mono B.size);replace R:=R.drew;replace Q:=Q.drew;replace U:=U.drew;replace C:=C.drew;replace B:=d_ B hb6;replace R:=R.keep hb6;replace Q:=Q.keep hb6;replace U:=U.keep hb6;replace C:=C.keep hb6;(obtain ⟨q0,q1,q2⟩:=Q.aK);(obtain ⟨u0,u1,u2⟩:=U.aK);(obtain ⟨r0,r1,r2⟩:=R.aK);have f0:=R.xC 0;have f1:=R.xC 1;have f2:=R.xC 2;have rl:=R.lt) | (go_at_call 150;(with_reducible refine (PR.out _).mono ?_);rintro e w7 ⟨rfl,rfl⟩) | (go_at_call 78;(with_reducible refine (PI.out _).mono ?_);rintro e w8 ⟨rfl,rfl⟩)
  exact bodyPost_ret (v:=.tuple #[.agg #[.int .i64 0,.int .i64 0,.int .i64 0],.bool false]) (by simp [results,Tryz.results92,go_sem, *]) rfl (⟨rfl,wJ (wJ (wJ B (by simp;omega) _) (by simp;omega) _) (by simp;omega) _⟩)
end
section
namespace M
theorem oy {a b X1 Y1 E1 X2 Y2 E2:Int} (h1:Y1*Y1=cv a b X1 E1) (h2:Y2*Y2=cv a b X2 E2) (he1:1≤E1) (he2:1≤E2) (g1:Int.gcd X1 E1=1) (g2:Int.gcd X2 E2=1):sD X1 Y1 E1 X2 Y2 E2=0 ↔ X1=X2∧Y1=-Y2∧E1=E2:=by
 have p1:0<E1*E1:=Int.mul_pos (by omega) (by omega);have p2:0<E2*E2:=Int.mul_pos (by omega) (by omega);unfold sD
 split
 ·rename_i h
  obtain ⟨rfl,rfl,rfl⟩:=h
  constructor
  ·intro h
   have:2*Y1=0:=(Int.mul_eq_zero.1 h).resolve_right (by omega);exact ⟨rfl,by omega,rfl⟩
  intro h
  have:Y1=0:=by omega
  rw [this];simp
 rename_i h
 constructor
 ·intro k
  have k1:X2*E1*E1 - X1*E2*E2=0:=(Int.mul_eq_zero.1 k).resolve_left (Int.mul_ne_zero (by omega) (by omega));have q1:=lJ (b:=E1*E1) (t:=X1) p1 p1 (kv.2 g1) (Int.mul_comm _ _);have q2:=lJ (b:=E1*E1) (t:=X1) p1 p2 (kv.2 g2) (show E1*E1*X2=X1*(E2*E2) by clear h1 h2 h;grind);have hX:X1=X2:=q1.1.symm.trans q2.1;have hE2:E1*E1=E2*E2:=q1.2.symm.trans q2.2
  have hE:E1=E2:=by
   have e:(E1 - E2)*(E1+E2)=0:=by clear h1 h2 h;grind
   have:=(Int.mul_eq_zero.1 e).resolve_right (by omega);omega
  subst hX;subst hE
  have e:(Y1 - Y2)*(Y1+Y2)=0:=by rw [←h2] at h1;clear h2 h;grind
  rcases Int.mul_eq_zero.1 e with q | q
  ·exact absurd ⟨rfl,by omega,rfl⟩ h
  exact ⟨rfl,by omega,rfl⟩
 rintro ⟨rfl,-,rfl⟩;simp
theorem vY {a X1 Y1 E1 X2 Y2 E2:Int} (h:sD X1 Y1 E1 X2 Y2 E2≠0):((sN a X1 Y1 E1 X2 Y2 E2).tdiv (M.gcd (sN a X1 Y1 E1 X2 Y2 E2) (sD X1 Y1 E1 X2 Y2 E2))=yl a X1 Y1 E1 X2 Y2 E2∧(sD X1 Y1 E1 X2 Y2 E2).tdiv (M.gcd (sN a X1 Y1 E1 X2 Y2 E2) (sD X1 Y1 E1 X2 Y2 E2))=yI a X1 Y1 E1 X2 Y2 E2)∨((sN a X1 Y1 E1 X2 Y2 E2).tdiv (M.gcd (sN a X1 Y1 E1 X2 Y2 E2) (sD X1 Y1 E1 X2 Y2 E2))=-yl a X1 Y1 E1 X2 Y2 E2∧(sD X1 Y1 E1 X2 Y2 E2).tdiv (M.gcd (sN a X1 Y1 E1 X2 Y2 E2) (sD X1 Y1 E1 X2 Y2 E2))=-yI a X1 Y1 E1 X2 Y2 E2):=by
 unfold yl yI br bX;rw [if_neg h,if_neg h]
 split
 ·right;exact ⟨(Int.neg_neg _).symm,(Int.neg_neg _).symm⟩
 left;exact ⟨rfl,rfl⟩
theorem tm (n m X1 E1 X2 E2:Int):top (-n) (-m) X1 E1 X2 E2=top n m X1 E1 X2 E2:=by unfold top;grind
theorem ss (m E1 E2:Int):bot (-m) E1 E2=bot m E1 E2:=by unfold bot;grind
theorem sI (n m X1 Y1 E1 x e:Int):ej (-n) (-m) X1 Y1 E1 x e=-ej n m X1 Y1 E1 x e:=by unfold ej;grind
theorem oi {a X1 Y1 E1 X2 Y2 E2:Int} (h0:sD X1 Y1 E1 X2 Y2 E2≠0) (hk:gM a X1 Y1 E1 X2 Y2 E2=false):BP a X1 Y1 E1 X2 Y2 E2=0∧Be a X1 Y1 E1 X2 Y2 E2=0∧Ai a X1 Y1 E1 X2 Y2 E2=0:=by
 unfold gM at hk;rw [if_neg h0] at hk;unfold BP Be Ai;rw [if_neg h0,if_neg h0,if_neg h0,hk];exact ⟨rfl,rfl,rfl⟩
theorem kr {a b X1 Y1 E1 X2 Y2 E2 n m:Int} (h1:Y1*Y1=cv a b X1 E1) (h2:Y2*Y2=cv a b X2 E2) (hx1:X1≤10000) (hx2:X2≤10000) (he1:1≤E1) (he2:E1≤20) (BD:1≤E2) (Bf:E2≤20) (h0:sD X1 Y1 E1 X2 Y2 E2≠0)
  (hnm:(n=yl a X1 Y1 E1 X2 Y2 E2∧m=yI a X1 Y1 E1 X2 Y2 E2)∨(n=-yl a X1 Y1 E1 X2 Y2 E2∧m=-yI a X1 Y1 E1 X2 Y2 E2)) :
  m≠0∧(∀ x e,1≤e→e≤20→-10000≤x→x≤10000→Int.gcd x e=1→bot m E1 E2*x=top n m X1 E1 X2 E2*(e*e)→gM a X1 Y1 E1 X2 Y2 E2=true∧BP a X1 Y1 E1 X2 Y2 E2=x∧Ai a X1 Y1 E1 X2 Y2 E2=e)∧
  (gM a X1 Y1 E1 X2 Y2 E2=true→∀ X Y E,X=BP a X1 Y1 E1 X2 Y2 E2→Y=Be a X1 Y1 E1 X2 Y2 E2→E=Ai a X1 Y1 E1 X2 Y2 E2→1≤E∧E≤20∧-10000≤X∧X≤10000∧Int.gcd X E=1∧bot m E1 E2*X=top n m X1 E1 X2 E2*(E*E)∧E*ej n m X1 Y1 E1 X E=m*E1*E1*E1*Y∧Y*Y=cv a b X E∧(m.natAbs:Int)≤8000∧(n.natAbs:Int)≤1600000):=by
 obtain ⟨hs,hd0,hg,-,-⟩:=pM (a:=a) h0
 have ht:top n m X1 E1 X2 E2=top (yl a X1 Y1 E1 X2 Y2 E2) (yI a X1 Y1 E1 X2 Y2 E2) X1 E1 X2 E2:=by
  rcases hnm with ⟨rfl,rfl⟩ | ⟨rfl,rfl⟩
  ·rfl
  exact tm ..
 have hb:bot m E1 E2=bot (yI a X1 Y1 E1 X2 Y2 E2) E1 E2:=by
  rcases hnm with ⟨rfl,rfl⟩ | ⟨rfl,rfl⟩
  ·rfl
  exact ss ..
 have hm0:m≠0:=by omega
 have hna:m.natAbs=(yI a X1 Y1 E1 X2 Y2 E2).natAbs∧n.natAbs=(yl a X1 Y1 E1 X2 Y2 E2).natAbs:=by omega
 have hsd:∀ x e,(ej n m X1 Y1 E1 x e=ej (yl a X1 Y1 E1 X2 Y2 E2) (yI a X1 Y1 E1 X2 Y2 E2) X1 Y1 E1 x e∧m=yI a X1 Y1 E1 X2 Y2 E2)∨(ej n m X1 Y1 E1 x e=-ej (yl a X1 Y1 E1 X2 Y2 E2) (yI a X1 Y1 E1 X2 Y2 E2) X1 Y1 E1 x e∧m=-yI a X1 Y1 E1 X2 Y2 E2):=by
  intro x e
  rcases hnm with ⟨rfl,rfl⟩ | ⟨rfl,rfl⟩
  ·left;exact ⟨rfl,rfl⟩
  right;exact ⟨sI ..,rfl⟩
 clear hnm;rw [ht,hb,hna.1,hna.2];clear ht hb hna;unfold gM BP Be Ai;rw [if_neg h0,if_neg h0,if_neg h0,if_neg h0]
 have hbd:=fun (k:dp (yl a X1 Y1 E1 X2 Y2 E2) (yI a X1 Y1 E1 X2 Y2 E2) X1 E1 X2 E2=true)=>lk (by omega) he1 he2 BD Bf hx1 hx2 hg k
 have B_:=fun (k:dp (yl a X1 Y1 E1 X2 Y2 E2) (yI a X1 Y1 E1 X2 Y2 E2) X1 E1 X2 E2=true)=>vC h1 h2 (by omega) (by omega) (by omega) hs h0 k
 have hii:=fun (k:dp (yl a X1 Y1 E1 X2 Y2 E2) (yI a X1 Y1 E1 X2 Y2 E2) X1 E1 X2 E2=true)=>oP (by omega) (by omega) (by omega) k
 generalize yI a X1 Y1 E1 X2 Y2 E2=D,yl a X1 Y1 E1 X2 Y2 E2=N at *;refine ⟨hm0,?_,?_⟩
 ·intro x e q1 q2 q3 q4 q5 q6
  obtain ⟨k1,k2,k3⟩:=uK (by omega) (by omega) (by omega) q1 q2 q3 q4 q5 q6;rw [k1];exact ⟨rfl,k2,k3⟩
 intro k X Y E eX eY eE;rw [if_pos k] at eX eY eE;obtain ⟨i1,i2,i3,i4,i5,i6⟩:=hii k;obtain ⟨y1,y2⟩:=B_ k;obtain ⟨b1,b2⟩:=hbd k;rw [←eX,←eE] at i5 i6;rw [←eX,←eE,←eY] at y1 y2;rw [←eE] at i1 i2;rw [←eX] at i3 i4;refine ⟨i1,i2,i3,i4,i5,i6,?_,y2,b1,by omega⟩
 rcases hsd X E with ⟨s1,s2⟩ | ⟨s1,s2⟩
 ·rw [s1,s2,y1]
 rw [s1,s2,Int.mul_neg,y1];clear hsd hbd B_ hii
 grind
end M
end
end Go.Proofs.YtggekfbfechonaaGreat
