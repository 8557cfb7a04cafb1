/-
  Joined texts: contracts and plain lemmas.
-/
import Derived.Test.YtggekfbfechonaaGreatY1
import Derived.Test.YtggekfbfechonaaGreatY13
set_option linter.unusedSimpArgs false
set_option linter.unusedVariables false
set_option maxRecDepth 100000
set_option maxHeartbeats 8000000
namespace Go.Proofs.YtggekfbfechonaaGreat
section
open Go.RowKit
def AJ (W:World) (g:Nat) (z:Int):Prop:=∃ (s:Bool) (a:Option Addr) (l c:Nat),Hid (s=decide (z<0))∧aH W g 125 #[.bool s,.slice a l c]∧aF W 0 (.slice a l c) (Wh.a_ z.natAbs)
theorem AJ.keep {W W':World} {g:Nat} {z:Int} (h:AJ W g z) (hb:Below W.heap.size W W'):AJ W' g z:=by
 obtain ⟨s,a,l,c,hs,hv,ho⟩:=h;exact ⟨s,a,l,c,hs,hv.keep hb,aF.below ho hb⟩
theorem AJ.lt {W:World} {g:Nat} {z:Int} (h:AJ W g z):g<W.heap.size:=by
 obtain ⟨s,a,l,c,hs,hv,ho⟩:=h;exact hv.lt
theorem AJ.bp {W:World} {g k:Nat} {z:Int} {u v:Value} (h:AJ W g z) (hk:g≠k) (hv:aH W k 125 #[u,v]) (x y:Value):AJ ((W.setCell ⟨k,0,none⟩ x).setCell ⟨k,1,none⟩ y) g z:=by
 obtain ⟨s,a,l,c,hs,hw,ho⟩:=h;exact ⟨s,a,l,c,hs,hw.bp hk x y,aF.bM ho hv (by decide) x y⟩
theorem AJ.put {W:World} {g b:Nat} {z:Int} {u v:Value} {s:Bool} {a:Option Addr} {l c:Nat} (hv:aH W g 125 #[u,v]) (hs:Hid (s=decide (z<0))) (ho:aF W b (.slice a l c) (Wh.a_ z.natAbs)):AJ ((W.setCell ⟨g,0,none⟩ (.bool s)).setCell ⟨g,1,none⟩ (.slice a l c)) g z:=
 ⟨s,a,l,c,hs,hv.set2 _ _,aF.base (aF.bM ho hv (by decide) _ _) (Nat.zero_le _)⟩
theorem gP (W:World) (x y:Value):Below W.heap.size W (W.alloc (.cells #[x,y] 125)):=(wK W.heap.size W).alloc (wL _) _
theorem AJ.made {W:World} {b:Nat} {z:Int} {a:Option Addr} {l c:Nat} (ho:aF W b (.slice a l c) (Wh.a_ z.natAbs)):AJ (W.alloc (.cells #[.bool (decide (z<0)),.slice a l c] 125)) W.heap.size z:=
 ⟨_,a,l,c,wH rfl,aH.new W _ _,aF.base (aF.alloc ho _) (Nat.zero_le _)⟩
namespace M
theorem rj (n m X1 E1 X2 E2:Int):n*n*(E1*E1*E2*E2)+-(m*m*(X1*E2*E2+X2*E1*E1))=top n m X1 E1 X2 E2:=by unfold top;grind
theorem ri (m E1 E2:Int):m*m*(E1*E1*E2*E2)=bot m E1 E2:=by unfold bot;grind
end M
theorem qe (a b X1 Y1 E1 X2 Y2 E2:Int) (w:World) (ha1:-1000≤a) (ha2:a≤1000) (hx1:-10000≤X1) (hx2:X1≤10000) (hy1:-3000000≤Y1) (hy2:Y1≤3000000) (he1:1≤E1) (he2:E1≤20) (hx3:-10000≤X2) (hx4:X2≤10000) (hy3:-3000000≤Y2) (hy4:Y2≤3000000) (BD:1≤E2) (Bf:E2≤20) (hb1:-10000≤b) (hb2:b≤10000) (hc1:Y1*Y1=M.cv a b X1 E1) (hc2:Y2*Y2=M.cv a b X2 E2) (g1:Int.gcd X1 E1=1) (g2:Int.gcd X2 E2=1) :
  Calls Tryz.prog 87 #[.agg #[.int .i64 a,.int .i64 b],.agg #[.int .i64 X1,.int .i64 Y1,.int .i64 E1],.agg #[.int .i64 X2,.int .i64 Y2,.int .i64 E2]] w fun e w'=>e=.returned (.tuple #[.agg #[.int .i64 (M.BP a X1 Y1 E1 X2 Y2 E2),.int .i64 (M.Be a X1 Y1 E1 X2 Y2 E2),.int .i64 (M.Ai a X1 Y1 E1 X2 Y2 E2)],.bool (M.gM a X1 Y1 E1 X2 Y2 E2)])∧Below w.heap.size w w':=by
 have hE1:(E1 == 0)=false:=by rw [beq_eq_false_iff_ne];omega
 have hE2:(E2 == 0)=false:=by rw [beq_eq_false_iff_ne];omega
 have PO:=wH fun W=>jq X2 Y2 E2 W (by omega) (by omega)
 have hop:=M.oy hc1 hc2 he1 BD g1 g2
 by_cases h0:M.sD X1 Y1 E1 X2 Y2 E2=0
 ·obtain ⟨k1,k2,k3⟩:=hop.1 h0
  have hf:=wH (show M.BP a X1 Y1 E1 X2 Y2 E2=0∧M.Be a X1 Y1 E1 X2 Y2 E2=0∧M.Ai a X1 Y1 E1 X2 Y2 E2=0∧M.gM a X1 Y1 E1 X2 Y2 E2=true from ⟨if_pos h0,if_pos h0,if_pos h0,if_pos h0⟩);rw [hf.out.1,hf.out.2.1,hf.out.2.2.1,hf.out.2.2.2];have heq:=wH (show X1=X2∧Y1=-Y2∧E1=E2 from ⟨k1,k2,k3⟩);clear hf h0 hc1 hc2 hop k1 k2 k3 g1 g2;have C:=(((aH.new w #[.int .i64 a,.int .i64 b] 25).alloc (.cells #[.int .i64 X1,.int .i64 Y1,.int .i64 E1] 27)).alloc (.cells #[.int .i64 X2,.int .i64 Y2,.int .i64 E2] 27)).alloc (.cells #[.int .i64 0,.int .i64 0,.int .i64 0] 27);have Q:=((aH.new (w.alloc (.cells #[.int .i64 a,.int .i64 b] 25)) #[.int .i64 X1,.int .i64 Y1,.int .i64 E1] 27).alloc (.cells #[.int .i64 X2,.int .i64 Y2,.int .i64 E2] 27)).alloc (.cells #[.int .i64 0,.int .i64 0,.int .i64 0] 27);rw [wI] at Q;have U:=(aH.new ((w.alloc (.cells #[.int .i64 a,.int .i64 b] 25)).alloc (.cells #[.int .i64 X1,.int .i64 Y1,.int .i64 E1] 27)) #[.int .i64 X2,.int .i64 Y2,.int .i64 E2] 27).alloc (.cells #[.int .i64 0,.int .i64 0,.int .i64 0] 27);rw [wI,wI] at U;have R:=aH.new (((w.alloc (.cells #[.int .i64 a,.int .i64 b] 25)).alloc (.cells #[.int .i64 X1,.int .i64 Y1,.int .i64 E1] 27)).alloc (.cells #[.int .i64 X2,.int .i64 Y2,.int .i64 E2] 27)) #[.int .i64 0,.int .i64 0,.int .i64 0] 27;rw [wI,wI,wI] at R;have B:=((((wK w.heap.size w).alloc (wL _) (.cells #[.int .i64 a,.int .i64 b] 25)).alloc (by rw [wI];omega) (.cells #[.int .i64 X1,.int .i64 Y1,.int .i64 E1] 27)).alloc (by rw [wI,wI];omega) (.cells #[.int .i64 X2,.int .i64 Y2,.int .i64 E2] 27)).alloc (by rw [wI,wI,wI];omega) (.cells #[.int .i64 0,.int .i64 0,.int .i64 0] 27);generalize hw3:(((w.alloc (.cells #[.int .i64 a,.int .i64 b] 25)).alloc (.cells #[.int .i64 X1,.int .i64 Y1,.int .i64 E1] 27)).alloc (.cells #[.int .i64 X2,.int .i64 Y2,.int .i64 E2] 27)).alloc (.cells #[.int .i64 0,.int .i64 0,.int .i64 0] 27)=wc at *;have f_:=C.box.c0;have g_:=C.box.c1;have ⟨q0,q1,q2⟩:=Q.aK;have ⟨u0,u1,u2⟩:=U.aK;have ⟨r0,r1,r2⟩:=R.aK;go_enter Tryz.func87,Tryz.ntmps87
  go_wp2
  go_upto_region 5 with fail
  refine Rg.bO 5 [.is (.agg #[.int .i64 X1,.int .i64 Y1,.int .i64 E1]),.is (.agg #[.int .i64 X2,.int .i64 Y2,.int .i64 E2]),.is (.agg #[.int .i64 X2,.int .i64 (-Y2),.int .i64 E2]),.is (.bool true),.is (.bool true)] (by kernel_rfl) (by kernel_rfl) (by kernel_rfl) ⟨?_,?_,?_,?_,?_,trivial⟩ ?_
  ·intro _ zZ w_ hB hr
   have e4:zZ.tmps[4]?=some (.pointer (some ⟨w.heap.size+1,0,none⟩)):=hr 4 (by decide);have k0:=aE hB q0;have k1:=aE hB q1;have k2:=aE hB q2;exact Rg.aG rfl (by go_simp)
  ·intro _ zZ w_ hB hr
   have e5:zZ.tmps[5]?=some (.pointer (some ⟨w.heap.size+1+1,0,none⟩)):=hr 5 (by decide);have k0:=aE hB u0;have k1:=aE hB u1;have k2:=aE hB u2;exact Rg.aG rfl (by go_simp)
  ·intro _ zZ w_ hB hr
   have e33:=Rg.c_ (hr 33 (by decide));have ef:=Rg.ef zZ;exact Rg.bo rfl (by go_simp) (PO.out _)
  ·intro _ zZ w_ hB hr
   have e32:=Rg.c_ (hr 32 (by decide));have e34:=Rg.c_ (hr 34 (by decide));exact Rg.aG rfl (by go_simp;first | done | (simp [heq.out];done) | (exact fun x y z=>heq.out ⟨x,y,z⟩))
  ·intro _ zZ w_ hB hr
   have e35:=Rg.c_ (hr 35 (by decide));exact Rg.aG rfl (by go_simp)
  intro vals wz Et hv hne;have As:vals 4=.bool true:=hv 4 (by decide);simp only [Rg.ay,Rg.fill,Act.put,Nat.reduceAdd];clear hv;simp only [As];clear As;unfold Rg.aZ
  (replace B:=d_ B Et);replace R:=R.keep Et;(obtain ⟨r0,r1,r2⟩:=R.aK);have f0:=R.xC 0;have f1:=R.xC 1;have f2:=R.xC 2;(have rl:=R.lt)
  go_wp2;exact bodyPost_ret (v:=.tuple #[.agg #[.int .i64 0,.int .i64 0,.int .i64 0],.bool true]) (by simp [results,Tryz.results87,go_sem, *]) rfl (⟨rfl,wJ (wJ (wJ B (by simp;omega) _) (by simp;omega) _) (by simp;omega) _⟩)
 have hni:¬ (X1=X2∧Y1=-Y2∧E1=E2):=fun k=>h0 (hop.2 k)
 have heq:=wH hni;have hsb:=M.un (a:=a) ha1 ha2 hx1 hx2 hy1 hy2 he1 he2 hx3 hx4 hy3 hy4 BD Bf;obtain ⟨-,hd0,-,hsn,hsd⟩:=M.pM (a:=a) h0;have hpn:=M.vY (a:=a) h0
 have hcore:=fun n m=>M.kr (n:=n) (m:=m) hc1 hc2 hx2 hx4 he1 he2 BD Bf h0
 have hno:=M.oi (a:=a) h0
 have PS:=fun W=>th a b X1 Y1 E1 X2 Y2 E2 W ha1 ha2 hx1 hx2 hy1 hy2 he1 he2 hx3 hx4 hy3 hy4 BD Bf
 have hg0:M.gcd (M.sN a X1 Y1 E1 X2 Y2 E2) (M.sD X1 Y1 E1 X2 Y2 E2)≠0:=by
  unfold M.gcd;intro h;have:=Int.gcd_eq_zero_iff.1 (Int.ofNat_eq_zero.1 h);exact h0 this.2
 have PG:=fun W=>ji (M.sN a X1 Y1 E1 X2 Y2 E2) (M.sD X1 Y1 E1 X2 Y2 E2) W (by omega) (by omega) (by omega) (by omega)
 obtain ⟨n,hn⟩:∃ n,Hid ((M.sN a X1 Y1 E1 X2 Y2 E2).tdiv (M.gcd (M.sN a X1 Y1 E1 X2 Y2 E2) (M.sD X1 Y1 E1 X2 Y2 E2))=n):=⟨_,wH rfl⟩
 obtain ⟨m,hm⟩:∃ m,Hid ((M.sD X1 Y1 E1 X2 Y2 E2).tdiv (M.gcd (M.sN a X1 Y1 E1 X2 Y2 E2) (M.sD X1 Y1 E1 X2 Y2 E2))=m):=⟨_,wH rfl⟩
 rw [hn.out,hm.out] at hpn;obtain ⟨hm0,H1,H2⟩:=hcore n m hpn
 have hnb:(-200000000000≤n∧n≤200000000000)∧-200000000000≤m∧m≤200000000000:=by
  clear hcore H1 H2 hno hop;omega
 clear hcore hpn hsn hsd hd0 hop hni;generalize M.sD X1 Y1 E1 X2 Y2 E2=D0,M.sN a X1 Y1 E1 X2 Y2 E2=N0,M.gcd (M.sN a X1 Y1 E1 X2 Y2 E2) (M.sD X1 Y1 E1 X2 Y2 E2)=g at *;generalize hX:M.BP a X1 Y1 E1 X2 Y2 E2=X at *;generalize hY:M.Be a X1 Y1 E1 X2 Y2 E2=Y at *;generalize hE:M.Ai a X1 Y1 E1 X2 Y2 E2=E at *;generalize M.gM a X1 Y1 E1 X2 Y2 E2=K at *
 have hgb:(g == 0)=false:=by rw [beq_eq_false_iff_ne];exact hg0
 obtain ⟨⟨n1,n2⟩,m1,m2⟩:=hnb;replace H1:=wH H1;replace H2:=wH (fun k=>H2 k X Y E rfl rfl rfl);replace hno:=wH hno;replace PS:=wH PS;replace PG:=wH PG;have hm0:=wH hm0;clear hc1 hc2 g1 g2 hX hY hE;have zn:=Wh.bc (n:=n) (by omega) (by omega);have zm:=Wh.bc (n:=m) (by omega) (by omega);have sb1:=M.aL (x:=E1) (y:=E1) (m:=20) (n:=20) (by omega) (by omega) (by omega) (by omega);have Jn:=M.aL (x:=E1*E1) (y:=E2) (m:=400) (n:=20) (by omega) (by omega) (by omega) (by omega);have Jo:=M.aL (x:=E1*E1*E2) (y:=E2) (m:=8000) (n:=20) (by omega) (by omega) (by omega) (by omega);have Jp:=M.aL (x:=X1) (y:=E2) (m:=10000) (n:=20) (by omega) (by omega) (by omega) (by omega);have Jq:=M.aL (x:=X1*E2) (y:=E2) (m:=200000) (n:=20) (by omega) (by omega) (by omega) (by omega);have Jr:=M.aL (x:=X2) (y:=E1) (m:=10000) (n:=20) (by omega) (by omega) (by omega) (by omega);have Js:=M.aL (x:=X2*E1) (y:=E1) (m:=200000) (n:=20) (by omega) (by omega) (by omega) (by omega);have ze:=Wh.bc (n:=E1*E1*E2*E2) (by omega) (by omega);have zq:=Wh.bc (n:=X1*E2*E2+X2*E1*E1) (by omega) (by omega);have JJ:=Wh.bB zm zm;have O5:=Wh.bB zn zn;have O0:=Wh.bB O5 ze;have Oz:=Wh.bB JJ zq;have O6:=Wh.ie Oz;have zt:=Wh.fm O0 (Wh.aN O6 (show 5+5+5≤5+5+5 by omega));have zb:=Wh.bB JJ ze;have tT:=M.rj n m X1 E1 X2 E2;have tB:=M.ri m E1 E2
 have P1:=fun W=>bj (m) W (by omega) (by omega)
 have P2:=fun W=>bj (n) W (by omega) (by omega)
 have P3:=fun W=>bj (E1*E1*E2*E2) W (by omega) (by omega)
 have P4:=fun W=>bj (X1*E2*E2+X2*E1*E1) W (by omega) (by omega)
 have P5:=fun v v' W k k' (h:aF W k v (Wh.a_ (m).natAbs)) (h':aF W k' v' (Wh.a_ (m).natAbs))=>ci (m) (m) v v' W k k' h h' (Wh.aY.2 (Wh.aN zm (by omega))) (Wh.aY.2 (Wh.aN zm (by omega)))
 have P6:=fun v v' W k k' (h:aF W k v (Wh.a_ (n).natAbs)) (h':aF W k' v' (Wh.a_ (n).natAbs))=>ci (n) (n) v v' W k k' h h' (Wh.aY.2 (Wh.aN zn (by omega))) (Wh.aY.2 (Wh.aN zn (by omega)))
 have P7:=fun v v' W k k' (h:aF W k v (Wh.a_ (n*n).natAbs)) (h':aF W k' v' (Wh.a_ (E1*E1*E2*E2).natAbs))=>ci (n*n) (E1*E1*E2*E2) v v' W k k' h h' (Wh.aY.2 (Wh.aN O5 (by omega))) (Wh.aY.2 (Wh.aN ze (by omega)))
 have P8:=fun v v' W k k' (h:aF W k v (Wh.a_ (m*m).natAbs)) (h':aF W k' v' (Wh.a_ (X1*E2*E2+X2*E1*E1).natAbs))=>ci (m*m) (X1*E2*E2+X2*E1*E1) v v' W k k' h h' (Wh.aY.2 (Wh.aN JJ (by omega))) (Wh.aY.2 (Wh.aN zq (by omega)))
 have P9:=fun v W k (h:aF W k v (Wh.a_ (m*m*(X1*E2*E2+X2*E1*E1)).natAbs))=>iW (m*m*(X1*E2*E2+X2*E1*E1)) v W k h (Wh.aY.2 (Wh.aN Oz (by omega)))
 have PA:=fun v v' W k k' (h:aF W k v (Wh.a_ (n*n*(E1*E1*E2*E2)).natAbs)) (h':aF W k' v' (Wh.a_ (-(m*m*(X1*E2*E2+X2*E1*E1))).natAbs))=>fS (n*n*(E1*E1*E2*E2)) (-(m*m*(X1*E2*E2+X2*E1*E1))) v v' W k k' h h' (Wh.aY.2 (Wh.aN O0 (by omega))) (Wh.aY.2 (Wh.aN O6 (by omega)))
 have PB:=fun v v' W k k' (h:aF W k v (Wh.a_ (m*m).natAbs)) (h':aF W k' v' (Wh.a_ (E1*E1*E2*E2).natAbs))=>ci (m*m) (E1*E1*E2*E2) v v' W k k' h h' (Wh.aY.2 (Wh.aN JJ (by omega))) (Wh.aY.2 (Wh.aN ze (by omega)))
 rw [tT] at PA zt;rw [tB] at PB zb;have hbp:0<M.bot m E1 E2:=M.jH hm0.out (by omega) (by omega);have hTe:=wH (rfl:M.top n m X1 E1 X2 E2=M.top n m X1 E1 X2 E2);generalize M.bot m E1 E2=Bt,M.top n m X1 E1 X2 E2=T at *;clear tT tB hTe zn zm ze zq O5 O0 Oz O6 JJ;generalize n*n=nn,m*m=mm,n*n*(E1*E1*E2*E2)=ne,m*m*(X1*E2*E2+X2*E1*E1)=mq,-(m*m*(X1*E2*E2+X2*E1*E1))=nq at *;replace P1:=wH P1;replace P2:=wH P2;replace P3:=wH P3;replace P4:=wH P4;replace P5:=wH P5;replace P6:=wH P6;replace P7:=wH P7;replace P8:=wH P8;replace P9:=wH P9;replace PA:=wH PA;replace PB:=wH PB;have C:=(((aH.new w #[.int .i64 a,.int .i64 b] 25).alloc (.cells #[.int .i64 X1,.int .i64 Y1,.int .i64 E1] 27)).alloc (.cells #[.int .i64 X2,.int .i64 Y2,.int .i64 E2] 27)).alloc (.cells #[.int .i64 0,.int .i64 0,.int .i64 0] 27);have Q:=((aH.new (w.alloc (.cells #[.int .i64 a,.int .i64 b] 25)) #[.int .i64 X1,.int .i64 Y1,.int .i64 E1] 27).alloc (.cells #[.int .i64 X2,.int .i64 Y2,.int .i64 E2] 27)).alloc (.cells #[.int .i64 0,.int .i64 0,.int .i64 0] 27);rw [wI] at Q;have U:=(aH.new ((w.alloc (.cells #[.int .i64 a,.int .i64 b] 25)).alloc (.cells #[.int .i64 X1,.int .i64 Y1,.int .i64 E1] 27)) #[.int .i64 X2,.int .i64 Y2,.int .i64 E2] 27).alloc (.cells #[.int .i64 0,.int .i64 0,.int .i64 0] 27);rw [wI,wI] at U;have R:=aH.new (((w.alloc (.cells #[.int .i64 a,.int .i64 b] 25)).alloc (.cells #[.int .i64 X1,.int .i64 Y1,.int .i64 E1] 27)).alloc (.cells #[.int .i64 X2,.int .i64 Y2,.int .i64 E2] 27)) #[.int .i64 0,.int .i64 0,.int .i64 0] 27;rw [wI,wI,wI] at R;have B:=((((wK w.heap.size w).alloc (wL _) (.cells #[.int .i64 a,.int .i64 b] 25)).alloc (by rw [wI];omega) (.cells #[.int .i64 X1,.int .i64 Y1,.int .i64 E1] 27)).alloc (by rw [wI,wI];omega) (.cells #[.int .i64 X2,.int .i64 Y2,.int .i64 E2] 27)).alloc (by rw [wI,wI,wI];omega) (.cells #[.int .i64 0,.int .i64 0,.int .i64 0] 27);generalize hw3:(((w.alloc (.cells #[.int .i64 a,.int .i64 b] 25)).alloc (.cells #[.int .i64 X1,.int .i64 Y1,.int .i64 E1] 27)).alloc (.cells #[.int .i64 X2,.int .i64 Y2,.int .i64 E2] 27)).alloc (.cells #[.int .i64 0,.int .i64 0,.int .i64 0] 27)=wc at *;have f_:=C.box.c0;have g_:=C.box.c1;have ⟨q0,q1,q2⟩:=Q.aK;have ⟨u0,u1,u2⟩:=U.aK;have ⟨r0,r1,r2⟩:=R.aK;go_enter Tryz.func87,Tryz.ntmps87
 go_wp2
 go_upto_region 5 with fail
 refine Rg.bO 5 [.is (.agg #[.int .i64 X1,.int .i64 Y1,.int .i64 E1]),.is (.agg #[.int .i64 X2,.int .i64 Y2,.int .i64 E2]),.is (.agg #[.int .i64 X2,.int .i64 (-Y2),.int .i64 E2]),.is (.bool false),.is (.bool false)] (by kernel_rfl) (by kernel_rfl) (by kernel_rfl) ⟨?_,?_,?_,?_,?_,trivial⟩ ?_
 ·intro _ zZ w_ hB hr
  have e4:zZ.tmps[4]?=some (.pointer (some ⟨w.heap.size+1,0,none⟩)):=hr 4 (by decide);have k0:=aE hB q0;have k1:=aE hB q1;have k2:=aE hB q2;exact Rg.aG rfl (by go_simp)
 ·intro _ zZ w_ hB hr
  have e5:zZ.tmps[5]?=some (.pointer (some ⟨w.heap.size+1+1,0,none⟩)):=hr 5 (by decide);have k0:=aE hB u0;have k1:=aE hB u1;have k2:=aE hB u2;exact Rg.aG rfl (by go_simp)
 ·intro _ zZ w_ hB hr
  have e33:=Rg.c_ (hr 33 (by decide));have ef:=Rg.ef zZ;exact Rg.bo rfl (by go_simp) (PO.out _)
 ·intro _ zZ w_ hB hr
  have e32:=Rg.c_ (hr 32 (by decide));have e34:=Rg.c_ (hr 34 (by decide));exact Rg.aG rfl (by go_simp;first | done | (simp [heq.out];done) | (exact fun x y z=>heq.out ⟨x,y,z⟩))
 ·intro _ zZ w_ hB hr
  have e35:=Rg.c_ (hr 35 (by decide));exact Rg.aG rfl (by go_simp)
 intro vals wz Et hv hne;have As:vals 4=.bool false:=hv 4 (by decide);simp only [Rg.ay,Rg.fill,Act.put,Nat.reduceAdd];clear hv;simp only [As];clear As;unfold Rg.aZ
 (replace B:=d_ B Et);replace C:=C.keep Et;replace Q:=Q.keep Et;replace U:=U.keep Et;replace R:=R.keep Et;have f_:=C.box.c0;have g_:=C.box.c1;(obtain ⟨q0,q1,q2⟩:=Q.aK);(obtain ⟨u0,u1,u2⟩:=U.aK);(obtain ⟨r0,r1,r2⟩:=R.aK)
 clear Et
 go_upto_region 9 with first | (go_at_call 137;(with_reducible refine (PS.out _).mono ?_);rintro e w4 ⟨rfl,hb4⟩;replace B:=d_ B hb4;replace C:=C.keep hb4;replace Q:=Q.keep hb4;replace U:=U.keep hb4;replace R:=R.keep hb4;have f_:=C.box.c0;have g_:=C.box.c1;(obtain ⟨q0,q1,q2⟩:=Q.aK);(obtain ⟨u0,u1,u2⟩:=U.aK);(obtain ⟨r0,r1,r2⟩:=R.aK)) | (go_at_call 114;(with_reducible refine (PG.out _).mono ?_);rintro e w5 ⟨rfl,j5,rfl⟩;have hb5:=aM (wK w4.heap.size w4) j5;replace B:=d_ B hb5;replace C:=C.keep hb5;replace Q:=Q.keep hb5;replace U:=U.keep hb5;replace R:=R.keep hb5;have f_:=C.box.c0;have g_:=C.box.c1;(obtain ⟨q0,q1,q2⟩:=Q.aK);(obtain ⟨u0,u1,u2⟩:=U.aK);(obtain ⟨r0,r1,r2⟩:=R.aK))
 have hN1:=hsb;have hnn:=hn.out;have hmm:=hm.out
 go_cut [8,9] (fun p q wx=>p=.int .i64 n∧q=.int .i64 m∧aH wx w.heap.size 25 #[.int .i64 a,.int .i64 b]∧aH wx (w.heap.size+1) 27 #[.int .i64 X1,.int .i64 Y1,.int .i64 E1]∧aH wx (w.heap.size+1+1) 27 #[.int .i64 X2,.int .i64 Y2,.int .i64 E2]∧aH wx (w.heap.size+1+1+1) 27 #[.int .i64 0,.int .i64 0,.int .i64 0]∧Below w.heap.size w wx)
 case first=>
  go_region
  all_goals
   go_wp2_with fail
   go_meet
   exact ⟨rfl,rfl,C.drew,Q.drew,U.drew,R.drew,B.trans ((aM (wK _ _) 1).mono B.size)⟩
 case rest=>
 obtain ⟨rfl,rfl,C,Q,U,R,B⟩:=hcut;clear hN1 hnn hmm hn hm n1 n2 hsb hg0 hgb PS PG PO heq hw3
 have AN:w.heap.size+4≤wc.heap.size:=by have:=R.lt;omega
 go_upto_region 10 with fail
 go_cut [11] (fun p wx=>∃ ga:Nat,p=.pointer (some ⟨ga,0,none⟩)∧w.heap.size+4≤ga∧aH wx w.heap.size 25 #[.int .i64 a,.int .i64 b]∧aH wx (w.heap.size+1) 27 #[.int .i64 X1,.int .i64 Y1,.int .i64 E1]∧aH wx (w.heap.size+1+1) 27 #[.int .i64 X2,.int .i64 Y2,.int .i64 E2]∧aH wx (w.heap.size+1+1+1) 27 #[.int .i64 0,.int .i64 0,.int .i64 0]∧Below w.heap.size w wx∧AJ wx ga (mm))
 case first=>
  go_wp2_with first | (go_at_call 138;(with_reducible refine (P5.out _ _ _ _ _ o4 o5).mono ?_);rintro e w6 ⟨v6,rfl,o6,hb6⟩;(replace o6:aF _ _ _ _:=o6);replace B:=d_ B hb6;replace C:=C.keep hb6;replace Q:=Q.keep hb6;replace U:=U.keep hb6;replace R:=R.keep hb6;have f_:=C.box.c0;have g_:=C.box.c1;(obtain ⟨q0,q1,q2⟩:=Q.aK);(obtain ⟨u0,u1,u2⟩:=U.aK);(obtain ⟨r0,r1,r2⟩:=R.aK);obtain ⟨av,cv,rfl,xD,wS⟩:=aF.view o6;clear xD wS;have V:=aH.new w6 #[.bool false,.slice none 0 0] 125;have V0:=V.box.c0;have V1:=V.box.c1;have V2:=V.box.f0;have V3:=V.box.f1;have M0:=gP w6 (.bool (decide (mm<0))) (.slice av (Wh.a_ (mm).natAbs).length cv);have M1:=AJ.made o6) | ((have _t:=o4);clear _t;go_at_call 139;(with_reducible refine (P1.out _).mono ?_);rintro e w5 ⟨v5,rfl,o5,hb5⟩;(replace o5:aF _ _ _ _:=o5);replace B:=d_ B hb5;replace C:=C.keep hb5;replace Q:=Q.keep hb5;replace U:=U.keep hb5;replace R:=R.keep hb5;replace o4:=aF.below o4 hb5;have f_:=C.box.c0;have g_:=C.box.c1;(obtain ⟨q0,q1,q2⟩:=Q.aK);(obtain ⟨u0,u1,u2⟩:=U.aK);(obtain ⟨r0,r1,r2⟩:=R.aK)) | (go_at_call 139;(with_reducible refine (P1.out _).mono ?_);rintro e w4 ⟨v4,rfl,o4,hb4⟩;(replace o4:aF _ _ _ _:=o4);replace B:=d_ B hb4;replace C:=C.keep hb4;replace Q:=Q.keep hb4;replace U:=U.keep hb4;replace R:=R.keep hb4;have f_:=C.box.c0;have g_:=C.box.c1;(obtain ⟨q0,q1,q2⟩:=Q.aK);(obtain ⟨u0,u1,u2⟩:=U.aK);(obtain ⟨r0,r1,r2⟩:=R.aK))
  go_meet
  exact ⟨w6.heap.size,rfl,by have:=R.lt;omega,C.keep M0,Q.keep M0,U.keep M0,R.keep M0,d_ B M0,M1⟩
 case rest=>
 obtain ⟨ga,rfl,ha0,C,Q,U,R,B,MA⟩:=hcut;clear P1 P5 AN
 go_upto_region 11 with fail
 go_cut [12] (fun p wx=>∃ gb:Nat,p=.pointer (some ⟨gb,0,none⟩)∧ga<gb∧aH wx w.heap.size 25 #[.int .i64 a,.int .i64 b]∧aH wx (w.heap.size+1) 27 #[.int .i64 X1,.int .i64 Y1,.int .i64 E1]∧aH wx (w.heap.size+1+1) 27 #[.int .i64 X2,.int .i64 Y2,.int .i64 E2]∧aH wx (w.heap.size+1+1+1) 27 #[.int .i64 0,.int .i64 0,.int .i64 0]∧Below w.heap.size w wx∧AJ wx ga (mm)∧AJ wx gb (E1*E1*E2*E2))
 case first=>
  have f_:=C.box.c0;have g_:=C.box.c1;have ⟨q0,q1,q2⟩:=Q.aK;have ⟨u0,u1,u2⟩:=U.aK;have ⟨r0,r1,r2⟩:=R.aK
  go_wp2_with (go_at_call 139;(with_reducible refine (P3.out _).mono ?_);rintro e w4 ⟨v4,rfl,o4,hb4⟩;(replace o4:aF _ _ _ _:=o4);replace B:=d_ B hb4;replace C:=C.keep hb4;replace Q:=Q.keep hb4;replace U:=U.keep hb4;replace R:=R.keep hb4;replace MA:=MA.keep hb4;have f_:=C.box.c0;have g_:=C.box.c1;(obtain ⟨q0,q1,q2⟩:=Q.aK);(obtain ⟨u0,u1,u2⟩:=U.aK);(obtain ⟨r0,r1,r2⟩:=R.aK);obtain ⟨av,cv,rfl,xD,wS⟩:=aF.view o4;clear xD wS;have V:=aH.new w4 #[.bool false,.slice none 0 0] 125;have V0:=V.box.c0;have V1:=V.box.c1;have V2:=V.box.f0;have V3:=V.box.f1;have M0:=gP w4 (.bool (decide (E1*E1*E2*E2<0))) (.slice av (Wh.a_ (E1*E1*E2*E2).natAbs).length cv);have M1:=AJ.made o4)
  go_meet
  exact ⟨w4.heap.size,rfl,MA.lt,C.keep M0,Q.keep M0,U.keep M0,R.keep M0,d_ B M0,MA.keep M0,M1⟩
 case rest=>
 obtain ⟨gb,rfl,hab,C,Q,U,R,B,MA,MB⟩:=hcut;clear P3
 go_upto_region 12 with fail
 have ⟨sB,aB,lB,cB,hsB,VB,oB⟩:=MB;refine Rg.bO 8 [.is (.int .i64 n),.at (aJ (wc.heap.size) (n)),.is (.int .i64 n),.at (aJ (wc.heap.size) (n)),.at (aJ (wc.heap.size) (nn)),.is (.agg #[.bool sB,.slice aB lB cB]),.at (aJ (wc.heap.size) (ne)),.new (wc.heap.size) 125 #[.bool false,.slice none 0 0]] (by kernel_rfl) (by kernel_rfl) (by kernel_rfl) ⟨?_,?_,?_,?_,?_,?_,?_,?_,fun h_=>absurd h_ (by decide),trivial⟩ ?_
 ·intro _ zZ w_ hB hr
  have e8:zZ.tmps[8]?=some (.int .i64 n):=hr 8 (by decide);exact Rg.aG rfl (by go_simp)
 ·intro _ zZ w_ hB hr
  have e70:=Rg.c_ (hr 70 (by decide));have ef:=Rg.ef zZ;refine Rg.ah rfl (by go_simp;exact ⟨rfl,rfl⟩) ?_;refine (P2.out _).mono ?_;rintro e w5 ⟨xX,rfl,wW,hb5⟩;exact ⟨_,rfl,aJ.at wW (by have:=hB.size;omega),hb5⟩
 ·intro _ zZ w_ hB hr
  have e8:zZ.tmps[8]?=some (.int .i64 n):=hr 8 (by decide);exact Rg.aG rfl (by go_simp)
 ·intro _ zZ w_ hB hr
  have e72:=Rg.c_ (hr 72 (by decide));have ef:=Rg.ef zZ;refine Rg.ah rfl (by go_simp;exact ⟨rfl,rfl⟩) ?_;refine (P2.out _).mono ?_;rintro e w5 ⟨xX,rfl,wW,hb5⟩;exact ⟨_,rfl,aJ.at wW (by have:=hB.size;omega),hb5⟩
 ·intro _ zZ w_ hB hr
  obtain ⟨v71,e71,n71⟩:∃ v,zZ.tmps[71]?=some v∧(Rg.Val.at (aJ (wc.heap.size) (n))).ok v w_:=hr 71 (by decide);obtain ⟨s71,a71,l71,c71,NQ,rfl,o71⟩:=(Rg.aj n71).view;obtain ⟨v73,e73,n73⟩:∃ v,zZ.tmps[73]?=some v∧(Rg.Val.at (aJ (wc.heap.size) (n))).ok v w_:=hr 73 (by decide);obtain ⟨s73,a73,l73,c73,NR,rfl,o73⟩:=(Rg.aj n73).view;have ef:=Rg.ef zZ;refine Rg.ah rfl (by go_simp;exact ⟨rfl,rfl⟩) ?_;obtain rfl:=NQ.out;obtain rfl:=NR.out;refine (P6.out _ _ _ _ _ o71 o73).mono ?_;rintro e w5 ⟨xX,rfl,wW,hb5⟩;exact ⟨_,rfl,aJ.at wW (by have:=hB.size;omega),hb5⟩
 ·intro _ zZ w_ hB hr
  have e12:zZ.tmps[12]?=some (.pointer (some ⟨gb,0,none⟩)):=hr 12 (by decide);have k0:=aE hB VB.box.c0;have k1:=aE hB VB.box.c1;exact Rg.aG rfl (by go_simp)
 ·intro _ zZ w_ hB hr
  obtain ⟨v74,e74,n74⟩:∃ v,zZ.tmps[74]?=some v∧(Rg.Val.at (aJ (wc.heap.size) (nn))).ok v w_:=hr 74 (by decide);obtain ⟨s74,a74,l74,c74,NS,rfl,o74⟩:=(Rg.aj n74).view;have e75:=Rg.c_ (hr 75 (by decide));have ef:=Rg.ef zZ;refine Rg.ah rfl (by go_simp;exact ⟨rfl,rfl⟩) ?_;obtain rfl:=NS.out;rw [hsB.out];refine (P7.out _ _ _ _ _ o74 (aF.below oB hB)).mono ?_;rintro e w5 ⟨xX,rfl,wW,hb5⟩;exact ⟨_,rfl,aJ.at wW (by have:=hB.size;omega),hb5⟩
 ·intro _ zZ w_ hB hr
  exact ⟨by have:=hB.size;omega,rfl,by first | (go_simp;done) | (go_simp;rfl)⟩
 intro vals wz H_ hv hne;have n13:(Rg.Val.new (wc.heap.size) 125 #[.bool false,.slice none 0 0]).ok (vals 7) wz:=hv 7 (by decide);have n76:(Rg.Val.at (aJ (wc.heap.size) (ne))).ok (vals 6) wz:=hv 6 (by decide);simp only [Rg.ay,Rg.fill,Act.put,Nat.reduceAdd];clear hv;obtain ⟨g13,GM,At,IX⟩:=n13;replace IX:aH wz g13 125 #[.bool false,.slice none 0 0]:=IX;obtain ⟨s76,a76,l76,c76,NT,DK,o76⟩:=(Rg.aj n76).view;simp only [At,DK];clear At DK;have hB2:Below wc.heap.size wc ((wz.setCell ⟨g13,0,none⟩ (.bool s76)).setCell ⟨g13,1,none⟩ (.slice a76 l76 c76)):=wJ (wJ H_ GM _) GM _;have ⟨c0,c1,f0,f1,_⟩:=IX.box;have MC:=AJ.put IX NT o76;have hlt:=MB.lt;unfold Rg.aZ Rg.aZ Oper.wp
 go_simp
 clear c0 c1 f0 f1 IX VB oB;replace MA:=MA.keep hB2;replace MB:=MB.keep hB2;replace C:=C.keep hB2;replace Q:=Q.keep hB2;replace U:=U.keep hB2;replace R:=R.keep hB2;replace B:=d_ B hB2
 have hbc:gb<g13:=by omega
 clear hB2 H_ hlt GM P2 P6 P7;generalize ((wz.setCell ⟨g13,0,none⟩ (.bool s76)).setCell ⟨g13,1,none⟩ (.slice a76 l76 c76))=wd at *
 skip
 have f_:=C.box.c0;have g_:=C.box.c1;have ⟨q0,q1,q2⟩:=Q.aK;have ⟨u0,u1,u2⟩:=U.aK;have ⟨r0,r1,r2⟩:=R.aK
 go_upto_region 13 with fail
 obtain ⟨e1,e2,e3,e4,e5,e6⟩:w.heap.size≤g13∧ga≠g13∧gb≠g13∧w.heap.size≠g13∧w.heap.size+1≠g13∧w.heap.size+1+1+1≠g13:=⟨by omega,by omega,by omega,by omega,by omega,by omega⟩
 have ⟨sA,aA,lA,cA,hsA,VA,oA⟩:=MA;have ⟨sC,aC,lC,cC,hsC,VC,oC⟩:=MC;refine Rg.bO 23 [.is (.agg #[.bool sC,.slice aC lC cC]),.is (.agg #[.bool sA,.slice aA lA cA]),.is (.pointer (some ⟨w.heap.size+1,0,none⟩)),.is (.int .i64 X1),.is (.pointer (some ⟨w.heap.size+1+1,2,none⟩)),.is (.int .i64 E2),.is (.int .i64 (X1*E2)),.is (.pointer (some ⟨w.heap.size+1+1,2,none⟩)),.is (.int .i64 E2),.is (.int .i64 ((X1*E2)*E2)),.is (.pointer (some ⟨w.heap.size+1+1,0,none⟩)),.is (.int .i64 X2),.is (.pointer (some ⟨w.heap.size+1,2,none⟩)),.is (.int .i64 E1),.is (.int .i64 (X2*E1)),.is (.pointer (some ⟨w.heap.size+1,2,none⟩)),.is (.int .i64 E1),.is (.int .i64 ((X2*E1)*E1)),.is (.int .i64 (((X1*E2)*E2)+((X2*E1)*E1))),.at (aJ (wd.heap.size) (X1*E2*E2+X2*E1*E1)),.at (aJ (wd.heap.size) (mq)),.at (aJ (wd.heap.size) (nq)),.at (aJ (wd.heap.size) (T))] (by kernel_rfl) (by kernel_rfl) (by kernel_rfl) ⟨?_,?_,?_,?_,?_,?_,?_,?_,?_,?_,?_,?_,?_,?_,?_,?_,?_,?_,?_,?_,?_,?_,?_,fun h_=>absurd h_ (by decide),trivial⟩ ?_
 ·intro _ zZ w_ hB hr
  have e13:zZ.tmps[13]?=some (.pointer (some ⟨g13,0,none⟩)):=hr 13 (by decide);have k0:=aE hB VC.box.c0;have k1:=aE hB VC.box.c1;exact Rg.aG rfl (by go_simp)
 ·intro _ zZ w_ hB hr
  have e11:zZ.tmps[11]?=some (.pointer (some ⟨ga,0,none⟩)):=hr 11 (by decide);have k0:=aE hB VA.box.c0;have k1:=aE hB VA.box.c1;exact Rg.aG rfl (by go_simp)
 ·intro _ zZ w_ hB hr
  have e4:zZ.tmps[4]?=some (.pointer (some ⟨w.heap.size+1,0,none⟩)):=hr 4 (by decide);exact Rg.aG rfl (by go_simp)
 ·intro _ zZ w_ hB hr
  have e79:=Rg.c_ (hr 79 (by decide));have k0:=aE hB q0;exact Rg.aG rfl (by go_simp)
 ·intro _ zZ w_ hB hr
  have e5:zZ.tmps[5]?=some (.pointer (some ⟨w.heap.size+1+1,0,none⟩)):=hr 5 (by decide);exact Rg.aG rfl (by go_simp)
 ·intro _ zZ w_ hB hr
  have e81:=Rg.c_ (hr 81 (by decide));have k2:=aE hB u2;exact Rg.aG rfl (by go_simp)
 ·intro _ zZ w_ hB hr
  have e80:=Rg.c_ (hr 80 (by decide));have e82:=Rg.c_ (hr 82 (by decide));exact Rg.aG rfl (by go_simp <;> exact Rg.wo (by omega))
 ·intro _ zZ w_ hB hr
  have e5:zZ.tmps[5]?=some (.pointer (some ⟨w.heap.size+1+1,0,none⟩)):=hr 5 (by decide);exact Rg.aG rfl (by go_simp)
 ·intro _ zZ w_ hB hr
  have e84:=Rg.c_ (hr 84 (by decide));have k2:=aE hB u2;exact Rg.aG rfl (by go_simp)
 ·intro _ zZ w_ hB hr
  have e83:=Rg.c_ (hr 83 (by decide));have e85:=Rg.c_ (hr 85 (by decide));exact Rg.aG rfl (by go_simp <;> exact Rg.wo (by omega))
 ·intro _ zZ w_ hB hr
  have e5:zZ.tmps[5]?=some (.pointer (some ⟨w.heap.size+1+1,0,none⟩)):=hr 5 (by decide);exact Rg.aG rfl (by go_simp)
 ·intro _ zZ w_ hB hr
  have e87:=Rg.c_ (hr 87 (by decide));have k0:=aE hB u0;exact Rg.aG rfl (by go_simp)
 ·intro _ zZ w_ hB hr
  have e4:zZ.tmps[4]?=some (.pointer (some ⟨w.heap.size+1,0,none⟩)):=hr 4 (by decide);exact Rg.aG rfl (by go_simp)
 ·intro _ zZ w_ hB hr
  have e89:=Rg.c_ (hr 89 (by decide));have k2:=aE hB q2;exact Rg.aG rfl (by go_simp)
 ·intro _ zZ w_ hB hr
  have e88:=Rg.c_ (hr 88 (by decide));have e90:=Rg.c_ (hr 90 (by decide));exact Rg.aG rfl (by go_simp <;> exact Rg.wo (by omega))
 ·intro _ zZ w_ hB hr
  have e4:zZ.tmps[4]?=some (.pointer (some ⟨w.heap.size+1,0,none⟩)):=hr 4 (by decide);exact Rg.aG rfl (by go_simp)
 ·intro _ zZ w_ hB hr
  have e92:=Rg.c_ (hr 92 (by decide));have k2:=aE hB q2;exact Rg.aG rfl (by go_simp)
 ·intro _ zZ w_ hB hr
  have e91:=Rg.c_ (hr 91 (by decide));have e93:=Rg.c_ (hr 93 (by decide));exact Rg.aG rfl (by go_simp <;> exact Rg.wo (by omega))
 ·intro _ zZ w_ hB hr
  have e86:=Rg.c_ (hr 86 (by decide));have e94:=Rg.c_ (hr 94 (by decide));exact Rg.aG rfl (by go_simp <;> exact Rg.wo (by omega))
 ·intro _ zZ w_ hB hr
  have e95:=Rg.c_ (hr 95 (by decide));have ef:=Rg.ef zZ;refine Rg.ah rfl (by go_simp;exact ⟨rfl,rfl⟩) ?_;refine (P4.out _).mono ?_;rintro e w5 ⟨xX,rfl,wW,hb5⟩;exact ⟨_,rfl,aJ.at wW (by have:=hB.size;omega),hb5⟩
 ·intro _ zZ w_ hB hr
  have e78:=Rg.c_ (hr 78 (by decide));obtain ⟨v96,e96,n96⟩:∃ v,zZ.tmps[96]?=some v∧(Rg.Val.at (aJ (wd.heap.size) (X1*E2*E2+X2*E1*E1))).ok v w_:=hr 96 (by decide);obtain ⟨s96,a96,l96,c96,NU,rfl,o96⟩:=(Rg.aj n96).view;have ef:=Rg.ef zZ;refine Rg.ah rfl (by go_simp;exact ⟨rfl,rfl⟩) ?_;obtain rfl:=NU.out;rw [hsA.out];refine (P8.out _ _ _ _ _ (aF.below oA hB) o96).mono ?_;rintro e w5 ⟨xX,rfl,wW,hb5⟩;exact ⟨_,rfl,aJ.at wW (by have:=hB.size;omega),hb5⟩
 ·intro _ zZ w_ hB hr
  obtain ⟨v97,e97,n97⟩:∃ v,zZ.tmps[97]?=some v∧(Rg.Val.at (aJ (wd.heap.size) (mq))).ok v w_:=hr 97 (by decide);obtain ⟨s97,a97,l97,c97,NV,rfl,o97⟩:=(Rg.aj n97).view;have ef:=Rg.ef zZ;refine Rg.ah rfl (by go_simp;exact ⟨rfl,rfl⟩) ?_;obtain rfl:=NV.out;refine (P9.out _ _ _ o97).mono ?_;rintro e w5 ⟨xX,rfl,wW,hb5⟩;exact ⟨_,rfl,aJ.at wW (by have:=hB.size;omega),hb5⟩
 ·intro _ zZ w_ hB hr
  have e77:=Rg.c_ (hr 77 (by decide));obtain ⟨v98,e98,n98⟩:∃ v,zZ.tmps[98]?=some v∧(Rg.Val.at (aJ (wd.heap.size) (nq))).ok v w_:=hr 98 (by decide);obtain ⟨s98,a98,l98,c98,NW,rfl,o98⟩:=(Rg.aj n98).view;have ef:=Rg.ef zZ;refine Rg.ah rfl (by go_simp;exact ⟨rfl,rfl⟩) ?_;obtain rfl:=NW.out;rw [hsC.out];refine (PA.out _ _ _ _ _ (aF.below oC hB) o98).mono ?_;rintro e w5 ⟨xX,rfl,wW,hb5⟩;exact ⟨_,rfl,aJ.at wW (by have:=hB.size;omega),hb5⟩
 intro vals wy EG hv hne;have n99:(Rg.Val.at (aJ (wd.heap.size) (T))).ok (vals 22) wy:=hv 22 (by decide);simp only [Rg.ay,Rg.fill,Act.put,Nat.reduceAdd];clear hv;obtain ⟨Gy,Fs,Gi,F_,NX,ED,o99⟩:=(Rg.aj n99).view;simp only [ED];clear ED;have Hb:=VC.keep EG;have hB2:Below w.heap.size w ((wy.setCell ⟨g13,0,none⟩ (.bool Gy)).setCell ⟨g13,1,none⟩ (.slice Fs Gi F_)):=wJ (wJ (d_ B EG) e1 _) e1 _;replace MA:=(MA.keep EG).bp e2 Hb (.bool Gy) (.slice Fs Gi F_);replace MB:=(MB.keep EG).bp e3 Hb (.bool Gy) (.slice Fs Gi F_);have MT:=AJ.put Hb NX o99;have ⟨c0,c1,f0,f1,_⟩:=Hb.box;replace C:=(C.keep EG).bp e4 (.bool Gy) (.slice Fs Gi F_);replace Q:=(Q.keep EG).bp e5 (.bool Gy) (.slice Fs Gi F_);replace R:=(R.keep EG).bp e6 (.bool Gy) (.slice Fs Gi F_);unfold Rg.aZ Rg.aZ Oper.wp
 go_simp
 clear c0 c1 f0 f1 Hb VC oC VA oA MC U EG B
 skip
 have B:=hB2;clear hB2;generalize ((wy.setCell ⟨g13,0,none⟩ (.bool Gy)).setCell ⟨g13,1,none⟩ (.slice Fs Gi F_))=wf at *;clear q0 q1 q2 u0 u1 u2 r0 r1 r2 f_ g_;clear P4 P8 P9 PA
 go_upto_region 14 with fail
 go_cut [14] (fun p wx=>∃ gd:Nat,p=.pointer (some ⟨gd,0,none⟩)∧aH wx w.heap.size 25 #[.int .i64 a,.int .i64 b]∧aH wx (w.heap.size+1) 27 #[.int .i64 X1,.int .i64 Y1,.int .i64 E1]∧aH wx (w.heap.size+1+1+1) 27 #[.int .i64 0,.int .i64 0,.int .i64 0]∧Below w.heap.size w wx∧AJ wx g13 (T)∧AJ wx gd (Bt))
 case first=>
  have ⟨sA,aA,lA,cA,hsA,VA,oA⟩:=MA;have ⟨sB,aB,lB,cB,hsB,VB,oB⟩:=MB;obtain rfl:=hsA.out;obtain rfl:=hsB.out;have a0:=VA.box.c0;have a1:=VA.box.c1;have b0:=VB.box.c0;have b1:=VB.box.c1
  go_wp2_with (go_at_call 138;(with_reducible refine (PB.out _ _ _ _ _ oA oB).mono ?_);rintro e w4 ⟨v4,rfl,o4,hb4⟩;(replace o4:aF _ _ _ _:=o4);replace B:=d_ B hb4;replace C:=C.keep hb4;replace Q:=Q.keep hb4;replace R:=R.keep hb4;replace MT:=MT.keep hb4;have f_:=C.box.c0;have g_:=C.box.c1;(obtain ⟨q0,q1,q2⟩:=Q.aK);(obtain ⟨r0,r1,r2⟩:=R.aK);obtain ⟨av,cv,rfl,xD,wS⟩:=aF.view o4;clear xD wS;have V:=aH.new w4 #[.bool false,.slice none 0 0] 125;have V0:=V.box.c0;have V1:=V.box.c1;have V2:=V.box.f0;have V3:=V.box.f1;have M0:=gP w4 (.bool (decide (Bt<0))) (.slice av (Wh.a_ (Bt).natAbs).length cv);have M1:=AJ.made o4)
  go_meet
  exact ⟨w4.heap.size,rfl,C.keep M0,Q.keep M0,R.keep M0,d_ B M0,MT.keep M0,M1⟩
 case rest=>
 obtain ⟨gd,rfl,C,Q,R,B,MT,MD⟩:=hcut;clear MA MB PB e1 e2 e3 e4 e5 e6 hab ha0;go_wp2
 go_loopw [15] (fun vk wr=>∃ k:Int,vk=.int .i64 k∧1≤k∧k≤21∧Hid (K=true→k≤E)∧aH wr w.heap.size 25 #[.int .i64 a,.int .i64 b]∧aH wr (w.heap.size+1) 27 #[.int .i64 X1,.int .i64 Y1,.int .i64 E1]∧aH wr (w.heap.size+1+1+1) 27 #[.int .i64 0,.int .i64 0,.int .i64 0]∧Below w.heap.size w wr∧AJ wr g13 (T)∧AJ wr gd (Bt)) (fun vk _=>(21 - intOf vk).toNat)
 case atStart=>exact ⟨1,rfl,by omega,by omega,wH (fun h=>(H2.out h).1),C,Q,R,B,MT,MD⟩
 case round=>
 clear C Q R B MT MD;obtain ⟨k,rfl,k1,k2,hk,C,Q,R,B,MT,MD⟩:=hrel;have f_:=C.box.c0;have g_:=C.box.c1;obtain ⟨q0,q1,q2⟩:=Q.aK;obtain ⟨r0,r1,r2⟩:=R.aK;have f0:=R.xC 0;have f1:=R.xC 1;have f2:=R.xC 2;have rl:=R.lt
 by_cases h20:k≤20
 ·have hkk:=M.aL (x:=k) (y:=k) (m:=20) (n:=20) (by omega) (by omega) (by omega) (by omega)
  have PT:=fun v W j (h:aF W j v (Wh.a_ T.natAbs))=>jv T (k*k) v W j h (Wh.aY.2 (Wh.aN zt (by omega))) (by omega) (by omega)
  have zs:=Wh.bB zt (Wh.bc (n:=k*k) (by omega) (by omega))
  have PQ:=fun v v' W j j' (h:aF W j v (Wh.a_ (T*(k*k)).natAbs)) (h':aF W j' v' (Wh.a_ Bt.natAbs))=>jC (T*(k*k)) Bt v v' W j j' h h' (Wh.aN zs (by omega)) (Wh.aN zb (by omega)) hbp
  have hxb:-10000≤M.sq (T*(k*k)) Bt∧M.sq (T*(k*k)) Bt≤10000:=by unfold M.sq;omega
  have hxe:=fun x' (h1:-10000≤x') (h2:x'≤10000) (h:Bt*x'=T*(k*k))=>M.wC hbp h1 h2 h
  have hat:K=true→E=k→M.sq (T*(k*k)) Bt=X∧Bt*X=T*(k*k)∧Int.gcd X k=1:=by
   intro hK hE;obtain ⟨c1,c2,c3,c4,c5,c6,-⟩:=H2.out hK;rw [hE] at c5 c6;exact ⟨hxe X c3 c4 c6,c6,c5⟩
  clear hxe zs
  have h1k:=fun x' (q3:-10000≤x') (q4:x'≤10000) q5 q6=>H1.out x' k k1 h20 q3 q4 q5 q6
  generalize T*(k*k)=S,M.sq (T*(k*k)) Bt=x at *
  have PG:=fun W=>ji x k W (by omega) (by omega) (by omega) (by omega)
  obtain ⟨x1,x2⟩:=hxb
  obtain ⟨ok,hok⟩:∃ ok,Hid (decide (Bt*x=S)=ok):=⟨_,wH rfl⟩
  rw [hok.out] at PQ;have PT:=wH PT;have PQ:=wH PQ
  have JV:M.gcd x k=1 ↔ Int.gcd x k=1:=by unfold M.gcd;omega
  generalize M.gcd x k=gk at *;have PG:=wH PG
  by_cases hgood:ok=true∧gk=1
  ·obtain ⟨rfl,rfl⟩:=hgood
   obtain ⟨hK,hX,hE⟩:=h1k x x1 x2 (JV.1 rfl) (of_decide_eq_true hok.out);obtain ⟨c1,c2,c3,c4,c5,c6,c7,c8,c9,ca⟩:=H2.out hK;rw [hX,hE] at c7 c8;have hfin:=wH (show K=true∧X=x∧E=k from ⟨hK,hX,hE⟩);clear hat h1k JV hok c1 c2 c3 c4 c5 c6 hK hX hE hk H1 H2 hno zt zb hbp
   have m3:-8000≤m∧m≤8000:=by omega
   have n3:-1600000≤n∧n≤1600000:=by omega
   clear c9 ca;have Jt:=M.aL (x:=X1) (y:=k) (m:=10000) (n:=20) (by omega) (by omega) (by omega) (by omega);have Ju:=M.aL (x:=X1*k) (y:=k) (m:=200000) (n:=20) (by omega) (by omega) (by omega) (by omega);have FN:=M.aL (x:=x) (y:=E1) (m:=10000) (n:=20) (by omega) (by omega) (by omega) (by omega);have FO:=M.aL (x:=x*E1) (y:=E1) (m:=200000) (n:=20) (by omega) (by omega) (by omega) (by omega);have FP:=M.aL (x:=n) (y:=X1*k*k - x*E1*E1) (m:=1600000) (n:=8000000) (by omega) (by omega) (by omega) (by omega);have FQ:=M.aL (x:=n*(X1*k*k - x*E1*E1)) (y:=E1) (m:=12800000000000) (n:=20) (by omega) (by omega) (by omega) (by omega);have FR:=M.aL (x:=Y1) (y:=m) (m:=3000000) (n:=8000) (by omega) (by omega) (by omega) (by omega);have FS:=M.aL (x:=Y1*m) (y:=k) (m:=24000000000) (n:=20) (by omega) (by omega) (by omega) (by omega);have FT:=M.aL (x:=Y1*m*k) (y:=k) (m:=480000000000) (n:=20) (by omega) (by omega) (by omega) (by omega)
   have PV:=fun W=>gZ a b x k W ha1 ha2 hb1 hb2 x1 x2 (by omega) (by omega)
   have hcv:=M.mG (a:=a) (b:=b) (x:=x) (e:=k) ha1 ha2 hb1 hb2 x1 x2 (by omega) (by omega);rw [←c8] at PV hcv;have hyb:=M.pP (Y:=Y) (by omega);have hr2:(Y.natAbs:Int)*(Y.natAbs:Int)=Y*Y:=Int.natAbs_mul_self
   have hr0:(0:Int)≤(Y.natAbs:Int):=by omega
   have hrb:(Y.natAbs:Int)≤2000000:=by omega
   have PR:=fun W=>kq (Y*Y) W (by omega)
   rw [M.ru hr0 hr2,M.jm hr2] at PR
   have hy:=fun h=>M.uk (r:=(Y.natAbs:Int)) hm0.out (by omega) (by omega) (show k*(n*(X1*k*k - x*E1*E1)*E1 - Y1*m*k*k)=m*E1*E1*E1*Y from h) hr0 hr2
   replace hy:=hy c7;clear c7 c8 hcv;generalize (Y.natAbs:Int)=r at *;generalize Y*Y=yy at *;clear hr2;have PV:=wH PV;have PR:=wH PR
   by_cases s1:n*(X1*k*k - x*E1*E1)*E1 - Y1*m*k*k<0
   ·by_cases s2:m<0
    ·have hyv:=wH (show r=Y by rw [←hy];simp [s1,s2])
     clear hy;have d1:decide (n*(X1*k*k - x*E1*E1)*E1 - Y1*m*k*k<0)=true:=decide_eq_true s1;have d2:decide (m<0)=true:=decide_eq_true s2
     have d3:(decide (n*(X1*k*k - x*E1*E1)*E1 - Y1*m*k*k<0) != decide (m<0))=false:=by rw [d1,d2];rfl
     clear s1 s2;have ⟨sT,aT,lT,cT,BT,VT,oT⟩:=MT;have ⟨sD,aD,lD,cD,Dv,VD,oD⟩:=MD
     go_upto_region 18 with fail
     refine Rg.bO 12 [.is (.agg #[.bool sT,.slice aT lT cT]),.is (.int .i64 k),.is (.int .i64 k),.is (.int .i64 (k*k)),.at (aJ (wr.heap.size) (S)),.is (.agg #[.bool sD,.slice aD lD cD]),.is (.tuple #[.int .i64 x,.bool true]),.is (.tuple #[.int .i64 x,.bool true]),.is (.int .i64 x),.is (.bool true),.is (.int .i64 x),.is (.bool true)] (by kernel_rfl) (by kernel_rfl) (by kernel_rfl) ⟨?_,?_,?_,?_,?_,?_,?_,?_,?_,?_,?_,?_,trivial⟩ ?_
     ·intro _ zZ w_ hB hr
      have e13:zZ.tmps[13]?=some (.pointer (some ⟨g13,0,none⟩)):=hr 13 (by decide);have k0:=aE hB VT.box.c0;have k1:=aE hB VT.box.c1;exact Rg.aG rfl (by go_simp)
     ·intro _ zZ w_ hB hr
      have e15:zZ.tmps[15]?=some (.int .i64 k):=hr 15 (by decide);exact Rg.aG rfl (by go_simp)
     ·intro _ zZ w_ hB hr
      have e15:zZ.tmps[15]?=some (.int .i64 k):=hr 15 (by decide);exact Rg.aG rfl (by go_simp)
     ·intro _ zZ w_ hB hr
      have e109:=Rg.c_ (hr 109 (by decide));have Dc:=Rg.c_ (hr 110 (by decide));exact Rg.aG rfl (by go_simp <;> exact Rg.wo (by omega))
     ·intro _ zZ w_ hB hr
      have e108:=Rg.c_ (hr 108 (by decide));have Dd:=Rg.c_ (hr 111 (by decide));have ef:=Rg.ef zZ;refine Rg.ah rfl (by go_simp;exact ⟨rfl,rfl⟩) ?_;rw [BT.out];refine (PT.out _ _ _ (aF.below oT hB)).mono ?_;rintro e w5 ⟨xX,rfl,wW,hb5⟩;exact ⟨_,rfl,aJ.at wW (by have:=hB.size;omega),hb5⟩
     ·intro _ zZ w_ hB hr
      have e14:zZ.tmps[14]?=some (.pointer (some ⟨gd,0,none⟩)):=hr 14 (by decide);have k0:=aE hB VD.box.c0;have k1:=aE hB VD.box.c1;exact Rg.aG rfl (by go_simp)
     ·intro _ zZ w_ hB hr
      obtain ⟨EC,De,n112⟩:∃ v,zZ.tmps[112]?=some v∧(Rg.Val.at (aJ (wr.heap.size) (S))).ok v w_:=hr 112 (by decide);obtain ⟨EA,DW,Dy,Da,yf,rfl,Aa⟩:=(Rg.aj n112).view;have Df:=Rg.c_ (hr 113 (by decide));have ec:=Rg.ec zZ;have ef:=Rg.ef zZ;refine Rg.ah rfl (by go_simp;exact ⟨rfl,rfl⟩) ?_;obtain rfl:=yf.out;rw [Dv.out];refine (PQ.out _ _ _ _ _ Aa (aF.below oD hB)).mono ?_;rintro e w5 ⟨rfl,hb5⟩;exact ⟨_,rfl,rfl,hb5⟩
     ·intro _ zZ w_ hB hr
      have Dg:=Rg.c_ (hr 114 (by decide));exact Rg.aG rfl (by go_simp)
     ·intro _ zZ w_ hB hr
      have AW:=Rg.c_ (hr 107 (by decide));exact Rg.aG rfl (by go_simp)
     ·intro _ zZ w_ hB hr
      have AW:=Rg.c_ (hr 107 (by decide));exact Rg.aG rfl (by go_simp)
     ·intro _ zZ w_ hB hr
      have e115:=Rg.c_ (hr 115 (by decide));exact Rg.aG rfl (by go_simp)
     ·intro _ zZ w_ hB hr
      have e116:=Rg.c_ (hr 116 (by decide));exact Rg.aG rfl (by go_simp)
     intro vals wz x8 hv hne;have xU:vals 10=.int .i64 x:=hv 10 (by decide);have xI:vals 11=.bool true:=hv 11 (by decide);simp only [Rg.ay,Rg.fill,Act.put,Nat.reduceAdd];clear hv;simp only [xU,xI];clear xU xI;replace C:=C.keep x8;replace Q:=Q.keep x8;replace R:=R.keep x8;replace MT:=MT.keep x8;replace MD:=MD.keep x8;replace B:=d_ B x8;clear x8 VT oT VD oD;unfold Rg.aZ;have f_:=C.box.c0;have g_:=C.box.c1;obtain ⟨q0,q1,q2⟩:=Q.aK;obtain ⟨r0,r1,r2⟩:=R.aK;have f0:=R.xC 0;have f1:=R.xC 1;have f2:=R.xC 2;have rl:=R.lt
     go_wp2_with first | (go_at_call 114;(with_reducible refine (PG.out _).mono ?_);rintro e w5 ⟨rfl,j5,rfl⟩;have hb5:=aM (wK wz.heap.size wz) j5;replace B:=d_ B hb5;replace C:=C.keep hb5;replace Q:=Q.keep hb5;replace R:=R.keep hb5;replace MT:=MT.keep hb5;replace MD:=MD.keep hb5;have f_:=C.box.c0;have g_:=C.box.c1;(obtain ⟨q0,q1,q2⟩:=Q.aK);(obtain ⟨r0,r1,r2⟩:=R.aK);have f0:=R.xC 0;have f1:=R.xC 1;have f2:=R.xC 2;have rl:=R.lt) | (go_at_call 115;(with_reducible refine (PV.out _).mono ?_);rintro e w6 ⟨rfl,hb6⟩;replace B:=d_ B hb6;replace C:=C.keep hb6;replace Q:=Q.keep hb6;replace R:=R.keep hb6;replace MT:=MT.keep hb6;replace MD:=MD.keep hb6;have f_:=C.box.c0;have g_:=C.box.c1;(obtain ⟨q0,q1,q2⟩:=Q.aK);(obtain ⟨r0,r1,r2⟩:=R.aK);have f0:=R.xC 0;have f1:=R.xC 1;have f2:=R.xC 2;have rl:=R.lt) | (go_at_call 144;(with_reducible refine (PR.out _).mono ?_);rintro e w7 ⟨rfl,rfl⟩)
     exact bodyPost_ret (v:=.tuple #[.agg #[.int .i64 x,.int .i64 (r),.int .i64 k],.bool true]) (by simp [results,Tryz.results87,go_sem, *]) rfl (⟨by rw [hfin.out.1,hfin.out.2.1,hfin.out.2.2,hyv.out],wJ (wJ (wJ B (by simp;omega) _) (by simp;omega) _) (by simp;omega) _⟩)
    have hyv:=wH (show -r=Y by rw [←hy];simp [s1,s2]);clear hy;have d1:decide (n*(X1*k*k - x*E1*E1)*E1 - Y1*m*k*k<0)=true:=decide_eq_true s1;have d2:decide (m<0)=false:=decide_eq_false s2
    have d3:(decide (n*(X1*k*k - x*E1*E1)*E1 - Y1*m*k*k<0) != decide (m<0))=true:=by rw [d1,d2];rfl
    clear s1 s2;have ⟨sT,aT,lT,cT,BT,VT,oT⟩:=MT;have ⟨sD,aD,lD,cD,Dv,VD,oD⟩:=MD
    go_upto_region 18 with fail
    refine Rg.bO 12 [.is (.agg #[.bool sT,.slice aT lT cT]),.is (.int .i64 k),.is (.int .i64 k),.is (.int .i64 (k*k)),.at (aJ (wr.heap.size) (S)),.is (.agg #[.bool sD,.slice aD lD cD]),.is (.tuple #[.int .i64 x,.bool true]),.is (.tuple #[.int .i64 x,.bool true]),.is (.int .i64 x),.is (.bool true),.is (.int .i64 x),.is (.bool true)] (by kernel_rfl) (by kernel_rfl) (by kernel_rfl) ⟨?_,?_,?_,?_,?_,?_,?_,?_,?_,?_,?_,?_,trivial⟩ ?_
    ·intro _ zZ w_ hB hr
     have e13:zZ.tmps[13]?=some (.pointer (some ⟨g13,0,none⟩)):=hr 13 (by decide);have k0:=aE hB VT.box.c0;have k1:=aE hB VT.box.c1;exact Rg.aG rfl (by go_simp)
    ·intro _ zZ w_ hB hr
     have e15:zZ.tmps[15]?=some (.int .i64 k):=hr 15 (by decide);exact Rg.aG rfl (by go_simp)
    ·intro _ zZ w_ hB hr
     have e15:zZ.tmps[15]?=some (.int .i64 k):=hr 15 (by decide);exact Rg.aG rfl (by go_simp)
    ·intro _ zZ w_ hB hr
     have e109:=Rg.c_ (hr 109 (by decide));have Dc:=Rg.c_ (hr 110 (by decide));exact Rg.aG rfl (by go_simp <;> exact Rg.wo (by omega))
    ·intro _ zZ w_ hB hr
     have e108:=Rg.c_ (hr 108 (by decide));have Dd:=Rg.c_ (hr 111 (by decide));have ef:=Rg.ef zZ;refine Rg.ah rfl (by go_simp;exact ⟨rfl,rfl⟩) ?_;rw [BT.out];refine (PT.out _ _ _ (aF.below oT hB)).mono ?_;rintro e w5 ⟨xX,rfl,wW,hb5⟩;exact ⟨_,rfl,aJ.at wW (by have:=hB.size;omega),hb5⟩
    ·intro _ zZ w_ hB hr
     have e14:zZ.tmps[14]?=some (.pointer (some ⟨gd,0,none⟩)):=hr 14 (by decide);have k0:=aE hB VD.box.c0;have k1:=aE hB VD.box.c1;exact Rg.aG rfl (by go_simp)
    ·intro _ zZ w_ hB hr
     obtain ⟨EC,De,n112⟩:∃ v,zZ.tmps[112]?=some v∧(Rg.Val.at (aJ (wr.heap.size) (S))).ok v w_:=hr 112 (by decide);obtain ⟨EA,DW,Dy,Da,yf,rfl,Aa⟩:=(Rg.aj n112).view;have Df:=Rg.c_ (hr 113 (by decide));have ec:=Rg.ec zZ;have ef:=Rg.ef zZ;refine Rg.ah rfl (by go_simp;exact ⟨rfl,rfl⟩) ?_;obtain rfl:=yf.out;rw [Dv.out];refine (PQ.out _ _ _ _ _ Aa (aF.below oD hB)).mono ?_;rintro e w5 ⟨rfl,hb5⟩;exact ⟨_,rfl,rfl,hb5⟩
    ·intro _ zZ w_ hB hr
     have Dg:=Rg.c_ (hr 114 (by decide));exact Rg.aG rfl (by go_simp)
    ·intro _ zZ w_ hB hr
     have AW:=Rg.c_ (hr 107 (by decide));exact Rg.aG rfl (by go_simp)
    ·intro _ zZ w_ hB hr
     have AW:=Rg.c_ (hr 107 (by decide));exact Rg.aG rfl (by go_simp)
    ·intro _ zZ w_ hB hr
     have e115:=Rg.c_ (hr 115 (by decide));exact Rg.aG rfl (by go_simp)
    ·intro _ zZ w_ hB hr
     have e116:=Rg.c_ (hr 116 (by decide));exact Rg.aG rfl (by go_simp)
    intro vals wz x8 hv hne;have xU:vals 10=.int .i64 x:=hv 10 (by decide);have xI:vals 11=.bool true:=hv 11 (by decide);simp only [Rg.ay,Rg.fill,Act.put,Nat.reduceAdd];clear hv;simp only [xU,xI];clear xU xI;replace C:=C.keep x8;replace Q:=Q.keep x8;replace R:=R.keep x8;replace MT:=MT.keep x8;replace MD:=MD.keep x8;replace B:=d_ B x8;clear x8 VT oT VD oD;unfold Rg.aZ;have f_:=C.box.c0;have g_:=C.box.c1;obtain ⟨q0,q1,q2⟩:=Q.aK;obtain ⟨r0,r1,r2⟩:=R.aK;have f0:=R.xC 0;have f1:=R.xC 1;have f2:=R.xC 2;have rl:=R.lt
    go_wp2_with first | (go_at_call 114;(with_reducible refine (PG.out _).mono ?_);rintro e w5 ⟨rfl,j5,rfl⟩;have hb5:=aM (wK wz.heap.size wz) j5;replace B:=d_ B hb5;replace C:=C.keep hb5;replace Q:=Q.keep hb5;replace R:=R.keep hb5;replace MT:=MT.keep hb5;replace MD:=MD.keep hb5;have f_:=C.box.c0;have g_:=C.box.c1;(obtain ⟨q0,q1,q2⟩:=Q.aK);(obtain ⟨r0,r1,r2⟩:=R.aK);have f0:=R.xC 0;have f1:=R.xC 1;have f2:=R.xC 2;have rl:=R.lt) | (go_at_call 115;(with_reducible refine (PV.out _).mono ?_);rintro e w6 ⟨rfl,hb6⟩;replace B:=d_ B hb6;replace C:=C.keep hb6;replace Q:=Q.keep hb6;replace R:=R.keep hb6;replace MT:=MT.keep hb6;replace MD:=MD.keep hb6;have f_:=C.box.c0;have g_:=C.box.c1;(obtain ⟨q0,q1,q2⟩:=Q.aK);(obtain ⟨r0,r1,r2⟩:=R.aK);have f0:=R.xC 0;have f1:=R.xC 1;have f2:=R.xC 2;have rl:=R.lt) | (go_at_call 144;(with_reducible refine (PR.out _).mono ?_);rintro e w7 ⟨rfl,rfl⟩)
    exact bodyPost_ret (v:=.tuple #[.agg #[.int .i64 x,.int .i64 (-r),.int .i64 k],.bool true]) (by simp [results,Tryz.results87,go_sem, *]) rfl (⟨by rw [hfin.out.1,hfin.out.2.1,hfin.out.2.2,hyv.out],wJ (wJ (wJ B (by simp;omega) _) (by simp;omega) _) (by simp;omega) _⟩)
   by_cases s2:m<0
   ·have hyv:=wH (show -r=Y by rw [←hy];simp [s1,s2])
    clear hy;have d1:decide (n*(X1*k*k - x*E1*E1)*E1 - Y1*m*k*k<0)=false:=decide_eq_false s1;have d2:decide (m<0)=true:=decide_eq_true s2
    have d3:(decide (n*(X1*k*k - x*E1*E1)*E1 - Y1*m*k*k<0) != decide (m<0))=true:=by rw [d1,d2];rfl
    clear s1 s2;have ⟨sT,aT,lT,cT,BT,VT,oT⟩:=MT;have ⟨sD,aD,lD,cD,Dv,VD,oD⟩:=MD
    go_upto_region 18 with fail
    refine Rg.bO 12 [.is (.agg #[.bool sT,.slice aT lT cT]),.is (.int .i64 k),.is (.int .i64 k),.is (.int .i64 (k*k)),.at (aJ (wr.heap.size) (S)),.is (.agg #[.bool sD,.slice aD lD cD]),.is (.tuple #[.int .i64 x,.bool true]),.is (.tuple #[.int .i64 x,.bool true]),.is (.int .i64 x),.is (.bool true),.is (.int .i64 x),.is (.bool true)] (by kernel_rfl) (by kernel_rfl) (by kernel_rfl) ⟨?_,?_,?_,?_,?_,?_,?_,?_,?_,?_,?_,?_,trivial⟩ ?_
    ·intro _ zZ w_ hB hr
     have e13:zZ.tmps[13]?=some (.pointer (some ⟨g13,0,none⟩)):=hr 13 (by decide);have k0:=aE hB VT.box.c0;have k1:=aE hB VT.box.c1;exact Rg.aG rfl (by go_simp)
    ·intro _ zZ w_ hB hr
     have e15:zZ.tmps[15]?=some (.int .i64 k):=hr 15 (by decide);exact Rg.aG rfl (by go_simp)
    ·intro _ zZ w_ hB hr
     have e15:zZ.tmps[15]?=some (.int .i64 k):=hr 15 (by decide);exact Rg.aG rfl (by go_simp)
    ·intro _ zZ w_ hB hr
     have e109:=Rg.c_ (hr 109 (by decide));have Dc:=Rg.c_ (hr 110 (by decide));exact Rg.aG rfl (by go_simp <;> exact Rg.wo (by omega))
    ·intro _ zZ w_ hB hr
     have e108:=Rg.c_ (hr 108 (by decide));have Dd:=Rg.c_ (hr 111 (by decide));have ef:=Rg.ef zZ;refine Rg.ah rfl (by go_simp;exact ⟨rfl,rfl⟩) ?_;rw [BT.out];refine (PT.out _ _ _ (aF.below oT hB)).mono ?_;rintro e w5 ⟨xX,rfl,wW,hb5⟩;exact ⟨_,rfl,aJ.at wW (by have:=hB.size;omega),hb5⟩
    ·intro _ zZ w_ hB hr
     have e14:zZ.tmps[14]?=some (.pointer (some ⟨gd,0,none⟩)):=hr 14 (by decide);have k0:=aE hB VD.box.c0;have k1:=aE hB VD.box.c1;exact Rg.aG rfl (by go_simp)
    ·intro _ zZ w_ hB hr
     obtain ⟨EC,De,n112⟩:∃ v,zZ.tmps[112]?=some v∧(Rg.Val.at (aJ (wr.heap.size) (S))).ok v w_:=hr 112 (by decide);obtain ⟨EA,DW,Dy,Da,yf,rfl,Aa⟩:=(Rg.aj n112).view;have Df:=Rg.c_ (hr 113 (by decide));have ec:=Rg.ec zZ;have ef:=Rg.ef zZ;refine Rg.ah rfl (by go_simp;exact ⟨rfl,rfl⟩) ?_;obtain rfl:=yf.out;rw [Dv.out];refine (PQ.out _ _ _ _ _ Aa (aF.below oD hB)).mono ?_;rintro e w5 ⟨rfl,hb5⟩;exact ⟨_,rfl,rfl,hb5⟩
    ·intro _ zZ w_ hB hr
     have Dg:=Rg.c_ (hr 114 (by decide));exact Rg.aG rfl (by go_simp)
    ·intro _ zZ w_ hB hr
     have AW:=Rg.c_ (hr 107 (by decide));exact Rg.aG rfl (by go_simp)
    ·intro _ zZ w_ hB hr
     have AW:=Rg.c_ (hr 107 (by decide));exact Rg.aG rfl (by go_simp)
    ·intro _ zZ w_ hB hr
     have e115:=Rg.c_ (hr 115 (by decide));exact Rg.aG rfl (by go_simp)
    ·intro _ zZ w_ hB hr
     have e116:=Rg.c_ (hr 116 (by decide));exact Rg.aG rfl (by go_simp)
    intro vals wz x8 hv hne;have xU:vals 10=.int .i64 x:=hv 10 (by decide);have xI:vals 11=.bool true:=hv 11 (by decide);simp only [Rg.ay,Rg.fill,Act.put,Nat.reduceAdd];clear hv;simp only [xU,xI];clear xU xI;replace C:=C.keep x8;replace Q:=Q.keep x8;replace R:=R.keep x8;replace MT:=MT.keep x8;replace MD:=MD.keep x8;replace B:=d_ B x8;clear x8 VT oT VD oD;unfold Rg.aZ;have f_:=C.box.c0;have g_:=C.box.c1;obtain ⟨q0,q1,q2⟩:=Q.aK;obtain ⟨r0,r1,r2⟩:=R.aK;have f0:=R.xC 0;have f1:=R.xC 1;have f2:=R.xC 2;have rl:=R.lt
    go_wp2_with first | (go_at_call 114;(with_reducible refine (PG.out _).mono ?_);rintro e w5 ⟨rfl,j5,rfl⟩;have hb5:=aM (wK wz.heap.size wz) j5;replace B:=d_ B hb5;replace C:=C.keep hb5;replace Q:=Q.keep hb5;replace R:=R.keep hb5;replace MT:=MT.keep hb5;replace MD:=MD.keep hb5;have f_:=C.box.c0;have g_:=C.box.c1;(obtain ⟨q0,q1,q2⟩:=Q.aK);(obtain ⟨r0,r1,r2⟩:=R.aK);have f0:=R.xC 0;have f1:=R.xC 1;have f2:=R.xC 2;have rl:=R.lt) | (go_at_call 115;(with_reducible refine (PV.out _).mono ?_);rintro e w6 ⟨rfl,hb6⟩;replace B:=d_ B hb6;replace C:=C.keep hb6;replace Q:=Q.keep hb6;replace R:=R.keep hb6;replace MT:=MT.keep hb6;replace MD:=MD.keep hb6;have f_:=C.box.c0;have g_:=C.box.c1;(obtain ⟨q0,q1,q2⟩:=Q.aK);(obtain ⟨r0,r1,r2⟩:=R.aK);have f0:=R.xC 0;have f1:=R.xC 1;have f2:=R.xC 2;have rl:=R.lt) | (go_at_call 144;(with_reducible refine (PR.out _).mono ?_);rintro e w7 ⟨rfl,rfl⟩)
    exact bodyPost_ret (v:=.tuple #[.agg #[.int .i64 x,.int .i64 (-r),.int .i64 k],.bool true]) (by simp [results,Tryz.results87,go_sem, *]) rfl (⟨by rw [hfin.out.1,hfin.out.2.1,hfin.out.2.2,hyv.out],wJ (wJ (wJ B (by simp;omega) _) (by simp;omega) _) (by simp;omega) _⟩)
   have hyv:=wH (show r=Y by rw [←hy];simp [s1,s2]);clear hy;have d1:decide (n*(X1*k*k - x*E1*E1)*E1 - Y1*m*k*k<0)=false:=decide_eq_false s1;have d2:decide (m<0)=false:=decide_eq_false s2
   have d3:(decide (n*(X1*k*k - x*E1*E1)*E1 - Y1*m*k*k<0) != decide (m<0))=false:=by rw [d1,d2];rfl
   clear s1 s2;have ⟨sT,aT,lT,cT,BT,VT,oT⟩:=MT;have ⟨sD,aD,lD,cD,Dv,VD,oD⟩:=MD
   go_upto_region 18 with fail
   refine Rg.bO 12 [.is (.agg #[.bool sT,.slice aT lT cT]),.is (.int .i64 k),.is (.int .i64 k),.is (.int .i64 (k*k)),.at (aJ (wr.heap.size) (S)),.is (.agg #[.bool sD,.slice aD lD cD]),.is (.tuple #[.int .i64 x,.bool true]),.is (.tuple #[.int .i64 x,.bool true]),.is (.int .i64 x),.is (.bool true),.is (.int .i64 x),.is (.bool true)] (by kernel_rfl) (by kernel_rfl) (by kernel_rfl) ⟨?_,?_,?_,?_,?_,?_,?_,?_,?_,?_,?_,?_,trivial⟩ ?_
   ·intro _ zZ w_ hB hr
    have e13:zZ.tmps[13]?=some (.pointer (some ⟨g13,0,none⟩)):=hr 13 (by decide);have k0:=aE hB VT.box.c0;have k1:=aE hB VT.box.c1;exact Rg.aG rfl (by go_simp)
   ·intro _ zZ w_ hB hr
    have e15:zZ.tmps[15]?=some (.int .i64 k):=hr 15 (by decide);exact Rg.aG rfl (by go_simp)
   ·intro _ zZ w_ hB hr
    have e15:zZ.tmps[15]?=some (.int .i64 k):=hr 15 (by decide);exact Rg.aG rfl (by go_simp)
   ·intro _ zZ w_ hB hr
    have e109:=Rg.c_ (hr 109 (by decide));have Dc:=Rg.c_ (hr 110 (by decide));exact Rg.aG rfl (by go_simp <;> exact Rg.wo (by omega))
   ·intro _ zZ w_ hB hr
    have e108:=Rg.c_ (hr 108 (by decide));have Dd:=Rg.c_ (hr 111 (by decide));have ef:=Rg.ef zZ;refine Rg.ah rfl (by go_simp;exact ⟨rfl,rfl⟩) ?_;rw [BT.out];refine (PT.out _ _ _ (aF.below oT hB)).mono ?_;rintro e w5 ⟨xX,rfl,wW,hb5⟩;exact ⟨_,rfl,aJ.at wW (by have:=hB.size;omega),hb5⟩
   ·intro _ zZ w_ hB hr
    have e14:zZ.tmps[14]?=some (.pointer (some ⟨gd,0,none⟩)):=hr 14 (by decide);have k0:=aE hB VD.box.c0;have k1:=aE hB VD.box.c1;exact Rg.aG rfl (by go_simp)
   ·intro _ zZ w_ hB hr
    obtain ⟨EC,De,n112⟩:∃ v,zZ.tmps[112]?=some v∧(Rg.Val.at (aJ (wr.heap.size) (S))).ok v w_:=hr 112 (by decide);obtain ⟨EA,DW,Dy,Da,yf,rfl,Aa⟩:=(Rg.aj n112).view;have Df:=Rg.c_ (hr 113 (by decide));have ec:=Rg.ec zZ;have ef:=Rg.ef zZ;refine Rg.ah rfl (by go_simp;exact ⟨rfl,rfl⟩) ?_;obtain rfl:=yf.out;rw [Dv.out];refine (PQ.out _ _ _ _ _ Aa (aF.below oD hB)).mono ?_;rintro e w5 ⟨rfl,hb5⟩;exact ⟨_,rfl,rfl,hb5⟩
   ·intro _ zZ w_ hB hr
    have Dg:=Rg.c_ (hr 114 (by decide));exact Rg.aG rfl (by go_simp)
   ·intro _ zZ w_ hB hr
    have AW:=Rg.c_ (hr 107 (by decide));exact Rg.aG rfl (by go_simp)
   ·intro _ zZ w_ hB hr
    have AW:=Rg.c_ (hr 107 (by decide));exact Rg.aG rfl (by go_simp)
   ·intro _ zZ w_ hB hr
    have e115:=Rg.c_ (hr 115 (by decide));exact Rg.aG rfl (by go_simp)
   ·intro _ zZ w_ hB hr
    have e116:=Rg.c_ (hr 116 (by decide));exact Rg.aG rfl (by go_simp)
   intro vals wz x8 hv hne;have xU:vals 10=.int .i64 x:=hv 10 (by decide);have xI:vals 11=.bool true:=hv 11 (by decide);simp only [Rg.ay,Rg.fill,Act.put,Nat.reduceAdd];clear hv;simp only [xU,xI];clear xU xI;replace C:=C.keep x8;replace Q:=Q.keep x8;replace R:=R.keep x8;replace MT:=MT.keep x8;replace MD:=MD.keep x8;replace B:=d_ B x8;clear x8 VT oT VD oD;unfold Rg.aZ;have f_:=C.box.c0;have g_:=C.box.c1;obtain ⟨q0,q1,q2⟩:=Q.aK;obtain ⟨r0,r1,r2⟩:=R.aK;have f0:=R.xC 0;have f1:=R.xC 1;have f2:=R.xC 2;have rl:=R.lt
   go_wp2_with first | (go_at_call 114;(with_reducible refine (PG.out _).mono ?_);rintro e w5 ⟨rfl,j5,rfl⟩;have hb5:=aM (wK wz.heap.size wz) j5;replace B:=d_ B hb5;replace C:=C.keep hb5;replace Q:=Q.keep hb5;replace R:=R.keep hb5;replace MT:=MT.keep hb5;replace MD:=MD.keep hb5;have f_:=C.box.c0;have g_:=C.box.c1;(obtain ⟨q0,q1,q2⟩:=Q.aK);(obtain ⟨r0,r1,r2⟩:=R.aK);have f0:=R.xC 0;have f1:=R.xC 1;have f2:=R.xC 2;have rl:=R.lt) | (go_at_call 115;(with_reducible refine (PV.out _).mono ?_);rintro e w6 ⟨rfl,hb6⟩;replace B:=d_ B hb6;replace C:=C.keep hb6;replace Q:=Q.keep hb6;replace R:=R.keep hb6;replace MT:=MT.keep hb6;replace MD:=MD.keep hb6;have f_:=C.box.c0;have g_:=C.box.c1;(obtain ⟨q0,q1,q2⟩:=Q.aK);(obtain ⟨r0,r1,r2⟩:=R.aK);have f0:=R.xC 0;have f1:=R.xC 1;have f2:=R.xC 2;have rl:=R.lt) | (go_at_call 144;(with_reducible refine (PR.out _).mono ?_);rintro e w7 ⟨rfl,rfl⟩)
   exact bodyPost_ret (v:=.tuple #[.agg #[.int .i64 x,.int .i64 (r),.int .i64 k],.bool true]) (by simp [results,Tryz.results87,go_sem, *]) rfl (⟨by rw [hfin.out.1,hfin.out.2.1,hfin.out.2.2,hyv.out],wJ (wJ (wJ B (by simp;omega) _) (by simp;omega) _) (by simp;omega) _⟩)
  have JX:K=true→k+1≤E:=by
   intro hK;have q1:=hk.out hK
   rcases Int.lt_or_le k E with q | q
   ·omega
   exfalso
   obtain ⟨z1,z2,z3⟩:=hat hK (by omega)
   apply hgood
   rw [←z1] at z2 z3;exact ⟨by rw [←hok.out];exact decide_eq_true z2,JV.2 z3⟩
  clear hat h1k JV hok hk hbp;have JX:=wH JX;cases ok
  case false=>
   clear hgood;have ⟨sT,aT,lT,cT,BT,VT,oT⟩:=MT;have ⟨sD,aD,lD,cD,Dv,VD,oD⟩:=MD
   go_upto_region 18 with fail
   refine Rg.bO 12 [.is (.agg #[.bool sT,.slice aT lT cT]),.is (.int .i64 k),.is (.int .i64 k),.is (.int .i64 (k*k)),.at (aJ (wr.heap.size) (S)),.is (.agg #[.bool sD,.slice aD lD cD]),.is (.tuple #[.int .i64 x,.bool false]),.is (.tuple #[.int .i64 x,.bool false]),.is (.int .i64 x),.is (.bool false),.is (.int .i64 x),.is (.bool false)] (by kernel_rfl) (by kernel_rfl) (by kernel_rfl) ⟨?_,?_,?_,?_,?_,?_,?_,?_,?_,?_,?_,?_,trivial⟩ ?_
   ·intro _ zZ w_ hB hr
    have e13:zZ.tmps[13]?=some (.pointer (some ⟨g13,0,none⟩)):=hr 13 (by decide);have k0:=aE hB VT.box.c0;have k1:=aE hB VT.box.c1;exact Rg.aG rfl (by go_simp)
   ·intro _ zZ w_ hB hr
    have e15:zZ.tmps[15]?=some (.int .i64 k):=hr 15 (by decide);exact Rg.aG rfl (by go_simp)
   ·intro _ zZ w_ hB hr
    have e15:zZ.tmps[15]?=some (.int .i64 k):=hr 15 (by decide);exact Rg.aG rfl (by go_simp)
   ·intro _ zZ w_ hB hr
    have e109:=Rg.c_ (hr 109 (by decide));have Dc:=Rg.c_ (hr 110 (by decide));exact Rg.aG rfl (by go_simp <;> exact Rg.wo (by omega))
   ·intro _ zZ w_ hB hr
    have e108:=Rg.c_ (hr 108 (by decide));have Dd:=Rg.c_ (hr 111 (by decide));have ef:=Rg.ef zZ;refine Rg.ah rfl (by go_simp;exact ⟨rfl,rfl⟩) ?_;rw [BT.out];refine (PT.out _ _ _ (aF.below oT hB)).mono ?_;rintro e w5 ⟨xX,rfl,wW,hb5⟩;exact ⟨_,rfl,aJ.at wW (by have:=hB.size;omega),hb5⟩
   ·intro _ zZ w_ hB hr
    have e14:zZ.tmps[14]?=some (.pointer (some ⟨gd,0,none⟩)):=hr 14 (by decide);have k0:=aE hB VD.box.c0;have k1:=aE hB VD.box.c1;exact Rg.aG rfl (by go_simp)
   ·intro _ zZ w_ hB hr
    obtain ⟨EC,De,n112⟩:∃ v,zZ.tmps[112]?=some v∧(Rg.Val.at (aJ (wr.heap.size) (S))).ok v w_:=hr 112 (by decide);obtain ⟨EA,DW,Dy,Da,yf,rfl,Aa⟩:=(Rg.aj n112).view;have Df:=Rg.c_ (hr 113 (by decide));have ec:=Rg.ec zZ;have ef:=Rg.ef zZ;refine Rg.ah rfl (by go_simp;exact ⟨rfl,rfl⟩) ?_;obtain rfl:=yf.out;rw [Dv.out];refine (PQ.out _ _ _ _ _ Aa (aF.below oD hB)).mono ?_;rintro e w5 ⟨rfl,hb5⟩;exact ⟨_,rfl,rfl,hb5⟩
   ·intro _ zZ w_ hB hr
    have Dg:=Rg.c_ (hr 114 (by decide));exact Rg.aG rfl (by go_simp)
   ·intro _ zZ w_ hB hr
    have AW:=Rg.c_ (hr 107 (by decide));exact Rg.aG rfl (by go_simp)
   ·intro _ zZ w_ hB hr
    have AW:=Rg.c_ (hr 107 (by decide));exact Rg.aG rfl (by go_simp)
   ·intro _ zZ w_ hB hr
    have e115:=Rg.c_ (hr 115 (by decide));exact Rg.aG rfl (by go_simp)
   ·intro _ zZ w_ hB hr
    have e116:=Rg.c_ (hr 116 (by decide));exact Rg.aG rfl (by go_simp)
   intro vals wz x8 hv hne;have xU:vals 10=.int .i64 x:=hv 10 (by decide);have xI:vals 11=.bool false:=hv 11 (by decide);simp only [Rg.ay,Rg.fill,Act.put,Nat.reduceAdd];clear hv;simp only [xU,xI];clear xU xI;replace C:=C.keep x8;replace Q:=Q.keep x8;replace R:=R.keep x8;replace MT:=MT.keep x8;replace MD:=MD.keep x8;replace B:=d_ B x8;clear x8 VT oT VD oD;unfold Rg.aZ;have f_:=C.box.c0;have g_:=C.box.c1;obtain ⟨q0,q1,q2⟩:=Q.aK;obtain ⟨r0,r1,r2⟩:=R.aK;have f0:=R.xC 0;have f1:=R.xC 1;have f2:=R.xC 2;have rl:=R.lt
   go_wp2_with (go_at_call 114;(with_reducible refine (PG.out _).mono ?_);rintro e w5 ⟨rfl,j5,rfl⟩;have hb5:=aM (wK wz.heap.size wz) j5;replace B:=d_ B hb5;replace C:=C.keep hb5;replace Q:=Q.keep hb5;replace R:=R.keep hb5;replace MT:=MT.keep hb5;replace MD:=MD.keep hb5;have f_:=C.box.c0;have g_:=C.box.c1;(obtain ⟨q0,q1,q2⟩:=Q.aK);(obtain ⟨r0,r1,r2⟩:=R.aK);have f0:=R.xC 0;have f1:=R.xC 1;have f2:=R.xC 2;have rl:=R.lt)
   go_roundw
   case rel=>exact ⟨k+1,rfl,by omega,by omega,JX,C,Q,R,B,MT,MD⟩
   case measure=>simp [intOf] <;> omega
  case true=>
  have hg1:gk≠1:=fun h=>hgood ⟨rfl,h⟩
  clear hgood;have ⟨sT,aT,lT,cT,BT,VT,oT⟩:=MT;have ⟨sD,aD,lD,cD,Dv,VD,oD⟩:=MD
  go_upto_region 18 with fail
  refine Rg.bO 12 [.is (.agg #[.bool sT,.slice aT lT cT]),.is (.int .i64 k),.is (.int .i64 k),.is (.int .i64 (k*k)),.at (aJ (wr.heap.size) (S)),.is (.agg #[.bool sD,.slice aD lD cD]),.is (.tuple #[.int .i64 x,.bool true]),.is (.tuple #[.int .i64 x,.bool true]),.is (.int .i64 x),.is (.bool true),.is (.int .i64 x),.is (.bool true)] (by kernel_rfl) (by kernel_rfl) (by kernel_rfl) ⟨?_,?_,?_,?_,?_,?_,?_,?_,?_,?_,?_,?_,trivial⟩ ?_
  ·intro _ zZ w_ hB hr
   have e13:zZ.tmps[13]?=some (.pointer (some ⟨g13,0,none⟩)):=hr 13 (by decide);have k0:=aE hB VT.box.c0;have k1:=aE hB VT.box.c1;exact Rg.aG rfl (by go_simp)
  ·intro _ zZ w_ hB hr
   have e15:zZ.tmps[15]?=some (.int .i64 k):=hr 15 (by decide);exact Rg.aG rfl (by go_simp)
  ·intro _ zZ w_ hB hr
   have e15:zZ.tmps[15]?=some (.int .i64 k):=hr 15 (by decide);exact Rg.aG rfl (by go_simp)
  ·intro _ zZ w_ hB hr
   have e109:=Rg.c_ (hr 109 (by decide));have Dc:=Rg.c_ (hr 110 (by decide));exact Rg.aG rfl (by go_simp <;> exact Rg.wo (by omega))
  ·intro _ zZ w_ hB hr
   have e108:=Rg.c_ (hr 108 (by decide));have Dd:=Rg.c_ (hr 111 (by decide));have ef:=Rg.ef zZ;refine Rg.ah rfl (by go_simp;exact ⟨rfl,rfl⟩) ?_;rw [BT.out];refine (PT.out _ _ _ (aF.below oT hB)).mono ?_;rintro e w5 ⟨xX,rfl,wW,hb5⟩;exact ⟨_,rfl,aJ.at wW (by have:=hB.size;omega),hb5⟩
  ·intro _ zZ w_ hB hr
   have e14:zZ.tmps[14]?=some (.pointer (some ⟨gd,0,none⟩)):=hr 14 (by decide);have k0:=aE hB VD.box.c0;have k1:=aE hB VD.box.c1;exact Rg.aG rfl (by go_simp)
  ·intro _ zZ w_ hB hr
   obtain ⟨EC,De,n112⟩:∃ v,zZ.tmps[112]?=some v∧(Rg.Val.at (aJ (wr.heap.size) (S))).ok v w_:=hr 112 (by decide);obtain ⟨EA,DW,Dy,Da,yf,rfl,Aa⟩:=(Rg.aj n112).view;have Df:=Rg.c_ (hr 113 (by decide));have ec:=Rg.ec zZ;have ef:=Rg.ef zZ;refine Rg.ah rfl (by go_simp;exact ⟨rfl,rfl⟩) ?_;obtain rfl:=yf.out;rw [Dv.out];refine (PQ.out _ _ _ _ _ Aa (aF.below oD hB)).mono ?_;rintro e w5 ⟨rfl,hb5⟩;exact ⟨_,rfl,rfl,hb5⟩
  ·intro _ zZ w_ hB hr
   have Dg:=Rg.c_ (hr 114 (by decide));exact Rg.aG rfl (by go_simp)
  ·intro _ zZ w_ hB hr
   have AW:=Rg.c_ (hr 107 (by decide));exact Rg.aG rfl (by go_simp)
  ·intro _ zZ w_ hB hr
   have AW:=Rg.c_ (hr 107 (by decide));exact Rg.aG rfl (by go_simp)
  ·intro _ zZ w_ hB hr
   have e115:=Rg.c_ (hr 115 (by decide));exact Rg.aG rfl (by go_simp)
  ·intro _ zZ w_ hB hr
   have e116:=Rg.c_ (hr 116 (by decide));exact Rg.aG rfl (by go_simp)
  intro vals wz x8 hv hne;have xU:vals 10=.int .i64 x:=hv 10 (by decide);have xI:vals 11=.bool true:=hv 11 (by decide);simp only [Rg.ay,Rg.fill,Act.put,Nat.reduceAdd];clear hv;simp only [xU,xI];clear xU xI;replace C:=C.keep x8;replace Q:=Q.keep x8;replace R:=R.keep x8;replace MT:=MT.keep x8;replace MD:=MD.keep x8;replace B:=d_ B x8;clear x8 VT oT VD oD;unfold Rg.aZ;have f_:=C.box.c0;have g_:=C.box.c1;obtain ⟨q0,q1,q2⟩:=Q.aK;obtain ⟨r0,r1,r2⟩:=R.aK;have f0:=R.xC 0;have f1:=R.xC 1;have f2:=R.xC 2;have rl:=R.lt
  go_wp2_with (go_at_call 114;(with_reducible refine (PG.out _).mono ?_);rintro e w5 ⟨rfl,j5,rfl⟩;have hb5:=aM (wK wz.heap.size wz) j5;replace B:=d_ B hb5;replace C:=C.keep hb5;replace Q:=Q.keep hb5;replace R:=R.keep hb5;replace MT:=MT.keep hb5;replace MD:=MD.keep hb5;have f_:=C.box.c0;have g_:=C.box.c1;(obtain ⟨q0,q1,q2⟩:=Q.aK);(obtain ⟨r0,r1,r2⟩:=R.aK);have f0:=R.xC 0;have f1:=R.xC 1;have f2:=R.xC 2;have rl:=R.lt)
  go_roundw
  case rel=>exact ⟨k+1,rfl,by omega,by omega,JX,C,Q,R,B,MT,MD⟩
  case measure=>simp [intOf] <;> omega
 have hK:K=false:=by
  cases hK:K
  ·rfl
  have q1:=hk.out hK;have q2:=(H2.out hK).2.1;omega
 obtain ⟨z1,z2,z3⟩:=hno.out hK;have hfin:=wH (show K=false∧X=0∧Y=0∧E=0 from ⟨hK,z1,z2,z3⟩);clear hk H1 H2 hno z1 z2 z3 hK;go_wp2;exact bodyPost_ret (v:=.tuple #[.agg #[.int .i64 0,.int .i64 0,.int .i64 0],.bool false]) (by simp [results,Tryz.results87,go_sem, *]) rfl (⟨by rw [hfin.out.1,hfin.out.2.1,hfin.out.2.2.1,hfin.out.2.2.2],wJ (wJ (wJ B (by simp;omega) _) (by simp;omega) _) (by simp;omega) _⟩)
namespace M
noncomputable def dq (a X1 Y1 E1 X2 Y2 E2:Int):Bool:=if E1=0 then true else if E2=0 then true else gM a X1 Y1 E1 X2 Y2 E2
noncomputable def fQ (a X1 Y1 E1 X2 Y2 E2:Int):Int:=if E1=0 then X2 else if E2=0 then X1 else BP a X1 Y1 E1 X2 Y2 E2
noncomputable def fR (a X1 Y1 E1 X2 Y2 E2:Int):Int:=if E1=0 then Y2 else if E2=0 then Y1 else Be a X1 Y1 E1 X2 Y2 E2
noncomputable def fP (a X1 Y1 E1 X2 Y2 E2:Int):Int:=if E1=0 then E2 else if E2=0 then E1 else Ai a X1 Y1 E1 X2 Y2 E2
theorem fB {a b X Y E:Int} (hin:M.bK a b=true) (h:bG a b X Y E=true):(E=0∧X=0∧Y=0)∨(1≤E∧E≤20∧-10000≤X∧X≤10000∧Int.gcd X E=1∧Y*Y=cv a b X E∧-3000000≤Y∧Y≤3000000):=by
 obtain ⟨ha1,ha2,hb1,hb2⟩:=M.an hin;unfold bG at h
 split at h
 ·simp only [Bool.and_eq_true,decide_eq_true_eq] at h
  left;exact ⟨by assumption,h.1,h.2⟩
 right
 simp only [Bool.and_eq_true,decide_eq_true_eq,M.ins,beq_iff_eq] at h;obtain ⟨⟨⟨⟨h1,h2⟩,h3,h4⟩,h5⟩,h6⟩:=h;have hv:=M.mG (a:=a) (b:=b) ha1 ha2 hb1 hb2 h1 h2 (by omega) h4;have hy:=M.tr h6 hv.2;exact ⟨h3,h4,h1,h2,by unfold M.gcd at h5;omega,h6,hy.1,hy.2⟩
theorem tS {a b X Y E:Int} (h1:1≤E) (h2:E≤20) (h3:-10000≤X) (h4:X≤10000) (h5:Int.gcd X E=1) (h6:Y*Y=cv a b X E):bG a b X Y E=true:=by
 unfold bG;rw [if_neg (by omega)];simp only [Bool.and_eq_true,decide_eq_true_eq,M.ins,beq_iff_eq];exact ⟨⟨⟨⟨h3,h4⟩,h1,h2⟩,by unfold M.gcd;omega⟩,h6⟩
theorem uJ {a b X1 Y1 E1 X2 Y2 E2:Int} (hin:M.bK a b=true) (hp:bG a b X1 Y1 E1=true) (hq:bG a b X2 Y2 E2=true):bG a b (fQ a X1 Y1 E1 X2 Y2 E2) (fR a X1 Y1 E1 X2 Y2 E2) (fP a X1 Y1 E1 X2 Y2 E2)=true:=by
 unfold fQ fR fP
 by_cases h1:E1=0
 ·rw [if_pos h1,if_pos h1,if_pos h1];exact hq
 rw [if_neg h1,if_neg h1,if_neg h1]
 by_cases h2:E2=0
 ·rw [if_pos h2,if_pos h2,if_pos h2];exact hp
 rw [if_neg h2,if_neg h2,if_neg h2];have z0:bG a b 0 0 0=true:=rfl
 by_cases h0:sD X1 Y1 E1 X2 Y2 E2=0
 ·unfold BP Be Ai
  rw [if_pos h0,if_pos h0,if_pos h0];exact z0
 cases hk:gM a X1 Y1 E1 X2 Y2 E2
 ·obtain ⟨q1,q2,q3⟩:=oi h0 hk
  rw [q1,q2,q3];exact z0
 obtain ⟨p1,p2,p3,p4,p5,p6,-⟩:=(fB hin hp).resolve_left (fun h=>h1 h.1);obtain ⟨r1,r2,r3,r4,r5,r6,-⟩:=(fB hin hq).resolve_left (fun h=>h2 h.1);obtain ⟨-,-,H⟩:=kr (n:=yl a X1 Y1 E1 X2 Y2 E2) (m:=yI a X1 Y1 E1 X2 Y2 E2) p6 r6 p4 r4 p1 p2 r1 r2 h0 (Or.inl ⟨rfl,rfl⟩);obtain ⟨c1,c2,c3,c4,c5,-,-,c8,-⟩:=H hk _ _ _ rfl rfl rfl;exact tS c1 c2 c3 c4 c5 c8
theorem be {a b X Y E:Int} (hin:M.bK a b=true) (h:bG a b X Y E=true):-10000≤X∧X≤10000∧0≤E∧E≤20∧-3000000≤Y∧Y≤3000000:=by
 rcases fB hin h with ⟨rfl,rfl,rfl⟩ | ⟨h1,h2,h3,h4,-,-,h7,h8⟩ <;> omega
end M
theorem ll (a b X1 Y1 E1 X2 Y2 E2:Int) (w:World) (hg:M.good a b=true) (hp:M.bG a b X1 Y1 E1=true) (hq:M.bG a b X2 Y2 E2=true) :
  Calls Tryz.prog 87 #[.agg #[.int .i64 a,.int .i64 b],.agg #[.int .i64 X1,.int .i64 Y1,.int .i64 E1],.agg #[.int .i64 X2,.int .i64 Y2,.int .i64 E2]] w fun e w'=>e=.returned (.tuple #[.agg #[.int .i64 (M.fQ a X1 Y1 E1 X2 Y2 E2),.int .i64 (M.fR a X1 Y1 E1 X2 Y2 E2),.int .i64 (M.fP a X1 Y1 E1 X2 Y2 E2)],.bool (M.dq a X1 Y1 E1 X2 Y2 E2)])∧Below w.heap.size w w':=by
 have hin:=M.ag hg;obtain ⟨ha1,ha2,hb1,hb2⟩:=M.an hin
 by_cases hE1:E1=0
 ·have hf:=wH (show M.fQ a X1 Y1 E1 X2 Y2 E2=X2∧M.fR a X1 Y1 E1 X2 Y2 E2=Y2∧M.fP a X1 Y1 E1 X2 Y2 E2=E2∧M.dq a X1 Y1 E1 X2 Y2 E2=true from ⟨if_pos hE1,if_pos hE1,if_pos hE1,if_pos hE1⟩)
  rw [hf.out.1,hf.out.2.1,hf.out.2.2.1,hf.out.2.2.2];clear hf hg hp hq hin;subst hE1;have C:=(((aH.new w #[.int .i64 a,.int .i64 b] 25).alloc (.cells #[.int .i64 X1,.int .i64 Y1,.int .i64 0] 27)).alloc (.cells #[.int .i64 X2,.int .i64 Y2,.int .i64 E2] 27)).alloc (.cells #[.int .i64 0,.int .i64 0,.int .i64 0] 27);have Q:=((aH.new (w.alloc (.cells #[.int .i64 a,.int .i64 b] 25)) #[.int .i64 X1,.int .i64 Y1,.int .i64 0] 27).alloc (.cells #[.int .i64 X2,.int .i64 Y2,.int .i64 E2] 27)).alloc (.cells #[.int .i64 0,.int .i64 0,.int .i64 0] 27);rw [wI] at Q;have U:=(aH.new ((w.alloc (.cells #[.int .i64 a,.int .i64 b] 25)).alloc (.cells #[.int .i64 X1,.int .i64 Y1,.int .i64 0] 27)) #[.int .i64 X2,.int .i64 Y2,.int .i64 E2] 27).alloc (.cells #[.int .i64 0,.int .i64 0,.int .i64 0] 27);rw [wI,wI] at U;have R:=aH.new (((w.alloc (.cells #[.int .i64 a,.int .i64 b] 25)).alloc (.cells #[.int .i64 X1,.int .i64 Y1,.int .i64 0] 27)).alloc (.cells #[.int .i64 X2,.int .i64 Y2,.int .i64 E2] 27)) #[.int .i64 0,.int .i64 0,.int .i64 0] 27;rw [wI,wI,wI] at R;have B:=((((wK w.heap.size w).alloc (wL _) (.cells #[.int .i64 a,.int .i64 b] 25)).alloc (by rw [wI];omega) (.cells #[.int .i64 X1,.int .i64 Y1,.int .i64 0] 27)).alloc (by rw [wI,wI];omega) (.cells #[.int .i64 X2,.int .i64 Y2,.int .i64 E2] 27)).alloc (by rw [wI,wI,wI];omega) (.cells #[.int .i64 0,.int .i64 0,.int .i64 0] 27);generalize hw3:(((w.alloc (.cells #[.int .i64 a,.int .i64 b] 25)).alloc (.cells #[.int .i64 X1,.int .i64 Y1,.int .i64 0] 27)).alloc (.cells #[.int .i64 X2,.int .i64 Y2,.int .i64 E2] 27)).alloc (.cells #[.int .i64 0,.int .i64 0,.int .i64 0] 27)=wc at *;have f_:=C.box.c0;have g_:=C.box.c1;have ⟨q0,q1,q2⟩:=Q.aK;have ⟨u0,u1,u2⟩:=U.aK;have ⟨r0,r1,r2⟩:=R.aK;have f0:=R.xC 0;have f1:=R.xC 1;have f2:=R.xC 2;have rl:=R.lt;go_enter Tryz.func87,Tryz.ntmps87
  go_wp2;exact bodyPost_ret (v:=.tuple #[.agg #[.int .i64 X2,.int .i64 Y2,.int .i64 E2],.bool true]) (by simp [results,Tryz.results87,go_sem, *]) rfl (⟨rfl,wJ (wJ (wJ B (by simp;omega) _) (by simp;omega) _) (by simp;omega) _⟩)
 obtain ⟨p1,p2,p3,p4,p5,p6,p7,p8⟩:=(M.fB hin hp).resolve_left (fun h=>hE1 h.1)
 by_cases hE2:E2=0
 ·have hf:=wH (show M.fQ a X1 Y1 E1 X2 Y2 E2=X1∧M.fR a X1 Y1 E1 X2 Y2 E2=Y1∧M.fP a X1 Y1 E1 X2 Y2 E2=E1∧M.dq a X1 Y1 E1 X2 Y2 E2=true from ⟨(if_neg hE1).trans (if_pos hE2),(if_neg hE1).trans (if_pos hE2),(if_neg hE1).trans (if_pos hE2),(if_neg hE1).trans (if_pos hE2)⟩)
  rw [hf.out.1,hf.out.2.1,hf.out.2.2.1,hf.out.2.2.2];clear hf hg hp hq hin p5 p6
  have hE3:(E1 == 0)=false:=by rw [beq_eq_false_iff_ne];exact hE1
  subst hE2;have C:=(((aH.new w #[.int .i64 a,.int .i64 b] 25).alloc (.cells #[.int .i64 X1,.int .i64 Y1,.int .i64 E1] 27)).alloc (.cells #[.int .i64 X2,.int .i64 Y2,.int .i64 0] 27)).alloc (.cells #[.int .i64 0,.int .i64 0,.int .i64 0] 27);have Q:=((aH.new (w.alloc (.cells #[.int .i64 a,.int .i64 b] 25)) #[.int .i64 X1,.int .i64 Y1,.int .i64 E1] 27).alloc (.cells #[.int .i64 X2,.int .i64 Y2,.int .i64 0] 27)).alloc (.cells #[.int .i64 0,.int .i64 0,.int .i64 0] 27);rw [wI] at Q;have U:=(aH.new ((w.alloc (.cells #[.int .i64 a,.int .i64 b] 25)).alloc (.cells #[.int .i64 X1,.int .i64 Y1,.int .i64 E1] 27)) #[.int .i64 X2,.int .i64 Y2,.int .i64 0] 27).alloc (.cells #[.int .i64 0,.int .i64 0,.int .i64 0] 27);rw [wI,wI] at U;have R:=aH.new (((w.alloc (.cells #[.int .i64 a,.int .i64 b] 25)).alloc (.cells #[.int .i64 X1,.int .i64 Y1,.int .i64 E1] 27)).alloc (.cells #[.int .i64 X2,.int .i64 Y2,.int .i64 0] 27)) #[.int .i64 0,.int .i64 0,.int .i64 0] 27;rw [wI,wI,wI] at R;have B:=((((wK w.heap.size w).alloc (wL _) (.cells #[.int .i64 a,.int .i64 b] 25)).alloc (by rw [wI];omega) (.cells #[.int .i64 X1,.int .i64 Y1,.int .i64 E1] 27)).alloc (by rw [wI,wI];omega) (.cells #[.int .i64 X2,.int .i64 Y2,.int .i64 0] 27)).alloc (by rw [wI,wI,wI];omega) (.cells #[.int .i64 0,.int .i64 0,.int .i64 0] 27);generalize hw3:(((w.alloc (.cells #[.int .i64 a,.int .i64 b] 25)).alloc (.cells #[.int .i64 X1,.int .i64 Y1,.int .i64 E1] 27)).alloc (.cells #[.int .i64 X2,.int .i64 Y2,.int .i64 0] 27)).alloc (.cells #[.int .i64 0,.int .i64 0,.int .i64 0] 27)=wc at *;have f_:=C.box.c0;have g_:=C.box.c1;have ⟨q0,q1,q2⟩:=Q.aK;have ⟨u0,u1,u2⟩:=U.aK;have ⟨r0,r1,r2⟩:=R.aK;have f0:=R.xC 0;have f1:=R.xC 1;have f2:=R.xC 2;have rl:=R.lt;go_enter Tryz.func87,Tryz.ntmps87
  go_wp2;exact bodyPost_ret (v:=.tuple #[.agg #[.int .i64 X1,.int .i64 Y1,.int .i64 E1],.bool true]) (by simp [results,Tryz.results87,go_sem, *]) rfl (⟨rfl,wJ (wJ (wJ B (by simp;omega) _) (by simp;omega) _) (by simp;omega) _⟩)
 obtain ⟨r1,r2,r3,r4,r5,r6,r7,r8⟩:=(M.fB hin hq).resolve_left (fun h=>hE2 h.1);have hf:=wH (show M.fQ a X1 Y1 E1 X2 Y2 E2=M.BP a X1 Y1 E1 X2 Y2 E2∧M.fR a X1 Y1 E1 X2 Y2 E2=M.Be a X1 Y1 E1 X2 Y2 E2∧M.fP a X1 Y1 E1 X2 Y2 E2=M.Ai a X1 Y1 E1 X2 Y2 E2∧M.dq a X1 Y1 E1 X2 Y2 E2=M.gM a X1 Y1 E1 X2 Y2 E2 from ⟨(if_neg hE1).trans (if_neg hE2),(if_neg hE1).trans (if_neg hE2),(if_neg hE1).trans (if_neg hE2),(if_neg hE1).trans (if_neg hE2)⟩);rw [hf.out.1,hf.out.2.1,hf.out.2.2.1,hf.out.2.2.2];exact qe a b X1 Y1 E1 X2 Y2 E2 w ha1 ha2 p3 p4 p7 p8 p1 p2 r3 r4 r7 r8 r1 r2 hb1 hb2 p6 r6 p5 r5
theorem tQ (a b X1 Y1 E1 X2 Y2 E2:Int) (w:World) (hg:M.good a b=true) (hp:M.bG a b X1 Y1 E1=true) (hq:M.bG a b X2 Y2 E2=true) :
  Calls Tryz.prog 92 #[.agg #[.int .i64 a,.int .i64 b],.agg #[.int .i64 X1,.int .i64 Y1,.int .i64 E1],.agg #[.int .i64 X2,.int .i64 Y2,.int .i64 E2]] w fun e w'=>e=.returned (.tuple #[.agg #[.int .i64 (M.fQ a X1 Y1 E1 X2 Y2 E2),.int .i64 (M.fR a X1 Y1 E1 X2 Y2 E2),.int .i64 (M.fP a X1 Y1 E1 X2 Y2 E2)],.bool (M.dq a X1 Y1 E1 X2 Y2 E2)])∧Below w.heap.size w w':=by
 have hin:=M.ag hg;obtain ⟨ha1,ha2,hb1,hb2⟩:=M.an hin
 by_cases hE1:E1=0
 ·have hf:=wH (show M.fQ a X1 Y1 E1 X2 Y2 E2=X2∧M.fR a X1 Y1 E1 X2 Y2 E2=Y2∧M.fP a X1 Y1 E1 X2 Y2 E2=E2∧M.dq a X1 Y1 E1 X2 Y2 E2=true from ⟨if_pos hE1,if_pos hE1,if_pos hE1,if_pos hE1⟩)
  rw [hf.out.1,hf.out.2.1,hf.out.2.2.1,hf.out.2.2.2];clear hf hg hp hq hin;subst hE1;have C:=(((aH.new w #[.int .i64 a,.int .i64 b] 25).alloc (.cells #[.int .i64 X1,.int .i64 Y1,.int .i64 0] 27)).alloc (.cells #[.int .i64 X2,.int .i64 Y2,.int .i64 E2] 27)).alloc (.cells #[.int .i64 0,.int .i64 0,.int .i64 0] 27);have Q:=((aH.new (w.alloc (.cells #[.int .i64 a,.int .i64 b] 25)) #[.int .i64 X1,.int .i64 Y1,.int .i64 0] 27).alloc (.cells #[.int .i64 X2,.int .i64 Y2,.int .i64 E2] 27)).alloc (.cells #[.int .i64 0,.int .i64 0,.int .i64 0] 27);rw [wI] at Q;have U:=(aH.new ((w.alloc (.cells #[.int .i64 a,.int .i64 b] 25)).alloc (.cells #[.int .i64 X1,.int .i64 Y1,.int .i64 0] 27)) #[.int .i64 X2,.int .i64 Y2,.int .i64 E2] 27).alloc (.cells #[.int .i64 0,.int .i64 0,.int .i64 0] 27);rw [wI,wI] at U;have R:=aH.new (((w.alloc (.cells #[.int .i64 a,.int .i64 b] 25)).alloc (.cells #[.int .i64 X1,.int .i64 Y1,.int .i64 0] 27)).alloc (.cells #[.int .i64 X2,.int .i64 Y2,.int .i64 E2] 27)) #[.int .i64 0,.int .i64 0,.int .i64 0] 27;rw [wI,wI,wI] at R;have B:=((((wK w.heap.size w).alloc (wL _) (.cells #[.int .i64 a,.int .i64 b] 25)).alloc (by rw [wI];omega) (.cells #[.int .i64 X1,.int .i64 Y1,.int .i64 0] 27)).alloc (by rw [wI,wI];omega) (.cells #[.int .i64 X2,.int .i64 Y2,.int .i64 E2] 27)).alloc (by rw [wI,wI,wI];omega) (.cells #[.int .i64 0,.int .i64 0,.int .i64 0] 27);generalize hw3:(((w.alloc (.cells #[.int .i64 a,.int .i64 b] 25)).alloc (.cells #[.int .i64 X1,.int .i64 Y1,.int .i64 0] 27)).alloc (.cells #[.int .i64 X2,.int .i64 Y2,.int .i64 E2] 27)).alloc (.cells #[.int .i64 0,.int .i64 0,.int .i64 0] 27)=wc at *;have f_:=C.box.c0;have g_:=C.box.c1;have ⟨q0,q1,q2⟩:=Q.aK;have ⟨u0,u1,u2⟩:=U.aK;have ⟨r0,r1,r2⟩:=R.aK;have f0:=R.xC 0;have f1:=R.xC 1;have f2:=R.xC 2;have rl:=R.lt;go_enter Tryz.func92,Tryz.ntmps92
  go_wp2;exact bodyPost_ret (v:=.tuple #[.agg #[.int .i64 X2,.int .i64 Y2,.int .i64 E2],.bool true]) (by simp [results,Tryz.results92,go_sem, *]) rfl (⟨rfl,wJ (wJ (wJ B (by simp;omega) _) (by simp;omega) _) (by simp;omega) _⟩)
 obtain ⟨p1,p2,p3,p4,p5,p6,p7,p8⟩:=(M.fB hin hp).resolve_left (fun h=>hE1 h.1)
 by_cases hE2:E2=0
 ·have hf:=wH (show M.fQ a X1 Y1 E1 X2 Y2 E2=X1∧M.fR a X1 Y1 E1 X2 Y2 E2=Y1∧M.fP a X1 Y1 E1 X2 Y2 E2=E1∧M.dq a X1 Y1 E1 X2 Y2 E2=true from ⟨(if_neg hE1).trans (if_pos hE2),(if_neg hE1).trans (if_pos hE2),(if_neg hE1).trans (if_pos hE2),(if_neg hE1).trans (if_pos hE2)⟩)
  rw [hf.out.1,hf.out.2.1,hf.out.2.2.1,hf.out.2.2.2];clear hf hg hp hq hin p5 p6
  have hE3:(E1 == 0)=false:=by rw [beq_eq_false_iff_ne];exact hE1
  subst hE2;have C:=(((aH.new w #[.int .i64 a,.int .i64 b] 25).alloc (.cells #[.int .i64 X1,.int .i64 Y1,.int .i64 E1] 27)).alloc (.cells #[.int .i64 X2,.int .i64 Y2,.int .i64 0] 27)).alloc (.cells #[.int .i64 0,.int .i64 0,.int .i64 0] 27);have Q:=((aH.new (w.alloc (.cells #[.int .i64 a,.int .i64 b] 25)) #[.int .i64 X1,.int .i64 Y1,.int .i64 E1] 27).alloc (.cells #[.int .i64 X2,.int .i64 Y2,.int .i64 0] 27)).alloc (.cells #[.int .i64 0,.int .i64 0,.int .i64 0] 27);rw [wI] at Q;have U:=(aH.new ((w.alloc (.cells #[.int .i64 a,.int .i64 b] 25)).alloc (.cells #[.int .i64 X1,.int .i64 Y1,.int .i64 E1] 27)) #[.int .i64 X2,.int .i64 Y2,.int .i64 0] 27).alloc (.cells #[.int .i64 0,.int .i64 0,.int .i64 0] 27);rw [wI,wI] at U;have R:=aH.new (((w.alloc (.cells #[.int .i64 a,.int .i64 b] 25)).alloc (.cells #[.int .i64 X1,.int .i64 Y1,.int .i64 E1] 27)).alloc (.cells #[.int .i64 X2,.int .i64 Y2,.int .i64 0] 27)) #[.int .i64 0,.int .i64 0,.int .i64 0] 27;rw [wI,wI,wI] at R;have B:=((((wK w.heap.size w).alloc (wL _) (.cells #[.int .i64 a,.int .i64 b] 25)).alloc (by rw [wI];omega) (.cells #[.int .i64 X1,.int .i64 Y1,.int .i64 E1] 27)).alloc (by rw [wI,wI];omega) (.cells #[.int .i64 X2,.int .i64 Y2,.int .i64 0] 27)).alloc (by rw [wI,wI,wI];omega) (.cells #[.int .i64 0,.int .i64 0,.int .i64 0] 27);generalize hw3:(((w.alloc (.cells #[.int .i64 a,.int .i64 b] 25)).alloc (.cells #[.int .i64 X1,.int .i64 Y1,.int .i64 E1] 27)).alloc (.cells #[.int .i64 X2,.int .i64 Y2,.int .i64 0] 27)).alloc (.cells #[.int .i64 0,.int .i64 0,.int .i64 0] 27)=wc at *;have f_:=C.box.c0;have g_:=C.box.c1;have ⟨q0,q1,q2⟩:=Q.aK;have ⟨u0,u1,u2⟩:=U.aK;have ⟨r0,r1,r2⟩:=R.aK;have f0:=R.xC 0;have f1:=R.xC 1;have f2:=R.xC 2;have rl:=R.lt;go_enter Tryz.func92,Tryz.ntmps92
  go_wp2;exact bodyPost_ret (v:=.tuple #[.agg #[.int .i64 X1,.int .i64 Y1,.int .i64 E1],.bool true]) (by simp [results,Tryz.results92,go_sem, *]) rfl (⟨rfl,wJ (wJ (wJ B (by simp;omega) _) (by simp;omega) _) (by simp;omega) _⟩)
 obtain ⟨r1,r2,r3,r4,r5,r6,r7,r8⟩:=(M.fB hin hq).resolve_left (fun h=>hE2 h.1);have hf:=wH (show M.fQ a X1 Y1 E1 X2 Y2 E2=M.BP a X1 Y1 E1 X2 Y2 E2∧M.fR a X1 Y1 E1 X2 Y2 E2=M.Be a X1 Y1 E1 X2 Y2 E2∧M.fP a X1 Y1 E1 X2 Y2 E2=M.Ai a X1 Y1 E1 X2 Y2 E2∧M.dq a X1 Y1 E1 X2 Y2 E2=M.gM a X1 Y1 E1 X2 Y2 E2 from ⟨(if_neg hE1).trans (if_neg hE2),(if_neg hE1).trans (if_neg hE2),(if_neg hE1).trans (if_neg hE2),(if_neg hE1).trans (if_neg hE2)⟩);rw [hf.out.1,hf.out.2.1,hf.out.2.2.1,hf.out.2.2.2];exact nt a b X1 Y1 E1 X2 Y2 E2 w ha1 ha2 p3 p4 p7 p8 p1 p2 r3 r4 r7 r8 r1 r2 hb1 hb2 p6 r6
end
end Go.Proofs.YtggekfbfechonaaGreat
