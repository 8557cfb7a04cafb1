/-
  Joined texts: contracts and plain lemmas.
-/
import Derived.Test.YtggekfbfechonaaGreatU1
import Derived.Test.YtggekfbfechonaaGreatU13
set_option linter.unusedSimpArgs false
set_option linter.unusedVariables false
set_option maxRecDepth 100000
set_option maxHeartbeats 8000000
namespace Go.Proofs.YtggekfbfechonaaGreat
section
open Go.RowKit
def zJ (W:World) (g:Nat) (z:Int):Prop:=∃ (s:Bool) (a:Option Addr) (l c:Nat),Hid (s=decide (z<0))∧aH W g 125 #[.bool s,.slice a l c]∧aF W 0 (.slice a l c) (Wh.a_ z.natAbs)
theorem zJ.keep {W W':World} {g:Nat} {z:Int} (h:zJ W g z) (hb:Below W.heap.size W W'):zJ W' g z:=by
 obtain ⟨s,a,l,c,hs,hv,ho⟩:=h;exact ⟨s,a,l,c,hs,hv.keep hb,aF.below ho hb⟩
theorem zJ.lt {W:World} {g:Nat} {z:Int} (h:zJ W g z):g<W.heap.size:=by
 obtain ⟨s,a,l,c,hs,hv,ho⟩:=h;exact hv.lt
theorem zJ.bW {W:World} {g k:Nat} {z:Int} {u v:Value} (h:zJ W g z) (hk:g≠k) (hv:aH W k 125 #[u,v]) (x y:Value):zJ ((W.setCell ⟨k,0,none⟩ x).setCell ⟨k,1,none⟩ y) g z:=by
 obtain ⟨s,a,l,c,hs,hw,ho⟩:=h;exact ⟨s,a,l,c,hs,hw.bW hk x y,aF.bJ ho hv (by decide) x y⟩
theorem zJ.put {W:World} {g b:Nat} {z:Int} {u v:Value} {s:Bool} {a:Option Addr} {l c:Nat} (hv:aH W g 125 #[u,v]) (hs:Hid (s=decide (z<0))) (ho:aF W b (.slice a l c) (Wh.a_ z.natAbs)):zJ ((W.setCell ⟨g,0,none⟩ (.bool s)).setCell ⟨g,1,none⟩ (.slice a l c)) g z:=
 ⟨s,a,l,c,hs,hv.set2 _ _,aF.base (aF.bJ ho hv (by decide) _ _) (Nat.zero_le _)⟩
theorem fv (W:World) (x y:Value):Below W.heap.size W (W.alloc (.cells #[x,y] 125)):=(wP W.heap.size W).alloc (wQ _) _
theorem zJ.made {W:World} {b:Nat} {z:Int} {a:Option Addr} {l c:Nat} (ho:aF W b (.slice a l c) (Wh.a_ z.natAbs)):zJ (W.alloc (.cells #[.bool (decide (z<0)),.slice a l c] 125)) W.heap.size z:=
 ⟨_,a,l,c,wM rfl,aH.new W _ _,aF.base (aF.alloc ho _) (Nat.zero_le _)⟩
namespace M
theorem rO (n m X1 E1 X2 E2:Int):n*n*(E1*E1*E2*E2)+-(m*m*(X1*E2*E2+X2*E1*E1))=top n m X1 E1 X2 E2:=by unfold top;grind
theorem rN (m E1 E2:Int):m*m*(E1*E1*E2*E2)=bot m E1 E2:=by unfold bot;grind
end M
theorem qK (a b X1 Y1 E1 X2 Y2 E2:Int) (w:World) (ha1:-1000≤a) (ha2:a≤1000) (hx1:-10000≤X1) (hx2:X1≤10000) (hy1:-3000000≤Y1) (hy2:Y1≤3000000) (he1:1≤E1) (he2:E1≤20) (hx3:-10000≤X2) (hx4:X2≤10000) (hy3:-3000000≤Y2) (hy4:Y2≤3000000) (AZ:1≤E2) (Ay:E2≤20) (hb1:-10000≤b) (hb2:b≤10000) (hc1:Y1*Y1=M.cv a b X1 E1) (hc2:Y2*Y2=M.cv a b X2 E2) (g1:Int.gcd X1 E1=1) (g2:Int.gcd X2 E2=1) :
  Calls Tryz.prog 87 #[.agg #[.int .i64 a,.int .i64 b],.agg #[.int .i64 X1,.int .i64 Y1,.int .i64 E1],.agg #[.int .i64 X2,.int .i64 Y2,.int .i64 E2]] w fun e w'=>e=.returned (.tuple #[.agg #[.int .i64 (M.Aj a X1 Y1 E1 X2 Y2 E2),.int .i64 (M.Ax a X1 Y1 E1 X2 Y2 E2),.int .i64 (M.zk a X1 Y1 E1 X2 Y2 E2)],.bool (M.ft a X1 Y1 E1 X2 Y2 E2)])∧Below w.heap.size w w':=by
 have hE1:(E1 == 0)=false:=by rw [beq_eq_false_iff_ne];omega
 have hE2:(E2 == 0)=false:=by rw [beq_eq_false_iff_ne];omega
 have PO:=wM fun W=>mn X2 Y2 E2 W (by omega) (by omega)
 have hop:=M.ny hc1 hc2 he1 AZ g1 g2
 by_cases h0:M.sD X1 Y1 E1 X2 Y2 E2=0
 ·obtain ⟨k1,k2,k3⟩:=hop.1 h0
  have hf:=wM (show M.Aj a X1 Y1 E1 X2 Y2 E2=0∧M.Ax a X1 Y1 E1 X2 Y2 E2=0∧M.zk a X1 Y1 E1 X2 Y2 E2=0∧M.ft a X1 Y1 E1 X2 Y2 E2=true from ⟨if_pos h0,if_pos h0,if_pos h0,if_pos h0⟩);rw [hf.out.1,hf.out.2.1,hf.out.2.2.1,hf.out.2.2.2];have heq:=wM (show X1=X2∧Y1=-Y2∧E1=E2 from ⟨k1,k2,k3⟩);clear hf h0 hc1 hc2 hop k1 k2 k3 g1 g2;have C:=(((aH.new w #[.int .i64 a,.int .i64 b] 25).alloc (.cells #[.int .i64 X1,.int .i64 Y1,.int .i64 E1] 27)).alloc (.cells #[.int .i64 X2,.int .i64 Y2,.int .i64 E2] 27)).alloc (.cells #[.int .i64 0,.int .i64 0,.int .i64 0] 27);have Q:=((aH.new (w.alloc (.cells #[.int .i64 a,.int .i64 b] 25)) #[.int .i64 X1,.int .i64 Y1,.int .i64 E1] 27).alloc (.cells #[.int .i64 X2,.int .i64 Y2,.int .i64 E2] 27)).alloc (.cells #[.int .i64 0,.int .i64 0,.int .i64 0] 27);rw [wN] at Q;have U:=(aH.new ((w.alloc (.cells #[.int .i64 a,.int .i64 b] 25)).alloc (.cells #[.int .i64 X1,.int .i64 Y1,.int .i64 E1] 27)) #[.int .i64 X2,.int .i64 Y2,.int .i64 E2] 27).alloc (.cells #[.int .i64 0,.int .i64 0,.int .i64 0] 27);rw [wN,wN] at U;have R:=aH.new (((w.alloc (.cells #[.int .i64 a,.int .i64 b] 25)).alloc (.cells #[.int .i64 X1,.int .i64 Y1,.int .i64 E1] 27)).alloc (.cells #[.int .i64 X2,.int .i64 Y2,.int .i64 E2] 27)) #[.int .i64 0,.int .i64 0,.int .i64 0] 27;rw [wN,wN,wN] at R;have B:=((((wP w.heap.size w).alloc (wQ _) (.cells #[.int .i64 a,.int .i64 b] 25)).alloc (by rw [wN];omega) (.cells #[.int .i64 X1,.int .i64 Y1,.int .i64 E1] 27)).alloc (by rw [wN,wN];omega) (.cells #[.int .i64 X2,.int .i64 Y2,.int .i64 E2] 27)).alloc (by rw [wN,wN,wN];omega) (.cells #[.int .i64 0,.int .i64 0,.int .i64 0] 27);generalize hw3:(((w.alloc (.cells #[.int .i64 a,.int .i64 b] 25)).alloc (.cells #[.int .i64 X1,.int .i64 Y1,.int .i64 E1] 27)).alloc (.cells #[.int .i64 X2,.int .i64 Y2,.int .i64 E2] 27)).alloc (.cells #[.int .i64 0,.int .i64 0,.int .i64 0] 27)=wc at *;have f_:=C.box.c0;have g_:=C.box.c1;have ⟨q0,q1,q2⟩:=Q.aO;have ⟨u0,u1,u2⟩:=U.aO;have ⟨r0,r1,r2⟩:=R.aO;go_enter Tryz.func87,Tryz.ntmps87
  go_wp2
  go_upto_region 5 with fail
  refine Rg.bO 5 [.is (.agg #[.int .i64 X1,.int .i64 Y1,.int .i64 E1]),.is (.agg #[.int .i64 X2,.int .i64 Y2,.int .i64 E2]),.is (.agg #[.int .i64 X2,.int .i64 (-Y2),.int .i64 E2]),.is (.bool true),.is (.bool true)] (by kernel_rfl) (by kernel_rfl) (by kernel_rfl) ⟨?_,?_,?_,?_,?_,trivial⟩ ?_
  ·intro _ zZ w_ hB hr
   have e4:zZ.tmps[4]?=some (.pointer (some ⟨w.heap.size+1,0,none⟩)):=hr 4 (by decide);have k0:=aE hB q0;have k1:=aE hB q1;have k2:=aE hB q2;exact Rg.aG rfl (by go_simp)
  ·intro _ zZ w_ hB hr
   have e5:zZ.tmps[5]?=some (.pointer (some ⟨w.heap.size+1+1,0,none⟩)):=hr 5 (by decide);have k0:=aE hB u0;have k1:=aE hB u1;have k2:=aE hB u2;exact Rg.aG rfl (by go_simp)
  ·intro _ zZ w_ hB hr
   have e33:=Rg.c_ (hr 33 (by decide));have ef:=Rg.ef zZ;exact Rg.bp rfl (by go_simp) (PO.out _)
  ·intro _ zZ w_ hB hr
   have e32:=Rg.c_ (hr 32 (by decide));have e34:=Rg.c_ (hr 34 (by decide));exact Rg.aG rfl (by go_simp;first | done | (simp [heq.out];done) | (exact fun x y z=>heq.out ⟨x,y,z⟩))
  ·intro _ zZ w_ hB hr
   have e35:=Rg.c_ (hr 35 (by decide));exact Rg.aG rfl (by go_simp)
  intro vals wz Dj hv hne;have Af:vals 4=.bool true:=hv 4 (by decide);simp only [Rg.bE,Rg.fill,Act.put,Nat.reduceAdd];clear hv;simp only [Af];clear Af;unfold Rg.aZ
  (replace B:=d_ B Dj);replace R:=R.keep Dj;(obtain ⟨r0,r1,r2⟩:=R.aO);have f0:=R.xB 0;have f1:=R.xB 1;have f2:=R.xB 2;(have rl:=R.lt)
  go_wp2;exact bodyPost_ret (v:=.tuple #[.agg #[.int .i64 0,.int .i64 0,.int .i64 0],.bool true]) (by simp [results,Tryz.results87,go_sem, *]) rfl (⟨rfl,wO (wO (wO B (by simp;omega) _) (by simp;omega) _) (by simp;omega) _⟩)
 have hni:¬ (X1=X2∧Y1=-Y2∧E1=E2):=fun k=>h0 (hop.2 k)
 have heq:=wM hni;have hsb:=M.un (a:=a) ha1 ha2 hx1 hx2 hy1 hy2 he1 he2 hx3 hx4 hy3 hy4 AZ Ay;obtain ⟨-,hd0,-,hsn,hsd⟩:=M.oW (a:=a) h0;have hpn:=M.vj (a:=a) h0
 have hcore:=fun n m=>M.kC (n:=n) (m:=m) hc1 hc2 hx2 hx4 he1 he2 AZ Ay h0
 have hno:=M.ni (a:=a) h0
 have PS:=fun W=>tR a b X1 Y1 E1 X2 Y2 E2 W ha1 ha2 hx1 hx2 hy1 hy2 he1 he2 hx3 hx4 hy3 hy4 AZ Ay
 have hg0:M.gcd (M.sN a X1 Y1 E1 X2 Y2 E2) (M.sD X1 Y1 E1 X2 Y2 E2)≠0:=by
  unfold M.gcd;intro h;have:=Int.gcd_eq_zero_iff.1 (Int.ofNat_eq_zero.1 h);exact h0 this.2
 have PG:=fun W=>i8 (M.sN a X1 Y1 E1 X2 Y2 E2) (M.sD X1 Y1 E1 X2 Y2 E2) W (by omega) (by omega) (by omega) (by omega)
 obtain ⟨n,hn⟩:∃ n,Hid ((M.sN a X1 Y1 E1 X2 Y2 E2).tdiv (M.gcd (M.sN a X1 Y1 E1 X2 Y2 E2) (M.sD X1 Y1 E1 X2 Y2 E2))=n):=⟨_,wM rfl⟩
 obtain ⟨m,hm⟩:∃ m,Hid ((M.sD X1 Y1 E1 X2 Y2 E2).tdiv (M.gcd (M.sN a X1 Y1 E1 X2 Y2 E2) (M.sD X1 Y1 E1 X2 Y2 E2))=m):=⟨_,wM rfl⟩
 rw [hn.out,hm.out] at hpn;obtain ⟨hm0,H1,H2⟩:=hcore n m hpn
 have hnb:(-200000000000≤n∧n≤200000000000)∧-200000000000≤m∧m≤200000000000:=by
  clear hcore H1 H2 hno hop;omega
 clear hcore hpn hsn hsd hd0 hop hni;generalize M.sD X1 Y1 E1 X2 Y2 E2=D0,M.sN a X1 Y1 E1 X2 Y2 E2=N0,M.gcd (M.sN a X1 Y1 E1 X2 Y2 E2) (M.sD X1 Y1 E1 X2 Y2 E2)=g at *;generalize hX:M.Aj a X1 Y1 E1 X2 Y2 E2=X at *;generalize hY:M.Ax a X1 Y1 E1 X2 Y2 E2=Y at *;generalize hE:M.zk a X1 Y1 E1 X2 Y2 E2=E at *;generalize M.ft a X1 Y1 E1 X2 Y2 E2=K at *
 have hgb:(g == 0)=false:=by rw [beq_eq_false_iff_ne];exact hg0
 obtain ⟨⟨n1,n2⟩,m1,m2⟩:=hnb;replace H1:=wM H1;replace H2:=wM (fun k=>H2 k X Y E rfl rfl rfl);replace hno:=wM hno;replace PS:=wM PS;replace PG:=wM PG;have hm0:=wM hm0;clear hc1 hc2 g1 g2 hX hY hE;have zn:=Wh.bS (n:=n) (by omega) (by omega);have zm:=Wh.bS (n:=m) (by omega) (by omega);have sb1:=M.aK (x:=E1) (y:=E1) (m:=20) (n:=20) (by omega) (by omega) (by omega) (by omega);have IM:=M.aK (x:=E1*E1) (y:=E2) (m:=400) (n:=20) (by omega) (by omega) (by omega) (by omega);have IP:=M.aK (x:=E1*E1*E2) (y:=E2) (m:=8000) (n:=20) (by omega) (by omega) (by omega) (by omega);have IQ:=M.aK (x:=X1) (y:=E2) (m:=10000) (n:=20) (by omega) (by omega) (by omega) (by omega);have IR:=M.aK (x:=X1*E2) (y:=E2) (m:=200000) (n:=20) (by omega) (by omega) (by omega) (by omega);have IU:=M.aK (x:=X2) (y:=E1) (m:=10000) (n:=20) (by omega) (by omega) (by omega) (by omega);have IV:=M.aK (x:=X2*E1) (y:=E1) (m:=200000) (n:=20) (by omega) (by omega) (by omega) (by omega);have ze:=Wh.bS (n:=E1*E1*E2*E2) (by omega) (by omega);have zq:=Wh.bS (n:=X1*E2*E2+X2*E1*E1) (by omega) (by omega);have Hr:=Wh.aw zm zm;have Mi:=Wh.aw zn zn;have Mh:=Wh.aw Mi ze;have Mg:=Wh.aw Hr zq;have Mj:=Wh.gq Mg;have zt:=Wh.fQ Mh (Wh.aN Mj (show 5+5+5≤5+5+5 by omega));have zb:=Wh.aw Hr ze;have tT:=M.rO n m X1 E1 X2 E2;have tB:=M.rN m E1 E2
 have P1:=fun W=>bV (m) W (by omega) (by omega)
 have P2:=fun W=>bV (n) W (by omega) (by omega)
 have P3:=fun W=>bV (E1*E1*E2*E2) W (by omega) (by omega)
 have P4:=fun W=>bV (X1*E2*E2+X2*E1*E1) W (by omega) (by omega)
 have P5:=fun v v' W k k' (h:aF W k v (Wh.a_ (m).natAbs)) (h':aF W k' v' (Wh.a_ (m).natAbs))=>cO (m) (m) v v' W k k' h h' (Wh.aY.2 (Wh.aN zm (by omega))) (Wh.aY.2 (Wh.aN zm (by omega)))
 have P6:=fun v v' W k k' (h:aF W k v (Wh.a_ (n).natAbs)) (h':aF W k' v' (Wh.a_ (n).natAbs))=>cO (n) (n) v v' W k k' h h' (Wh.aY.2 (Wh.aN zn (by omega))) (Wh.aY.2 (Wh.aN zn (by omega)))
 have P7:=fun v v' W k k' (h:aF W k v (Wh.a_ (n*n).natAbs)) (h':aF W k' v' (Wh.a_ (E1*E1*E2*E2).natAbs))=>cO (n*n) (E1*E1*E2*E2) v v' W k k' h h' (Wh.aY.2 (Wh.aN Mi (by omega))) (Wh.aY.2 (Wh.aN ze (by omega)))
 have P8:=fun v v' W k k' (h:aF W k v (Wh.a_ (m*m).natAbs)) (h':aF W k' v' (Wh.a_ (X1*E2*E2+X2*E1*E1).natAbs))=>cO (m*m) (X1*E2*E2+X2*E1*E1) v v' W k k' h h' (Wh.aY.2 (Wh.aN Hr (by omega))) (Wh.aY.2 (Wh.aN zq (by omega)))
 have P9:=fun v W k (h:aF W k v (Wh.a_ (m*m*(X1*E2*E2+X2*E1*E1)).natAbs))=>gh (m*m*(X1*E2*E2+X2*E1*E1)) v W k h (Wh.aY.2 (Wh.aN Mg (by omega)))
 have PA:=fun v v' W k k' (h:aF W k v (Wh.a_ (n*n*(E1*E1*E2*E2)).natAbs)) (h':aF W k' v' (Wh.a_ (-(m*m*(X1*E2*E2+X2*E1*E1))).natAbs))=>fB (n*n*(E1*E1*E2*E2)) (-(m*m*(X1*E2*E2+X2*E1*E1))) v v' W k k' h h' (Wh.aY.2 (Wh.aN Mh (by omega))) (Wh.aY.2 (Wh.aN Mj (by omega)))
 have PB:=fun v v' W k k' (h:aF W k v (Wh.a_ (m*m).natAbs)) (h':aF W k' v' (Wh.a_ (E1*E1*E2*E2).natAbs))=>cO (m*m) (E1*E1*E2*E2) v v' W k k' h h' (Wh.aY.2 (Wh.aN Hr (by omega))) (Wh.aY.2 (Wh.aN ze (by omega)))
 rw [tT] at PA zt;rw [tB] at PB zb;have hbp:0<M.bot m E1 E2:=M.iQ hm0.out (by omega) (by omega);have hTe:=wM (rfl:M.top n m X1 E1 X2 E2=M.top n m X1 E1 X2 E2);generalize M.bot m E1 E2=Bt,M.top n m X1 E1 X2 E2=T at *;clear tT tB hTe zn zm ze zq Mi Mh Mg Mj Hr;generalize n*n=nn,m*m=mm,n*n*(E1*E1*E2*E2)=ne,m*m*(X1*E2*E2+X2*E1*E1)=mq,-(m*m*(X1*E2*E2+X2*E1*E1))=nq at *;replace P1:=wM P1;replace P2:=wM P2;replace P3:=wM P3;replace P4:=wM P4;replace P5:=wM P5;replace P6:=wM P6;replace P7:=wM P7;replace P8:=wM P8;replace P9:=wM P9;replace PA:=wM PA;replace PB:=wM PB;have C:=(((aH.new w #[.int .i64 a,.int .i64 b] 25).alloc (.cells #[.int .i64 X1,.int .i64 Y1,.int .i64 E1] 27)).alloc (.cells #[.int .i64 X2,.int .i64 Y2,.int .i64 E2] 27)).alloc (.cells #[.int .i64 0,.int .i64 0,.int .i64 0] 27);have Q:=((aH.new (w.alloc (.cells #[.int .i64 a,.int .i64 b] 25)) #[.int .i64 X1,.int .i64 Y1,.int .i64 E1] 27).alloc (.cells #[.int .i64 X2,.int .i64 Y2,.int .i64 E2] 27)).alloc (.cells #[.int .i64 0,.int .i64 0,.int .i64 0] 27);rw [wN] at Q;have U:=(aH.new ((w.alloc (.cells #[.int .i64 a,.int .i64 b] 25)).alloc (.cells #[.int .i64 X1,.int .i64 Y1,.int .i64 E1] 27)) #[.int .i64 X2,.int .i64 Y2,.int .i64 E2] 27).alloc (.cells #[.int .i64 0,.int .i64 0,.int .i64 0] 27);rw [wN,wN] at U;have R:=aH.new (((w.alloc (.cells #[.int .i64 a,.int .i64 b] 25)).alloc (.cells #[.int .i64 X1,.int .i64 Y1,.int .i64 E1] 27)).alloc (.cells #[.int .i64 X2,.int .i64 Y2,.int .i64 E2] 27)) #[.int .i64 0,.int .i64 0,.int .i64 0] 27;rw [wN,wN,wN] at R;have B:=((((wP w.heap.size w).alloc (wQ _) (.cells #[.int .i64 a,.int .i64 b] 25)).alloc (by rw [wN];omega) (.cells #[.int .i64 X1,.int .i64 Y1,.int .i64 E1] 27)).alloc (by rw [wN,wN];omega) (.cells #[.int .i64 X2,.int .i64 Y2,.int .i64 E2] 27)).alloc (by rw [wN,wN,wN];omega) (.cells #[.int .i64 0,.int .i64 0,.int .i64 0] 27);generalize hw3:(((w.alloc (.cells #[.int .i64 a,.int .i64 b] 25)).alloc (.cells #[.int .i64 X1,.int .i64 Y1,.int .i64 E1] 27)).alloc (.cells #[.int .i64 X2,.int .i64 Y2,.int .i64 E2] 27)).alloc (.cells #[.int .i64 0,.int .i64 0,.int .i64 0] 27)=wc at *;have f_:=C.box.c0;have g_:=C.box.c1;have ⟨q0,q1,q2⟩:=Q.aO;have ⟨u0,u1,u2⟩:=U.aO;have ⟨r0,r1,r2⟩:=R.aO;go_enter Tryz.func87,Tryz.ntmps87
 go_wp2
 go_upto_region 5 with fail
 refine Rg.bO 5 [.is (.agg #[.int .i64 X1,.int .i64 Y1,.int .i64 E1]),.is (.agg #[.int .i64 X2,.int .i64 Y2,.int .i64 E2]),.is (.agg #[.int .i64 X2,.int .i64 (-Y2),.int .i64 E2]),.is (.bool false),.is (.bool false)] (by kernel_rfl) (by kernel_rfl) (by kernel_rfl) ⟨?_,?_,?_,?_,?_,trivial⟩ ?_
 ·intro _ zZ w_ hB hr
  have e4:zZ.tmps[4]?=some (.pointer (some ⟨w.heap.size+1,0,none⟩)):=hr 4 (by decide);have k0:=aE hB q0;have k1:=aE hB q1;have k2:=aE hB q2;exact Rg.aG rfl (by go_simp)
 ·intro _ zZ w_ hB hr
  have e5:zZ.tmps[5]?=some (.pointer (some ⟨w.heap.size+1+1,0,none⟩)):=hr 5 (by decide);have k0:=aE hB u0;have k1:=aE hB u1;have k2:=aE hB u2;exact Rg.aG rfl (by go_simp)
 ·intro _ zZ w_ hB hr
  have e33:=Rg.c_ (hr 33 (by decide));have ef:=Rg.ef zZ;exact Rg.bp rfl (by go_simp) (PO.out _)
 ·intro _ zZ w_ hB hr
  have e32:=Rg.c_ (hr 32 (by decide));have e34:=Rg.c_ (hr 34 (by decide));exact Rg.aG rfl (by go_simp;first | done | (simp [heq.out];done) | (exact fun x y z=>heq.out ⟨x,y,z⟩))
 ·intro _ zZ w_ hB hr
  have e35:=Rg.c_ (hr 35 (by decide));exact Rg.aG rfl (by go_simp)
 intro vals wz Dj hv hne;have Af:vals 4=.bool false:=hv 4 (by decide);simp only [Rg.bE,Rg.fill,Act.put,Nat.reduceAdd];clear hv;simp only [Af];clear Af;unfold Rg.aZ
 (replace B:=d_ B Dj);replace C:=C.keep Dj;replace Q:=Q.keep Dj;replace U:=U.keep Dj;replace R:=R.keep Dj;have f_:=C.box.c0;have g_:=C.box.c1;(obtain ⟨q0,q1,q2⟩:=Q.aO);(obtain ⟨u0,u1,u2⟩:=U.aO);(obtain ⟨r0,r1,r2⟩:=R.aO)
 clear Dj
 go_upto_region 9 with first | (go_at_call 137;(with_reducible refine (PS.out _).mono ?_);rintro e w4 ⟨rfl,hb4⟩;replace B:=d_ B hb4;replace C:=C.keep hb4;replace Q:=Q.keep hb4;replace U:=U.keep hb4;replace R:=R.keep hb4;have f_:=C.box.c0;have g_:=C.box.c1;(obtain ⟨q0,q1,q2⟩:=Q.aO);(obtain ⟨u0,u1,u2⟩:=U.aO);(obtain ⟨r0,r1,r2⟩:=R.aO)) | (go_at_call 114;(with_reducible refine (PG.out _).mono ?_);rintro e w5 ⟨rfl,j5,rfl⟩;have hb5:=aM (wP w4.heap.size w4) j5;replace B:=d_ B hb5;replace C:=C.keep hb5;replace Q:=Q.keep hb5;replace U:=U.keep hb5;replace R:=R.keep hb5;have f_:=C.box.c0;have g_:=C.box.c1;(obtain ⟨q0,q1,q2⟩:=Q.aO);(obtain ⟨u0,u1,u2⟩:=U.aO);(obtain ⟨r0,r1,r2⟩:=R.aO))
 have hN1:=hsb;have hnn:=hn.out;have hmm:=hm.out
 go_cut [8,9] (fun p q wx=>p=.int .i64 n∧q=.int .i64 m∧aH wx w.heap.size 25 #[.int .i64 a,.int .i64 b]∧aH wx (w.heap.size+1) 27 #[.int .i64 X1,.int .i64 Y1,.int .i64 E1]∧aH wx (w.heap.size+1+1) 27 #[.int .i64 X2,.int .i64 Y2,.int .i64 E2]∧aH wx (w.heap.size+1+1+1) 27 #[.int .i64 0,.int .i64 0,.int .i64 0]∧Below w.heap.size w wx)
 case first=>
  go_region
  all_goals
   go_wp2_with fail
   go_meet
   exact ⟨rfl,rfl,C.drew,Q.drew,U.drew,R.drew,B.trans ((aM (wP _ _) 1).mono B.size)⟩
 case rest=>
 obtain ⟨rfl,rfl,C,Q,U,R,B⟩:=hcut;clear hN1 hnn hmm hn hm n1 n2 hsb hg0 hgb PS PG PO heq hw3
 have yn:w.heap.size+4≤wc.heap.size:=by have:=R.lt;omega
 go_upto_region 10 with fail
 go_cut [11] (fun p wx=>∃ ga:Nat,p=.pointer (some ⟨ga,0,none⟩)∧w.heap.size+4≤ga∧aH wx w.heap.size 25 #[.int .i64 a,.int .i64 b]∧aH wx (w.heap.size+1) 27 #[.int .i64 X1,.int .i64 Y1,.int .i64 E1]∧aH wx (w.heap.size+1+1) 27 #[.int .i64 X2,.int .i64 Y2,.int .i64 E2]∧aH wx (w.heap.size+1+1+1) 27 #[.int .i64 0,.int .i64 0,.int .i64 0]∧Below w.heap.size w wx∧zJ wx ga (mm))
 case first=>
  go_wp2_with first | (go_at_call 138;(with_reducible refine (P5.out _ _ _ _ _ o4 o5).mono ?_);rintro e w6 ⟨v6,rfl,o6,hb6⟩;(replace o6:aF _ _ _ _:=o6);replace B:=d_ B hb6;replace C:=C.keep hb6;replace Q:=Q.keep hb6;replace U:=U.keep hb6;replace R:=R.keep hb6;have f_:=C.box.c0;have g_:=C.box.c1;(obtain ⟨q0,q1,q2⟩:=Q.aO);(obtain ⟨u0,u1,u2⟩:=U.aO);(obtain ⟨r0,r1,r2⟩:=R.aO);obtain ⟨av,cv,rfl,xE,wt⟩:=aF.view o6;clear xE wt;have V:=aH.new w6 #[.bool false,.slice none 0 0] 125;have V0:=V.box.c0;have V1:=V.box.c1;have V2:=V.box.f0;have V3:=V.box.f1;have M0:=fv w6 (.bool (decide (mm<0))) (.slice av (Wh.a_ (mm).natAbs).length cv);have M1:=zJ.made o6) | ((have _t:=o4);clear _t;go_at_call 139;(with_reducible refine (P1.out _).mono ?_);rintro e w5 ⟨v5,rfl,o5,hb5⟩;(replace o5:aF _ _ _ _:=o5);replace B:=d_ B hb5;replace C:=C.keep hb5;replace Q:=Q.keep hb5;replace U:=U.keep hb5;replace R:=R.keep hb5;replace o4:=aF.below o4 hb5;have f_:=C.box.c0;have g_:=C.box.c1;(obtain ⟨q0,q1,q2⟩:=Q.aO);(obtain ⟨u0,u1,u2⟩:=U.aO);(obtain ⟨r0,r1,r2⟩:=R.aO)) | (go_at_call 139;(with_reducible refine (P1.out _).mono ?_);rintro e w4 ⟨v4,rfl,o4,hb4⟩;(replace o4:aF _ _ _ _:=o4);replace B:=d_ B hb4;replace C:=C.keep hb4;replace Q:=Q.keep hb4;replace U:=U.keep hb4;replace R:=R.keep hb4;have f_:=C.box.c0;have g_:=C.box.c1;(obtain ⟨q0,q1,q2⟩:=Q.aO);(obtain ⟨u0,u1,u2⟩:=U.aO);(obtain ⟨r0,r1,r2⟩:=R.aO))
  go_meet
  exact ⟨w6.heap.size,rfl,by have:=R.lt;omega,C.keep M0,Q.keep M0,U.keep M0,R.keep M0,d_ B M0,M1⟩
 case rest=>
 obtain ⟨ga,rfl,ha0,C,Q,U,R,B,MA⟩:=hcut;clear P1 P5 yn
 go_upto_region 11 with fail
 go_cut [12] (fun p wx=>∃ gb:Nat,p=.pointer (some ⟨gb,0,none⟩)∧ga<gb∧aH wx w.heap.size 25 #[.int .i64 a,.int .i64 b]∧aH wx (w.heap.size+1) 27 #[.int .i64 X1,.int .i64 Y1,.int .i64 E1]∧aH wx (w.heap.size+1+1) 27 #[.int .i64 X2,.int .i64 Y2,.int .i64 E2]∧aH wx (w.heap.size+1+1+1) 27 #[.int .i64 0,.int .i64 0,.int .i64 0]∧Below w.heap.size w wx∧zJ wx ga (mm)∧zJ wx gb (E1*E1*E2*E2))
 case first=>
  have f_:=C.box.c0;have g_:=C.box.c1;have ⟨q0,q1,q2⟩:=Q.aO;have ⟨u0,u1,u2⟩:=U.aO;have ⟨r0,r1,r2⟩:=R.aO
  go_wp2_with (go_at_call 139;(with_reducible refine (P3.out _).mono ?_);rintro e w4 ⟨v4,rfl,o4,hb4⟩;(replace o4:aF _ _ _ _:=o4);replace B:=d_ B hb4;replace C:=C.keep hb4;replace Q:=Q.keep hb4;replace U:=U.keep hb4;replace R:=R.keep hb4;replace MA:=MA.keep hb4;have f_:=C.box.c0;have g_:=C.box.c1;(obtain ⟨q0,q1,q2⟩:=Q.aO);(obtain ⟨u0,u1,u2⟩:=U.aO);(obtain ⟨r0,r1,r2⟩:=R.aO);obtain ⟨av,cv,rfl,xE,wt⟩:=aF.view o4;clear xE wt;have V:=aH.new w4 #[.bool false,.slice none 0 0] 125;have V0:=V.box.c0;have V1:=V.box.c1;have V2:=V.box.f0;have V3:=V.box.f1;have M0:=fv w4 (.bool (decide (E1*E1*E2*E2<0))) (.slice av (Wh.a_ (E1*E1*E2*E2).natAbs).length cv);have M1:=zJ.made o4)
  go_meet
  exact ⟨w4.heap.size,rfl,MA.lt,C.keep M0,Q.keep M0,U.keep M0,R.keep M0,d_ B M0,MA.keep M0,M1⟩
 case rest=>
 obtain ⟨gb,rfl,hab,C,Q,U,R,B,MA,MB⟩:=hcut;clear P3
 go_upto_region 12 with fail
 have ⟨sB,aB,lB,cB,hsB,VB,oB⟩:=MB;refine Rg.bO 8 [.is (.int .i64 n),.at (aJ (wc.heap.size) (n)),.is (.int .i64 n),.at (aJ (wc.heap.size) (n)),.at (aJ (wc.heap.size) (nn)),.is (.agg #[.bool sB,.slice aB lB cB]),.at (aJ (wc.heap.size) (ne)),.new (wc.heap.size) 125 #[.bool false,.slice none 0 0]] (by kernel_rfl) (by kernel_rfl) (by kernel_rfl) ⟨?_,?_,?_,?_,?_,?_,?_,?_,fun h_=>absurd h_ (by decide),trivial⟩ ?_
 ·intro _ zZ w_ hB hr
  have e8:zZ.tmps[8]?=some (.int .i64 n):=hr 8 (by decide);exact Rg.aG rfl (by go_simp)
 ·intro _ zZ w_ hB hr
  have e70:=Rg.c_ (hr 70 (by decide));have ef:=Rg.ef zZ;refine Rg.af rfl (by go_simp;exact ⟨rfl,rfl⟩) ?_;refine (P2.out _).mono ?_;rintro e w5 ⟨xX,rfl,wl,hb5⟩;exact ⟨_,rfl,aJ.at wl (by have:=hB.size;omega),hb5⟩
 ·intro _ zZ w_ hB hr
  have e8:zZ.tmps[8]?=some (.int .i64 n):=hr 8 (by decide);exact Rg.aG rfl (by go_simp)
 ·intro _ zZ w_ hB hr
  have e72:=Rg.c_ (hr 72 (by decide));have ef:=Rg.ef zZ;refine Rg.af rfl (by go_simp;exact ⟨rfl,rfl⟩) ?_;refine (P2.out _).mono ?_;rintro e w5 ⟨xX,rfl,wl,hb5⟩;exact ⟨_,rfl,aJ.at wl (by have:=hB.size;omega),hb5⟩
 ·intro _ zZ w_ hB hr
  obtain ⟨v71,e71,n71⟩:∃ v,zZ.tmps[71]?=some v∧(Rg.Val.at (aJ (wc.heap.size) (n))).ok v w_:=hr 71 (by decide);obtain ⟨s71,a71,l71,c71,La,rfl,o71⟩:=(Rg.ag n71).view;obtain ⟨v73,e73,n73⟩:∃ v,zZ.tmps[73]?=some v∧(Rg.Val.at (aJ (wc.heap.size) (n))).ok v w_:=hr 73 (by decide);obtain ⟨s73,a73,l73,c73,Lb,rfl,o73⟩:=(Rg.ag n73).view;have ef:=Rg.ef zZ;refine Rg.af rfl (by go_simp;exact ⟨rfl,rfl⟩) ?_;obtain rfl:=La.out;obtain rfl:=Lb.out;refine (P6.out _ _ _ _ _ o71 o73).mono ?_;rintro e w5 ⟨xX,rfl,wl,hb5⟩;exact ⟨_,rfl,aJ.at wl (by have:=hB.size;omega),hb5⟩
 ·intro _ zZ w_ hB hr
  have e12:zZ.tmps[12]?=some (.pointer (some ⟨gb,0,none⟩)):=hr 12 (by decide);have k0:=aE hB VB.box.c0;have k1:=aE hB VB.box.c1;exact Rg.aG rfl (by go_simp)
 ·intro _ zZ w_ hB hr
  obtain ⟨v74,e74,n74⟩:∃ v,zZ.tmps[74]?=some v∧(Rg.Val.at (aJ (wc.heap.size) (nn))).ok v w_:=hr 74 (by decide);obtain ⟨s74,a74,l74,c74,Lc,rfl,o74⟩:=(Rg.ag n74).view;have e75:=Rg.c_ (hr 75 (by decide));have ef:=Rg.ef zZ;refine Rg.af rfl (by go_simp;exact ⟨rfl,rfl⟩) ?_;obtain rfl:=Lc.out;rw [hsB.out];refine (P7.out _ _ _ _ _ o74 (aF.below oB hB)).mono ?_;rintro e w5 ⟨xX,rfl,wl,hb5⟩;exact ⟨_,rfl,aJ.at wl (by have:=hB.size;omega),hb5⟩
 ·intro _ zZ w_ hB hr
  exact ⟨by have:=hB.size;omega,rfl,by first | (go_simp;done) | (go_simp;rfl)⟩
 intro vals wz Gj hv hne;have n13:(Rg.Val.new (wc.heap.size) 125 #[.bool false,.slice none 0 0]).ok (vals 7) wz:=hv 7 (by decide);have n76:(Rg.Val.at (aJ (wc.heap.size) (ne))).ok (vals 6) wz:=hv 6 (by decide);simp only [Rg.bE,Rg.fill,Act.put,Nat.reduceAdd];clear hv;obtain ⟨g13,E5,AB,G6⟩:=n13;replace G6:aH wz g13 125 #[.bool false,.slice none 0 0]:=G6;obtain ⟨s76,a76,l76,c76,Ld,CL,o76⟩:=(Rg.ag n76).view;simp only [AB,CL];clear AB CL;have hB2:Below wc.heap.size wc ((wz.setCell ⟨g13,0,none⟩ (.bool s76)).setCell ⟨g13,1,none⟩ (.slice a76 l76 c76)):=wO (wO Gj E5 _) E5 _;have ⟨c0,c1,f0,f1,_⟩:=G6.box;have MC:=zJ.put G6 Ld o76;have hlt:=MB.lt;unfold Rg.aZ Rg.aZ Oper.wp
 go_simp
 clear c0 c1 f0 f1 G6 VB oB;replace MA:=MA.keep hB2;replace MB:=MB.keep hB2;replace C:=C.keep hB2;replace Q:=Q.keep hB2;replace U:=U.keep hB2;replace R:=R.keep hB2;replace B:=d_ B hB2
 have hbc:gb<g13:=by omega
 clear hB2 Gj hlt E5 P2 P6 P7;generalize ((wz.setCell ⟨g13,0,none⟩ (.bool s76)).setCell ⟨g13,1,none⟩ (.slice a76 l76 c76))=wd at *
 skip
 have f_:=C.box.c0;have g_:=C.box.c1;have ⟨q0,q1,q2⟩:=Q.aO;have ⟨u0,u1,u2⟩:=U.aO;have ⟨r0,r1,r2⟩:=R.aO
 go_upto_region 13 with fail
 obtain ⟨e1,e2,e3,e4,e5,e6⟩:w.heap.size≤g13∧ga≠g13∧gb≠g13∧w.heap.size≠g13∧w.heap.size+1≠g13∧w.heap.size+1+1+1≠g13:=⟨by omega,by omega,by omega,by omega,by omega,by omega⟩
 have ⟨sA,aA,lA,cA,hsA,VA,oA⟩:=MA;have ⟨sC,aC,lC,cC,hsC,VC,oC⟩:=MC;refine Rg.bO 23 [.is (.agg #[.bool sC,.slice aC lC cC]),.is (.agg #[.bool sA,.slice aA lA cA]),.is (.pointer (some ⟨w.heap.size+1,0,none⟩)),.is (.int .i64 X1),.is (.pointer (some ⟨w.heap.size+1+1,2,none⟩)),.is (.int .i64 E2),.is (.int .i64 (X1*E2)),.is (.pointer (some ⟨w.heap.size+1+1,2,none⟩)),.is (.int .i64 E2),.is (.int .i64 ((X1*E2)*E2)),.is (.pointer (some ⟨w.heap.size+1+1,0,none⟩)),.is (.int .i64 X2),.is (.pointer (some ⟨w.heap.size+1,2,none⟩)),.is (.int .i64 E1),.is (.int .i64 (X2*E1)),.is (.pointer (some ⟨w.heap.size+1,2,none⟩)),.is (.int .i64 E1),.is (.int .i64 ((X2*E1)*E1)),.is (.int .i64 (((X1*E2)*E2)+((X2*E1)*E1))),.at (aJ (wd.heap.size) (X1*E2*E2+X2*E1*E1)),.at (aJ (wd.heap.size) (mq)),.at (aJ (wd.heap.size) (nq)),.at (aJ (wd.heap.size) (T))] (by kernel_rfl) (by kernel_rfl) (by kernel_rfl) ⟨?_,?_,?_,?_,?_,?_,?_,?_,?_,?_,?_,?_,?_,?_,?_,?_,?_,?_,?_,?_,?_,?_,?_,fun h_=>absurd h_ (by decide),trivial⟩ ?_
 ·intro _ zZ w_ hB hr
  have e13:zZ.tmps[13]?=some (.pointer (some ⟨g13,0,none⟩)):=hr 13 (by decide);have k0:=aE hB VC.box.c0;have k1:=aE hB VC.box.c1;exact Rg.aG rfl (by go_simp)
 ·intro _ zZ w_ hB hr
  have e11:zZ.tmps[11]?=some (.pointer (some ⟨ga,0,none⟩)):=hr 11 (by decide);have k0:=aE hB VA.box.c0;have k1:=aE hB VA.box.c1;exact Rg.aG rfl (by go_simp)
 ·intro _ zZ w_ hB hr
  have e4:zZ.tmps[4]?=some (.pointer (some ⟨w.heap.size+1,0,none⟩)):=hr 4 (by decide);exact Rg.aG rfl (by go_simp)
 ·intro _ zZ w_ hB hr
  have e79:=Rg.c_ (hr 79 (by decide));have k0:=aE hB q0;exact Rg.aG rfl (by go_simp)
 ·intro _ zZ w_ hB hr
  have e5:zZ.tmps[5]?=some (.pointer (some ⟨w.heap.size+1+1,0,none⟩)):=hr 5 (by decide);exact Rg.aG rfl (by go_simp)
 ·intro _ zZ w_ hB hr
  have e81:=Rg.c_ (hr 81 (by decide));have k2:=aE hB u2;exact Rg.aG rfl (by go_simp)
 ·intro _ zZ w_ hB hr
  have e80:=Rg.c_ (hr 80 (by decide));have e82:=Rg.c_ (hr 82 (by decide));exact Rg.aG rfl (by go_simp <;> exact Rg.wo (by omega))
 ·intro _ zZ w_ hB hr
  have e5:zZ.tmps[5]?=some (.pointer (some ⟨w.heap.size+1+1,0,none⟩)):=hr 5 (by decide);exact Rg.aG rfl (by go_simp)
 ·intro _ zZ w_ hB hr
  have e84:=Rg.c_ (hr 84 (by decide));have k2:=aE hB u2;exact Rg.aG rfl (by go_simp)
 ·intro _ zZ w_ hB hr
  have e83:=Rg.c_ (hr 83 (by decide));have e85:=Rg.c_ (hr 85 (by decide));exact Rg.aG rfl (by go_simp <;> exact Rg.wo (by omega))
 ·intro _ zZ w_ hB hr
  have e5:zZ.tmps[5]?=some (.pointer (some ⟨w.heap.size+1+1,0,none⟩)):=hr 5 (by decide);exact Rg.aG rfl (by go_simp)
 ·intro _ zZ w_ hB hr
  have e87:=Rg.c_ (hr 87 (by decide));have k0:=aE hB u0;exact Rg.aG rfl (by go_simp)
 ·intro _ zZ w_ hB hr
  have e4:zZ.tmps[4]?=some (.pointer (some ⟨w.heap.size+1,0,none⟩)):=hr 4 (by decide);exact Rg.aG rfl (by go_simp)
 ·intro _ zZ w_ hB hr
  have e89:=Rg.c_ (hr 89 (by decide));have k2:=aE hB q2;exact Rg.aG rfl (by go_simp)
 ·intro _ zZ w_ hB hr
  have e88:=Rg.c_ (hr 88 (by decide));have e90:=Rg.c_ (hr 90 (by decide));exact Rg.aG rfl (by go_simp <;> exact Rg.wo (by omega))
 ·intro _ zZ w_ hB hr
  have e4:zZ.tmps[4]?=some (.pointer (some ⟨w.heap.size+1,0,none⟩)):=hr 4 (by decide);exact Rg.aG rfl (by go_simp)
 ·intro _ zZ w_ hB hr
  have e92:=Rg.c_ (hr 92 (by decide));have k2:=aE hB q2;exact Rg.aG rfl (by go_simp)
 ·intro _ zZ w_ hB hr
  have e91:=Rg.c_ (hr 91 (by decide));have e93:=Rg.c_ (hr 93 (by decide));exact Rg.aG rfl (by go_simp <;> exact Rg.wo (by omega))
 ·intro _ zZ w_ hB hr
  have e86:=Rg.c_ (hr 86 (by decide));have e94:=Rg.c_ (hr 94 (by decide));exact Rg.aG rfl (by go_simp <;> exact Rg.wo (by omega))
 ·intro _ zZ w_ hB hr
  have e95:=Rg.c_ (hr 95 (by decide));have ef:=Rg.ef zZ;refine Rg.af rfl (by go_simp;exact ⟨rfl,rfl⟩) ?_;refine (P4.out _).mono ?_;rintro e w5 ⟨xX,rfl,wl,hb5⟩;exact ⟨_,rfl,aJ.at wl (by have:=hB.size;omega),hb5⟩
 ·intro _ zZ w_ hB hr
  have e78:=Rg.c_ (hr 78 (by decide));obtain ⟨v96,e96,n96⟩:∃ v,zZ.tmps[96]?=some v∧(Rg.Val.at (aJ (wd.heap.size) (X1*E2*E2+X2*E1*E1))).ok v w_:=hr 96 (by decide);obtain ⟨s96,a96,l96,c96,Le,rfl,o96⟩:=(Rg.ag n96).view;have ef:=Rg.ef zZ;refine Rg.af rfl (by go_simp;exact ⟨rfl,rfl⟩) ?_;obtain rfl:=Le.out;rw [hsA.out];refine (P8.out _ _ _ _ _ (aF.below oA hB) o96).mono ?_;rintro e w5 ⟨xX,rfl,wl,hb5⟩;exact ⟨_,rfl,aJ.at wl (by have:=hB.size;omega),hb5⟩
 ·intro _ zZ w_ hB hr
  obtain ⟨v97,e97,n97⟩:∃ v,zZ.tmps[97]?=some v∧(Rg.Val.at (aJ (wd.heap.size) (mq))).ok v w_:=hr 97 (by decide);obtain ⟨s97,a97,l97,c97,Lf,rfl,o97⟩:=(Rg.ag n97).view;have ef:=Rg.ef zZ;refine Rg.af rfl (by go_simp;exact ⟨rfl,rfl⟩) ?_;obtain rfl:=Lf.out;refine (P9.out _ _ _ o97).mono ?_;rintro e w5 ⟨xX,rfl,wl,hb5⟩;exact ⟨_,rfl,aJ.at wl (by have:=hB.size;omega),hb5⟩
 ·intro _ zZ w_ hB hr
  have e77:=Rg.c_ (hr 77 (by decide));obtain ⟨v98,e98,n98⟩:∃ v,zZ.tmps[98]?=some v∧(Rg.Val.at (aJ (wd.heap.size) (nq))).ok v w_:=hr 98 (by decide);obtain ⟨s98,a98,l98,c98,Lg,rfl,o98⟩:=(Rg.ag n98).view;have ef:=Rg.ef zZ;refine Rg.af rfl (by go_simp;exact ⟨rfl,rfl⟩) ?_;obtain rfl:=Lg.out;rw [hsC.out];refine (PA.out _ _ _ _ _ (aF.below oC hB) o98).mono ?_;rintro e w5 ⟨xX,rfl,wl,hb5⟩;exact ⟨_,rfl,aJ.at wl (by have:=hB.size;omega),hb5⟩
 intro vals wy DI hv hne;have n99:(Rg.Val.at (aJ (wd.heap.size) (T))).ok (vals 22) wy:=hv 22 (by decide);simp only [Rg.bE,Rg.fill,Act.put,Nat.reduceAdd];clear hv;obtain ⟨Fc,ET,FS,Ek,Lh,DB,o99⟩:=(Rg.ag n99).view;simp only [DB];clear DB;have GI:=VC.keep DI;have hB2:Below w.heap.size w ((wy.setCell ⟨g13,0,none⟩ (.bool Fc)).setCell ⟨g13,1,none⟩ (.slice ET FS Ek)):=wO (wO (d_ B DI) e1 _) e1 _;replace MA:=(MA.keep DI).bW e2 GI (.bool Fc) (.slice ET FS Ek);replace MB:=(MB.keep DI).bW e3 GI (.bool Fc) (.slice ET FS Ek);have MT:=zJ.put GI Lh o99;have ⟨c0,c1,f0,f1,_⟩:=GI.box;replace C:=(C.keep DI).bW e4 (.bool Fc) (.slice ET FS Ek);replace Q:=(Q.keep DI).bW e5 (.bool Fc) (.slice ET FS Ek);replace R:=(R.keep DI).bW e6 (.bool Fc) (.slice ET FS Ek);unfold Rg.aZ Rg.aZ Oper.wp
 go_simp
 clear c0 c1 f0 f1 GI VC oC VA oA MC U DI B
 skip
 have B:=hB2;clear hB2;generalize ((wy.setCell ⟨g13,0,none⟩ (.bool Fc)).setCell ⟨g13,1,none⟩ (.slice ET FS Ek))=wf at *;clear q0 q1 q2 u0 u1 u2 r0 r1 r2 f_ g_;clear P4 P8 P9 PA
 go_upto_region 14 with fail
 go_cut [14] (fun p wx=>∃ gd:Nat,p=.pointer (some ⟨gd,0,none⟩)∧aH wx w.heap.size 25 #[.int .i64 a,.int .i64 b]∧aH wx (w.heap.size+1) 27 #[.int .i64 X1,.int .i64 Y1,.int .i64 E1]∧aH wx (w.heap.size+1+1+1) 27 #[.int .i64 0,.int .i64 0,.int .i64 0]∧Below w.heap.size w wx∧zJ wx g13 (T)∧zJ wx gd (Bt))
 case first=>
  have ⟨sA,aA,lA,cA,hsA,VA,oA⟩:=MA;have ⟨sB,aB,lB,cB,hsB,VB,oB⟩:=MB;obtain rfl:=hsA.out;obtain rfl:=hsB.out;have a0:=VA.box.c0;have a1:=VA.box.c1;have b0:=VB.box.c0;have b1:=VB.box.c1
  go_wp2_with (go_at_call 138;(with_reducible refine (PB.out _ _ _ _ _ oA oB).mono ?_);rintro e w4 ⟨v4,rfl,o4,hb4⟩;(replace o4:aF _ _ _ _:=o4);replace B:=d_ B hb4;replace C:=C.keep hb4;replace Q:=Q.keep hb4;replace R:=R.keep hb4;replace MT:=MT.keep hb4;have f_:=C.box.c0;have g_:=C.box.c1;(obtain ⟨q0,q1,q2⟩:=Q.aO);(obtain ⟨r0,r1,r2⟩:=R.aO);obtain ⟨av,cv,rfl,xE,wt⟩:=aF.view o4;clear xE wt;have V:=aH.new w4 #[.bool false,.slice none 0 0] 125;have V0:=V.box.c0;have V1:=V.box.c1;have V2:=V.box.f0;have V3:=V.box.f1;have M0:=fv w4 (.bool (decide (Bt<0))) (.slice av (Wh.a_ (Bt).natAbs).length cv);have M1:=zJ.made o4)
  go_meet
  exact ⟨w4.heap.size,rfl,C.keep M0,Q.keep M0,R.keep M0,d_ B M0,MT.keep M0,M1⟩
 case rest=>
 obtain ⟨gd,rfl,C,Q,R,B,MT,MD⟩:=hcut;clear MA MB PB e1 e2 e3 e4 e5 e6 hab ha0;go_wp2
 go_loopw [15] (fun vk wr=>∃ k:Int,vk=.int .i64 k∧1≤k∧k≤21∧Hid (K=true→k≤E)∧aH wr w.heap.size 25 #[.int .i64 a,.int .i64 b]∧aH wr (w.heap.size+1) 27 #[.int .i64 X1,.int .i64 Y1,.int .i64 E1]∧aH wr (w.heap.size+1+1+1) 27 #[.int .i64 0,.int .i64 0,.int .i64 0]∧Below w.heap.size w wr∧zJ wr g13 (T)∧zJ wr gd (Bt)) (fun vk _=>(21 - intOf vk).toNat)
 case atStart=>exact ⟨1,rfl,by omega,by omega,wM (fun h=>(H2.out h).1),C,Q,R,B,MT,MD⟩
 case round=>
 clear C Q R B MT MD;obtain ⟨k,rfl,k1,k2,hk,C,Q,R,B,MT,MD⟩:=hrel;have f_:=C.box.c0;have g_:=C.box.c1;obtain ⟨q0,q1,q2⟩:=Q.aO;obtain ⟨r0,r1,r2⟩:=R.aO;have f0:=R.xB 0;have f1:=R.xB 1;have f2:=R.xB 2;have rl:=R.lt
 by_cases h20:k≤20
 ·have hkk:=M.aK (x:=k) (y:=k) (m:=20) (n:=20) (by omega) (by omega) (by omega) (by omega)
  have PT:=fun v W j (h:aF W j v (Wh.a_ T.natAbs))=>jN T (k*k) v W j h (Wh.aY.2 (Wh.aN zt (by omega))) (by omega) (by omega)
  have zs:=Wh.aw zt (Wh.bS (n:=k*k) (by omega) (by omega))
  have PQ:=fun v v' W j j' (h:aF W j v (Wh.a_ (T*(k*k)).natAbs)) (h':aF W j' v' (Wh.a_ Bt.natAbs))=>iN (T*(k*k)) Bt v v' W j j' h h' (Wh.aN zs (by omega)) (Wh.aN zb (by omega)) hbp
  have hxb:-10000≤M.sq (T*(k*k)) Bt∧M.sq (T*(k*k)) Bt≤10000:=by unfold M.sq;omega
  have hxe:=fun x' (h1:-10000≤x') (h2:x'≤10000) (h:Bt*x'=T*(k*k))=>M.wG hbp h1 h2 h
  have hat:K=true→E=k→M.sq (T*(k*k)) Bt=X∧Bt*X=T*(k*k)∧Int.gcd X k=1:=by
   intro hK hE;obtain ⟨c1,c2,c3,c4,c5,c6,-⟩:=H2.out hK;rw [hE] at c5 c6;exact ⟨hxe X c3 c4 c6,c6,c5⟩
  clear hxe zs
  have h1k:=fun x' (q3:-10000≤x') (q4:x'≤10000) q5 q6=>H1.out x' k k1 h20 q3 q4 q5 q6
  generalize T*(k*k)=S,M.sq (T*(k*k)) Bt=x at *
  have PG:=fun W=>i8 x k W (by omega) (by omega) (by omega) (by omega)
  obtain ⟨x1,x2⟩:=hxb
  obtain ⟨ok,hok⟩:∃ ok,Hid (decide (Bt*x=S)=ok):=⟨_,wM rfl⟩
  rw [hok.out] at PQ;have PT:=wM PT;have PQ:=wM PQ
  have H5:M.gcd x k=1 ↔ Int.gcd x k=1:=by unfold M.gcd;omega
  generalize M.gcd x k=gk at *;have PG:=wM PG
  by_cases hgood:ok=true∧gk=1
  ·obtain ⟨rfl,rfl⟩:=hgood
   obtain ⟨hK,hX,hE⟩:=h1k x x1 x2 (H5.1 rfl) (of_decide_eq_true hok.out);obtain ⟨c1,c2,c3,c4,c5,c6,c7,c8,c9,ca⟩:=H2.out hK;rw [hX,hE] at c7 c8;have hfin:=wM (show K=true∧X=x∧E=k from ⟨hK,hX,hE⟩);clear hat h1k H5 hok c1 c2 c3 c4 c5 c6 hK hX hE hk H1 H2 hno zt zb hbp
   have m3:-8000≤m∧m≤8000:=by omega
   have n3:-1600000≤n∧n≤1600000:=by omega
   clear c9 ca;have IW:=M.aK (x:=X1) (y:=k) (m:=10000) (n:=20) (by omega) (by omega) (by omega) (by omega);have IX:=M.aK (x:=X1*k) (y:=k) (m:=200000) (n:=20) (by omega) (by omega) (by omega) (by omega);have Dy:=M.aK (x:=x) (y:=E1) (m:=10000) (n:=20) (by omega) (by omega) (by omega) (by omega);have Dz:=M.aK (x:=x*E1) (y:=E1) (m:=200000) (n:=20) (by omega) (by omega) (by omega) (by omega);have D1:=M.aK (x:=n) (y:=X1*k*k - x*E1*E1) (m:=1600000) (n:=8000000) (by omega) (by omega) (by omega) (by omega);have D2:=M.aK (x:=n*(X1*k*k - x*E1*E1)) (y:=E1) (m:=12800000000000) (n:=20) (by omega) (by omega) (by omega) (by omega);have D3:=M.aK (x:=Y1) (y:=m) (m:=3000000) (n:=8000) (by omega) (by omega) (by omega) (by omega);have D4:=M.aK (x:=Y1*m) (y:=k) (m:=24000000000) (n:=20) (by omega) (by omega) (by omega) (by omega);have D5:=M.aK (x:=Y1*m*k) (y:=k) (m:=480000000000) (n:=20) (by omega) (by omega) (by omega) (by omega)
   have PV:=fun W=>eU a b x k W ha1 ha2 hb1 hb2 x1 x2 (by omega) (by omega)
   have hcv:=M.lN (a:=a) (b:=b) (x:=x) (e:=k) ha1 ha2 hb1 hb2 x1 x2 (by omega) (by omega);rw [←c8] at PV hcv;have hyb:=M.oY (Y:=Y) (by omega);have hr2:(Y.natAbs:Int)*(Y.natAbs:Int)=Y*Y:=Int.natAbs_mul_self
   have hr0:(0:Int)≤(Y.natAbs:Int):=by omega
   have hrb:(Y.natAbs:Int)≤2000000:=by omega
   have PR:=fun W=>f8 (Y*Y) W (by omega)
   rw [M.kY hr0 hr2,M.gF hr2] at PR
   have hy:=fun h=>M.ug (r:=(Y.natAbs:Int)) hm0.out (by omega) (by omega) (show k*(n*(X1*k*k - x*E1*E1)*E1 - Y1*m*k*k)=m*E1*E1*E1*Y from h) hr0 hr2
   replace hy:=hy c7;clear c7 c8 hcv;generalize (Y.natAbs:Int)=r at *;generalize Y*Y=yy at *;clear hr2;have PV:=wM PV;have PR:=wM PR
   by_cases s1:n*(X1*k*k - x*E1*E1)*E1 - Y1*m*k*k<0
   ·by_cases s2:m<0
    ·have hyv:=wM (show r=Y by rw [←hy];simp [s1,s2])
     clear hy;have d1:decide (n*(X1*k*k - x*E1*E1)*E1 - Y1*m*k*k<0)=true:=decide_eq_true s1;have d2:decide (m<0)=true:=decide_eq_true s2
     have d3:(decide (n*(X1*k*k - x*E1*E1)*E1 - Y1*m*k*k<0) != decide (m<0))=false:=by rw [d1,d2];rfl
     clear s1 s2;have ⟨sT,aT,lT,cT,Ao,VT,oT⟩:=MT;have ⟨sD,aD,lD,cD,Cm,VD,oD⟩:=MD
     go_upto_region 18 with fail
     refine Rg.bO 12 [.is (.agg #[.bool sT,.slice aT lT cT]),.is (.int .i64 k),.is (.int .i64 k),.is (.int .i64 (k*k)),.at (aJ (wr.heap.size) (S)),.is (.agg #[.bool sD,.slice aD lD cD]),.is (.tuple #[.int .i64 x,.bool true]),.is (.tuple #[.int .i64 x,.bool true]),.is (.int .i64 x),.is (.bool true),.is (.int .i64 x),.is (.bool true)] (by kernel_rfl) (by kernel_rfl) (by kernel_rfl) ⟨?_,?_,?_,?_,?_,?_,?_,?_,?_,?_,?_,?_,trivial⟩ ?_
     ·intro _ zZ w_ hB hr
      have e13:zZ.tmps[13]?=some (.pointer (some ⟨g13,0,none⟩)):=hr 13 (by decide);have k0:=aE hB VT.box.c0;have k1:=aE hB VT.box.c1;exact Rg.aG rfl (by go_simp)
     ·intro _ zZ w_ hB hr
      have e15:zZ.tmps[15]?=some (.int .i64 k):=hr 15 (by decide);exact Rg.aG rfl (by go_simp)
     ·intro _ zZ w_ hB hr
      have e15:zZ.tmps[15]?=some (.int .i64 k):=hr 15 (by decide);exact Rg.aG rfl (by go_simp)
     ·intro _ zZ w_ hB hr
      have e109:=Rg.c_ (hr 109 (by decide));have CX:=Rg.c_ (hr 110 (by decide));exact Rg.aG rfl (by go_simp <;> exact Rg.wo (by omega))
     ·intro _ zZ w_ hB hr
      have e108:=Rg.c_ (hr 108 (by decide));have CY:=Rg.c_ (hr 111 (by decide));have ef:=Rg.ef zZ;refine Rg.af rfl (by go_simp;exact ⟨rfl,rfl⟩) ?_;rw [Ao.out];refine (PT.out _ _ _ (aF.below oT hB)).mono ?_;rintro e w5 ⟨xX,rfl,wl,hb5⟩;exact ⟨_,rfl,aJ.at wl (by have:=hB.size;omega),hb5⟩
     ·intro _ zZ w_ hB hr
      have e14:zZ.tmps[14]?=some (.pointer (some ⟨gd,0,none⟩)):=hr 14 (by decide);have k0:=aE hB VD.box.c0;have k1:=aE hB VD.box.c1;exact Rg.aG rfl (by go_simp)
     ·intro _ zZ w_ hB hr
      obtain ⟨C_,CZ,n112⟩:∃ v,zZ.tmps[112]?=some v∧(Rg.Val.at (aJ (wr.heap.size) (S))).ok v w_:=hr 112 (by decide);obtain ⟨C8,CR,Cn,CV,yV,rfl,zf⟩:=(Rg.ag n112).view;have Ca:=Rg.c_ (hr 113 (by decide));have ec:=Rg.ec zZ;have ef:=Rg.ef zZ;refine Rg.af rfl (by go_simp;exact ⟨rfl,rfl⟩) ?_;obtain rfl:=yV.out;rw [Cm.out];refine (PQ.out _ _ _ _ _ zf (aF.below oD hB)).mono ?_;rintro e w5 ⟨rfl,hb5⟩;exact ⟨_,rfl,rfl,hb5⟩
     ·intro _ zZ w_ hB hr
      have Cb:=Rg.c_ (hr 114 (by decide));exact Rg.aG rfl (by go_simp)
     ·intro _ zZ w_ hB hr
      have zT:=Rg.c_ (hr 107 (by decide));exact Rg.aG rfl (by go_simp)
     ·intro _ zZ w_ hB hr
      have zT:=Rg.c_ (hr 107 (by decide));exact Rg.aG rfl (by go_simp)
     ·intro _ zZ w_ hB hr
      have e115:=Rg.c_ (hr 115 (by decide));exact Rg.aG rfl (by go_simp)
     ·intro _ zZ w_ hB hr
      have e116:=Rg.c_ (hr 116 (by decide));exact Rg.aG rfl (by go_simp)
     intro vals wz yD hv hne;have xV:vals 10=.int .i64 x:=hv 10 (by decide);have xu:vals 11=.bool true:=hv 11 (by decide);simp only [Rg.bE,Rg.fill,Act.put,Nat.reduceAdd];clear hv;simp only [xV,xu];clear xV xu;replace C:=C.keep yD;replace Q:=Q.keep yD;replace R:=R.keep yD;replace MT:=MT.keep yD;replace MD:=MD.keep yD;replace B:=d_ B yD;clear yD VT oT VD oD;unfold Rg.aZ;have f_:=C.box.c0;have g_:=C.box.c1;obtain ⟨q0,q1,q2⟩:=Q.aO;obtain ⟨r0,r1,r2⟩:=R.aO;have f0:=R.xB 0;have f1:=R.xB 1;have f2:=R.xB 2;have rl:=R.lt
     go_wp2_with first | (go_at_call 114;(with_reducible refine (PG.out _).mono ?_);rintro e w5 ⟨rfl,j5,rfl⟩;have hb5:=aM (wP wz.heap.size wz) j5;replace B:=d_ B hb5;replace C:=C.keep hb5;replace Q:=Q.keep hb5;replace R:=R.keep hb5;replace MT:=MT.keep hb5;replace MD:=MD.keep hb5;have f_:=C.box.c0;have g_:=C.box.c1;(obtain ⟨q0,q1,q2⟩:=Q.aO);(obtain ⟨r0,r1,r2⟩:=R.aO);have f0:=R.xB 0;have f1:=R.xB 1;have f2:=R.xB 2;have rl:=R.lt) | (go_at_call 115;(with_reducible refine (PV.out _).mono ?_);rintro e w6 ⟨rfl,hb6⟩;replace B:=d_ B hb6;replace C:=C.keep hb6;replace Q:=Q.keep hb6;replace R:=R.keep hb6;replace MT:=MT.keep hb6;replace MD:=MD.keep hb6;have f_:=C.box.c0;have g_:=C.box.c1;(obtain ⟨q0,q1,q2⟩:=Q.aO);(obtain ⟨r0,r1,r2⟩:=R.aO);have f0:=R.xB 0;have f1:=R.xB 1;have f2:=R.xB 2;have rl:=R.lt) | (go_at_call 144;(with_reducible refine (PR.out _).mono ?_);rintro e w7 ⟨rfl,rfl⟩)
     exact bodyPost_ret (v:=.tuple #[.agg #[.int .i64 x,.int .i64 (r),.int .i64 k],.bool true]) (by simp [results,Tryz.results87,go_sem, *]) rfl (⟨by rw [hfin.out.1,hfin.out.2.1,hfin.out.2.2,hyv.out],wO (wO (wO B (by simp;omega) _) (by simp;omega) _) (by simp;omega) _⟩)
    have hyv:=wM (show -r=Y by rw [←hy];simp [s1,s2]);clear hy;have d1:decide (n*(X1*k*k - x*E1*E1)*E1 - Y1*m*k*k<0)=true:=decide_eq_true s1;have d2:decide (m<0)=false:=decide_eq_false s2
    have d3:(decide (n*(X1*k*k - x*E1*E1)*E1 - Y1*m*k*k<0) != decide (m<0))=true:=by rw [d1,d2];rfl
    clear s1 s2;have ⟨sT,aT,lT,cT,Ao,VT,oT⟩:=MT;have ⟨sD,aD,lD,cD,Cm,VD,oD⟩:=MD
    go_upto_region 18 with fail
    refine Rg.bO 12 [.is (.agg #[.bool sT,.slice aT lT cT]),.is (.int .i64 k),.is (.int .i64 k),.is (.int .i64 (k*k)),.at (aJ (wr.heap.size) (S)),.is (.agg #[.bool sD,.slice aD lD cD]),.is (.tuple #[.int .i64 x,.bool true]),.is (.tuple #[.int .i64 x,.bool true]),.is (.int .i64 x),.is (.bool true),.is (.int .i64 x),.is (.bool true)] (by kernel_rfl) (by kernel_rfl) (by kernel_rfl) ⟨?_,?_,?_,?_,?_,?_,?_,?_,?_,?_,?_,?_,trivial⟩ ?_
    ·intro _ zZ w_ hB hr
     have e13:zZ.tmps[13]?=some (.pointer (some ⟨g13,0,none⟩)):=hr 13 (by decide);have k0:=aE hB VT.box.c0;have k1:=aE hB VT.box.c1;exact Rg.aG rfl (by go_simp)
    ·intro _ zZ w_ hB hr
     have e15:zZ.tmps[15]?=some (.int .i64 k):=hr 15 (by decide);exact Rg.aG rfl (by go_simp)
    ·intro _ zZ w_ hB hr
     have e15:zZ.tmps[15]?=some (.int .i64 k):=hr 15 (by decide);exact Rg.aG rfl (by go_simp)
    ·intro _ zZ w_ hB hr
     have e109:=Rg.c_ (hr 109 (by decide));have CX:=Rg.c_ (hr 110 (by decide));exact Rg.aG rfl (by go_simp <;> exact Rg.wo (by omega))
    ·intro _ zZ w_ hB hr
     have e108:=Rg.c_ (hr 108 (by decide));have CY:=Rg.c_ (hr 111 (by decide));have ef:=Rg.ef zZ;refine Rg.af rfl (by go_simp;exact ⟨rfl,rfl⟩) ?_;rw [Ao.out];refine (PT.out _ _ _ (aF.below oT hB)).mono ?_;rintro e w5 ⟨xX,rfl,wl,hb5⟩;exact ⟨_,rfl,aJ.at wl (by have:=hB.size;omega),hb5⟩
    ·intro _ zZ w_ hB hr
     have e14:zZ.tmps[14]?=some (.pointer (some ⟨gd,0,none⟩)):=hr 14 (by decide);have k0:=aE hB VD.box.c0;have k1:=aE hB VD.box.c1;exact Rg.aG rfl (by go_simp)
    ·intro _ zZ w_ hB hr
     obtain ⟨C_,CZ,n112⟩:∃ v,zZ.tmps[112]?=some v∧(Rg.Val.at (aJ (wr.heap.size) (S))).ok v w_:=hr 112 (by decide);obtain ⟨C8,CR,Cn,CV,yV,rfl,zf⟩:=(Rg.ag n112).view;have Ca:=Rg.c_ (hr 113 (by decide));have ec:=Rg.ec zZ;have ef:=Rg.ef zZ;refine Rg.af rfl (by go_simp;exact ⟨rfl,rfl⟩) ?_;obtain rfl:=yV.out;rw [Cm.out];refine (PQ.out _ _ _ _ _ zf (aF.below oD hB)).mono ?_;rintro e w5 ⟨rfl,hb5⟩;exact ⟨_,rfl,rfl,hb5⟩
    ·intro _ zZ w_ hB hr
     have Cb:=Rg.c_ (hr 114 (by decide));exact Rg.aG rfl (by go_simp)
    ·intro _ zZ w_ hB hr
     have zT:=Rg.c_ (hr 107 (by decide));exact Rg.aG rfl (by go_simp)
    ·intro _ zZ w_ hB hr
     have zT:=Rg.c_ (hr 107 (by decide));exact Rg.aG rfl (by go_simp)
    ·intro _ zZ w_ hB hr
     have e115:=Rg.c_ (hr 115 (by decide));exact Rg.aG rfl (by go_simp)
    ·intro _ zZ w_ hB hr
     have e116:=Rg.c_ (hr 116 (by decide));exact Rg.aG rfl (by go_simp)
    intro vals wz yD hv hne;have xV:vals 10=.int .i64 x:=hv 10 (by decide);have xu:vals 11=.bool true:=hv 11 (by decide);simp only [Rg.bE,Rg.fill,Act.put,Nat.reduceAdd];clear hv;simp only [xV,xu];clear xV xu;replace C:=C.keep yD;replace Q:=Q.keep yD;replace R:=R.keep yD;replace MT:=MT.keep yD;replace MD:=MD.keep yD;replace B:=d_ B yD;clear yD VT oT VD oD;unfold Rg.aZ;have f_:=C.box.c0;have g_:=C.box.c1;obtain ⟨q0,q1,q2⟩:=Q.aO;obtain ⟨r0,r1,r2⟩:=R.aO;have f0:=R.xB 0;have f1:=R.xB 1;have f2:=R.xB 2;have rl:=R.lt
    go_wp2_with first | (go_at_call 114;(with_reducible refine (PG.out _).mono ?_);rintro e w5 ⟨rfl,j5,rfl⟩;have hb5:=aM (wP wz.heap.size wz) j5;replace B:=d_ B hb5;replace C:=C.keep hb5;replace Q:=Q.keep hb5;replace R:=R.keep hb5;replace MT:=MT.keep hb5;replace MD:=MD.keep hb5;have f_:=C.box.c0;have g_:=C.box.c1;(obtain ⟨q0,q1,q2⟩:=Q.aO);(obtain ⟨r0,r1,r2⟩:=R.aO);have f0:=R.xB 0;have f1:=R.xB 1;have f2:=R.xB 2;have rl:=R.lt) | (go_at_call 115;(with_reducible refine (PV.out _).mono ?_);rintro e w6 ⟨rfl,hb6⟩;replace B:=d_ B hb6;replace C:=C.keep hb6;replace Q:=Q.keep hb6;replace R:=R.keep hb6;replace MT:=MT.keep hb6;replace MD:=MD.keep hb6;have f_:=C.box.c0;have g_:=C.box.c1;(obtain ⟨q0,q1,q2⟩:=Q.aO);(obtain ⟨r0,r1,r2⟩:=R.aO);have f0:=R.xB 0;have f1:=R.xB 1;have f2:=R.xB 2;have rl:=R.lt) | (go_at_call 144;(with_reducible refine (PR.out _).mono ?_);rintro e w7 ⟨rfl,rfl⟩)
    exact bodyPost_ret (v:=.tuple #[.agg #[.int .i64 x,.int .i64 (-r),.int .i64 k],.bool true]) (by simp [results,Tryz.results87,go_sem, *]) rfl (⟨by rw [hfin.out.1,hfin.out.2.1,hfin.out.2.2,hyv.out],wO (wO (wO B (by simp;omega) _) (by simp;omega) _) (by simp;omega) _⟩)
   by_cases s2:m<0
   ·have hyv:=wM (show -r=Y by rw [←hy];simp [s1,s2])
    clear hy;have d1:decide (n*(X1*k*k - x*E1*E1)*E1 - Y1*m*k*k<0)=false:=decide_eq_false s1;have d2:decide (m<0)=true:=decide_eq_true s2
    have d3:(decide (n*(X1*k*k - x*E1*E1)*E1 - Y1*m*k*k<0) != decide (m<0))=true:=by rw [d1,d2];rfl
    clear s1 s2;have ⟨sT,aT,lT,cT,Ao,VT,oT⟩:=MT;have ⟨sD,aD,lD,cD,Cm,VD,oD⟩:=MD
    go_upto_region 18 with fail
    refine Rg.bO 12 [.is (.agg #[.bool sT,.slice aT lT cT]),.is (.int .i64 k),.is (.int .i64 k),.is (.int .i64 (k*k)),.at (aJ (wr.heap.size) (S)),.is (.agg #[.bool sD,.slice aD lD cD]),.is (.tuple #[.int .i64 x,.bool true]),.is (.tuple #[.int .i64 x,.bool true]),.is (.int .i64 x),.is (.bool true),.is (.int .i64 x),.is (.bool true)] (by kernel_rfl) (by kernel_rfl) (by kernel_rfl) ⟨?_,?_,?_,?_,?_,?_,?_,?_,?_,?_,?_,?_,trivial⟩ ?_
    ·intro _ zZ w_ hB hr
     have e13:zZ.tmps[13]?=some (.pointer (some ⟨g13,0,none⟩)):=hr 13 (by decide);have k0:=aE hB VT.box.c0;have k1:=aE hB VT.box.c1;exact Rg.aG rfl (by go_simp)
    ·intro _ zZ w_ hB hr
     have e15:zZ.tmps[15]?=some (.int .i64 k):=hr 15 (by decide);exact Rg.aG rfl (by go_simp)
    ·intro _ zZ w_ hB hr
     have e15:zZ.tmps[15]?=some (.int .i64 k):=hr 15 (by decide);exact Rg.aG rfl (by go_simp)
    ·intro _ zZ w_ hB hr
     have e109:=Rg.c_ (hr 109 (by decide));have CX:=Rg.c_ (hr 110 (by decide));exact Rg.aG rfl (by go_simp <;> exact Rg.wo (by omega))
    ·intro _ zZ w_ hB hr
     have e108:=Rg.c_ (hr 108 (by decide));have CY:=Rg.c_ (hr 111 (by decide));have ef:=Rg.ef zZ;refine Rg.af rfl (by go_simp;exact ⟨rfl,rfl⟩) ?_;rw [Ao.out];refine (PT.out _ _ _ (aF.below oT hB)).mono ?_;rintro e w5 ⟨xX,rfl,wl,hb5⟩;exact ⟨_,rfl,aJ.at wl (by have:=hB.size;omega),hb5⟩
    ·intro _ zZ w_ hB hr
     have e14:zZ.tmps[14]?=some (.pointer (some ⟨gd,0,none⟩)):=hr 14 (by decide);have k0:=aE hB VD.box.c0;have k1:=aE hB VD.box.c1;exact Rg.aG rfl (by go_simp)
    ·intro _ zZ w_ hB hr
     obtain ⟨C_,CZ,n112⟩:∃ v,zZ.tmps[112]?=some v∧(Rg.Val.at (aJ (wr.heap.size) (S))).ok v w_:=hr 112 (by decide);obtain ⟨C8,CR,Cn,CV,yV,rfl,zf⟩:=(Rg.ag n112).view;have Ca:=Rg.c_ (hr 113 (by decide));have ec:=Rg.ec zZ;have ef:=Rg.ef zZ;refine Rg.af rfl (by go_simp;exact ⟨rfl,rfl⟩) ?_;obtain rfl:=yV.out;rw [Cm.out];refine (PQ.out _ _ _ _ _ zf (aF.below oD hB)).mono ?_;rintro e w5 ⟨rfl,hb5⟩;exact ⟨_,rfl,rfl,hb5⟩
    ·intro _ zZ w_ hB hr
     have Cb:=Rg.c_ (hr 114 (by decide));exact Rg.aG rfl (by go_simp)
    ·intro _ zZ w_ hB hr
     have zT:=Rg.c_ (hr 107 (by decide));exact Rg.aG rfl (by go_simp)
    ·intro _ zZ w_ hB hr
     have zT:=Rg.c_ (hr 107 (by decide));exact Rg.aG rfl (by go_simp)
    ·intro _ zZ w_ hB hr
     have e115:=Rg.c_ (hr 115 (by decide));exact Rg.aG rfl (by go_simp)
    ·intro _ zZ w_ hB hr
     have e116:=Rg.c_ (hr 116 (by decide));exact Rg.aG rfl (by go_simp)
    intro vals wz yD hv hne;have xV:vals 10=.int .i64 x:=hv 10 (by decide);have xu:vals 11=.bool true:=hv 11 (by decide);simp only [Rg.bE,Rg.fill,Act.put,Nat.reduceAdd];clear hv;simp only [xV,xu];clear xV xu;replace C:=C.keep yD;replace Q:=Q.keep yD;replace R:=R.keep yD;replace MT:=MT.keep yD;replace MD:=MD.keep yD;replace B:=d_ B yD;clear yD VT oT VD oD;unfold Rg.aZ;have f_:=C.box.c0;have g_:=C.box.c1;obtain ⟨q0,q1,q2⟩:=Q.aO;obtain ⟨r0,r1,r2⟩:=R.aO;have f0:=R.xB 0;have f1:=R.xB 1;have f2:=R.xB 2;have rl:=R.lt
    go_wp2_with first | (go_at_call 114;(with_reducible refine (PG.out _).mono ?_);rintro e w5 ⟨rfl,j5,rfl⟩;have hb5:=aM (wP wz.heap.size wz) j5;replace B:=d_ B hb5;replace C:=C.keep hb5;replace Q:=Q.keep hb5;replace R:=R.keep hb5;replace MT:=MT.keep hb5;replace MD:=MD.keep hb5;have f_:=C.box.c0;have g_:=C.box.c1;(obtain ⟨q0,q1,q2⟩:=Q.aO);(obtain ⟨r0,r1,r2⟩:=R.aO);have f0:=R.xB 0;have f1:=R.xB 1;have f2:=R.xB 2;have rl:=R.lt) | (go_at_call 115;(with_reducible refine (PV.out _).mono ?_);rintro e w6 ⟨rfl,hb6⟩;replace B:=d_ B hb6;replace C:=C.keep hb6;replace Q:=Q.keep hb6;replace R:=R.keep hb6;replace MT:=MT.keep hb6;replace MD:=MD.keep hb6;have f_:=C.box.c0;have g_:=C.box.c1;(obtain ⟨q0,q1,q2⟩:=Q.aO);(obtain ⟨r0,r1,r2⟩:=R.aO);have f0:=R.xB 0;have f1:=R.xB 1;have f2:=R.xB 2;have rl:=R.lt) | (go_at_call 144;(with_reducible refine (PR.out _).mono ?_);rintro e w7 ⟨rfl,rfl⟩)
    exact bodyPost_ret (v:=.tuple #[.agg #[.int .i64 x,.int .i64 (-r),.int .i64 k],.bool true]) (by simp [results,Tryz.results87,go_sem, *]) rfl (⟨by rw [hfin.out.1,hfin.out.2.1,hfin.out.2.2,hyv.out],wO (wO (wO B (by simp;omega) _) (by simp;omega) _) (by simp;omega) _⟩)
   have hyv:=wM (show r=Y by rw [←hy];simp [s1,s2]);clear hy;have d1:decide (n*(X1*k*k - x*E1*E1)*E1 - Y1*m*k*k<0)=false:=decide_eq_false s1;have d2:decide (m<0)=false:=decide_eq_false s2
   have d3:(decide (n*(X1*k*k - x*E1*E1)*E1 - Y1*m*k*k<0) != decide (m<0))=false:=by rw [d1,d2];rfl
   clear s1 s2;have ⟨sT,aT,lT,cT,Ao,VT,oT⟩:=MT;have ⟨sD,aD,lD,cD,Cm,VD,oD⟩:=MD
   go_upto_region 18 with fail
   refine Rg.bO 12 [.is (.agg #[.bool sT,.slice aT lT cT]),.is (.int .i64 k),.is (.int .i64 k),.is (.int .i64 (k*k)),.at (aJ (wr.heap.size) (S)),.is (.agg #[.bool sD,.slice aD lD cD]),.is (.tuple #[.int .i64 x,.bool true]),.is (.tuple #[.int .i64 x,.bool true]),.is (.int .i64 x),.is (.bool true),.is (.int .i64 x),.is (.bool true)] (by kernel_rfl) (by kernel_rfl) (by kernel_rfl) ⟨?_,?_,?_,?_,?_,?_,?_,?_,?_,?_,?_,?_,trivial⟩ ?_
   ·intro _ zZ w_ hB hr
    have e13:zZ.tmps[13]?=some (.pointer (some ⟨g13,0,none⟩)):=hr 13 (by decide);have k0:=aE hB VT.box.c0;have k1:=aE hB VT.box.c1;exact Rg.aG rfl (by go_simp)
   ·intro _ zZ w_ hB hr
    have e15:zZ.tmps[15]?=some (.int .i64 k):=hr 15 (by decide);exact Rg.aG rfl (by go_simp)
   ·intro _ zZ w_ hB hr
    have e15:zZ.tmps[15]?=some (.int .i64 k):=hr 15 (by decide);exact Rg.aG rfl (by go_simp)
   ·intro _ zZ w_ hB hr
    have e109:=Rg.c_ (hr 109 (by decide));have CX:=Rg.c_ (hr 110 (by decide));exact Rg.aG rfl (by go_simp <;> exact Rg.wo (by omega))
   ·intro _ zZ w_ hB hr
    have e108:=Rg.c_ (hr 108 (by decide));have CY:=Rg.c_ (hr 111 (by decide));have ef:=Rg.ef zZ;refine Rg.af rfl (by go_simp;exact ⟨rfl,rfl⟩) ?_;rw [Ao.out];refine (PT.out _ _ _ (aF.below oT hB)).mono ?_;rintro e w5 ⟨xX,rfl,wl,hb5⟩;exact ⟨_,rfl,aJ.at wl (by have:=hB.size;omega),hb5⟩
   ·intro _ zZ w_ hB hr
    have e14:zZ.tmps[14]?=some (.pointer (some ⟨gd,0,none⟩)):=hr 14 (by decide);have k0:=aE hB VD.box.c0;have k1:=aE hB VD.box.c1;exact Rg.aG rfl (by go_simp)
   ·intro _ zZ w_ hB hr
    obtain ⟨C_,CZ,n112⟩:∃ v,zZ.tmps[112]?=some v∧(Rg.Val.at (aJ (wr.heap.size) (S))).ok v w_:=hr 112 (by decide);obtain ⟨C8,CR,Cn,CV,yV,rfl,zf⟩:=(Rg.ag n112).view;have Ca:=Rg.c_ (hr 113 (by decide));have ec:=Rg.ec zZ;have ef:=Rg.ef zZ;refine Rg.af rfl (by go_simp;exact ⟨rfl,rfl⟩) ?_;obtain rfl:=yV.out;rw [Cm.out];refine (PQ.out _ _ _ _ _ zf (aF.below oD hB)).mono ?_;rintro e w5 ⟨rfl,hb5⟩;exact ⟨_,rfl,rfl,hb5⟩
   ·intro _ zZ w_ hB hr
    have Cb:=Rg.c_ (hr 114 (by decide));exact Rg.aG rfl (by go_simp)
   ·intro _ zZ w_ hB hr
    have zT:=Rg.c_ (hr 107 (by decide));exact Rg.aG rfl (by go_simp)
   ·intro _ zZ w_ hB hr
    have zT:=Rg.c_ (hr 107 (by decide));exact Rg.aG rfl (by go_simp)
   ·intro _ zZ w_ hB hr
    have e115:=Rg.c_ (hr 115 (by decide));exact Rg.aG rfl (by go_simp)
   ·intro _ zZ w_ hB hr
    have e116:=Rg.c_ (hr 116 (by decide));exact Rg.aG rfl (by go_simp)
   intro vals wz yD hv hne;have xV:vals 10=.int .i64 x:=hv 10 (by decide);have xu:vals 11=.bool true:=hv 11 (by decide);simp only [Rg.bE,Rg.fill,Act.put,Nat.reduceAdd];clear hv;simp only [xV,xu];clear xV xu;replace C:=C.keep yD;replace Q:=Q.keep yD;replace R:=R.keep yD;replace MT:=MT.keep yD;replace MD:=MD.keep yD;replace B:=d_ B yD;clear yD VT oT VD oD;unfold Rg.aZ;have f_:=C.box.c0;have g_:=C.box.c1;obtain ⟨q0,q1,q2⟩:=Q.aO;obtain ⟨r0,r1,r2⟩:=R.aO;have f0:=R.xB 0;have f1:=R.xB 1;have f2:=R.xB 2;have rl:=R.lt
   go_wp2_with first | (go_at_call 114;(with_reducible refine (PG.out _).mono ?_);rintro e w5 ⟨rfl,j5,rfl⟩;have hb5:=aM (wP wz.heap.size wz) j5;replace B:=d_ B hb5;replace C:=C.keep hb5;replace Q:=Q.keep hb5;replace R:=R.keep hb5;replace MT:=MT.keep hb5;replace MD:=MD.keep hb5;have f_:=C.box.c0;have g_:=C.box.c1;(obtain ⟨q0,q1,q2⟩:=Q.aO);(obtain ⟨r0,r1,r2⟩:=R.aO);have f0:=R.xB 0;have f1:=R.xB 1;have f2:=R.xB 2;have rl:=R.lt) | (go_at_call 115;(with_reducible refine (PV.out _).mono ?_);rintro e w6 ⟨rfl,hb6⟩;replace B:=d_ B hb6;replace C:=C.keep hb6;replace Q:=Q.keep hb6;replace R:=R.keep hb6;replace MT:=MT.keep hb6;replace MD:=MD.keep hb6;have f_:=C.box.c0;have g_:=C.box.c1;(obtain ⟨q0,q1,q2⟩:=Q.aO);(obtain ⟨r0,r1,r2⟩:=R.aO);have f0:=R.xB 0;have f1:=R.xB 1;have f2:=R.xB 2;have rl:=R.lt) | (go_at_call 144;(with_reducible refine (PR.out _).mono ?_);rintro e w7 ⟨rfl,rfl⟩)
   exact bodyPost_ret (v:=.tuple #[.agg #[.int .i64 x,.int .i64 (r),.int .i64 k],.bool true]) (by simp [results,Tryz.results87,go_sem, *]) rfl (⟨by rw [hfin.out.1,hfin.out.2.1,hfin.out.2.2,hyv.out],wO (wO (wO B (by simp;omega) _) (by simp;omega) _) (by simp;omega) _⟩)
  have H7:K=true→k+1≤E:=by
   intro hK;have q1:=hk.out hK
   rcases Int.lt_or_le k E with q | q
   ·omega
   exfalso
   obtain ⟨z1,z2,z3⟩:=hat hK (by omega)
   apply hgood
   rw [←z1] at z2 z3;exact ⟨by rw [←hok.out];exact decide_eq_true z2,H5.2 z3⟩
  clear hat h1k H5 hok hk hbp;have H7:=wM H7;cases ok
  case false=>
   clear hgood;have ⟨sT,aT,lT,cT,Ao,VT,oT⟩:=MT;have ⟨sD,aD,lD,cD,Cm,VD,oD⟩:=MD
   go_upto_region 18 with fail
   refine Rg.bO 12 [.is (.agg #[.bool sT,.slice aT lT cT]),.is (.int .i64 k),.is (.int .i64 k),.is (.int .i64 (k*k)),.at (aJ (wr.heap.size) (S)),.is (.agg #[.bool sD,.slice aD lD cD]),.is (.tuple #[.int .i64 x,.bool false]),.is (.tuple #[.int .i64 x,.bool false]),.is (.int .i64 x),.is (.bool false),.is (.int .i64 x),.is (.bool false)] (by kernel_rfl) (by kernel_rfl) (by kernel_rfl) ⟨?_,?_,?_,?_,?_,?_,?_,?_,?_,?_,?_,?_,trivial⟩ ?_
   ·intro _ zZ w_ hB hr
    have e13:zZ.tmps[13]?=some (.pointer (some ⟨g13,0,none⟩)):=hr 13 (by decide);have k0:=aE hB VT.box.c0;have k1:=aE hB VT.box.c1;exact Rg.aG rfl (by go_simp)
   ·intro _ zZ w_ hB hr
    have e15:zZ.tmps[15]?=some (.int .i64 k):=hr 15 (by decide);exact Rg.aG rfl (by go_simp)
   ·intro _ zZ w_ hB hr
    have e15:zZ.tmps[15]?=some (.int .i64 k):=hr 15 (by decide);exact Rg.aG rfl (by go_simp)
   ·intro _ zZ w_ hB hr
    have e109:=Rg.c_ (hr 109 (by decide));have CX:=Rg.c_ (hr 110 (by decide));exact Rg.aG rfl (by go_simp <;> exact Rg.wo (by omega))
   ·intro _ zZ w_ hB hr
    have e108:=Rg.c_ (hr 108 (by decide));have CY:=Rg.c_ (hr 111 (by decide));have ef:=Rg.ef zZ;refine Rg.af rfl (by go_simp;exact ⟨rfl,rfl⟩) ?_;rw [Ao.out];refine (PT.out _ _ _ (aF.below oT hB)).mono ?_;rintro e w5 ⟨xX,rfl,wl,hb5⟩;exact ⟨_,rfl,aJ.at wl (by have:=hB.size;omega),hb5⟩
   ·intro _ zZ w_ hB hr
    have e14:zZ.tmps[14]?=some (.pointer (some ⟨gd,0,none⟩)):=hr 14 (by decide);have k0:=aE hB VD.box.c0;have k1:=aE hB VD.box.c1;exact Rg.aG rfl (by go_simp)
   ·intro _ zZ w_ hB hr
    obtain ⟨C_,CZ,n112⟩:∃ v,zZ.tmps[112]?=some v∧(Rg.Val.at (aJ (wr.heap.size) (S))).ok v w_:=hr 112 (by decide);obtain ⟨C8,CR,Cn,CV,yV,rfl,zf⟩:=(Rg.ag n112).view;have Ca:=Rg.c_ (hr 113 (by decide));have ec:=Rg.ec zZ;have ef:=Rg.ef zZ;refine Rg.af rfl (by go_simp;exact ⟨rfl,rfl⟩) ?_;obtain rfl:=yV.out;rw [Cm.out];refine (PQ.out _ _ _ _ _ zf (aF.below oD hB)).mono ?_;rintro e w5 ⟨rfl,hb5⟩;exact ⟨_,rfl,rfl,hb5⟩
   ·intro _ zZ w_ hB hr
    have Cb:=Rg.c_ (hr 114 (by decide));exact Rg.aG rfl (by go_simp)
   ·intro _ zZ w_ hB hr
    have zT:=Rg.c_ (hr 107 (by decide));exact Rg.aG rfl (by go_simp)
   ·intro _ zZ w_ hB hr
    have zT:=Rg.c_ (hr 107 (by decide));exact Rg.aG rfl (by go_simp)
   ·intro _ zZ w_ hB hr
    have e115:=Rg.c_ (hr 115 (by decide));exact Rg.aG rfl (by go_simp)
   ·intro _ zZ w_ hB hr
    have e116:=Rg.c_ (hr 116 (by decide));exact Rg.aG rfl (by go_simp)
   intro vals wz yD hv hne;have xV:vals 10=.int .i64 x:=hv 10 (by decide);have xu:vals 11=.bool false:=hv 11 (by decide);simp only [Rg.bE,Rg.fill,Act.put,Nat.reduceAdd];clear hv;simp only [xV,xu];clear xV xu;replace C:=C.keep yD;replace Q:=Q.keep yD;replace R:=R.keep yD;replace MT:=MT.keep yD;replace MD:=MD.keep yD;replace B:=d_ B yD;clear yD VT oT VD oD;unfold Rg.aZ;have f_:=C.box.c0;have g_:=C.box.c1;obtain ⟨q0,q1,q2⟩:=Q.aO;obtain ⟨r0,r1,r2⟩:=R.aO;have f0:=R.xB 0;have f1:=R.xB 1;have f2:=R.xB 2;have rl:=R.lt
   go_wp2_with (go_at_call 114;(with_reducible refine (PG.out _).mono ?_);rintro e w5 ⟨rfl,j5,rfl⟩;have hb5:=aM (wP wz.heap.size wz) j5;replace B:=d_ B hb5;replace C:=C.keep hb5;replace Q:=Q.keep hb5;replace R:=R.keep hb5;replace MT:=MT.keep hb5;replace MD:=MD.keep hb5;have f_:=C.box.c0;have g_:=C.box.c1;(obtain ⟨q0,q1,q2⟩:=Q.aO);(obtain ⟨r0,r1,r2⟩:=R.aO);have f0:=R.xB 0;have f1:=R.xB 1;have f2:=R.xB 2;have rl:=R.lt)
   go_roundw
   case rel=>exact ⟨k+1,rfl,by omega,by omega,H7,C,Q,R,B,MT,MD⟩
   case measure=>simp [intOf] <;> omega
  case true=>
  have hg1:gk≠1:=fun h=>hgood ⟨rfl,h⟩
  clear hgood;have ⟨sT,aT,lT,cT,Ao,VT,oT⟩:=MT;have ⟨sD,aD,lD,cD,Cm,VD,oD⟩:=MD
  go_upto_region 18 with fail
  refine Rg.bO 12 [.is (.agg #[.bool sT,.slice aT lT cT]),.is (.int .i64 k),.is (.int .i64 k),.is (.int .i64 (k*k)),.at (aJ (wr.heap.size) (S)),.is (.agg #[.bool sD,.slice aD lD cD]),.is (.tuple #[.int .i64 x,.bool true]),.is (.tuple #[.int .i64 x,.bool true]),.is (.int .i64 x),.is (.bool true),.is (.int .i64 x),.is (.bool true)] (by kernel_rfl) (by kernel_rfl) (by kernel_rfl) ⟨?_,?_,?_,?_,?_,?_,?_,?_,?_,?_,?_,?_,trivial⟩ ?_
  ·intro _ zZ w_ hB hr
   have e13:zZ.tmps[13]?=some (.pointer (some ⟨g13,0,none⟩)):=hr 13 (by decide);have k0:=aE hB VT.box.c0;have k1:=aE hB VT.box.c1;exact Rg.aG rfl (by go_simp)
  ·intro _ zZ w_ hB hr
   have e15:zZ.tmps[15]?=some (.int .i64 k):=hr 15 (by decide);exact Rg.aG rfl (by go_simp)
  ·intro _ zZ w_ hB hr
   have e15:zZ.tmps[15]?=some (.int .i64 k):=hr 15 (by decide);exact Rg.aG rfl (by go_simp)
  ·intro _ zZ w_ hB hr
   have e109:=Rg.c_ (hr 109 (by decide));have CX:=Rg.c_ (hr 110 (by decide));exact Rg.aG rfl (by go_simp <;> exact Rg.wo (by omega))
  ·intro _ zZ w_ hB hr
   have e108:=Rg.c_ (hr 108 (by decide));have CY:=Rg.c_ (hr 111 (by decide));have ef:=Rg.ef zZ;refine Rg.af rfl (by go_simp;exact ⟨rfl,rfl⟩) ?_;rw [Ao.out];refine (PT.out _ _ _ (aF.below oT hB)).mono ?_;rintro e w5 ⟨xX,rfl,wl,hb5⟩;exact ⟨_,rfl,aJ.at wl (by have:=hB.size;omega),hb5⟩
  ·intro _ zZ w_ hB hr
   have e14:zZ.tmps[14]?=some (.pointer (some ⟨gd,0,none⟩)):=hr 14 (by decide);have k0:=aE hB VD.box.c0;have k1:=aE hB VD.box.c1;exact Rg.aG rfl (by go_simp)
  ·intro _ zZ w_ hB hr
   obtain ⟨C_,CZ,n112⟩:∃ v,zZ.tmps[112]?=some v∧(Rg.Val.at (aJ (wr.heap.size) (S))).ok v w_:=hr 112 (by decide);obtain ⟨C8,CR,Cn,CV,yV,rfl,zf⟩:=(Rg.ag n112).view;have Ca:=Rg.c_ (hr 113 (by decide));have ec:=Rg.ec zZ;have ef:=Rg.ef zZ;refine Rg.af rfl (by go_simp;exact ⟨rfl,rfl⟩) ?_;obtain rfl:=yV.out;rw [Cm.out];refine (PQ.out _ _ _ _ _ zf (aF.below oD hB)).mono ?_;rintro e w5 ⟨rfl,hb5⟩;exact ⟨_,rfl,rfl,hb5⟩
  ·intro _ zZ w_ hB hr
   have Cb:=Rg.c_ (hr 114 (by decide));exact Rg.aG rfl (by go_simp)
  ·intro _ zZ w_ hB hr
   have zT:=Rg.c_ (hr 107 (by decide));exact Rg.aG rfl (by go_simp)
  ·intro _ zZ w_ hB hr
   have zT:=Rg.c_ (hr 107 (by decide));exact Rg.aG rfl (by go_simp)
  ·intro _ zZ w_ hB hr
   have e115:=Rg.c_ (hr 115 (by decide));exact Rg.aG rfl (by go_simp)
  ·intro _ zZ w_ hB hr
   have e116:=Rg.c_ (hr 116 (by decide));exact Rg.aG rfl (by go_simp)
  intro vals wz yD hv hne;have xV:vals 10=.int .i64 x:=hv 10 (by decide);have xu:vals 11=.bool true:=hv 11 (by decide);simp only [Rg.bE,Rg.fill,Act.put,Nat.reduceAdd];clear hv;simp only [xV,xu];clear xV xu;replace C:=C.keep yD;replace Q:=Q.keep yD;replace R:=R.keep yD;replace MT:=MT.keep yD;replace MD:=MD.keep yD;replace B:=d_ B yD;clear yD VT oT VD oD;unfold Rg.aZ;have f_:=C.box.c0;have g_:=C.box.c1;obtain ⟨q0,q1,q2⟩:=Q.aO;obtain ⟨r0,r1,r2⟩:=R.aO;have f0:=R.xB 0;have f1:=R.xB 1;have f2:=R.xB 2;have rl:=R.lt
  go_wp2_with (go_at_call 114;(with_reducible refine (PG.out _).mono ?_);rintro e w5 ⟨rfl,j5,rfl⟩;have hb5:=aM (wP wz.heap.size wz) j5;replace B:=d_ B hb5;replace C:=C.keep hb5;replace Q:=Q.keep hb5;replace R:=R.keep hb5;replace MT:=MT.keep hb5;replace MD:=MD.keep hb5;have f_:=C.box.c0;have g_:=C.box.c1;(obtain ⟨q0,q1,q2⟩:=Q.aO);(obtain ⟨r0,r1,r2⟩:=R.aO);have f0:=R.xB 0;have f1:=R.xB 1;have f2:=R.xB 2;have rl:=R.lt)
  go_roundw
  case rel=>exact ⟨k+1,rfl,by omega,by omega,H7,C,Q,R,B,MT,MD⟩
  case measure=>simp [intOf] <;> omega
 have hK:K=false:=by
  cases hK:K
  ·rfl
  have q1:=hk.out hK;have q2:=(H2.out hK).2.1;omega
 obtain ⟨z1,z2,z3⟩:=hno.out hK;have hfin:=wM (show K=false∧X=0∧Y=0∧E=0 from ⟨hK,z1,z2,z3⟩);clear hk H1 H2 hno z1 z2 z3 hK;go_wp2;exact bodyPost_ret (v:=.tuple #[.agg #[.int .i64 0,.int .i64 0,.int .i64 0],.bool false]) (by simp [results,Tryz.results87,go_sem, *]) rfl (⟨by rw [hfin.out.1,hfin.out.2.1,hfin.out.2.2.1,hfin.out.2.2.2],wO (wO (wO B (by simp;omega) _) (by simp;omega) _) (by simp;omega) _⟩)
namespace M
noncomputable def dk (a X1 Y1 E1 X2 Y2 E2:Int):Bool:=if E1=0 then true else if E2=0 then true else ft a X1 Y1 E1 X2 Y2 E2
noncomputable def ez (a X1 Y1 E1 X2 Y2 E2:Int):Int:=if E1=0 then X2 else if E2=0 then X1 else Aj a X1 Y1 E1 X2 Y2 E2
noncomputable def fA (a X1 Y1 E1 X2 Y2 E2:Int):Int:=if E1=0 then Y2 else if E2=0 then Y1 else Ax a X1 Y1 E1 X2 Y2 E2
noncomputable def ew (a X1 Y1 E1 X2 Y2 E2:Int):Int:=if E1=0 then E2 else if E2=0 then E1 else zk a X1 Y1 E1 X2 Y2 E2
theorem el {a b X Y E:Int} (hin:M.bI a b=true) (h:bB a b X Y E=true):(E=0∧X=0∧Y=0)∨(1≤E∧E≤20∧-10000≤X∧X≤10000∧Int.gcd X E=1∧Y*Y=cv a b X E∧-3000000≤Y∧Y≤3000000):=by
 obtain ⟨ha1,ha2,hb1,hb2⟩:=M.ar hin;unfold bB at h
 split at h
 ·simp only [Bool.and_eq_true,decide_eq_true_eq] at h
  left;exact ⟨by assumption,h.1,h.2⟩
 right
 simp only [Bool.and_eq_true,decide_eq_true_eq,M.ins,beq_iff_eq] at h;obtain ⟨⟨⟨⟨h1,h2⟩,h3,h4⟩,h5⟩,h6⟩:=h;have hv:=M.lN (a:=a) (b:=b) ha1 ha2 hb1 hb2 h1 h2 (by omega) h4;have hy:=M.ta h6 hv.2;exact ⟨h3,h4,h1,h2,by unfold M.gcd at h5;omega,h6,hy.1,hy.2⟩
theorem tI {a b X Y E:Int} (h1:1≤E) (h2:E≤20) (h3:-10000≤X) (h4:X≤10000) (h5:Int.gcd X E=1) (h6:Y*Y=cv a b X E):bB a b X Y E=true:=by
 unfold bB;rw [if_neg (by omega)];simp only [Bool.and_eq_true,decide_eq_true_eq,M.ins,beq_iff_eq];exact ⟨⟨⟨⟨h3,h4⟩,h1,h2⟩,by unfold M.gcd;omega⟩,h6⟩
theorem uA {a b X1 Y1 E1 X2 Y2 E2:Int} (hin:M.bI a b=true) (hp:bB a b X1 Y1 E1=true) (hq:bB a b X2 Y2 E2=true):bB a b (ez a X1 Y1 E1 X2 Y2 E2) (fA a X1 Y1 E1 X2 Y2 E2) (ew a X1 Y1 E1 X2 Y2 E2)=true:=by
 unfold ez fA ew
 by_cases h1:E1=0
 ·rw [if_pos h1,if_pos h1,if_pos h1];exact hq
 rw [if_neg h1,if_neg h1,if_neg h1]
 by_cases h2:E2=0
 ·rw [if_pos h2,if_pos h2,if_pos h2];exact hp
 rw [if_neg h2,if_neg h2,if_neg h2];have z0:bB a b 0 0 0=true:=rfl
 by_cases h0:sD X1 Y1 E1 X2 Y2 E2=0
 ·unfold Aj Ax zk
  rw [if_pos h0,if_pos h0,if_pos h0];exact z0
 cases hk:ft a X1 Y1 E1 X2 Y2 E2
 ·obtain ⟨q1,q2,q3⟩:=ni h0 hk
  rw [q1,q2,q3];exact z0
 obtain ⟨p1,p2,p3,p4,p5,p6,-⟩:=(el hin hp).resolve_left (fun h=>h1 h.1);obtain ⟨r1,r2,r3,r4,r5,r6,-⟩:=(el hin hq).resolve_left (fun h=>h2 h.1);obtain ⟨-,-,H⟩:=kC (n:=yW a X1 Y1 E1 X2 Y2 E2) (m:=yK a X1 Y1 E1 X2 Y2 E2) p6 r6 p4 r4 p1 p2 r1 r2 h0 (Or.inl ⟨rfl,rfl⟩);obtain ⟨c1,c2,c3,c4,c5,-,-,c8,-⟩:=H hk _ _ _ rfl rfl rfl;exact tI c1 c2 c3 c4 c5 c8
theorem dG {a b X Y E:Int} (hin:M.bI a b=true) (h:bB a b X Y E=true):-10000≤X∧X≤10000∧0≤E∧E≤20∧-3000000≤Y∧Y≤3000000:=by
 rcases el hin h with ⟨rfl,rfl,rfl⟩ | ⟨h1,h2,h3,h4,-,-,h7,h8⟩ <;> omega
end M
theorem lE (a b X1 Y1 E1 X2 Y2 E2:Int) (w:World) (hg:M.good a b=true) (hp:M.bB a b X1 Y1 E1=true) (hq:M.bB a b X2 Y2 E2=true) :
  Calls Tryz.prog 87 #[.agg #[.int .i64 a,.int .i64 b],.agg #[.int .i64 X1,.int .i64 Y1,.int .i64 E1],.agg #[.int .i64 X2,.int .i64 Y2,.int .i64 E2]] w fun e w'=>e=.returned (.tuple #[.agg #[.int .i64 (M.ez a X1 Y1 E1 X2 Y2 E2),.int .i64 (M.fA a X1 Y1 E1 X2 Y2 E2),.int .i64 (M.ew a X1 Y1 E1 X2 Y2 E2)],.bool (M.dk a X1 Y1 E1 X2 Y2 E2)])∧Below w.heap.size w w':=by
 have hin:=M.ah hg;obtain ⟨ha1,ha2,hb1,hb2⟩:=M.ar hin
 by_cases hE1:E1=0
 ·have hf:=wM (show M.ez a X1 Y1 E1 X2 Y2 E2=X2∧M.fA a X1 Y1 E1 X2 Y2 E2=Y2∧M.ew a X1 Y1 E1 X2 Y2 E2=E2∧M.dk a X1 Y1 E1 X2 Y2 E2=true from ⟨if_pos hE1,if_pos hE1,if_pos hE1,if_pos hE1⟩)
  rw [hf.out.1,hf.out.2.1,hf.out.2.2.1,hf.out.2.2.2];clear hf hg hp hq hin;subst hE1;have C:=(((aH.new w #[.int .i64 a,.int .i64 b] 25).alloc (.cells #[.int .i64 X1,.int .i64 Y1,.int .i64 0] 27)).alloc (.cells #[.int .i64 X2,.int .i64 Y2,.int .i64 E2] 27)).alloc (.cells #[.int .i64 0,.int .i64 0,.int .i64 0] 27);have Q:=((aH.new (w.alloc (.cells #[.int .i64 a,.int .i64 b] 25)) #[.int .i64 X1,.int .i64 Y1,.int .i64 0] 27).alloc (.cells #[.int .i64 X2,.int .i64 Y2,.int .i64 E2] 27)).alloc (.cells #[.int .i64 0,.int .i64 0,.int .i64 0] 27);rw [wN] at Q;have U:=(aH.new ((w.alloc (.cells #[.int .i64 a,.int .i64 b] 25)).alloc (.cells #[.int .i64 X1,.int .i64 Y1,.int .i64 0] 27)) #[.int .i64 X2,.int .i64 Y2,.int .i64 E2] 27).alloc (.cells #[.int .i64 0,.int .i64 0,.int .i64 0] 27);rw [wN,wN] at U;have R:=aH.new (((w.alloc (.cells #[.int .i64 a,.int .i64 b] 25)).alloc (.cells #[.int .i64 X1,.int .i64 Y1,.int .i64 0] 27)).alloc (.cells #[.int .i64 X2,.int .i64 Y2,.int .i64 E2] 27)) #[.int .i64 0,.int .i64 0,.int .i64 0] 27;rw [wN,wN,wN] at R;have B:=((((wP w.heap.size w).alloc (wQ _) (.cells #[.int .i64 a,.int .i64 b] 25)).alloc (by rw [wN];omega) (.cells #[.int .i64 X1,.int .i64 Y1,.int .i64 0] 27)).alloc (by rw [wN,wN];omega) (.cells #[.int .i64 X2,.int .i64 Y2,.int .i64 E2] 27)).alloc (by rw [wN,wN,wN];omega) (.cells #[.int .i64 0,.int .i64 0,.int .i64 0] 27);generalize hw3:(((w.alloc (.cells #[.int .i64 a,.int .i64 b] 25)).alloc (.cells #[.int .i64 X1,.int .i64 Y1,.int .i64 0] 27)).alloc (.cells #[.int .i64 X2,.int .i64 Y2,.int .i64 E2] 27)).alloc (.cells #[.int .i64 0,.int .i64 0,.int .i64 0] 27)=wc at *;have f_:=C.box.c0;have g_:=C.box.c1;have ⟨q0,q1,q2⟩:=Q.aO;have ⟨u0,u1,u2⟩:=U.aO;have ⟨r0,r1,r2⟩:=R.aO;have f0:=R.xB 0;have f1:=R.xB 1;have f2:=R.xB 2;have rl:=R.lt;go_enter Tryz.func87,Tryz.ntmps87
  go_wp2;exact bodyPost_ret (v:=.tuple #[.agg #[.int .i64 X2,.int .i64 Y2,.int .i64 E2],.bool true]) (by simp [results,Tryz.results87,go_sem, *]) rfl (⟨rfl,wO (wO (wO B (by simp;omega) _) (by simp;omega) _) (by simp;omega) _⟩)
 obtain ⟨p1,p2,p3,p4,p5,p6,p7,p8⟩:=(M.el hin hp).resolve_left (fun h=>hE1 h.1)
 by_cases hE2:E2=0
 ·have hf:=wM (show M.ez a X1 Y1 E1 X2 Y2 E2=X1∧M.fA a X1 Y1 E1 X2 Y2 E2=Y1∧M.ew a X1 Y1 E1 X2 Y2 E2=E1∧M.dk a X1 Y1 E1 X2 Y2 E2=true from ⟨(if_neg hE1).trans (if_pos hE2),(if_neg hE1).trans (if_pos hE2),(if_neg hE1).trans (if_pos hE2),(if_neg hE1).trans (if_pos hE2)⟩)
  rw [hf.out.1,hf.out.2.1,hf.out.2.2.1,hf.out.2.2.2];clear hf hg hp hq hin p5 p6
  have hE3:(E1 == 0)=false:=by rw [beq_eq_false_iff_ne];exact hE1
  subst hE2;have C:=(((aH.new w #[.int .i64 a,.int .i64 b] 25).alloc (.cells #[.int .i64 X1,.int .i64 Y1,.int .i64 E1] 27)).alloc (.cells #[.int .i64 X2,.int .i64 Y2,.int .i64 0] 27)).alloc (.cells #[.int .i64 0,.int .i64 0,.int .i64 0] 27);have Q:=((aH.new (w.alloc (.cells #[.int .i64 a,.int .i64 b] 25)) #[.int .i64 X1,.int .i64 Y1,.int .i64 E1] 27).alloc (.cells #[.int .i64 X2,.int .i64 Y2,.int .i64 0] 27)).alloc (.cells #[.int .i64 0,.int .i64 0,.int .i64 0] 27);rw [wN] at Q;have U:=(aH.new ((w.alloc (.cells #[.int .i64 a,.int .i64 b] 25)).alloc (.cells #[.int .i64 X1,.int .i64 Y1,.int .i64 E1] 27)) #[.int .i64 X2,.int .i64 Y2,.int .i64 0] 27).alloc (.cells #[.int .i64 0,.int .i64 0,.int .i64 0] 27);rw [wN,wN] at U;have R:=aH.new (((w.alloc (.cells #[.int .i64 a,.int .i64 b] 25)).alloc (.cells #[.int .i64 X1,.int .i64 Y1,.int .i64 E1] 27)).alloc (.cells #[.int .i64 X2,.int .i64 Y2,.int .i64 0] 27)) #[.int .i64 0,.int .i64 0,.int .i64 0] 27;rw [wN,wN,wN] at R;have B:=((((wP w.heap.size w).alloc (wQ _) (.cells #[.int .i64 a,.int .i64 b] 25)).alloc (by rw [wN];omega) (.cells #[.int .i64 X1,.int .i64 Y1,.int .i64 E1] 27)).alloc (by rw [wN,wN];omega) (.cells #[.int .i64 X2,.int .i64 Y2,.int .i64 0] 27)).alloc (by rw [wN,wN,wN];omega) (.cells #[.int .i64 0,.int .i64 0,.int .i64 0] 27);generalize hw3:(((w.alloc (.cells #[.int .i64 a,.int .i64 b] 25)).alloc (.cells #[.int .i64 X1,.int .i64 Y1,.int .i64 E1] 27)).alloc (.cells #[.int .i64 X2,.int .i64 Y2,.int .i64 0] 27)).alloc (.cells #[.int .i64 0,.int .i64 0,.int .i64 0] 27)=wc at *;have f_:=C.box.c0;have g_:=C.box.c1;have ⟨q0,q1,q2⟩:=Q.aO;have ⟨u0,u1,u2⟩:=U.aO;have ⟨r0,r1,r2⟩:=R.aO;have f0:=R.xB 0;have f1:=R.xB 1;have f2:=R.xB 2;have rl:=R.lt;go_enter Tryz.func87,Tryz.ntmps87
  go_wp2;exact bodyPost_ret (v:=.tuple #[.agg #[.int .i64 X1,.int .i64 Y1,.int .i64 E1],.bool true]) (by simp [results,Tryz.results87,go_sem, *]) rfl (⟨rfl,wO (wO (wO B (by simp;omega) _) (by simp;omega) _) (by simp;omega) _⟩)
 obtain ⟨r1,r2,r3,r4,r5,r6,r7,r8⟩:=(M.el hin hq).resolve_left (fun h=>hE2 h.1);have hf:=wM (show M.ez a X1 Y1 E1 X2 Y2 E2=M.Aj a X1 Y1 E1 X2 Y2 E2∧M.fA a X1 Y1 E1 X2 Y2 E2=M.Ax a X1 Y1 E1 X2 Y2 E2∧M.ew a X1 Y1 E1 X2 Y2 E2=M.zk a X1 Y1 E1 X2 Y2 E2∧M.dk a X1 Y1 E1 X2 Y2 E2=M.ft a X1 Y1 E1 X2 Y2 E2 from ⟨(if_neg hE1).trans (if_neg hE2),(if_neg hE1).trans (if_neg hE2),(if_neg hE1).trans (if_neg hE2),(if_neg hE1).trans (if_neg hE2)⟩);rw [hf.out.1,hf.out.2.1,hf.out.2.2.1,hf.out.2.2.2];exact qK a b X1 Y1 E1 X2 Y2 E2 w ha1 ha2 p3 p4 p7 p8 p1 p2 r3 r4 r7 r8 r1 r2 hb1 hb2 p6 r6 p5 r5
theorem tH (a b X1 Y1 E1 X2 Y2 E2:Int) (w:World) (hg:M.good a b=true) (hp:M.bB a b X1 Y1 E1=true) (hq:M.bB a b X2 Y2 E2=true) :
  Calls Tryz.prog 92 #[.agg #[.int .i64 a,.int .i64 b],.agg #[.int .i64 X1,.int .i64 Y1,.int .i64 E1],.agg #[.int .i64 X2,.int .i64 Y2,.int .i64 E2]] w fun e w'=>e=.returned (.tuple #[.agg #[.int .i64 (M.ez a X1 Y1 E1 X2 Y2 E2),.int .i64 (M.fA a X1 Y1 E1 X2 Y2 E2),.int .i64 (M.ew a X1 Y1 E1 X2 Y2 E2)],.bool (M.dk a X1 Y1 E1 X2 Y2 E2)])∧Below w.heap.size w w':=by
 have hin:=M.ah hg;obtain ⟨ha1,ha2,hb1,hb2⟩:=M.ar hin
 by_cases hE1:E1=0
 ·have hf:=wM (show M.ez a X1 Y1 E1 X2 Y2 E2=X2∧M.fA a X1 Y1 E1 X2 Y2 E2=Y2∧M.ew a X1 Y1 E1 X2 Y2 E2=E2∧M.dk a X1 Y1 E1 X2 Y2 E2=true from ⟨if_pos hE1,if_pos hE1,if_pos hE1,if_pos hE1⟩)
  rw [hf.out.1,hf.out.2.1,hf.out.2.2.1,hf.out.2.2.2];clear hf hg hp hq hin;subst hE1;have C:=(((aH.new w #[.int .i64 a,.int .i64 b] 25).alloc (.cells #[.int .i64 X1,.int .i64 Y1,.int .i64 0] 27)).alloc (.cells #[.int .i64 X2,.int .i64 Y2,.int .i64 E2] 27)).alloc (.cells #[.int .i64 0,.int .i64 0,.int .i64 0] 27);have Q:=((aH.new (w.alloc (.cells #[.int .i64 a,.int .i64 b] 25)) #[.int .i64 X1,.int .i64 Y1,.int .i64 0] 27).alloc (.cells #[.int .i64 X2,.int .i64 Y2,.int .i64 E2] 27)).alloc (.cells #[.int .i64 0,.int .i64 0,.int .i64 0] 27);rw [wN] at Q;have U:=(aH.new ((w.alloc (.cells #[.int .i64 a,.int .i64 b] 25)).alloc (.cells #[.int .i64 X1,.int .i64 Y1,.int .i64 0] 27)) #[.int .i64 X2,.int .i64 Y2,.int .i64 E2] 27).alloc (.cells #[.int .i64 0,.int .i64 0,.int .i64 0] 27);rw [wN,wN] at U;have R:=aH.new (((w.alloc (.cells #[.int .i64 a,.int .i64 b] 25)).alloc (.cells #[.int .i64 X1,.int .i64 Y1,.int .i64 0] 27)).alloc (.cells #[.int .i64 X2,.int .i64 Y2,.int .i64 E2] 27)) #[.int .i64 0,.int .i64 0,.int .i64 0] 27;rw [wN,wN,wN] at R;have B:=((((wP w.heap.size w).alloc (wQ _) (.cells #[.int .i64 a,.int .i64 b] 25)).alloc (by rw [wN];omega) (.cells #[.int .i64 X1,.int .i64 Y1,.int .i64 0] 27)).alloc (by rw [wN,wN];omega) (.cells #[.int .i64 X2,.int .i64 Y2,.int .i64 E2] 27)).alloc (by rw [wN,wN,wN];omega) (.cells #[.int .i64 0,.int .i64 0,.int .i64 0] 27);generalize hw3:(((w.alloc (.cells #[.int .i64 a,.int .i64 b] 25)).alloc (.cells #[.int .i64 X1,.int .i64 Y1,.int .i64 0] 27)).alloc (.cells #[.int .i64 X2,.int .i64 Y2,.int .i64 E2] 27)).alloc (.cells #[.int .i64 0,.int .i64 0,.int .i64 0] 27)=wc at *;have f_:=C.box.c0;have g_:=C.box.c1;have ⟨q0,q1,q2⟩:=Q.aO;have ⟨u0,u1,u2⟩:=U.aO;have ⟨r0,r1,r2⟩:=R.aO;have f0:=R.xB 0;have f1:=R.xB 1;have f2:=R.xB 2;have rl:=R.lt;go_enter Tryz.func92,Tryz.ntmps92
  go_wp2;exact bodyPost_ret (v:=.tuple #[.agg #[.int .i64 X2,.int .i64 Y2,.int .i64 E2],.bool true]) (by simp [results,Tryz.results92,go_sem, *]) rfl (⟨rfl,wO (wO (wO B (by simp;omega) _) (by simp;omega) _) (by simp;omega) _⟩)
 obtain ⟨p1,p2,p3,p4,p5,p6,p7,p8⟩:=(M.el hin hp).resolve_left (fun h=>hE1 h.1)
 by_cases hE2:E2=0
 ·have hf:=wM (show M.ez a X1 Y1 E1 X2 Y2 E2=X1∧M.fA a X1 Y1 E1 X2 Y2 E2=Y1∧M.ew a X1 Y1 E1 X2 Y2 E2=E1∧M.dk a X1 Y1 E1 X2 Y2 E2=true from ⟨(if_neg hE1).trans (if_pos hE2),(if_neg hE1).trans (if_pos hE2),(if_neg hE1).trans (if_pos hE2),(if_neg hE1).trans (if_pos hE2)⟩)
  rw [hf.out.1,hf.out.2.1,hf.out.2.2.1,hf.out.2.2.2];clear hf hg hp hq hin p5 p6
  have hE3:(E1 == 0)=false:=by rw [beq_eq_false_iff_ne];exact hE1
  subst hE2;have C:=(((aH.new w #[.int .i64 a,.int .i64 b] 25).alloc (.cells #[.int .i64 X1,.int .i64 Y1,.int .i64 E1] 27)).alloc (.cells #[.int .i64 X2,.int .i64 Y2,.int .i64 0] 27)).alloc (.cells #[.int .i64 0,.int .i64 0,.int .i64 0] 27);have Q:=((aH.new (w.alloc (.cells #[.int .i64 a,.int .i64 b] 25)) #[.int .i64 X1,.int .i64 Y1,.int .i64 E1] 27).alloc (.cells #[.int .i64 X2,.int .i64 Y2,.int .i64 0] 27)).alloc (.cells #[.int .i64 0,.int .i64 0,.int .i64 0] 27);rw [wN] at Q;have U:=(aH.new ((w.alloc (.cells #[.int .i64 a,.int .i64 b] 25)).alloc (.cells #[.int .i64 X1,.int .i64 Y1,.int .i64 E1] 27)) #[.int .i64 X2,.int .i64 Y2,.int .i64 0] 27).alloc (.cells #[.int .i64 0,.int .i64 0,.int .i64 0] 27);rw [wN,wN] at U;have R:=aH.new (((w.alloc (.cells #[.int .i64 a,.int .i64 b] 25)).alloc (.cells #[.int .i64 X1,.int .i64 Y1,.int .i64 E1] 27)).alloc (.cells #[.int .i64 X2,.int .i64 Y2,.int .i64 0] 27)) #[.int .i64 0,.int .i64 0,.int .i64 0] 27;rw [wN,wN,wN] at R;have B:=((((wP w.heap.size w).alloc (wQ _) (.cells #[.int .i64 a,.int .i64 b] 25)).alloc (by rw [wN];omega) (.cells #[.int .i64 X1,.int .i64 Y1,.int .i64 E1] 27)).alloc (by rw [wN,wN];omega) (.cells #[.int .i64 X2,.int .i64 Y2,.int .i64 0] 27)).alloc (by rw [wN,wN,wN];omega) (.cells #[.int .i64 0,.int .i64 0,.int .i64 0] 27);generalize hw3:(((w.alloc (.cells #[.int .i64 a,.int .i64 b] 25)).alloc (.cells #[.int .i64 X1,.int .i64 Y1,.int .i64 E1] 27)).alloc (.cells #[.int .i64 X2,.int .i64 Y2,.int .i64 0] 27)).alloc (.cells #[.int .i64 0,.int .i64 0,.int .i64 0] 27)=wc at *;have f_:=C.box.c0;have g_:=C.box.c1;have ⟨q0,q1,q2⟩:=Q.aO;have ⟨u0,u1,u2⟩:=U.aO;have ⟨r0,r1,r2⟩:=R.aO;have f0:=R.xB 0;have f1:=R.xB 1;have f2:=R.xB 2;have rl:=R.lt;go_enter Tryz.func92,Tryz.ntmps92
  go_wp2;exact bodyPost_ret (v:=.tuple #[.agg #[.int .i64 X1,.int .i64 Y1,.int .i64 E1],.bool true]) (by simp [results,Tryz.results92,go_sem, *]) rfl (⟨rfl,wO (wO (wO B (by simp;omega) _) (by simp;omega) _) (by simp;omega) _⟩)
 obtain ⟨r1,r2,r3,r4,r5,r6,r7,r8⟩:=(M.el hin hq).resolve_left (fun h=>hE2 h.1);have hf:=wM (show M.ez a X1 Y1 E1 X2 Y2 E2=M.Aj a X1 Y1 E1 X2 Y2 E2∧M.fA a X1 Y1 E1 X2 Y2 E2=M.Ax a X1 Y1 E1 X2 Y2 E2∧M.ew a X1 Y1 E1 X2 Y2 E2=M.zk a X1 Y1 E1 X2 Y2 E2∧M.dk a X1 Y1 E1 X2 Y2 E2=M.ft a X1 Y1 E1 X2 Y2 E2 from ⟨(if_neg hE1).trans (if_neg hE2),(if_neg hE1).trans (if_neg hE2),(if_neg hE1).trans (if_neg hE2),(if_neg hE1).trans (if_neg hE2)⟩);rw [hf.out.1,hf.out.2.1,hf.out.2.2.1,hf.out.2.2.2];exact mr a b X1 Y1 E1 X2 Y2 E2 w ha1 ha2 p3 p4 p7 p8 p1 p2 r3 r4 r7 r8 r1 r2 hb1 hb2 p6 r6
end
end Go.Proofs.YtggekfbfechonaaGreat
