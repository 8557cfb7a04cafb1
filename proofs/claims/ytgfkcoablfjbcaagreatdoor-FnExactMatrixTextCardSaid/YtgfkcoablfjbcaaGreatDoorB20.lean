/-
  Joined texts: contracts and plain lemmas.
-/
import Derived.Test.YtgfkcoablfjbcaaGreatDoorB1
import Derived.Test.YtgfkcoablfjbcaaGreatDoorB19
set_option linter.unusedSimpArgs false
set_option linter.unusedVariables false
set_option maxRecDepth 100000
set_option maxHeartbeats 8000000
namespace Go.Proofs.YtgfkcoablfjbcaaGreatDoor
section
open Go.RowKit
def WhV (W:World) (g:Nat) (z:Int):Prop:=∃ (s:Bool) (a:Option Addr) (l c:Nat),Hid (s=decide (z<0))∧aH W g 106 #[.bool s,.slice a l c]∧aF W 0 (.slice a l c) (Wh.dig z.natAbs)
theorem WhV.keep {W W':World} {g:Nat} {z:Int} (h:WhV W g z) (hb:Below W.heap.size W W'):WhV W' g z:=by
 obtain ⟨s,a,l,c,hs,hv,ho⟩:=h
 exact ⟨s,a,l,c,hs,hv.keep hb,aF.below ho hb⟩
theorem WhV.lt {W:World} {g:Nat} {z:Int} (h:WhV W g z):g<W.heap.size:=by
 obtain ⟨s,a,l,c,hs,hv,ho⟩:=h
 exact hv.lt
theorem WhV.bW {W:World} {g k:Nat} {z:Int} {u v:Value} (h:WhV W g z) (hk:g≠k) (hv:aH W k 106 #[u,v]) (x y:Value):WhV ((W.setCell ⟨k,0,none⟩ x).setCell ⟨k,1,none⟩ y) g z:=by
 obtain ⟨s,a,l,c,hs,hw,ho⟩:=h
 exact ⟨s,a,l,c,hs,hw.bW hk x y,aF.bC ho hv (by decide) x y⟩
theorem WhV.put {W:World} {g b:Nat} {z:Int} {u v:Value} {s:Bool} {a:Option Addr} {l c:Nat} (hv:aH W g 106 #[u,v]) (hs:Hid (s=decide (z<0))) (ho:aF W b (.slice a l c) (Wh.dig z.natAbs)):WhV ((W.setCell ⟨g,0,none⟩ (.bool s)).setCell ⟨g,1,none⟩ (.slice a l c)) g z:=
 ⟨s,a,l,c,hs,hv.set2 _ _,aF.base (aF.bC ho hv (by decide) _ _) (Nat.zero_le _)⟩
theorem fo (W:World) (x y:Value):Below W.heap.size W (W.alloc (.cells #[x,y] 106)):=(uk W.heap.size W).alloc (ul _) _
theorem WhV.made {W:World} {b:Nat} {z:Int} {a:Option Addr} {l c:Nat} (ho:aF W b (.slice a l c) (Wh.dig z.natAbs)):WhV (W.alloc (.cells #[.bool (decide (z<0)),.slice a l c] 106)) W.heap.size z:=
 ⟨_,a,l,c,uh rfl,aH.new W _ _,aF.base (aF.alloc ho _) (Nat.zero_le _)⟩
namespace M
theorem rB (n m X1 E1 X2 E2:Int):n*n*(E1*E1*E2*E2)+-(m*m*(X1*E2*E2+X2*E1*E1))=top n m X1 E1 X2 E2:=by unfold top;grind
theorem rA (m E1 E2:Int):m*m*(E1*E1*E2*E2)=bot m E1 E2:=by unfold bot;grind
end M
theorem pr (a b X1 Y1 E1 X2 Y2 E2:Int) (w:World) (ha1:-1000≤a) (ha2:a≤1000) (hx1:-10000≤X1) (hx2:X1≤10000) (hy1:-3000000≤Y1) (hy2:Y1≤3000000) (he1:1≤E1) (he2:E1≤20) (hx3:-10000≤X2) (hx4:X2≤10000) (hy3:-3000000≤Y2) (hy4:Y2≤3000000) (he3:1≤E2) (he4:E2≤20) (hb1:-10000≤b) (hb2:b≤10000) (hc1:Y1*Y1=M.cv a b X1 E1) (hc2:Y2*Y2=M.cv a b X2 E2) (g1:Int.gcd X1 E1=1) (g2:Int.gcd X2 E2=1) :
  Calls Tryz.prog 61 #[.agg #[.int .i64 a,.int .i64 b],.agg #[.int .i64 X1,.int .i64 Y1,.int .i64 E1],.agg #[.int .i64 X2,.int .i64 Y2,.int .i64 E2]] w fun e w'=>e=.returned (.tuple #[.agg #[.int .i64 (M.fnX a X1 Y1 E1 X2 Y2 E2),.int .i64 (M.fnY a X1 Y1 E1 X2 Y2 E2),.int .i64 (M.fnE a X1 Y1 E1 X2 Y2 E2)],.bool (M.fl a X1 Y1 E1 X2 Y2 E2)])∧Below w.heap.size w w':=by
 have hE1:(E1 == 0)=false:=by rw [beq_eq_false_iff_ne];omega
 have hE2:(E2 == 0)=false:=by rw [beq_eq_false_iff_ne];omega
 have PO:=uh fun W=>ml X2 Y2 E2 W (by omega) (by omega)
 have hop:=M.sR hc1 hc2 he1 he3 g1 g2
 by_cases h0:M.sD X1 Y1 E1 X2 Y2 E2=0
 ·obtain ⟨k1,k2,k3⟩:=hop.1 h0
  have hf:=uh (show M.fnX a X1 Y1 E1 X2 Y2 E2=0∧M.fnY a X1 Y1 E1 X2 Y2 E2=0∧M.fnE a X1 Y1 E1 X2 Y2 E2=0∧M.fl a X1 Y1 E1 X2 Y2 E2=true from ⟨if_pos h0,if_pos h0,if_pos h0,if_pos h0⟩)
  rw [hf.out.1,hf.out.2.1,hf.out.2.2.1,hf.out.2.2.2]
  have heq:=uh (show X1=X2∧Y1=-Y2∧E1=E2 from ⟨k1,k2,k3⟩)
  clear hf h0 hc1 hc2 hop k1 k2 k3 g1 g2
  have C:=(((aH.new w #[.int .i64 a,.int .i64 b] 28).alloc (.cells #[.int .i64 X1,.int .i64 Y1,.int .i64 E1] 45)).alloc (.cells #[.int .i64 X2,.int .i64 Y2,.int .i64 E2] 45)).alloc (.cells #[.int .i64 0,.int .i64 0,.int .i64 0] 45)
  have Q:=((aH.new (w.alloc (.cells #[.int .i64 a,.int .i64 b] 28)) #[.int .i64 X1,.int .i64 Y1,.int .i64 E1] 45).alloc (.cells #[.int .i64 X2,.int .i64 Y2,.int .i64 E2] 45)).alloc (.cells #[.int .i64 0,.int .i64 0,.int .i64 0] 45)
  rw [ui] at Q
  have U:=(aH.new ((w.alloc (.cells #[.int .i64 a,.int .i64 b] 28)).alloc (.cells #[.int .i64 X1,.int .i64 Y1,.int .i64 E1] 45)) #[.int .i64 X2,.int .i64 Y2,.int .i64 E2] 45).alloc (.cells #[.int .i64 0,.int .i64 0,.int .i64 0] 45)
  rw [ui,ui] at U
  have R:=aH.new (((w.alloc (.cells #[.int .i64 a,.int .i64 b] 28)).alloc (.cells #[.int .i64 X1,.int .i64 Y1,.int .i64 E1] 45)).alloc (.cells #[.int .i64 X2,.int .i64 Y2,.int .i64 E2] 45)) #[.int .i64 0,.int .i64 0,.int .i64 0] 45
  rw [ui,ui,ui] at R
  have B:=((((uk w.heap.size w).alloc (ul _) (.cells #[.int .i64 a,.int .i64 b] 28)).alloc (by rw [ui];omega) (.cells #[.int .i64 X1,.int .i64 Y1,.int .i64 E1] 45)).alloc (by rw [ui,ui];omega) (.cells #[.int .i64 X2,.int .i64 Y2,.int .i64 E2] 45)).alloc (by rw [ui,ui,ui];omega) (.cells #[.int .i64 0,.int .i64 0,.int .i64 0] 45)
  generalize hw3:(((w.alloc (.cells #[.int .i64 a,.int .i64 b] 28)).alloc (.cells #[.int .i64 X1,.int .i64 Y1,.int .i64 E1] 45)).alloc (.cells #[.int .i64 X2,.int .i64 Y2,.int .i64 E2] 45)).alloc (.cells #[.int .i64 0,.int .i64 0,.int .i64 0] 45)=wc at *
  have C_c0:=C.box.c0
  have C_c1:=C.box.c1
  have ⟨q0,q1,q2⟩:=Q.aQ
  have ⟨u0,u1,u2⟩:=U.aQ
  have ⟨r0,r1,r2⟩:=R.aQ
  go_enter Tryz.func61,Tryz.ntmps61
  go_wp2
  go_upto_region 5 with fail
  refine Rg.bF 5 [.is (.agg #[.int .i64 X1,.int .i64 Y1,.int .i64 E1]),.is (.agg #[.int .i64 X2,.int .i64 Y2,.int .i64 E2]),.is (.agg #[.int .i64 X2,.int .i64 (-Y2),.int .i64 E2]),.is (.bool true),.is (.bool true)] (by kernel_rfl) (by kernel_rfl) (by kernel_rfl) ⟨?_,?_,?_,?_,?_,trivial⟩ ?_
  ·intro _ ac_ w_ hB hr
   have e4:ac_.tmps[4]?=some (.pointer (some ⟨w.heap.size+1,0,none⟩)):=hr 4 (by decide)
   have k0:=aE hB q0
   have k1:=aE hB q1
   have k2:=aE hB q2
   exact Rg.aG rfl (by go_simp)
  ·intro _ ac_ w_ hB hr
   have e5:ac_.tmps[5]?=some (.pointer (some ⟨w.heap.size+1+1,0,none⟩)):=hr 5 (by decide)
   have k0:=aE hB u0
   have k1:=aE hB u1
   have k2:=aE hB u2
   exact Rg.aG rfl (by go_simp)
  ·intro _ ac_ w_ hB hr
   have e33:=Rg.ev1 (hr 33 (by decide))
   have ef:=Rg.ef ac_
   exact Rg.bK rfl (by go_simp) (PO.out _)
  ·intro _ ac_ w_ hB hr
   have e32:=Rg.ev1 (hr 32 (by decide))
   have e34:=Rg.ev1 (hr 34 (by decide))
   exact Rg.aG rfl (by go_simp;first | done | (simp [heq.out];done) | (exact fun x y z=>heq.out ⟨x,y,z⟩))
  ·intro _ ac_ w_ hB hr
   have e35:=Rg.ev1 (hr 35 (by decide))
   exact Rg.aG rfl (by go_simp)
  intro vals wz hB5 hv hne
  have v_4:vals 4=.bool true:=hv 4 (by decide)
  simp only [Rg.am,Rg.fill,Act.put,Nat.reduceAdd]
  clear hv
  simp only [v_4]
  clear v_4
  unfold Rg.aV
  (replace B:=B.trans (hB5.mono B.size));(replace R:=R.keep hB5);(obtain ⟨r0,r1,r2⟩:=R.aQ);(have f0:=R.frz 0);(have f1:=R.frz 1);(have f2:=R.frz 2);(have rl:=R.lt)
  go_wp2
  exact bodyPost_ret (v:=.tuple #[.agg #[.int .i64 0,.int .i64 0,.int .i64 0],.bool true]) (by simp [results,Tryz.results61,go_sem, *]) rfl (⟨rfl,uj (uj (uj B (by simp;omega) _) (by simp;omega) _) (by simp;omega) _⟩)
 have hni:¬ (X1=X2∧Y1=-Y2∧E1=E2):=fun k=>h0 (hop.2 k)
 have heq:=uh hni
 have hsb:=M.tq (a:=a) ha1 ha2 hx1 hx2 hy1 hy2 he1 he2 hx3 hx4 hy3 hy4 he3 he4
 obtain ⟨-,hd0,-,hsn,hsd⟩:=M.rQ (a:=a) h0
 have hpn:=M.uW (a:=a) h0
 have hcore:=fun n m=>M.ni (n:=n) (m:=m) hc1 hc2 hx2 hx4 he1 he2 he3 he4 h0
 have hno:=M.nj (a:=a) h0
 have PS:=fun W=>sj a b X1 Y1 E1 X2 Y2 E2 W ha1 ha2 hx1 hx2 hy1 hy2 he1 he2 hx3 hx4 hy3 hy4 he3 he4
 have hg0:M.gcd (M.sN a X1 Y1 E1 X2 Y2 E2) (M.sD X1 Y1 E1 X2 Y2 E2)≠0:=by
  unfold M.gcd
  intro h
  have:=Int.gcd_eq_zero_iff.1 (Int.ofNat_eq_zero.1 h)
  exact h0 this.2
 have PG:=fun W=>ik (M.sN a X1 Y1 E1 X2 Y2 E2) (M.sD X1 Y1 E1 X2 Y2 E2) W (by omega) (by omega) (by omega) (by omega)
 obtain ⟨n,hn⟩:∃ n,Hid ((M.sN a X1 Y1 E1 X2 Y2 E2).tdiv (M.gcd (M.sN a X1 Y1 E1 X2 Y2 E2) (M.sD X1 Y1 E1 X2 Y2 E2))=n):=⟨_,uh rfl⟩
 obtain ⟨m,hm⟩:∃ m,Hid ((M.sD X1 Y1 E1 X2 Y2 E2).tdiv (M.gcd (M.sN a X1 Y1 E1 X2 Y2 E2) (M.sD X1 Y1 E1 X2 Y2 E2))=m):=⟨_,uh rfl⟩
 rw [hn.out,hm.out] at hpn
 obtain ⟨hm0,H1,H2⟩:=hcore n m hpn
 have hnb:(-200000000000≤n∧n≤200000000000)∧-200000000000≤m∧m≤200000000000:=by
  clear hcore H1 H2 hno hop
  omega
 clear hcore hpn hsn hsd hd0 hop hni
 generalize M.gcd (M.sN a X1 Y1 E1 X2 Y2 E2) (M.sD X1 Y1 E1 X2 Y2 E2)=g at *
 generalize M.sN a X1 Y1 E1 X2 Y2 E2=N0 at *
 generalize M.sD X1 Y1 E1 X2 Y2 E2=D0 at *
 generalize hX:M.fnX a X1 Y1 E1 X2 Y2 E2=X at *
 generalize hY:M.fnY a X1 Y1 E1 X2 Y2 E2=Y at *
 generalize hE:M.fnE a X1 Y1 E1 X2 Y2 E2=E at *
 generalize M.fl a X1 Y1 E1 X2 Y2 E2=K at *
 have hgb:(g == 0)=false:=by rw [beq_eq_false_iff_ne];exact hg0
 obtain ⟨⟨n1,n2⟩,m1,m2⟩:=hnb
 replace H1:=uh H1
 replace H2:=uh (fun k=>H2 k X Y E rfl rfl rfl)
 replace hno:=uh hno
 replace PS:=uh PS
 replace PG:=uh PG
 have hm0:=uh hm0
 clear hc1 hc2 g1 g2 hX hY hE
 have zn:=Wh.bS (n:=n) (by omega) (by omega)
 have zm:=Wh.bS (n:=m) (by omega) (by omega)
 have sb1:=M.aL (x:=E1) (y:=E1) (m:=20) (n:=20) (by omega) (by omega) (by omega) (by omega)
 have sb2:=M.aL (x:=E1*E1) (y:=E2) (m:=400) (n:=20) (by omega) (by omega) (by omega) (by omega)
 have sb3:=M.aL (x:=E1*E1*E2) (y:=E2) (m:=8000) (n:=20) (by omega) (by omega) (by omega) (by omega)
 have sb4:=M.aL (x:=X1) (y:=E2) (m:=10000) (n:=20) (by omega) (by omega) (by omega) (by omega)
 have sb5:=M.aL (x:=X1*E2) (y:=E2) (m:=200000) (n:=20) (by omega) (by omega) (by omega) (by omega)
 have sb6:=M.aL (x:=X2) (y:=E1) (m:=10000) (n:=20) (by omega) (by omega) (by omega) (by omega)
 have sb7:=M.aL (x:=X2*E1) (y:=E1) (m:=200000) (n:=20) (by omega) (by omega) (by omega) (by omega)
 have ze:=Wh.bS (n:=E1*E1*E2*E2) (by omega) (by omega)
 have zq:=Wh.bS (n:=X1*E2*E2+X2*E1*E1) (by omega) (by omega)
 have zmm:=Wh.ag zm zm
 have znn:=Wh.ag zn zn
 have zne:=Wh.ag znn ze
 have zmq:=Wh.ag zmm zq
 have znq:=Wh.ge zmq
 have zt:=Wh.fH zne (Wh.aN znq (show 5+5+5≤5+5+5 by omega))
 have zb:=Wh.ag zmm ze
 have tT:=M.rB n m X1 E1 X2 E2
 have tB:=M.rA m E1 E2
 have P1:=fun W=>bX (m) W (by omega) (by omega)
 have P2:=fun W=>bX (n) W (by omega) (by omega)
 have P3:=fun W=>bX (E1*E1*E2*E2) W (by omega) (by omega)
 have P4:=fun W=>bX (X1*E2*E2+X2*E1*E1) W (by omega) (by omega)
 have P5:=fun v v' W k k' (h:aF W k v (Wh.dig (m).natAbs)) (h':aF W k' v' (Wh.dig (m).natAbs))=>cV (m) (m) v v' W k k' h h' (Wh.aU.2 (Wh.aN zm (by omega))) (Wh.aU.2 (Wh.aN zm (by omega)))
 have P6:=fun v v' W k k' (h:aF W k v (Wh.dig (n).natAbs)) (h':aF W k' v' (Wh.dig (n).natAbs))=>cV (n) (n) v v' W k k' h h' (Wh.aU.2 (Wh.aN zn (by omega))) (Wh.aU.2 (Wh.aN zn (by omega)))
 have P7:=fun v v' W k k' (h:aF W k v (Wh.dig (n*n).natAbs)) (h':aF W k' v' (Wh.dig (E1*E1*E2*E2).natAbs))=>cV (n*n) (E1*E1*E2*E2) v v' W k k' h h' (Wh.aU.2 (Wh.aN znn (by omega))) (Wh.aU.2 (Wh.aN ze (by omega)))
 have P8:=fun v v' W k k' (h:aF W k v (Wh.dig (m*m).natAbs)) (h':aF W k' v' (Wh.dig (X1*E2*E2+X2*E1*E1).natAbs))=>cV (m*m) (X1*E2*E2+X2*E1*E1) v v' W k k' h h' (Wh.aU.2 (Wh.aN zmm (by omega))) (Wh.aU.2 (Wh.aN zq (by omega)))
 have P9:=fun v W k (h:aF W k v (Wh.dig (m*m*(X1*E2*E2+X2*E1*E1)).natAbs))=>gX (m*m*(X1*E2*E2+X2*E1*E1)) v W k h (Wh.aU.2 (Wh.aN zmq (by omega)))
 have PA:=fun v v' W k k' (h:aF W k v (Wh.dig (n*n*(E1*E1*E2*E2)).natAbs)) (h':aF W k' v' (Wh.dig (-(m*m*(X1*E2*E2+X2*E1*E1))).natAbs))=>et (n*n*(E1*E1*E2*E2)) (-(m*m*(X1*E2*E2+X2*E1*E1))) v v' W k k' h h' (Wh.aU.2 (Wh.aN zne (by omega))) (Wh.aU.2 (Wh.aN znq (by omega)))
 have PB:=fun v v' W k k' (h:aF W k v (Wh.dig (m*m).natAbs)) (h':aF W k' v' (Wh.dig (E1*E1*E2*E2).natAbs))=>cV (m*m) (E1*E1*E2*E2) v v' W k k' h h' (Wh.aU.2 (Wh.aN zmm (by omega))) (Wh.aU.2 (Wh.aN ze (by omega)))
 rw [tT] at PA zt
 rw [tB] at PB zb
 have hbp:0<M.bot m E1 E2:=M.iD hm0.out (by omega) (by omega)
 have hTe:=uh (rfl:M.top n m X1 E1 X2 E2=M.top n m X1 E1 X2 E2)
 generalize M.top n m X1 E1 X2 E2=T at *
 generalize M.bot m E1 E2=Bt at *
 clear tT tB hTe zn zm ze zq znn zne zmq znq zmm
 generalize -(m*m*(X1*E2*E2+X2*E1*E1))=nq at *
 generalize m*m*(X1*E2*E2+X2*E1*E1)=mq at *
 generalize n*n*(E1*E1*E2*E2)=ne at *
 generalize m*m=mm at *
 generalize n*n=nn at *
 replace P1:=uh P1
 replace P2:=uh P2
 replace P3:=uh P3
 replace P4:=uh P4
 replace P5:=uh P5
 replace P6:=uh P6
 replace P7:=uh P7
 replace P8:=uh P8
 replace P9:=uh P9
 replace PA:=uh PA
 replace PB:=uh PB
 have C:=(((aH.new w #[.int .i64 a,.int .i64 b] 28).alloc (.cells #[.int .i64 X1,.int .i64 Y1,.int .i64 E1] 45)).alloc (.cells #[.int .i64 X2,.int .i64 Y2,.int .i64 E2] 45)).alloc (.cells #[.int .i64 0,.int .i64 0,.int .i64 0] 45)
 have Q:=((aH.new (w.alloc (.cells #[.int .i64 a,.int .i64 b] 28)) #[.int .i64 X1,.int .i64 Y1,.int .i64 E1] 45).alloc (.cells #[.int .i64 X2,.int .i64 Y2,.int .i64 E2] 45)).alloc (.cells #[.int .i64 0,.int .i64 0,.int .i64 0] 45)
 rw [ui] at Q
 have U:=(aH.new ((w.alloc (.cells #[.int .i64 a,.int .i64 b] 28)).alloc (.cells #[.int .i64 X1,.int .i64 Y1,.int .i64 E1] 45)) #[.int .i64 X2,.int .i64 Y2,.int .i64 E2] 45).alloc (.cells #[.int .i64 0,.int .i64 0,.int .i64 0] 45)
 rw [ui,ui] at U
 have R:=aH.new (((w.alloc (.cells #[.int .i64 a,.int .i64 b] 28)).alloc (.cells #[.int .i64 X1,.int .i64 Y1,.int .i64 E1] 45)).alloc (.cells #[.int .i64 X2,.int .i64 Y2,.int .i64 E2] 45)) #[.int .i64 0,.int .i64 0,.int .i64 0] 45
 rw [ui,ui,ui] at R
 have B:=((((uk w.heap.size w).alloc (ul _) (.cells #[.int .i64 a,.int .i64 b] 28)).alloc (by rw [ui];omega) (.cells #[.int .i64 X1,.int .i64 Y1,.int .i64 E1] 45)).alloc (by rw [ui,ui];omega) (.cells #[.int .i64 X2,.int .i64 Y2,.int .i64 E2] 45)).alloc (by rw [ui,ui,ui];omega) (.cells #[.int .i64 0,.int .i64 0,.int .i64 0] 45)
 generalize hw3:(((w.alloc (.cells #[.int .i64 a,.int .i64 b] 28)).alloc (.cells #[.int .i64 X1,.int .i64 Y1,.int .i64 E1] 45)).alloc (.cells #[.int .i64 X2,.int .i64 Y2,.int .i64 E2] 45)).alloc (.cells #[.int .i64 0,.int .i64 0,.int .i64 0] 45)=wc at *
 have C_c0:=C.box.c0
 have C_c1:=C.box.c1
 have ⟨q0,q1,q2⟩:=Q.aQ
 have ⟨u0,u1,u2⟩:=U.aQ
 have ⟨r0,r1,r2⟩:=R.aQ
 go_enter Tryz.func61,Tryz.ntmps61
 go_wp2
 go_upto_region 5 with fail
 refine Rg.bF 5 [.is (.agg #[.int .i64 X1,.int .i64 Y1,.int .i64 E1]),.is (.agg #[.int .i64 X2,.int .i64 Y2,.int .i64 E2]),.is (.agg #[.int .i64 X2,.int .i64 (-Y2),.int .i64 E2]),.is (.bool false),.is (.bool false)] (by kernel_rfl) (by kernel_rfl) (by kernel_rfl) ⟨?_,?_,?_,?_,?_,trivial⟩ ?_
 ·intro _ ac_ w_ hB hr
  have e4:ac_.tmps[4]?=some (.pointer (some ⟨w.heap.size+1,0,none⟩)):=hr 4 (by decide)
  have k0:=aE hB q0
  have k1:=aE hB q1
  have k2:=aE hB q2
  exact Rg.aG rfl (by go_simp)
 ·intro _ ac_ w_ hB hr
  have e5:ac_.tmps[5]?=some (.pointer (some ⟨w.heap.size+1+1,0,none⟩)):=hr 5 (by decide)
  have k0:=aE hB u0
  have k1:=aE hB u1
  have k2:=aE hB u2
  exact Rg.aG rfl (by go_simp)
 ·intro _ ac_ w_ hB hr
  have e33:=Rg.ev1 (hr 33 (by decide))
  have ef:=Rg.ef ac_
  exact Rg.bK rfl (by go_simp) (PO.out _)
 ·intro _ ac_ w_ hB hr
  have e32:=Rg.ev1 (hr 32 (by decide))
  have e34:=Rg.ev1 (hr 34 (by decide))
  exact Rg.aG rfl (by go_simp;first | done | (simp [heq.out];done) | (exact fun x y z=>heq.out ⟨x,y,z⟩))
 ·intro _ ac_ w_ hB hr
  have e35:=Rg.ev1 (hr 35 (by decide))
  exact Rg.aG rfl (by go_simp)
 intro vals wz hB5 hv hne
 have v_4:vals 4=.bool false:=hv 4 (by decide)
 simp only [Rg.am,Rg.fill,Act.put,Nat.reduceAdd]
 clear hv
 simp only [v_4]
 clear v_4
 unfold Rg.aV
 (replace B:=B.trans (hB5.mono B.size));(replace C:=C.keep hB5);(replace Q:=Q.keep hB5);(replace U:=U.keep hB5);(replace R:=R.keep hB5);(have C_c0:=C.box.c0);(have C_c1:=C.box.c1);(obtain ⟨q0,q1,q2⟩:=Q.aQ);(obtain ⟨u0,u1,u2⟩:=U.aQ);(obtain ⟨r0,r1,r2⟩:=R.aQ)
 clear hB5
 go_upto_region 9 with first | (go_at_call 75;(with_reducible refine (PS.out _).mono ?_);rintro e w4 ⟨rfl,hb4⟩;(replace B:=B.trans (hb4.mono B.size));(replace C:=C.keep hb4);(replace Q:=Q.keep hb4);(replace U:=U.keep hb4);(replace R:=R.keep hb4);(have C_c0:=C.box.c0);(have C_c1:=C.box.c1);(obtain ⟨q0,q1,q2⟩:=Q.aQ);(obtain ⟨u0,u1,u2⟩:=U.aQ);(obtain ⟨r0,r1,r2⟩:=R.aQ)) | (go_at_call 57;(with_reducible refine (PG.out _).mono ?_);rintro e w5 ⟨rfl,j5,rfl⟩;(have hb5:=aK (uk w4.heap.size w4) j5);(replace B:=B.trans (hb5.mono B.size));(replace C:=C.keep hb5);(replace Q:=Q.keep hb5);(replace U:=U.keep hb5);(replace R:=R.keep hb5);(have C_c0:=C.box.c0);(have C_c1:=C.box.c1);(obtain ⟨q0,q1,q2⟩:=Q.aQ);(obtain ⟨u0,u1,u2⟩:=U.aQ);(obtain ⟨r0,r1,r2⟩:=R.aQ))
 have hN1:=hsb
 have hnn:=hn.out
 have hmm:=hm.out
 go_cut [8,9] (fun p q wx=>p=.int .i64 n∧q=.int .i64 m∧aH wx w.heap.size 28 #[.int .i64 a,.int .i64 b]∧aH wx (w.heap.size+1) 45 #[.int .i64 X1,.int .i64 Y1,.int .i64 E1]∧aH wx (w.heap.size+1+1) 45 #[.int .i64 X2,.int .i64 Y2,.int .i64 E2]∧aH wx (w.heap.size+1+1+1) 45 #[.int .i64 0,.int .i64 0,.int .i64 0]∧Below w.heap.size w wx)
 case first=>
  go_region
  all_goals
   go_wp2_with fail
   go_meet
   exact ⟨rfl,rfl,C.drew,Q.drew,U.drew,R.drew,B.trans ((aK (uk _ _) 1).mono B.size)⟩
 case rest=>
 obtain ⟨rfl,rfl,C,Q,U,R,B⟩:=hcut
 clear hN1 hnn hmm hn hm n1 n2 hsb hg0 hgb PS PG PO heq hw3
 have hz4:w.heap.size+4≤wc.heap.size:=by have:=R.lt;omega
 go_upto_region 10 with fail
 go_cut [11] (fun p wx=>∃ ga:Nat,p=.pointer (some ⟨ga,0,none⟩)∧w.heap.size+4≤ga∧aH wx w.heap.size 28 #[.int .i64 a,.int .i64 b]∧aH wx (w.heap.size+1) 45 #[.int .i64 X1,.int .i64 Y1,.int .i64 E1]∧aH wx (w.heap.size+1+1) 45 #[.int .i64 X2,.int .i64 Y2,.int .i64 E2]∧aH wx (w.heap.size+1+1+1) 45 #[.int .i64 0,.int .i64 0,.int .i64 0]∧Below w.heap.size w wx∧WhV wx ga (mm))
 case first=>
  go_wp2_with first | (go_at_call 76;(with_reducible refine (P5.out _ _ _ _ _ o4 o5).mono ?_);rintro e w6 ⟨v6,rfl,o6,hb6⟩;(replace o6:aF _ _ _ _:=o6);(replace B:=B.trans (hb6.mono B.size));(replace C:=C.keep hb6);(replace Q:=Q.keep hb6);(replace U:=U.keep hb6);(replace R:=R.keep hb6);(have C_c0:=C.box.c0);(have C_c1:=C.box.c1);(obtain ⟨q0,q1,q2⟩:=Q.aQ);(obtain ⟨u0,u1,u2⟩:=U.aQ);(obtain ⟨r0,r1,r2⟩:=R.aQ);obtain ⟨av,cv,rfl,hm_,hv_⟩:=aF.view o6;(clear hm_ hv_);(have V:=aH.new w6 #[.bool false,.slice none 0 0] 106);(have V0:=V.box.c0);(have V1:=V.box.c1);(have V2:=V.box.f0);(have V3:=V.box.f1);(have M0:=fo w6 (.bool (decide (mm<0))) (.slice av (Wh.dig (mm).natAbs).length cv));(have M1:=WhV.made o6)) | ((have _t:=o4);clear _t;go_at_call 77;(with_reducible refine (P1.out _).mono ?_);rintro e w5 ⟨v5,rfl,o5,hb5⟩;(replace o5:aF _ _ _ _:=o5);(replace B:=B.trans (hb5.mono B.size));(replace C:=C.keep hb5);(replace Q:=Q.keep hb5);(replace U:=U.keep hb5);(replace R:=R.keep hb5);(replace o4:=aF.below o4 hb5);(have C_c0:=C.box.c0);(have C_c1:=C.box.c1);(obtain ⟨q0,q1,q2⟩:=Q.aQ);(obtain ⟨u0,u1,u2⟩:=U.aQ);(obtain ⟨r0,r1,r2⟩:=R.aQ)) | (go_at_call 77;(with_reducible refine (P1.out _).mono ?_);rintro e w4 ⟨v4,rfl,o4,hb4⟩;(replace o4:aF _ _ _ _:=o4);(replace B:=B.trans (hb4.mono B.size));(replace C:=C.keep hb4);(replace Q:=Q.keep hb4);(replace U:=U.keep hb4);(replace R:=R.keep hb4);(have C_c0:=C.box.c0);(have C_c1:=C.box.c1);(obtain ⟨q0,q1,q2⟩:=Q.aQ);(obtain ⟨u0,u1,u2⟩:=U.aQ);(obtain ⟨r0,r1,r2⟩:=R.aQ))
  go_meet
  exact ⟨w6.heap.size,rfl,by have:=R.lt;omega,C.keep M0,Q.keep M0,U.keep M0,R.keep M0,B.trans (M0.mono B.size),M1⟩
 case rest=>
 obtain ⟨ga,rfl,ha0,C,Q,U,R,B,MA⟩:=hcut
 clear P1 P5 hz4
 go_upto_region 11 with fail
 go_cut [12] (fun p wx=>∃ gb:Nat,p=.pointer (some ⟨gb,0,none⟩)∧ga<gb∧aH wx w.heap.size 28 #[.int .i64 a,.int .i64 b]∧aH wx (w.heap.size+1) 45 #[.int .i64 X1,.int .i64 Y1,.int .i64 E1]∧aH wx (w.heap.size+1+1) 45 #[.int .i64 X2,.int .i64 Y2,.int .i64 E2]∧aH wx (w.heap.size+1+1+1) 45 #[.int .i64 0,.int .i64 0,.int .i64 0]∧Below w.heap.size w wx∧WhV wx ga (mm)∧WhV wx gb (E1*E1*E2*E2))
 case first=>
  have C_c0:=C.box.c0
  have C_c1:=C.box.c1
  have ⟨q0,q1,q2⟩:=Q.aQ
  have ⟨u0,u1,u2⟩:=U.aQ
  have ⟨r0,r1,r2⟩:=R.aQ
  go_wp2_with (go_at_call 77;(with_reducible refine (P3.out _).mono ?_);rintro e w4 ⟨v4,rfl,o4,hb4⟩;(replace o4:aF _ _ _ _:=o4);(replace B:=B.trans (hb4.mono B.size));(replace C:=C.keep hb4);(replace Q:=Q.keep hb4);(replace U:=U.keep hb4);(replace R:=R.keep hb4);(replace MA:=MA.keep hb4);(have C_c0:=C.box.c0);(have C_c1:=C.box.c1);(obtain ⟨q0,q1,q2⟩:=Q.aQ);(obtain ⟨u0,u1,u2⟩:=U.aQ);(obtain ⟨r0,r1,r2⟩:=R.aQ);obtain ⟨av,cv,rfl,hm_,hv_⟩:=aF.view o4;(clear hm_ hv_);(have V:=aH.new w4 #[.bool false,.slice none 0 0] 106);(have V0:=V.box.c0);(have V1:=V.box.c1);(have V2:=V.box.f0);(have V3:=V.box.f1);(have M0:=fo w4 (.bool (decide (E1*E1*E2*E2<0))) (.slice av (Wh.dig (E1*E1*E2*E2).natAbs).length cv));(have M1:=WhV.made o4))
  go_meet
  exact ⟨w4.heap.size,rfl,MA.lt,C.keep M0,Q.keep M0,U.keep M0,R.keep M0,B.trans (M0.mono B.size),MA.keep M0,M1⟩
 case rest=>
 obtain ⟨gb,rfl,hab,C,Q,U,R,B,MA,MB⟩:=hcut
 clear P3
 go_upto_region 12 with fail
 have ⟨sB,aB,lB,cB,hsB,VB,oB⟩:=MB
 refine Rg.bF 8 [.is (.int .i64 n),.at (aJ (wc.heap.size) (n)),.is (.int .i64 n),.at (aJ (wc.heap.size) (n)),.at (aJ (wc.heap.size) (nn)),.is (.agg #[.bool sB,.slice aB lB cB]),.at (aJ (wc.heap.size) (ne)),.new (wc.heap.size) 106 #[.bool false,.slice none 0 0]] (by kernel_rfl) (by kernel_rfl) (by kernel_rfl) ⟨?_,?_,?_,?_,?_,?_,?_,?_,fun h_=>absurd h_ (by decide),trivial⟩ ?_
 ·intro _ ac_ w_ hB hr
  have e8:ac_.tmps[8]?=some (.int .i64 n):=hr 8 (by decide)
  exact Rg.aG rfl (by go_simp)
 ·intro _ ac_ w_ hB hr
  have e70:=Rg.ev1 (hr 70 (by decide))
  have ef:=Rg.ef ac_
  refine Rg.aX rfl (by go_simp;exact ⟨rfl,rfl⟩) ?_
  refine (P2.out _).mono ?_
  rintro e w5 ⟨sl5,rfl,ho5,hb5⟩
  exact ⟨_,rfl,aJ.at ho5 (by have:=hB.size;omega),hb5⟩
 ·intro _ ac_ w_ hB hr
  have e8:ac_.tmps[8]?=some (.int .i64 n):=hr 8 (by decide)
  exact Rg.aG rfl (by go_simp)
 ·intro _ ac_ w_ hB hr
  have e72:=Rg.ev1 (hr 72 (by decide))
  have ef:=Rg.ef ac_
  refine Rg.aX rfl (by go_simp;exact ⟨rfl,rfl⟩) ?_
  refine (P2.out _).mono ?_
  rintro e w5 ⟨sl5,rfl,ho5,hb5⟩
  exact ⟨_,rfl,aJ.at ho5 (by have:=hB.size;omega),hb5⟩
 ·intro _ ac_ w_ hB hr
  obtain ⟨v71,e71,n71⟩:∃ v,ac_.tmps[71]?=some v∧(Rg.Val.at (aJ (wc.heap.size) (n))).ok v w_:=hr 71 (by decide)
  obtain ⟨s71,a71,l71,c71,hs71,rfl,o71⟩:=(Rg.aZ n71).view
  obtain ⟨v73,e73,n73⟩:∃ v,ac_.tmps[73]?=some v∧(Rg.Val.at (aJ (wc.heap.size) (n))).ok v w_:=hr 73 (by decide)
  obtain ⟨s73,a73,l73,c73,hs73,rfl,o73⟩:=(Rg.aZ n73).view
  have ef:=Rg.ef ac_
  refine Rg.aX rfl (by go_simp;exact ⟨rfl,rfl⟩) ?_
  obtain rfl:=hs71.out
  obtain rfl:=hs73.out
  refine (P6.out _ _ _ _ _ o71 o73).mono ?_
  rintro e w5 ⟨sl5,rfl,ho5,hb5⟩
  exact ⟨_,rfl,aJ.at ho5 (by have:=hB.size;omega),hb5⟩
 ·intro _ ac_ w_ hB hr
  have e12:ac_.tmps[12]?=some (.pointer (some ⟨gb,0,none⟩)):=hr 12 (by decide)
  have k0:=aE hB VB.box.c0
  have k1:=aE hB VB.box.c1
  exact Rg.aG rfl (by go_simp)
 ·intro _ ac_ w_ hB hr
  obtain ⟨v74,e74,n74⟩:∃ v,ac_.tmps[74]?=some v∧(Rg.Val.at (aJ (wc.heap.size) (nn))).ok v w_:=hr 74 (by decide)
  obtain ⟨s74,a74,l74,c74,hs74,rfl,o74⟩:=(Rg.aZ n74).view
  have e75:=Rg.ev1 (hr 75 (by decide))
  have ef:=Rg.ef ac_
  refine Rg.aX rfl (by go_simp;exact ⟨rfl,rfl⟩) ?_
  obtain rfl:=hs74.out
  rw [hsB.out]
  refine (P7.out _ _ _ _ _ o74 (aF.below oB hB)).mono ?_
  rintro e w5 ⟨sl5,rfl,ho5,hb5⟩
  exact ⟨_,rfl,aJ.at ho5 (by have:=hB.size;omega),hb5⟩
 ·intro _ ac_ w_ hB hr
  exact ⟨by have:=hB.size;omega,rfl,by first | (go_simp;done) | (go_simp;rfl)⟩
 intro vals wz hB6 hv hne
 have n13:(Rg.Val.new (wc.heap.size) 106 #[.bool false,.slice none 0 0]).ok (vals 7) wz:=hv 7 (by decide)
 have n76:(Rg.Val.at (aJ (wc.heap.size) (ne))).ok (vals 6) wz:=hv 6 (by decide)
 simp only [Rg.am,Rg.fill,Act.put,Nat.reduceAdd]
 clear hv
 obtain ⟨g13,hg13,v_7,o13⟩:=n13
 replace o13:aH wz g13 106 #[.bool false,.slice none 0 0]:=o13
 obtain ⟨s76,a76,l76,c76,hs76,v_6,o76⟩:=(Rg.aZ n76).view
 simp only [v_7,v_6]
 clear v_7 v_6
 have hB2:Below wc.heap.size wc ((wz.setCell ⟨g13,0,none⟩ (.bool s76)).setCell ⟨g13,1,none⟩ (.slice a76 l76 c76)):=uj (uj hB6 hg13 _) hg13 _
 have ⟨c0,c1,f0,f1,_⟩:=o13.box
 have MC:=WhV.put o13 hs76 o76
 have hlt:=MB.lt
 unfold Rg.aV Rg.aV Oper.wp
 go_simp
 clear c0 c1 f0 f1 o13 VB oB
 replace MA:=MA.keep hB2
 replace MB:=MB.keep hB2
 replace C:=C.keep hB2
 replace Q:=Q.keep hB2
 replace U:=U.keep hB2
 replace R:=R.keep hB2
 replace B:=B.trans (hB2.mono B.size)
 have hbc:gb<g13:=by omega
 clear hB2 hB6 hlt hg13 P2 P6 P7
 generalize ((wz.setCell ⟨g13,0,none⟩ (.bool s76)).setCell ⟨g13,1,none⟩ (.slice a76 l76 c76))=wd at *
 skip
 have C_c0:=C.box.c0
 have C_c1:=C.box.c1
 have ⟨q0,q1,q2⟩:=Q.aQ
 have ⟨u0,u1,u2⟩:=U.aQ
 have ⟨r0,r1,r2⟩:=R.aQ
 go_upto_region 13 with fail
 obtain ⟨e1,e2,e3,e4,e5,e6⟩:w.heap.size≤g13∧ga≠g13∧gb≠g13∧w.heap.size≠g13∧w.heap.size+1≠g13∧w.heap.size+1+1+1≠g13:=⟨by omega,by omega,by omega,by omega,by omega,by omega⟩
 have ⟨sA,aA,lA,cA,hsA,VA,oA⟩:=MA
 have ⟨sC,aC,lC,cC,hsC,VC,oC⟩:=MC
 refine Rg.bF 23 [.is (.agg #[.bool sC,.slice aC lC cC]),.is (.agg #[.bool sA,.slice aA lA cA]),.is (.pointer (some ⟨w.heap.size+1,0,none⟩)),.is (.int .i64 X1),.is (.pointer (some ⟨w.heap.size+1+1,2,none⟩)),.is (.int .i64 E2),.is (.int .i64 (X1*E2)),.is (.pointer (some ⟨w.heap.size+1+1,2,none⟩)),.is (.int .i64 E2),.is (.int .i64 ((X1*E2)*E2)),.is (.pointer (some ⟨w.heap.size+1+1,0,none⟩)),.is (.int .i64 X2),.is (.pointer (some ⟨w.heap.size+1,2,none⟩)),.is (.int .i64 E1),.is (.int .i64 (X2*E1)),.is (.pointer (some ⟨w.heap.size+1,2,none⟩)),.is (.int .i64 E1),.is (.int .i64 ((X2*E1)*E1)),.is (.int .i64 (((X1*E2)*E2)+((X2*E1)*E1))),.at (aJ (wd.heap.size) (X1*E2*E2+X2*E1*E1)),.at (aJ (wd.heap.size) (mq)),.at (aJ (wd.heap.size) (nq)),.at (aJ (wd.heap.size) (T))] (by kernel_rfl) (by kernel_rfl) (by kernel_rfl) ⟨?_,?_,?_,?_,?_,?_,?_,?_,?_,?_,?_,?_,?_,?_,?_,?_,?_,?_,?_,?_,?_,?_,?_,fun h_=>absurd h_ (by decide),trivial⟩ ?_
 ·intro _ ac_ w_ hB hr
  have e13:ac_.tmps[13]?=some (.pointer (some ⟨g13,0,none⟩)):=hr 13 (by decide)
  have k0:=aE hB VC.box.c0
  have k1:=aE hB VC.box.c1
  exact Rg.aG rfl (by go_simp)
 ·intro _ ac_ w_ hB hr
  have e11:ac_.tmps[11]?=some (.pointer (some ⟨ga,0,none⟩)):=hr 11 (by decide)
  have k0:=aE hB VA.box.c0
  have k1:=aE hB VA.box.c1
  exact Rg.aG rfl (by go_simp)
 ·intro _ ac_ w_ hB hr
  have e4:ac_.tmps[4]?=some (.pointer (some ⟨w.heap.size+1,0,none⟩)):=hr 4 (by decide)
  exact Rg.aG rfl (by go_simp)
 ·intro _ ac_ w_ hB hr
  have e79:=Rg.ev1 (hr 79 (by decide))
  have k0:=aE hB q0
  exact Rg.aG rfl (by go_simp)
 ·intro _ ac_ w_ hB hr
  have e5:ac_.tmps[5]?=some (.pointer (some ⟨w.heap.size+1+1,0,none⟩)):=hr 5 (by decide)
  exact Rg.aG rfl (by go_simp)
 ·intro _ ac_ w_ hB hr
  have e81:=Rg.ev1 (hr 81 (by decide))
  have k2:=aE hB u2
  exact Rg.aG rfl (by go_simp)
 ·intro _ ac_ w_ hB hr
  have e80:=Rg.ev1 (hr 80 (by decide))
  have e82:=Rg.ev1 (hr 82 (by decide))
  exact Rg.aG rfl (by go_simp <;> exact Rg.wo (by omega))
 ·intro _ ac_ w_ hB hr
  have e5:ac_.tmps[5]?=some (.pointer (some ⟨w.heap.size+1+1,0,none⟩)):=hr 5 (by decide)
  exact Rg.aG rfl (by go_simp)
 ·intro _ ac_ w_ hB hr
  have e84:=Rg.ev1 (hr 84 (by decide))
  have k2:=aE hB u2
  exact Rg.aG rfl (by go_simp)
 ·intro _ ac_ w_ hB hr
  have e83:=Rg.ev1 (hr 83 (by decide))
  have e85:=Rg.ev1 (hr 85 (by decide))
  exact Rg.aG rfl (by go_simp <;> exact Rg.wo (by omega))
 ·intro _ ac_ w_ hB hr
  have e5:ac_.tmps[5]?=some (.pointer (some ⟨w.heap.size+1+1,0,none⟩)):=hr 5 (by decide)
  exact Rg.aG rfl (by go_simp)
 ·intro _ ac_ w_ hB hr
  have e87:=Rg.ev1 (hr 87 (by decide))
  have k0:=aE hB u0
  exact Rg.aG rfl (by go_simp)
 ·intro _ ac_ w_ hB hr
  have e4:ac_.tmps[4]?=some (.pointer (some ⟨w.heap.size+1,0,none⟩)):=hr 4 (by decide)
  exact Rg.aG rfl (by go_simp)
 ·intro _ ac_ w_ hB hr
  have e89:=Rg.ev1 (hr 89 (by decide))
  have k2:=aE hB q2
  exact Rg.aG rfl (by go_simp)
 ·intro _ ac_ w_ hB hr
  have e88:=Rg.ev1 (hr 88 (by decide))
  have e90:=Rg.ev1 (hr 90 (by decide))
  exact Rg.aG rfl (by go_simp <;> exact Rg.wo (by omega))
 ·intro _ ac_ w_ hB hr
  have e4:ac_.tmps[4]?=some (.pointer (some ⟨w.heap.size+1,0,none⟩)):=hr 4 (by decide)
  exact Rg.aG rfl (by go_simp)
 ·intro _ ac_ w_ hB hr
  have e92:=Rg.ev1 (hr 92 (by decide))
  have k2:=aE hB q2
  exact Rg.aG rfl (by go_simp)
 ·intro _ ac_ w_ hB hr
  have e91:=Rg.ev1 (hr 91 (by decide))
  have e93:=Rg.ev1 (hr 93 (by decide))
  exact Rg.aG rfl (by go_simp <;> exact Rg.wo (by omega))
 ·intro _ ac_ w_ hB hr
  have e86:=Rg.ev1 (hr 86 (by decide))
  have e94:=Rg.ev1 (hr 94 (by decide))
  exact Rg.aG rfl (by go_simp <;> exact Rg.wo (by omega))
 ·intro _ ac_ w_ hB hr
  have e95:=Rg.ev1 (hr 95 (by decide))
  have ef:=Rg.ef ac_
  refine Rg.aX rfl (by go_simp;exact ⟨rfl,rfl⟩) ?_
  refine (P4.out _).mono ?_
  rintro e w5 ⟨sl5,rfl,ho5,hb5⟩
  exact ⟨_,rfl,aJ.at ho5 (by have:=hB.size;omega),hb5⟩
 ·intro _ ac_ w_ hB hr
  have e78:=Rg.ev1 (hr 78 (by decide))
  obtain ⟨v96,e96,n96⟩:∃ v,ac_.tmps[96]?=some v∧(Rg.Val.at (aJ (wd.heap.size) (X1*E2*E2+X2*E1*E1))).ok v w_:=hr 96 (by decide)
  obtain ⟨s96,a96,l96,c96,hs96,rfl,o96⟩:=(Rg.aZ n96).view
  have ef:=Rg.ef ac_
  refine Rg.aX rfl (by go_simp;exact ⟨rfl,rfl⟩) ?_
  obtain rfl:=hs96.out
  rw [hsA.out]
  refine (P8.out _ _ _ _ _ (aF.below oA hB) o96).mono ?_
  rintro e w5 ⟨sl5,rfl,ho5,hb5⟩
  exact ⟨_,rfl,aJ.at ho5 (by have:=hB.size;omega),hb5⟩
 ·intro _ ac_ w_ hB hr
  obtain ⟨v97,e97,n97⟩:∃ v,ac_.tmps[97]?=some v∧(Rg.Val.at (aJ (wd.heap.size) (mq))).ok v w_:=hr 97 (by decide)
  obtain ⟨s97,a97,l97,c97,hs97,rfl,o97⟩:=(Rg.aZ n97).view
  have ef:=Rg.ef ac_
  refine Rg.aX rfl (by go_simp;exact ⟨rfl,rfl⟩) ?_
  obtain rfl:=hs97.out
  refine (P9.out _ _ _ o97).mono ?_
  rintro e w5 ⟨sl5,rfl,ho5,hb5⟩
  exact ⟨_,rfl,aJ.at ho5 (by have:=hB.size;omega),hb5⟩
 ·intro _ ac_ w_ hB hr
  have e77:=Rg.ev1 (hr 77 (by decide))
  obtain ⟨v98,e98,n98⟩:∃ v,ac_.tmps[98]?=some v∧(Rg.Val.at (aJ (wd.heap.size) (nq))).ok v w_:=hr 98 (by decide)
  obtain ⟨s98,a98,l98,c98,hs98,rfl,o98⟩:=(Rg.aZ n98).view
  have ef:=Rg.ef ac_
  refine Rg.aX rfl (by go_simp;exact ⟨rfl,rfl⟩) ?_
  obtain rfl:=hs98.out
  rw [hsC.out]
  refine (PA.out _ _ _ _ _ (aF.below oC hB) o98).mono ?_
  rintro e w5 ⟨sl5,rfl,ho5,hb5⟩
  exact ⟨_,rfl,aJ.at ho5 (by have:=hB.size;omega),hb5⟩
 intro vals wy hB7 hv hne
 have n99:(Rg.Val.at (aJ (wd.heap.size) (T))).ok (vals 22) wy:=hv 22 (by decide)
 simp only [Rg.am,Rg.fill,Act.put,Nat.reduceAdd]
 clear hv
 obtain ⟨s99,a99,l99,c99,hs99,v_22,o99⟩:=(Rg.aZ n99).view
 simp only [v_22]
 clear v_22
 have VC2:=VC.keep hB7
 have hB2:Below w.heap.size w ((wy.setCell ⟨g13,0,none⟩ (.bool s99)).setCell ⟨g13,1,none⟩ (.slice a99 l99 c99)):=uj (uj (B.trans (hB7.mono B.size)) e1 _) e1 _
 replace MA:=(MA.keep hB7).bW e2 VC2 (.bool s99) (.slice a99 l99 c99)
 replace MB:=(MB.keep hB7).bW e3 VC2 (.bool s99) (.slice a99 l99 c99)
 have MT:=WhV.put VC2 hs99 o99
 have ⟨c0,c1,f0,f1,_⟩:=VC2.box
 replace C:=(C.keep hB7).bW e4 (.bool s99) (.slice a99 l99 c99)
 replace Q:=(Q.keep hB7).bW e5 (.bool s99) (.slice a99 l99 c99)
 replace R:=(R.keep hB7).bW e6 (.bool s99) (.slice a99 l99 c99)
 unfold Rg.aV Rg.aV Oper.wp
 go_simp
 clear c0 c1 f0 f1 VC2 VC oC VA oA MC U hB7 B
 skip
 have B:=hB2
 clear hB2
 generalize ((wy.setCell ⟨g13,0,none⟩ (.bool s99)).setCell ⟨g13,1,none⟩ (.slice a99 l99 c99))=wf at *
 clear q0 q1 q2 u0 u1 u2 r0 r1 r2 C_c0 C_c1
 clear P4 P8 P9 PA
 go_upto_region 14 with fail
 go_cut [14] (fun p wx=>∃ gd:Nat,p=.pointer (some ⟨gd,0,none⟩)∧aH wx w.heap.size 28 #[.int .i64 a,.int .i64 b]∧aH wx (w.heap.size+1) 45 #[.int .i64 X1,.int .i64 Y1,.int .i64 E1]∧aH wx (w.heap.size+1+1+1) 45 #[.int .i64 0,.int .i64 0,.int .i64 0]∧Below w.heap.size w wx∧WhV wx g13 (T)∧WhV wx gd (Bt))
 case first=>
  have ⟨sA,aA,lA,cA,hsA,VA,oA⟩:=MA
  have ⟨sB,aB,lB,cB,hsB,VB,oB⟩:=MB
  obtain rfl:=hsA.out
  obtain rfl:=hsB.out
  have a0:=VA.box.c0
  have a1:=VA.box.c1
  have b0:=VB.box.c0
  have b1:=VB.box.c1
  go_wp2_with (go_at_call 76;(with_reducible refine (PB.out _ _ _ _ _ oA oB).mono ?_);rintro e w4 ⟨v4,rfl,o4,hb4⟩;(replace o4:aF _ _ _ _:=o4);(replace B:=B.trans (hb4.mono B.size));(replace C:=C.keep hb4);(replace Q:=Q.keep hb4);(replace R:=R.keep hb4);(replace MT:=MT.keep hb4);(have C_c0:=C.box.c0);(have C_c1:=C.box.c1);(obtain ⟨q0,q1,q2⟩:=Q.aQ);(obtain ⟨r0,r1,r2⟩:=R.aQ);obtain ⟨av,cv,rfl,hm_,hv_⟩:=aF.view o4;(clear hm_ hv_);(have V:=aH.new w4 #[.bool false,.slice none 0 0] 106);(have V0:=V.box.c0);(have V1:=V.box.c1);(have V2:=V.box.f0);(have V3:=V.box.f1);(have M0:=fo w4 (.bool (decide (Bt<0))) (.slice av (Wh.dig (Bt).natAbs).length cv));(have M1:=WhV.made o4))
  go_meet
  exact ⟨w4.heap.size,rfl,C.keep M0,Q.keep M0,R.keep M0,B.trans (M0.mono B.size),MT.keep M0,M1⟩
 case rest=>
 obtain ⟨gd,rfl,C,Q,R,B,MT,MD⟩:=hcut
 clear MA MB PB e1 e2 e3 e4 e5 e6 hab ha0
 go_wp2
 go_loopw [15] (fun vk wr=>∃ k:Int,vk=.int .i64 k∧1≤k∧k≤21∧Hid (K=true→k≤E)∧aH wr w.heap.size 28 #[.int .i64 a,.int .i64 b]∧aH wr (w.heap.size+1) 45 #[.int .i64 X1,.int .i64 Y1,.int .i64 E1]∧aH wr (w.heap.size+1+1+1) 45 #[.int .i64 0,.int .i64 0,.int .i64 0]∧Below w.heap.size w wr∧WhV wr g13 (T)∧WhV wr gd (Bt)) (fun vk _=>(21 - intOf vk).toNat)
 case atStart=>exact ⟨1,rfl,by omega,by omega,uh (fun h=>(H2.out h).1),C,Q,R,B,MT,MD⟩
 case round=>
 clear C Q R B MT MD
 obtain ⟨k,rfl,k1,k2,hk,C,Q,R,B,MT,MD⟩:=hrel
 have C_c0:=C.box.c0
 have C_c1:=C.box.c1
 obtain ⟨q0,q1,q2⟩:=Q.aQ
 obtain ⟨r0,r1,r2⟩:=R.aQ
 have f0:=R.frz 0
 have f1:=R.frz 1
 have f2:=R.frz 2
 have rl:=R.lt
 by_cases h20:k≤20
 ·have hkk:=M.aL (x:=k) (y:=k) (m:=20) (n:=20) (by omega) (by omega) (by omega) (by omega)
  have PT:=fun v W j (h:aF W j v (Wh.dig T.natAbs))=>jN T (k*k) v W j h (Wh.aU.2 (Wh.aN zt (by omega))) (by omega) (by omega)
  have zs:=Wh.ag zt (Wh.bS (n:=k*k) (by omega) (by omega))
  have PQ:=fun v v' W j j' (h:aF W j v (Wh.dig (T*(k*k)).natAbs)) (h':aF W j' v' (Wh.dig Bt.natAbs))=>iB (T*(k*k)) Bt v v' W j j' h h' (Wh.aN zs (by omega)) (Wh.aN zb (by omega)) hbp
  have hxb:-10000≤M.sq (T*(k*k)) Bt∧M.sq (T*(k*k)) Bt≤10000:=by unfold M.sq;omega
  have hxe:=fun x' (h1:-10000≤x') (h2:x'≤10000) (h:Bt*x'=T*(k*k))=>M.ub hbp h1 h2 h
  have hat:K=true→E=k→M.sq (T*(k*k)) Bt=X∧Bt*X=T*(k*k)∧Int.gcd X k=1:=by
   intro hK hE
   obtain ⟨c1,c2,c3,c4,c5,c6,-⟩:=H2.out hK
   rw [hE] at c5 c6
   exact ⟨hxe X c3 c4 c6,c6,c5⟩
  clear hxe zs
  have h1k:=fun x' (q3:-10000≤x') (q4:x'≤10000) q5 q6=>H1.out x' k k1 h20 q3 q4 q5 q6
  generalize M.sq (T*(k*k)) Bt=x at *
  generalize T*(k*k)=S at *
  have PG:=fun W=>ik x k W (by omega) (by omega) (by omega) (by omega)
  obtain ⟨x1,x2⟩:=hxb
  obtain ⟨ok,hok⟩:∃ ok,Hid (decide (Bt*x=S)=ok):=⟨_,uh rfl⟩
  rw [hok.out] at PQ
  have PT:=uh PT
  have PQ:=uh PQ
  have hgk:M.gcd x k=1 ↔ Int.gcd x k=1:=by unfold M.gcd;omega
  generalize M.gcd x k=gk at *
  have PG:=uh PG
  by_cases hgood:ok=true∧gk=1
  ·obtain ⟨rfl,rfl⟩:=hgood
   obtain ⟨hK,hX,hE⟩:=h1k x x1 x2 (hgk.1 rfl) (of_decide_eq_true hok.out)
   obtain ⟨c1,c2,c3,c4,c5,c6,c7,c8,c9,ca⟩:=H2.out hK
   rw [hX,hE] at c7 c8
   have hfin:=uh (show K=true∧X=x∧E=k from ⟨hK,hX,hE⟩)
   clear hat h1k hgk hok c1 c2 c3 c4 c5 c6 hK hX hE hk H1 H2 hno zt zb hbp
   have m3:-8000≤m∧m≤8000:=by omega
   have n3:-1600000≤n∧n≤1600000:=by omega
   clear c9 ca
   have sb8:=M.aL (x:=X1) (y:=k) (m:=10000) (n:=20) (by omega) (by omega) (by omega) (by omega)
   have sb9:=M.aL (x:=X1*k) (y:=k) (m:=200000) (n:=20) (by omega) (by omega) (by omega) (by omega)
   have sb10:=M.aL (x:=x) (y:=E1) (m:=10000) (n:=20) (by omega) (by omega) (by omega) (by omega)
   have sb11:=M.aL (x:=x*E1) (y:=E1) (m:=200000) (n:=20) (by omega) (by omega) (by omega) (by omega)
   have sb12:=M.aL (x:=n) (y:=X1*k*k - x*E1*E1) (m:=1600000) (n:=8000000) (by omega) (by omega) (by omega) (by omega)
   have sb13:=M.aL (x:=n*(X1*k*k - x*E1*E1)) (y:=E1) (m:=12800000000000) (n:=20) (by omega) (by omega) (by omega) (by omega)
   have sb14:=M.aL (x:=Y1) (y:=m) (m:=3000000) (n:=8000) (by omega) (by omega) (by omega) (by omega)
   have sb15:=M.aL (x:=Y1*m) (y:=k) (m:=24000000000) (n:=20) (by omega) (by omega) (by omega) (by omega)
   have sb16:=M.aL (x:=Y1*m*k) (y:=k) (m:=480000000000) (n:=20) (by omega) (by omega) (by omega) (by omega)
   have PV:=fun W=>f8 a b x k W ha1 ha2 hb1 hb2 x1 x2 (by omega) (by omega)
   have hcv:=M.kx (a:=a) (b:=b) (x:=x) (e:=k) ha1 ha2 hb1 hb2 x1 x2 (by omega) (by omega)
   rw [←c8] at PV hcv
   have hyb:=M.oL (Y:=Y) (by omega)
   have hr2:(Y.natAbs:Int)*(Y.natAbs:Int)=Y*Y:=Int.natAbs_mul_self
   have hr0:(0:Int)≤(Y.natAbs:Int):=by omega
   have hrb:(Y.natAbs:Int)≤2000000:=by omega
   have PR:=fun W=>j7 (Y*Y) W (by omega)
   rw [M.rL hr0 hr2,M.ix hr2] at PR
   have hy:=fun h=>M.tm (r:=(Y.natAbs:Int)) hm0.out (by omega) (by omega) (show k*(n*(X1*k*k - x*E1*E1)*E1 - Y1*m*k*k)=m*E1*E1*E1*Y from h) hr0 hr2
   replace hy:=hy c7
   clear c7 c8 hcv
   generalize (Y.natAbs:Int)=r at *
   generalize Y*Y=yy at *
   clear hr2
   have PV:=uh PV
   have PR:=uh PR
   by_cases s1:n*(X1*k*k - x*E1*E1)*E1 - Y1*m*k*k<0
   ·by_cases s2:m<0
    ·have hyv:=uh (show r=Y by rw [←hy];simp [s1,s2])
     clear hy
     have d1:decide (n*(X1*k*k - x*E1*E1)*E1 - Y1*m*k*k<0)=true:=decide_eq_true s1
     have d2:decide (m<0)=true:=decide_eq_true s2
     have d3:(decide (n*(X1*k*k - x*E1*E1)*E1 - Y1*m*k*k<0) != decide (m<0))=false:=by rw [d1,d2];rfl
     clear s1 s2
     have ⟨sT,aT,lT,cT,hsT,VT,oT⟩:=MT
     have ⟨sD,aD,lD,cD,hsD,VD,oD⟩:=MD
     go_upto_region 18 with fail
     refine Rg.bF 12 [.is (.agg #[.bool sT,.slice aT lT cT]),.is (.int .i64 k),.is (.int .i64 k),.is (.int .i64 (k*k)),.at (aJ (wr.heap.size) (S)),.is (.agg #[.bool sD,.slice aD lD cD]),.is (.tuple #[.int .i64 x,.bool true]),.is (.tuple #[.int .i64 x,.bool true]),.is (.int .i64 x),.is (.bool true),.is (.int .i64 x),.is (.bool true)] (by kernel_rfl) (by kernel_rfl) (by kernel_rfl) ⟨?_,?_,?_,?_,?_,?_,?_,?_,?_,?_,?_,?_,trivial⟩ ?_
     ·intro _ ac_ w_ hB hr
      have e13:ac_.tmps[13]?=some (.pointer (some ⟨g13,0,none⟩)):=hr 13 (by decide)
      have k0:=aE hB VT.box.c0
      have k1:=aE hB VT.box.c1
      exact Rg.aG rfl (by go_simp)
     ·intro _ ac_ w_ hB hr
      have e15:ac_.tmps[15]?=some (.int .i64 k):=hr 15 (by decide)
      exact Rg.aG rfl (by go_simp)
     ·intro _ ac_ w_ hB hr
      have e15:ac_.tmps[15]?=some (.int .i64 k):=hr 15 (by decide)
      exact Rg.aG rfl (by go_simp)
     ·intro _ ac_ w_ hB hr
      have e109:=Rg.ev1 (hr 109 (by decide))
      have e110:=Rg.ev1 (hr 110 (by decide))
      exact Rg.aG rfl (by go_simp <;> exact Rg.wo (by omega))
     ·intro _ ac_ w_ hB hr
      have e108:=Rg.ev1 (hr 108 (by decide))
      have e111:=Rg.ev1 (hr 111 (by decide))
      have ef:=Rg.ef ac_
      refine Rg.aX rfl (by go_simp;exact ⟨rfl,rfl⟩) ?_
      rw [hsT.out]
      refine (PT.out _ _ _ (aF.below oT hB)).mono ?_
      rintro e w5 ⟨sl5,rfl,ho5,hb5⟩
      exact ⟨_,rfl,aJ.at ho5 (by have:=hB.size;omega),hb5⟩
     ·intro _ ac_ w_ hB hr
      have e14:ac_.tmps[14]?=some (.pointer (some ⟨gd,0,none⟩)):=hr 14 (by decide)
      have k0:=aE hB VD.box.c0
      have k1:=aE hB VD.box.c1
      exact Rg.aG rfl (by go_simp)
     ·intro _ ac_ w_ hB hr
      obtain ⟨v112,e112,n112⟩:∃ v,ac_.tmps[112]?=some v∧(Rg.Val.at (aJ (wr.heap.size) (S))).ok v w_:=hr 112 (by decide)
      obtain ⟨s112,a112,l112,c112,hs112,rfl,o112⟩:=(Rg.aZ n112).view
      have e113:=Rg.ev1 (hr 113 (by decide))
      have ec:=Rg.ec ac_
      have ef:=Rg.ef ac_
      refine Rg.aX rfl (by go_simp;exact ⟨rfl,rfl⟩) ?_
      obtain rfl:=hs112.out
      rw [hsD.out]
      refine (PQ.out _ _ _ _ _ o112 (aF.below oD hB)).mono ?_
      rintro e w5 ⟨rfl,hb5⟩
      exact ⟨_,rfl,rfl,hb5⟩
     ·intro _ ac_ w_ hB hr
      have e114:=Rg.ev1 (hr 114 (by decide))
      exact Rg.aG rfl (by go_simp)
     ·intro _ ac_ w_ hB hr
      have e107:=Rg.ev1 (hr 107 (by decide))
      exact Rg.aG rfl (by go_simp)
     ·intro _ ac_ w_ hB hr
      have e107:=Rg.ev1 (hr 107 (by decide))
      exact Rg.aG rfl (by go_simp)
     ·intro _ ac_ w_ hB hr
      have e115:=Rg.ev1 (hr 115 (by decide))
      exact Rg.aG rfl (by go_simp)
     ·intro _ ac_ w_ hB hr
      have e116:=Rg.ev1 (hr 116 (by decide))
      exact Rg.aG rfl (by go_simp)
     intro vals wz hB8 hv hne
     have v_10:vals 10=.int .i64 x:=hv 10 (by decide)
     have v_11:vals 11=.bool true:=hv 11 (by decide)
     simp only [Rg.am,Rg.fill,Act.put,Nat.reduceAdd]
     clear hv
     simp only [v_10,v_11]
     clear v_10 v_11
     replace C:=C.keep hB8
     replace Q:=Q.keep hB8
     replace R:=R.keep hB8
     replace MT:=MT.keep hB8
     replace MD:=MD.keep hB8
     replace B:=B.trans (hB8.mono B.size)
     clear hB8 VT oT VD oD
     unfold Rg.aV
     have C_c0:=C.box.c0
     have C_c1:=C.box.c1
     obtain ⟨q0,q1,q2⟩:=Q.aQ
     obtain ⟨r0,r1,r2⟩:=R.aQ
     have f0:=R.frz 0
     have f1:=R.frz 1
     have f2:=R.frz 2
     have rl:=R.lt
     go_wp2_with first | (go_at_call 57;(with_reducible refine (PG.out _).mono ?_);rintro e w5 ⟨rfl,j5,rfl⟩;(have hb5:=aK (uk wz.heap.size wz) j5);(replace B:=B.trans (hb5.mono B.size));(replace C:=C.keep hb5);(replace Q:=Q.keep hb5);(replace R:=R.keep hb5);(replace MT:=MT.keep hb5);(replace MD:=MD.keep hb5);(have C_c0:=C.box.c0);(have C_c1:=C.box.c1);(obtain ⟨q0,q1,q2⟩:=Q.aQ);(obtain ⟨r0,r1,r2⟩:=R.aQ);(have f0:=R.frz 0);(have f1:=R.frz 1);(have f2:=R.frz 2);(have rl:=R.lt)) | (go_at_call 58;(with_reducible refine (PV.out _).mono ?_);rintro e w6 ⟨rfl,hb6⟩;(replace B:=B.trans (hb6.mono B.size));(replace C:=C.keep hb6);(replace Q:=Q.keep hb6);(replace R:=R.keep hb6);(replace MT:=MT.keep hb6);(replace MD:=MD.keep hb6);(have C_c0:=C.box.c0);(have C_c1:=C.box.c1);(obtain ⟨q0,q1,q2⟩:=Q.aQ);(obtain ⟨r0,r1,r2⟩:=R.aQ);(have f0:=R.frz 0);(have f1:=R.frz 1);(have f2:=R.frz 2);(have rl:=R.lt)) | (go_at_call 82;(with_reducible refine (PR.out _).mono ?_);rintro e w7 ⟨rfl,rfl⟩)
     exact bodyPost_ret (v:=.tuple #[.agg #[.int .i64 x,.int .i64 (r),.int .i64 k],.bool true]) (by simp [results,Tryz.results61,go_sem, *]) rfl (⟨by rw [hfin.out.1,hfin.out.2.1,hfin.out.2.2,hyv.out],uj (uj (uj B (by simp;omega) _) (by simp;omega) _) (by simp;omega) _⟩)
    have hyv:=uh (show -r=Y by rw [←hy];simp [s1,s2])
    clear hy
    have d1:decide (n*(X1*k*k - x*E1*E1)*E1 - Y1*m*k*k<0)=true:=decide_eq_true s1
    have d2:decide (m<0)=false:=decide_eq_false s2
    have d3:(decide (n*(X1*k*k - x*E1*E1)*E1 - Y1*m*k*k<0) != decide (m<0))=true:=by rw [d1,d2];rfl
    clear s1 s2
    have ⟨sT,aT,lT,cT,hsT,VT,oT⟩:=MT
    have ⟨sD,aD,lD,cD,hsD,VD,oD⟩:=MD
    go_upto_region 18 with fail
    refine Rg.bF 12 [.is (.agg #[.bool sT,.slice aT lT cT]),.is (.int .i64 k),.is (.int .i64 k),.is (.int .i64 (k*k)),.at (aJ (wr.heap.size) (S)),.is (.agg #[.bool sD,.slice aD lD cD]),.is (.tuple #[.int .i64 x,.bool true]),.is (.tuple #[.int .i64 x,.bool true]),.is (.int .i64 x),.is (.bool true),.is (.int .i64 x),.is (.bool true)] (by kernel_rfl) (by kernel_rfl) (by kernel_rfl) ⟨?_,?_,?_,?_,?_,?_,?_,?_,?_,?_,?_,?_,trivial⟩ ?_
    ·intro _ ac_ w_ hB hr
     have e13:ac_.tmps[13]?=some (.pointer (some ⟨g13,0,none⟩)):=hr 13 (by decide)
     have k0:=aE hB VT.box.c0
     have k1:=aE hB VT.box.c1
     exact Rg.aG rfl (by go_simp)
    ·intro _ ac_ w_ hB hr
     have e15:ac_.tmps[15]?=some (.int .i64 k):=hr 15 (by decide)
     exact Rg.aG rfl (by go_simp)
    ·intro _ ac_ w_ hB hr
     have e15:ac_.tmps[15]?=some (.int .i64 k):=hr 15 (by decide)
     exact Rg.aG rfl (by go_simp)
    ·intro _ ac_ w_ hB hr
     have e109:=Rg.ev1 (hr 109 (by decide))
     have e110:=Rg.ev1 (hr 110 (by decide))
     exact Rg.aG rfl (by go_simp <;> exact Rg.wo (by omega))
    ·intro _ ac_ w_ hB hr
     have e108:=Rg.ev1 (hr 108 (by decide))
     have e111:=Rg.ev1 (hr 111 (by decide))
     have ef:=Rg.ef ac_
     refine Rg.aX rfl (by go_simp;exact ⟨rfl,rfl⟩) ?_
     rw [hsT.out]
     refine (PT.out _ _ _ (aF.below oT hB)).mono ?_
     rintro e w5 ⟨sl5,rfl,ho5,hb5⟩
     exact ⟨_,rfl,aJ.at ho5 (by have:=hB.size;omega),hb5⟩
    ·intro _ ac_ w_ hB hr
     have e14:ac_.tmps[14]?=some (.pointer (some ⟨gd,0,none⟩)):=hr 14 (by decide)
     have k0:=aE hB VD.box.c0
     have k1:=aE hB VD.box.c1
     exact Rg.aG rfl (by go_simp)
    ·intro _ ac_ w_ hB hr
     obtain ⟨v112,e112,n112⟩:∃ v,ac_.tmps[112]?=some v∧(Rg.Val.at (aJ (wr.heap.size) (S))).ok v w_:=hr 112 (by decide)
     obtain ⟨s112,a112,l112,c112,hs112,rfl,o112⟩:=(Rg.aZ n112).view
     have e113:=Rg.ev1 (hr 113 (by decide))
     have ec:=Rg.ec ac_
     have ef:=Rg.ef ac_
     refine Rg.aX rfl (by go_simp;exact ⟨rfl,rfl⟩) ?_
     obtain rfl:=hs112.out
     rw [hsD.out]
     refine (PQ.out _ _ _ _ _ o112 (aF.below oD hB)).mono ?_
     rintro e w5 ⟨rfl,hb5⟩
     exact ⟨_,rfl,rfl,hb5⟩
    ·intro _ ac_ w_ hB hr
     have e114:=Rg.ev1 (hr 114 (by decide))
     exact Rg.aG rfl (by go_simp)
    ·intro _ ac_ w_ hB hr
     have e107:=Rg.ev1 (hr 107 (by decide))
     exact Rg.aG rfl (by go_simp)
    ·intro _ ac_ w_ hB hr
     have e107:=Rg.ev1 (hr 107 (by decide))
     exact Rg.aG rfl (by go_simp)
    ·intro _ ac_ w_ hB hr
     have e115:=Rg.ev1 (hr 115 (by decide))
     exact Rg.aG rfl (by go_simp)
    ·intro _ ac_ w_ hB hr
     have e116:=Rg.ev1 (hr 116 (by decide))
     exact Rg.aG rfl (by go_simp)
    intro vals wz hB8 hv hne
    have v_10:vals 10=.int .i64 x:=hv 10 (by decide)
    have v_11:vals 11=.bool true:=hv 11 (by decide)
    simp only [Rg.am,Rg.fill,Act.put,Nat.reduceAdd]
    clear hv
    simp only [v_10,v_11]
    clear v_10 v_11
    replace C:=C.keep hB8
    replace Q:=Q.keep hB8
    replace R:=R.keep hB8
    replace MT:=MT.keep hB8
    replace MD:=MD.keep hB8
    replace B:=B.trans (hB8.mono B.size)
    clear hB8 VT oT VD oD
    unfold Rg.aV
    have C_c0:=C.box.c0
    have C_c1:=C.box.c1
    obtain ⟨q0,q1,q2⟩:=Q.aQ
    obtain ⟨r0,r1,r2⟩:=R.aQ
    have f0:=R.frz 0
    have f1:=R.frz 1
    have f2:=R.frz 2
    have rl:=R.lt
    go_wp2_with first | (go_at_call 57;(with_reducible refine (PG.out _).mono ?_);rintro e w5 ⟨rfl,j5,rfl⟩;(have hb5:=aK (uk wz.heap.size wz) j5);(replace B:=B.trans (hb5.mono B.size));(replace C:=C.keep hb5);(replace Q:=Q.keep hb5);(replace R:=R.keep hb5);(replace MT:=MT.keep hb5);(replace MD:=MD.keep hb5);(have C_c0:=C.box.c0);(have C_c1:=C.box.c1);(obtain ⟨q0,q1,q2⟩:=Q.aQ);(obtain ⟨r0,r1,r2⟩:=R.aQ);(have f0:=R.frz 0);(have f1:=R.frz 1);(have f2:=R.frz 2);(have rl:=R.lt)) | (go_at_call 58;(with_reducible refine (PV.out _).mono ?_);rintro e w6 ⟨rfl,hb6⟩;(replace B:=B.trans (hb6.mono B.size));(replace C:=C.keep hb6);(replace Q:=Q.keep hb6);(replace R:=R.keep hb6);(replace MT:=MT.keep hb6);(replace MD:=MD.keep hb6);(have C_c0:=C.box.c0);(have C_c1:=C.box.c1);(obtain ⟨q0,q1,q2⟩:=Q.aQ);(obtain ⟨r0,r1,r2⟩:=R.aQ);(have f0:=R.frz 0);(have f1:=R.frz 1);(have f2:=R.frz 2);(have rl:=R.lt)) | (go_at_call 82;(with_reducible refine (PR.out _).mono ?_);rintro e w7 ⟨rfl,rfl⟩)
    exact bodyPost_ret (v:=.tuple #[.agg #[.int .i64 x,.int .i64 (-r),.int .i64 k],.bool true]) (by simp [results,Tryz.results61,go_sem, *]) rfl (⟨by rw [hfin.out.1,hfin.out.2.1,hfin.out.2.2,hyv.out],uj (uj (uj B (by simp;omega) _) (by simp;omega) _) (by simp;omega) _⟩)
   by_cases s2:m<0
   ·have hyv:=uh (show -r=Y by rw [←hy];simp [s1,s2])
    clear hy
    have d1:decide (n*(X1*k*k - x*E1*E1)*E1 - Y1*m*k*k<0)=false:=decide_eq_false s1
    have d2:decide (m<0)=true:=decide_eq_true s2
    have d3:(decide (n*(X1*k*k - x*E1*E1)*E1 - Y1*m*k*k<0) != decide (m<0))=true:=by rw [d1,d2];rfl
    clear s1 s2
    have ⟨sT,aT,lT,cT,hsT,VT,oT⟩:=MT
    have ⟨sD,aD,lD,cD,hsD,VD,oD⟩:=MD
    go_upto_region 18 with fail
    refine Rg.bF 12 [.is (.agg #[.bool sT,.slice aT lT cT]),.is (.int .i64 k),.is (.int .i64 k),.is (.int .i64 (k*k)),.at (aJ (wr.heap.size) (S)),.is (.agg #[.bool sD,.slice aD lD cD]),.is (.tuple #[.int .i64 x,.bool true]),.is (.tuple #[.int .i64 x,.bool true]),.is (.int .i64 x),.is (.bool true),.is (.int .i64 x),.is (.bool true)] (by kernel_rfl) (by kernel_rfl) (by kernel_rfl) ⟨?_,?_,?_,?_,?_,?_,?_,?_,?_,?_,?_,?_,trivial⟩ ?_
    ·intro _ ac_ w_ hB hr
     have e13:ac_.tmps[13]?=some (.pointer (some ⟨g13,0,none⟩)):=hr 13 (by decide)
     have k0:=aE hB VT.box.c0
     have k1:=aE hB VT.box.c1
     exact Rg.aG rfl (by go_simp)
    ·intro _ ac_ w_ hB hr
     have e15:ac_.tmps[15]?=some (.int .i64 k):=hr 15 (by decide)
     exact Rg.aG rfl (by go_simp)
    ·intro _ ac_ w_ hB hr
     have e15:ac_.tmps[15]?=some (.int .i64 k):=hr 15 (by decide)
     exact Rg.aG rfl (by go_simp)
    ·intro _ ac_ w_ hB hr
     have e109:=Rg.ev1 (hr 109 (by decide))
     have e110:=Rg.ev1 (hr 110 (by decide))
     exact Rg.aG rfl (by go_simp <;> exact Rg.wo (by omega))
    ·intro _ ac_ w_ hB hr
     have e108:=Rg.ev1 (hr 108 (by decide))
     have e111:=Rg.ev1 (hr 111 (by decide))
     have ef:=Rg.ef ac_
     refine Rg.aX rfl (by go_simp;exact ⟨rfl,rfl⟩) ?_
     rw [hsT.out]
     refine (PT.out _ _ _ (aF.below oT hB)).mono ?_
     rintro e w5 ⟨sl5,rfl,ho5,hb5⟩
     exact ⟨_,rfl,aJ.at ho5 (by have:=hB.size;omega),hb5⟩
    ·intro _ ac_ w_ hB hr
     have e14:ac_.tmps[14]?=some (.pointer (some ⟨gd,0,none⟩)):=hr 14 (by decide)
     have k0:=aE hB VD.box.c0
     have k1:=aE hB VD.box.c1
     exact Rg.aG rfl (by go_simp)
    ·intro _ ac_ w_ hB hr
     obtain ⟨v112,e112,n112⟩:∃ v,ac_.tmps[112]?=some v∧(Rg.Val.at (aJ (wr.heap.size) (S))).ok v w_:=hr 112 (by decide)
     obtain ⟨s112,a112,l112,c112,hs112,rfl,o112⟩:=(Rg.aZ n112).view
     have e113:=Rg.ev1 (hr 113 (by decide))
     have ec:=Rg.ec ac_
     have ef:=Rg.ef ac_
     refine Rg.aX rfl (by go_simp;exact ⟨rfl,rfl⟩) ?_
     obtain rfl:=hs112.out
     rw [hsD.out]
     refine (PQ.out _ _ _ _ _ o112 (aF.below oD hB)).mono ?_
     rintro e w5 ⟨rfl,hb5⟩
     exact ⟨_,rfl,rfl,hb5⟩
    ·intro _ ac_ w_ hB hr
     have e114:=Rg.ev1 (hr 114 (by decide))
     exact Rg.aG rfl (by go_simp)
    ·intro _ ac_ w_ hB hr
     have e107:=Rg.ev1 (hr 107 (by decide))
     exact Rg.aG rfl (by go_simp)
    ·intro _ ac_ w_ hB hr
     have e107:=Rg.ev1 (hr 107 (by decide))
     exact Rg.aG rfl (by go_simp)
    ·intro _ ac_ w_ hB hr
     have e115:=Rg.ev1 (hr 115 (by decide))
     exact Rg.aG rfl (by go_simp)
    ·intro _ ac_ w_ hB hr
     have e116:=Rg.ev1 (hr 116 (by decide))
     exact Rg.aG rfl (by go_simp)
    intro vals wz hB8 hv hne
    have v_10:vals 10=.int .i64 x:=hv 10 (by decide)
    have v_11:vals 11=.bool true:=hv 11 (by decide)
    simp only [Rg.am,Rg.fill,Act.put,Nat.reduceAdd]
    clear hv
    simp only [v_10,v_11]
    clear v_10 v_11
    replace C:=C.keep hB8
    replace Q:=Q.keep hB8
    replace R:=R.keep hB8
    replace MT:=MT.keep hB8
    replace MD:=MD.keep hB8
    replace B:=B.trans (hB8.mono B.size)
    clear hB8 VT oT VD oD
    unfold Rg.aV
    have C_c0:=C.box.c0
    have C_c1:=C.box.c1
    obtain ⟨q0,q1,q2⟩:=Q.aQ
    obtain ⟨r0,r1,r2⟩:=R.aQ
    have f0:=R.frz 0
    have f1:=R.frz 1
    have f2:=R.frz 2
    have rl:=R.lt
    go_wp2_with first | (go_at_call 57;(with_reducible refine (PG.out _).mono ?_);rintro e w5 ⟨rfl,j5,rfl⟩;(have hb5:=aK (uk wz.heap.size wz) j5);(replace B:=B.trans (hb5.mono B.size));(replace C:=C.keep hb5);(replace Q:=Q.keep hb5);(replace R:=R.keep hb5);(replace MT:=MT.keep hb5);(replace MD:=MD.keep hb5);(have C_c0:=C.box.c0);(have C_c1:=C.box.c1);(obtain ⟨q0,q1,q2⟩:=Q.aQ);(obtain ⟨r0,r1,r2⟩:=R.aQ);(have f0:=R.frz 0);(have f1:=R.frz 1);(have f2:=R.frz 2);(have rl:=R.lt)) | (go_at_call 58;(with_reducible refine (PV.out _).mono ?_);rintro e w6 ⟨rfl,hb6⟩;(replace B:=B.trans (hb6.mono B.size));(replace C:=C.keep hb6);(replace Q:=Q.keep hb6);(replace R:=R.keep hb6);(replace MT:=MT.keep hb6);(replace MD:=MD.keep hb6);(have C_c0:=C.box.c0);(have C_c1:=C.box.c1);(obtain ⟨q0,q1,q2⟩:=Q.aQ);(obtain ⟨r0,r1,r2⟩:=R.aQ);(have f0:=R.frz 0);(have f1:=R.frz 1);(have f2:=R.frz 2);(have rl:=R.lt)) | (go_at_call 82;(with_reducible refine (PR.out _).mono ?_);rintro e w7 ⟨rfl,rfl⟩)
    exact bodyPost_ret (v:=.tuple #[.agg #[.int .i64 x,.int .i64 (-r),.int .i64 k],.bool true]) (by simp [results,Tryz.results61,go_sem, *]) rfl (⟨by rw [hfin.out.1,hfin.out.2.1,hfin.out.2.2,hyv.out],uj (uj (uj B (by simp;omega) _) (by simp;omega) _) (by simp;omega) _⟩)
   have hyv:=uh (show r=Y by rw [←hy];simp [s1,s2])
   clear hy
   have d1:decide (n*(X1*k*k - x*E1*E1)*E1 - Y1*m*k*k<0)=false:=decide_eq_false s1
   have d2:decide (m<0)=false:=decide_eq_false s2
   have d3:(decide (n*(X1*k*k - x*E1*E1)*E1 - Y1*m*k*k<0) != decide (m<0))=false:=by rw [d1,d2];rfl
   clear s1 s2
   have ⟨sT,aT,lT,cT,hsT,VT,oT⟩:=MT
   have ⟨sD,aD,lD,cD,hsD,VD,oD⟩:=MD
   go_upto_region 18 with fail
   refine Rg.bF 12 [.is (.agg #[.bool sT,.slice aT lT cT]),.is (.int .i64 k),.is (.int .i64 k),.is (.int .i64 (k*k)),.at (aJ (wr.heap.size) (S)),.is (.agg #[.bool sD,.slice aD lD cD]),.is (.tuple #[.int .i64 x,.bool true]),.is (.tuple #[.int .i64 x,.bool true]),.is (.int .i64 x),.is (.bool true),.is (.int .i64 x),.is (.bool true)] (by kernel_rfl) (by kernel_rfl) (by kernel_rfl) ⟨?_,?_,?_,?_,?_,?_,?_,?_,?_,?_,?_,?_,trivial⟩ ?_
   ·intro _ ac_ w_ hB hr
    have e13:ac_.tmps[13]?=some (.pointer (some ⟨g13,0,none⟩)):=hr 13 (by decide)
    have k0:=aE hB VT.box.c0
    have k1:=aE hB VT.box.c1
    exact Rg.aG rfl (by go_simp)
   ·intro _ ac_ w_ hB hr
    have e15:ac_.tmps[15]?=some (.int .i64 k):=hr 15 (by decide)
    exact Rg.aG rfl (by go_simp)
   ·intro _ ac_ w_ hB hr
    have e15:ac_.tmps[15]?=some (.int .i64 k):=hr 15 (by decide)
    exact Rg.aG rfl (by go_simp)
   ·intro _ ac_ w_ hB hr
    have e109:=Rg.ev1 (hr 109 (by decide))
    have e110:=Rg.ev1 (hr 110 (by decide))
    exact Rg.aG rfl (by go_simp <;> exact Rg.wo (by omega))
   ·intro _ ac_ w_ hB hr
    have e108:=Rg.ev1 (hr 108 (by decide))
    have e111:=Rg.ev1 (hr 111 (by decide))
    have ef:=Rg.ef ac_
    refine Rg.aX rfl (by go_simp;exact ⟨rfl,rfl⟩) ?_
    rw [hsT.out]
    refine (PT.out _ _ _ (aF.below oT hB)).mono ?_
    rintro e w5 ⟨sl5,rfl,ho5,hb5⟩
    exact ⟨_,rfl,aJ.at ho5 (by have:=hB.size;omega),hb5⟩
   ·intro _ ac_ w_ hB hr
    have e14:ac_.tmps[14]?=some (.pointer (some ⟨gd,0,none⟩)):=hr 14 (by decide)
    have k0:=aE hB VD.box.c0
    have k1:=aE hB VD.box.c1
    exact Rg.aG rfl (by go_simp)
   ·intro _ ac_ w_ hB hr
    obtain ⟨v112,e112,n112⟩:∃ v,ac_.tmps[112]?=some v∧(Rg.Val.at (aJ (wr.heap.size) (S))).ok v w_:=hr 112 (by decide)
    obtain ⟨s112,a112,l112,c112,hs112,rfl,o112⟩:=(Rg.aZ n112).view
    have e113:=Rg.ev1 (hr 113 (by decide))
    have ec:=Rg.ec ac_
    have ef:=Rg.ef ac_
    refine Rg.aX rfl (by go_simp;exact ⟨rfl,rfl⟩) ?_
    obtain rfl:=hs112.out
    rw [hsD.out]
    refine (PQ.out _ _ _ _ _ o112 (aF.below oD hB)).mono ?_
    rintro e w5 ⟨rfl,hb5⟩
    exact ⟨_,rfl,rfl,hb5⟩
   ·intro _ ac_ w_ hB hr
    have e114:=Rg.ev1 (hr 114 (by decide))
    exact Rg.aG rfl (by go_simp)
   ·intro _ ac_ w_ hB hr
    have e107:=Rg.ev1 (hr 107 (by decide))
    exact Rg.aG rfl (by go_simp)
   ·intro _ ac_ w_ hB hr
    have e107:=Rg.ev1 (hr 107 (by decide))
    exact Rg.aG rfl (by go_simp)
   ·intro _ ac_ w_ hB hr
    have e115:=Rg.ev1 (hr 115 (by decide))
    exact Rg.aG rfl (by go_simp)
   ·intro _ ac_ w_ hB hr
    have e116:=Rg.ev1 (hr 116 (by decide))
    exact Rg.aG rfl (by go_simp)
   intro vals wz hB8 hv hne
   have v_10:vals 10=.int .i64 x:=hv 10 (by decide)
   have v_11:vals 11=.bool true:=hv 11 (by decide)
   simp only [Rg.am,Rg.fill,Act.put,Nat.reduceAdd]
   clear hv
   simp only [v_10,v_11]
   clear v_10 v_11
   replace C:=C.keep hB8
   replace Q:=Q.keep hB8
   replace R:=R.keep hB8
   replace MT:=MT.keep hB8
   replace MD:=MD.keep hB8
   replace B:=B.trans (hB8.mono B.size)
   clear hB8 VT oT VD oD
   unfold Rg.aV
   have C_c0:=C.box.c0
   have C_c1:=C.box.c1
   obtain ⟨q0,q1,q2⟩:=Q.aQ
   obtain ⟨r0,r1,r2⟩:=R.aQ
   have f0:=R.frz 0
   have f1:=R.frz 1
   have f2:=R.frz 2
   have rl:=R.lt
   go_wp2_with first | (go_at_call 57;(with_reducible refine (PG.out _).mono ?_);rintro e w5 ⟨rfl,j5,rfl⟩;(have hb5:=aK (uk wz.heap.size wz) j5);(replace B:=B.trans (hb5.mono B.size));(replace C:=C.keep hb5);(replace Q:=Q.keep hb5);(replace R:=R.keep hb5);(replace MT:=MT.keep hb5);(replace MD:=MD.keep hb5);(have C_c0:=C.box.c0);(have C_c1:=C.box.c1);(obtain ⟨q0,q1,q2⟩:=Q.aQ);(obtain ⟨r0,r1,r2⟩:=R.aQ);(have f0:=R.frz 0);(have f1:=R.frz 1);(have f2:=R.frz 2);(have rl:=R.lt)) | (go_at_call 58;(with_reducible refine (PV.out _).mono ?_);rintro e w6 ⟨rfl,hb6⟩;(replace B:=B.trans (hb6.mono B.size));(replace C:=C.keep hb6);(replace Q:=Q.keep hb6);(replace R:=R.keep hb6);(replace MT:=MT.keep hb6);(replace MD:=MD.keep hb6);(have C_c0:=C.box.c0);(have C_c1:=C.box.c1);(obtain ⟨q0,q1,q2⟩:=Q.aQ);(obtain ⟨r0,r1,r2⟩:=R.aQ);(have f0:=R.frz 0);(have f1:=R.frz 1);(have f2:=R.frz 2);(have rl:=R.lt)) | (go_at_call 82;(with_reducible refine (PR.out _).mono ?_);rintro e w7 ⟨rfl,rfl⟩)
   exact bodyPost_ret (v:=.tuple #[.agg #[.int .i64 x,.int .i64 (r),.int .i64 k],.bool true]) (by simp [results,Tryz.results61,go_sem, *]) rfl (⟨by rw [hfin.out.1,hfin.out.2.1,hfin.out.2.2,hyv.out],uj (uj (uj B (by simp;omega) _) (by simp;omega) _) (by simp;omega) _⟩)
  have hkE:K=true→k+1≤E:=by
   intro hK
   have q1:=hk.out hK
   rcases Int.lt_or_le k E with q | q
   ·omega
   exfalso
   obtain ⟨z1,z2,z3⟩:=hat hK (by omega)
   apply hgood
   rw [←z1] at z2 z3
   exact ⟨by rw [←hok.out];exact decide_eq_true z2,hgk.2 z3⟩
  clear hat h1k hgk hok hk hbp
  have hkE:=uh hkE
  cases ok
  case false=>
   clear hgood
   have ⟨sT,aT,lT,cT,hsT,VT,oT⟩:=MT
   have ⟨sD,aD,lD,cD,hsD,VD,oD⟩:=MD
   go_upto_region 18 with fail
   refine Rg.bF 12 [.is (.agg #[.bool sT,.slice aT lT cT]),.is (.int .i64 k),.is (.int .i64 k),.is (.int .i64 (k*k)),.at (aJ (wr.heap.size) (S)),.is (.agg #[.bool sD,.slice aD lD cD]),.is (.tuple #[.int .i64 x,.bool false]),.is (.tuple #[.int .i64 x,.bool false]),.is (.int .i64 x),.is (.bool false),.is (.int .i64 x),.is (.bool false)] (by kernel_rfl) (by kernel_rfl) (by kernel_rfl) ⟨?_,?_,?_,?_,?_,?_,?_,?_,?_,?_,?_,?_,trivial⟩ ?_
   ·intro _ ac_ w_ hB hr
    have e13:ac_.tmps[13]?=some (.pointer (some ⟨g13,0,none⟩)):=hr 13 (by decide)
    have k0:=aE hB VT.box.c0
    have k1:=aE hB VT.box.c1
    exact Rg.aG rfl (by go_simp)
   ·intro _ ac_ w_ hB hr
    have e15:ac_.tmps[15]?=some (.int .i64 k):=hr 15 (by decide)
    exact Rg.aG rfl (by go_simp)
   ·intro _ ac_ w_ hB hr
    have e15:ac_.tmps[15]?=some (.int .i64 k):=hr 15 (by decide)
    exact Rg.aG rfl (by go_simp)
   ·intro _ ac_ w_ hB hr
    have e109:=Rg.ev1 (hr 109 (by decide))
    have e110:=Rg.ev1 (hr 110 (by decide))
    exact Rg.aG rfl (by go_simp <;> exact Rg.wo (by omega))
   ·intro _ ac_ w_ hB hr
    have e108:=Rg.ev1 (hr 108 (by decide))
    have e111:=Rg.ev1 (hr 111 (by decide))
    have ef:=Rg.ef ac_
    refine Rg.aX rfl (by go_simp;exact ⟨rfl,rfl⟩) ?_
    rw [hsT.out]
    refine (PT.out _ _ _ (aF.below oT hB)).mono ?_
    rintro e w5 ⟨sl5,rfl,ho5,hb5⟩
    exact ⟨_,rfl,aJ.at ho5 (by have:=hB.size;omega),hb5⟩
   ·intro _ ac_ w_ hB hr
    have e14:ac_.tmps[14]?=some (.pointer (some ⟨gd,0,none⟩)):=hr 14 (by decide)
    have k0:=aE hB VD.box.c0
    have k1:=aE hB VD.box.c1
    exact Rg.aG rfl (by go_simp)
   ·intro _ ac_ w_ hB hr
    obtain ⟨v112,e112,n112⟩:∃ v,ac_.tmps[112]?=some v∧(Rg.Val.at (aJ (wr.heap.size) (S))).ok v w_:=hr 112 (by decide)
    obtain ⟨s112,a112,l112,c112,hs112,rfl,o112⟩:=(Rg.aZ n112).view
    have e113:=Rg.ev1 (hr 113 (by decide))
    have ec:=Rg.ec ac_
    have ef:=Rg.ef ac_
    refine Rg.aX rfl (by go_simp;exact ⟨rfl,rfl⟩) ?_
    obtain rfl:=hs112.out
    rw [hsD.out]
    refine (PQ.out _ _ _ _ _ o112 (aF.below oD hB)).mono ?_
    rintro e w5 ⟨rfl,hb5⟩
    exact ⟨_,rfl,rfl,hb5⟩
   ·intro _ ac_ w_ hB hr
    have e114:=Rg.ev1 (hr 114 (by decide))
    exact Rg.aG rfl (by go_simp)
   ·intro _ ac_ w_ hB hr
    have e107:=Rg.ev1 (hr 107 (by decide))
    exact Rg.aG rfl (by go_simp)
   ·intro _ ac_ w_ hB hr
    have e107:=Rg.ev1 (hr 107 (by decide))
    exact Rg.aG rfl (by go_simp)
   ·intro _ ac_ w_ hB hr
    have e115:=Rg.ev1 (hr 115 (by decide))
    exact Rg.aG rfl (by go_simp)
   ·intro _ ac_ w_ hB hr
    have e116:=Rg.ev1 (hr 116 (by decide))
    exact Rg.aG rfl (by go_simp)
   intro vals wz hB8 hv hne
   have v_10:vals 10=.int .i64 x:=hv 10 (by decide)
   have v_11:vals 11=.bool false:=hv 11 (by decide)
   simp only [Rg.am,Rg.fill,Act.put,Nat.reduceAdd]
   clear hv
   simp only [v_10,v_11]
   clear v_10 v_11
   replace C:=C.keep hB8
   replace Q:=Q.keep hB8
   replace R:=R.keep hB8
   replace MT:=MT.keep hB8
   replace MD:=MD.keep hB8
   replace B:=B.trans (hB8.mono B.size)
   clear hB8 VT oT VD oD
   unfold Rg.aV
   have C_c0:=C.box.c0
   have C_c1:=C.box.c1
   obtain ⟨q0,q1,q2⟩:=Q.aQ
   obtain ⟨r0,r1,r2⟩:=R.aQ
   have f0:=R.frz 0
   have f1:=R.frz 1
   have f2:=R.frz 2
   have rl:=R.lt
   go_wp2_with (go_at_call 57;(with_reducible refine (PG.out _).mono ?_);rintro e w5 ⟨rfl,j5,rfl⟩;(have hb5:=aK (uk wz.heap.size wz) j5);(replace B:=B.trans (hb5.mono B.size));(replace C:=C.keep hb5);(replace Q:=Q.keep hb5);(replace R:=R.keep hb5);(replace MT:=MT.keep hb5);(replace MD:=MD.keep hb5);(have C_c0:=C.box.c0);(have C_c1:=C.box.c1);(obtain ⟨q0,q1,q2⟩:=Q.aQ);(obtain ⟨r0,r1,r2⟩:=R.aQ);(have f0:=R.frz 0);(have f1:=R.frz 1);(have f2:=R.frz 2);(have rl:=R.lt))
   go_roundw
   case rel=>exact ⟨k+1,rfl,by omega,by omega,hkE,C,Q,R,B,MT,MD⟩
   case measure=>simp [intOf] <;> omega
  case true=>
  have hg1:gk≠1:=fun h=>hgood ⟨rfl,h⟩
  clear hgood
  have ⟨sT,aT,lT,cT,hsT,VT,oT⟩:=MT
  have ⟨sD,aD,lD,cD,hsD,VD,oD⟩:=MD
  go_upto_region 18 with fail
  refine Rg.bF 12 [.is (.agg #[.bool sT,.slice aT lT cT]),.is (.int .i64 k),.is (.int .i64 k),.is (.int .i64 (k*k)),.at (aJ (wr.heap.size) (S)),.is (.agg #[.bool sD,.slice aD lD cD]),.is (.tuple #[.int .i64 x,.bool true]),.is (.tuple #[.int .i64 x,.bool true]),.is (.int .i64 x),.is (.bool true),.is (.int .i64 x),.is (.bool true)] (by kernel_rfl) (by kernel_rfl) (by kernel_rfl) ⟨?_,?_,?_,?_,?_,?_,?_,?_,?_,?_,?_,?_,trivial⟩ ?_
  ·intro _ ac_ w_ hB hr
   have e13:ac_.tmps[13]?=some (.pointer (some ⟨g13,0,none⟩)):=hr 13 (by decide)
   have k0:=aE hB VT.box.c0
   have k1:=aE hB VT.box.c1
   exact Rg.aG rfl (by go_simp)
  ·intro _ ac_ w_ hB hr
   have e15:ac_.tmps[15]?=some (.int .i64 k):=hr 15 (by decide)
   exact Rg.aG rfl (by go_simp)
  ·intro _ ac_ w_ hB hr
   have e15:ac_.tmps[15]?=some (.int .i64 k):=hr 15 (by decide)
   exact Rg.aG rfl (by go_simp)
  ·intro _ ac_ w_ hB hr
   have e109:=Rg.ev1 (hr 109 (by decide))
   have e110:=Rg.ev1 (hr 110 (by decide))
   exact Rg.aG rfl (by go_simp <;> exact Rg.wo (by omega))
  ·intro _ ac_ w_ hB hr
   have e108:=Rg.ev1 (hr 108 (by decide))
   have e111:=Rg.ev1 (hr 111 (by decide))
   have ef:=Rg.ef ac_
   refine Rg.aX rfl (by go_simp;exact ⟨rfl,rfl⟩) ?_
   rw [hsT.out]
   refine (PT.out _ _ _ (aF.below oT hB)).mono ?_
   rintro e w5 ⟨sl5,rfl,ho5,hb5⟩
   exact ⟨_,rfl,aJ.at ho5 (by have:=hB.size;omega),hb5⟩
  ·intro _ ac_ w_ hB hr
   have e14:ac_.tmps[14]?=some (.pointer (some ⟨gd,0,none⟩)):=hr 14 (by decide)
   have k0:=aE hB VD.box.c0
   have k1:=aE hB VD.box.c1
   exact Rg.aG rfl (by go_simp)
  ·intro _ ac_ w_ hB hr
   obtain ⟨v112,e112,n112⟩:∃ v,ac_.tmps[112]?=some v∧(Rg.Val.at (aJ (wr.heap.size) (S))).ok v w_:=hr 112 (by decide)
   obtain ⟨s112,a112,l112,c112,hs112,rfl,o112⟩:=(Rg.aZ n112).view
   have e113:=Rg.ev1 (hr 113 (by decide))
   have ec:=Rg.ec ac_
   have ef:=Rg.ef ac_
   refine Rg.aX rfl (by go_simp;exact ⟨rfl,rfl⟩) ?_
   obtain rfl:=hs112.out
   rw [hsD.out]
   refine (PQ.out _ _ _ _ _ o112 (aF.below oD hB)).mono ?_
   rintro e w5 ⟨rfl,hb5⟩
   exact ⟨_,rfl,rfl,hb5⟩
  ·intro _ ac_ w_ hB hr
   have e114:=Rg.ev1 (hr 114 (by decide))
   exact Rg.aG rfl (by go_simp)
  ·intro _ ac_ w_ hB hr
   have e107:=Rg.ev1 (hr 107 (by decide))
   exact Rg.aG rfl (by go_simp)
  ·intro _ ac_ w_ hB hr
   have e107:=Rg.ev1 (hr 107 (by decide))
   exact Rg.aG rfl (by go_simp)
  ·intro _ ac_ w_ hB hr
   have e115:=Rg.ev1 (hr 115 (by decide))
   exact Rg.aG rfl (by go_simp)
  ·intro _ ac_ w_ hB hr
   have e116:=Rg.ev1 (hr 116 (by decide))
   exact Rg.aG rfl (by go_simp)
  intro vals wz hB8 hv hne
  have v_10:vals 10=.int .i64 x:=hv 10 (by decide)
  have v_11:vals 11=.bool true:=hv 11 (by decide)
  simp only [Rg.am,Rg.fill,Act.put,Nat.reduceAdd]
  clear hv
  simp only [v_10,v_11]
  clear v_10 v_11
  replace C:=C.keep hB8
  replace Q:=Q.keep hB8
  replace R:=R.keep hB8
  replace MT:=MT.keep hB8
  replace MD:=MD.keep hB8
  replace B:=B.trans (hB8.mono B.size)
  clear hB8 VT oT VD oD
  unfold Rg.aV
  have C_c0:=C.box.c0
  have C_c1:=C.box.c1
  obtain ⟨q0,q1,q2⟩:=Q.aQ
  obtain ⟨r0,r1,r2⟩:=R.aQ
  have f0:=R.frz 0
  have f1:=R.frz 1
  have f2:=R.frz 2
  have rl:=R.lt
  go_wp2_with (go_at_call 57;(with_reducible refine (PG.out _).mono ?_);rintro e w5 ⟨rfl,j5,rfl⟩;(have hb5:=aK (uk wz.heap.size wz) j5);(replace B:=B.trans (hb5.mono B.size));(replace C:=C.keep hb5);(replace Q:=Q.keep hb5);(replace R:=R.keep hb5);(replace MT:=MT.keep hb5);(replace MD:=MD.keep hb5);(have C_c0:=C.box.c0);(have C_c1:=C.box.c1);(obtain ⟨q0,q1,q2⟩:=Q.aQ);(obtain ⟨r0,r1,r2⟩:=R.aQ);(have f0:=R.frz 0);(have f1:=R.frz 1);(have f2:=R.frz 2);(have rl:=R.lt))
  go_roundw
  case rel=>exact ⟨k+1,rfl,by omega,by omega,hkE,C,Q,R,B,MT,MD⟩
  case measure=>simp [intOf] <;> omega
 have hK:K=false:=by
  cases hK:K
  ·rfl
  have q1:=hk.out hK
  have q2:=(H2.out hK).2.1
  omega
 obtain ⟨z1,z2,z3⟩:=hno.out hK
 have hfin:=uh (show K=false∧X=0∧Y=0∧E=0 from ⟨hK,z1,z2,z3⟩)
 clear hk H1 H2 hno z1 z2 z3 hK
 go_wp2
 exact bodyPost_ret (v:=.tuple #[.agg #[.int .i64 0,.int .i64 0,.int .i64 0],.bool false]) (by simp [results,Tryz.results61,go_sem, *]) rfl (⟨by rw [hfin.out.1,hfin.out.2.1,hfin.out.2.2.1,hfin.out.2.2.2],uj (uj (uj B (by simp;omega) _) (by simp;omega) _) (by simp;omega) _⟩)
end
end Go.Proofs.YtgfkcoablfjbcaaGreatDoor
