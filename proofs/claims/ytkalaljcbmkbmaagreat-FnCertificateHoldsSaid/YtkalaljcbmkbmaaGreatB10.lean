/-
  Joined texts: contracts and plain lemmas.
-/
import Derived.Test.YtkalaljcbmkbmaaGreatB1
import Derived.Test.YtkalaljcbmkbmaaGreatB9
import Derived.Laws.FloatArith
import Derived.Laws.Externs
set_option linter.unusedSimpArgs false
set_option linter.unusedVariables false
set_option maxRecDepth 100000
set_option maxHeartbeats 8000000
namespace Go.Proofs.YtkalaljcbmkbmaaGreat
section
open Go.RowKit
theorem M.yn (x y:Int):M.gcd (x.natAbs:Int) y=M.gcd x y:=by unfold M.gcd Int.gcd;rw [Int.natAbs_natCast]
theorem Bk (a b X Y E:Int) (w:World) (hgd:M.good a b=true) :
  Calls Tryz.prog 93 #[.agg #[a,b],.agg #[X,Y,E]] w fun e w'=>e=.returned (.bool (M.aY a b X Y E))/\Below w.heap.size w w':=by
 obtain ⟨wc,hw3,C,Q,B⟩:=fR w #[a,b] 25 #[X,Y,E] 40;have ⟨q0,q1,q2⟩:=Q.aO;have e_:=C.box.c0;have f_:=C.box.c1;obtain ⟨ha1,ha2,hb1,hb2⟩:=M.ag (M.aj hgd);clear hgd
 by_cases hE:E=0
 ·subst hE
  have hr:=DB (show M.aY a b X Y 0=(decide (X=0) && decide (Y=0)) by unfold M.aY;rw [if_pos rfl]);rw [hr.out]
  by_cases hX:X=0
  ·by_cases hY:Y=0
   ·subst hX hY
    go_enter Tryz.func93,Tryz.ntmps93
    go_wp2;go_ret;exact ⟨rfl,B⟩
   have hY0:(Y == 0)=false:=by rw [beq_eq_false_iff_ne];exact hY
   subst hX;go_enter Tryz.func93,Tryz.ntmps93
   go_wp2;go_ret;exact ⟨by simp [hY],B⟩
  have hX0:(X == 0)=false:=by rw [beq_eq_false_iff_ne];exact hX
  go_enter Tryz.func93,Tryz.ntmps93
  go_wp2;go_ret;exact ⟨by simp [hX],B⟩
 have hE0:(E == 0)=false:=by rw [beq_eq_false_iff_ne];exact hE
 have hpt:M.aY a b X Y E=(M.ins X (-10000) 10000 && M.ins E 1 20 && (M.gcd X E == 1) && decide (Y*Y=M.cv a b X E)):=by unfold M.aY;rw [if_neg hE]
 have P1:=fun W=>dl X (-10000) 10000 W
 have P2:=fun W=>dl E 1 20 W
 have P4:=fun W=>dl Y (-10000000) 10000000 W
 have hgb:=fun h=>M.gK (n:=X) (lo:=-10000) (hi:=10000) h
 have hge:=fun h=>M.gK (n:=E) (lo:=1) (hi:=20) h
 have hyb:=fun h=>M.AN (Y:=Y) (v:=M.cv a b X E) h
 have FX:M.ins Y (-10000000) 10000000=true ↔ (-10000000<=Y/\Y<=10000000):=by unfold M.ins;simp
 have hcb:=fun h1 h2=>M.pf (a:=a) (b:=b) (x:=X) (e:=E) ha1 ha2 (by omega) (by omega) (hgb h1).1 (hgb h1).2 (by have:=(hge h2).1;omega) (hge h2).2
 have PV:=fun h1 h2 W=>uc a b X E W ha1 ha2 (by omega) (by omega) (hgb h1).1 (hgb h1).2 (by have:=(hge h2).1;omega) (hge h2).2
 have PA:=fun h1 W=>dH X W (by have:=hgb h1;omega) (by have:=hgb h1;omega)
 have PG:=fun (h1:M.ins X (-10000) 10000=true) (h2:M.ins E 1 20=true) W=>dK (X.natAbs:Int) E W (by omega) (by have:=hgb h1;omega) (by have:=hge h2;omega) (by have:=hge h2;omega)
 simp only [M.yn] at PG;generalize M.cv a b X E=v,M.ins Y (-10000000) 10000000=i4,M.ins E 1 20=i2,M.ins X (-10000) 10000=i1,M.gcd X E=gg at *
 have hno:((((!i1) || (!i2)) || (!i4)) || (!(gg == 1)))=true->M.aY a b X Y E=false:=by
  intro h;rw [hpt];cases i1
  ·rfl
  cases i2
  ·rfl
  have hcb:=hcb rfl rfl;cases i4
  ·simp only [Bool.and_eq_false_iff,decide_eq_false_iff_not]
   right
   intro Fb;have q:=hyb Fb (by omega);have:=FX.2 (by omega);cases this
  cases hg:(gg == 1)
  ·rfl
  rw [hg] at h;cases h
 have hyes:((((!i1) || (!i2)) || (!i4)) || (!(gg == 1)))=false->(i1=true/\i2=true/\i4=true)/\M.aY a b X Y E=decide (Y*Y=v):=by
  intro h;rw [hpt]
  revert h
  cases i1 <;> cases i2 <;> cases i4 <;> cases (gg == 1) <;> simp
 clear hgb hge hyb hpt hcb;replace P1:=DB P1;replace P2:=DB P2;replace P4:=DB P4;replace PA:=DB PA;replace PG:=DB PG;replace PV:=DB PV;replace hno:=DB hno;replace hyes:=DB hyes;replace FX:=DB FX;go_enter Tryz.func93,Tryz.ntmps93
 go_wp2
 go_upto_region 3 with fail
 refine Rg.bg 25 [.is (.pointer (some ⟨w.heap.size+1,0,none⟩)),.is X,.is i1,.is (.bool (!i1)),.is (.bool (!i1)),.is (bif (!i1) then undef else .pointer (some ⟨w.heap.size+1,2,none⟩)),.is (bif (!i1) then undef else .int .i64 E),.is (bif (!i1) then undef else .bool i2),.is (bif (!i1) then undef else .bool (!i2)),.is (.bool ((!i1) || (!i2))),.is (.bool ((!i1) || (!i2))),.is (bif ((!i1) || (!i2)) then undef else .pointer (some ⟨w.heap.size+1,1,none⟩)),.is (bif ((!i1) || (!i2)) then undef else .int .i64 Y),.is (bif ((!i1) || (!i2)) then undef else .bool i4),.is (bif ((!i1) || (!i2)) then undef else .bool (!i4)),.is (.bool (((!i1) || (!i2)) || (!i4))),.is (.bool (((!i1) || (!i2)) || (!i4))),.is (bif (((!i1) || (!i2)) || (!i4)) then undef else .pointer (some ⟨w.heap.size+1,0,none⟩)),.is (bif (((!i1) || (!i2)) || (!i4)) then undef else .int .i64 X),.is (bif (((!i1) || (!i2)) || (!i4)) then undef else .int .i64 (X.natAbs:Int)),.is (bif (((!i1) || (!i2)) || (!i4)) then undef else .pointer (some ⟨w.heap.size+1,2,none⟩)),.is (bif (((!i1) || (!i2)) || (!i4)) then undef else .int .i64 E),.is (bif (((!i1) || (!i2)) || (!i4)) then undef else .int .i64 gg),.is (bif (((!i1) || (!i2)) || (!i4)) then undef else .bool (!(gg == 1))),.is (.bool ((((!i1) || (!i2)) || (!i4)) || (!(gg == 1))))] (by kernel_rfl) (by kernel_rfl) (by kernel_rfl) ⟨?_,?_,?_,?_,?_,?_,?_,?_,?_,?_,?_,?_,?_,?_,?_,?_,?_,?_,?_,?_,?_,?_,?_,?_,?_,trivial⟩ ?_
 ·refine Rg.b1 ?_;intro zZ w_ hB e
  go_simp
 ·refine Rg.b1 ?_;intro zZ w_ hB e
  have k0:=aE hB Q.aO.1;go_simp
 ·refine Rg.o1 ?_;intro zZ w_ hB e
  have ec:=Rg.ec zZ;have ef:=Rg.ef zZ;refine Rg.ah rfl (by go_simp;exact ⟨rfl,rfl⟩) ?_;refine (P1.out _).mono ?_;rintro e w5 ⟨rfl,rfl⟩;exact ⟨_,rfl,rfl,DE _ _⟩
 ·refine Rg.b1 ?_;intro zZ w_ hB e
  go_simp
 ·refine Rg.b1 ?_;intro zZ w_ hB e
  go_simp
 ·intro _ zZ w_ hB hr
  have e20:zZ.tmps[20]?=some (.bool (!i1)):=Rg.l_ (hr 20 (by decide))
  refine Rg.F7 rfl (Rg.Dg rfl e20) fun DT=>?_
  rw [DT] at e20;have e3:zZ.tmps[3]?=some (.pointer (some ⟨w.heap.size+1,0,none⟩)):=hr 3 (by decide);exact Rg.aW (Rg.ar rfl (Rg.Dg rfl e20)) (by go_simp)
 ·intro _ zZ w_ hB hr
  have e20:zZ.tmps[20]?=some (.bool (!i1)):=Rg.l_ (hr 20 (by decide))
  refine Rg.F7 rfl (Rg.Dg rfl e20) fun DT=>?_
  rw [DT] at e20
  have e21:zZ.tmps[21]?=some (.pointer (some ⟨w.heap.size+1,2,none⟩)):=by have h_:=Rg.l_ (hr 21 (by decide));rw [DT] at h_;exact h_
  have k2:=aE hB Q.aO.2.2;exact Rg.aW (Rg.ar rfl (Rg.Dg rfl e20)) (by go_simp)
 ·intro _ zZ w_ hB hr
  have e20:zZ.tmps[20]?=some (.bool (!i1)):=Rg.l_ (hr 20 (by decide))
  refine Rg.F7 rfl (Rg.Dg rfl e20) fun DT=>?_
  rw [DT] at e20
  have e22:zZ.tmps[22]?=some (.int .i64 E):=by have h_:=Rg.l_ (hr 22 (by decide));rw [DT] at h_;exact h_
  have ec:=Rg.ec zZ;have ef:=Rg.ef zZ;refine Rg.ah (Rg.ar rfl (Rg.Dg rfl e20)) (by go_simp;exact ⟨rfl,rfl⟩) ?_;refine (P2.out _).mono ?_;rintro e w5 ⟨rfl,rfl⟩;exact ⟨_,rfl,rfl,DE _ _⟩
 ·intro _ zZ w_ hB hr
  have e20:zZ.tmps[20]?=some (.bool (!i1)):=Rg.l_ (hr 20 (by decide))
  refine Rg.F7 rfl (Rg.Dg rfl e20) fun DT=>?_
  rw [DT] at e20
  have e23:zZ.tmps[23]?=some (.bool i2):=by have h_:=Rg.l_ (hr 23 (by decide));rw [DT] at h_;exact h_
  exact Rg.aW (Rg.ar rfl (Rg.Dg rfl e20)) (by go_simp)
 ·intro _ zZ w_ hB hr
  have e20:zZ.tmps[20]?=some (.bool (!i1)):=Rg.l_ (hr 20 (by decide));have e24:zZ.tmps[24]?=some (bif (!i1) then undef else .bool (!i2)):=Rg.l_ (hr 24 (by decide));have ec:=Rg.ec zZ;generalize (!i1)=c_ at e20 e24 ⊢
  cases c_ <;> exact Rg.aW rfl (by go_simp)
 ·refine Rg.b1 ?_;intro zZ w_ hB e
  go_simp
 ·intro _ zZ w_ hB hr
  have e26:zZ.tmps[26]?=some (.bool ((!i1) || (!i2))):=Rg.l_ (hr 26 (by decide))
  refine Rg.F7 rfl (Rg.Dg rfl e26) fun DT=>?_
  rw [DT] at e26;have e3:zZ.tmps[3]?=some (.pointer (some ⟨w.heap.size+1,0,none⟩)):=hr 3 (by decide);exact Rg.aW (Rg.ar rfl (Rg.Dg rfl e26)) (by go_simp)
 ·intro _ zZ w_ hB hr
  have e26:zZ.tmps[26]?=some (.bool ((!i1) || (!i2))):=Rg.l_ (hr 26 (by decide))
  refine Rg.F7 rfl (Rg.Dg rfl e26) fun DT=>?_
  rw [DT] at e26
  have e27:zZ.tmps[27]?=some (.pointer (some ⟨w.heap.size+1,1,none⟩)):=by have h_:=Rg.l_ (hr 27 (by decide));rw [DT] at h_;exact h_
  have k1:=aE hB Q.aO.2.1;exact Rg.aW (Rg.ar rfl (Rg.Dg rfl e26)) (by go_simp)
 ·intro _ zZ w_ hB hr
  have e26:zZ.tmps[26]?=some (.bool ((!i1) || (!i2))):=Rg.l_ (hr 26 (by decide))
  refine Rg.F7 rfl (Rg.Dg rfl e26) fun DT=>?_
  rw [DT] at e26
  have e28:zZ.tmps[28]?=some (.int .i64 Y):=by have h_:=Rg.l_ (hr 28 (by decide));rw [DT] at h_;exact h_
  have ec:=Rg.ec zZ;have ef:=Rg.ef zZ;refine Rg.ah (Rg.ar rfl (Rg.Dg rfl e26)) (by go_simp;exact ⟨rfl,rfl⟩) ?_;refine (P4.out _).mono ?_;rintro e w5 ⟨rfl,rfl⟩;exact ⟨_,rfl,rfl,DE _ _⟩
 ·intro _ zZ w_ hB hr
  have e26:zZ.tmps[26]?=some (.bool ((!i1) || (!i2))):=Rg.l_ (hr 26 (by decide))
  refine Rg.F7 rfl (Rg.Dg rfl e26) fun DT=>?_
  rw [DT] at e26
  have e29:zZ.tmps[29]?=some (.bool i4):=by have h_:=Rg.l_ (hr 29 (by decide));rw [DT] at h_;exact h_
  exact Rg.aW (Rg.ar rfl (Rg.Dg rfl e26)) (by go_simp)
 ·intro _ zZ w_ hB hr
  have e26:zZ.tmps[26]?=some (.bool ((!i1) || (!i2))):=Rg.l_ (hr 26 (by decide));have e30:zZ.tmps[30]?=some (bif ((!i1) || (!i2)) then undef else .bool (!i4)):=Rg.l_ (hr 30 (by decide));have ec:=Rg.ec zZ;generalize ((!i1) || (!i2))=c_ at e26 e30 ⊢
  cases c_ <;> exact Rg.aW rfl (by go_simp)
 ·refine Rg.b1 ?_;intro zZ w_ hB e
  go_simp
 ·intro _ zZ w_ hB hr
  have e32:zZ.tmps[32]?=some (.bool (((!i1) || (!i2)) || (!i4))):=Rg.l_ (hr 32 (by decide))
  refine Rg.F7 rfl (Rg.Dg rfl e32) fun DT=>?_
  rw [DT] at e32;have e3:zZ.tmps[3]?=some (.pointer (some ⟨w.heap.size+1,0,none⟩)):=hr 3 (by decide);exact Rg.aW (Rg.ar rfl (Rg.Dg rfl e32)) (by go_simp)
 ·intro _ zZ w_ hB hr
  have e32:zZ.tmps[32]?=some (.bool (((!i1) || (!i2)) || (!i4))):=Rg.l_ (hr 32 (by decide))
  refine Rg.F7 rfl (Rg.Dg rfl e32) fun DT=>?_
  rw [DT] at e32
  have e33:zZ.tmps[33]?=some (.pointer (some ⟨w.heap.size+1,0,none⟩)):=by have h_:=Rg.l_ (hr 33 (by decide));rw [DT] at h_;exact h_
  have k0:=aE hB Q.aO.1;exact Rg.aW (Rg.ar rfl (Rg.Dg rfl e32)) (by go_simp)
 ·intro _ zZ w_ hB hr
  have e32:zZ.tmps[32]?=some (.bool (((!i1) || (!i2)) || (!i4))):=Rg.l_ (hr 32 (by decide))
  refine Rg.F7 rfl (Rg.Dg rfl e32) fun DT=>?_
  rw [DT] at e32
  have e34:zZ.tmps[34]?=some (.int .i64 X):=by have h_:=Rg.l_ (hr 34 (by decide));rw [DT] at h_;exact h_
  have DI:(i1=true/\i2=true)/\i4=true:=by revert DT;cases i1 <;> cases i2 <;> cases i4 <;> simp
  have ef:=Rg.ef zZ;refine Rg.ah (Rg.ar rfl (Rg.Dg rfl e32)) (by go_simp;exact ⟨rfl,rfl⟩) ?_;refine (PA.out DI.1.1 _).mono ?_;rintro e w5 ⟨rfl,rfl⟩;exact ⟨_,rfl,rfl,DE _ _⟩
 ·intro _ zZ w_ hB hr
  have e32:zZ.tmps[32]?=some (.bool (((!i1) || (!i2)) || (!i4))):=Rg.l_ (hr 32 (by decide))
  refine Rg.F7 rfl (Rg.Dg rfl e32) fun DT=>?_
  rw [DT] at e32;have e3:zZ.tmps[3]?=some (.pointer (some ⟨w.heap.size+1,0,none⟩)):=hr 3 (by decide);exact Rg.aW (Rg.ar rfl (Rg.Dg rfl e32)) (by go_simp)
 ·intro _ zZ w_ hB hr
  have e32:zZ.tmps[32]?=some (.bool (((!i1) || (!i2)) || (!i4))):=Rg.l_ (hr 32 (by decide))
  refine Rg.F7 rfl (Rg.Dg rfl e32) fun DT=>?_
  rw [DT] at e32
  have e36:zZ.tmps[36]?=some (.pointer (some ⟨w.heap.size+1,2,none⟩)):=by have h_:=Rg.l_ (hr 36 (by decide));rw [DT] at h_;exact h_
  have k2:=aE hB Q.aO.2.2;exact Rg.aW (Rg.ar rfl (Rg.Dg rfl e32)) (by go_simp)
 ·intro _ zZ w_ hB hr
  have e32:zZ.tmps[32]?=some (.bool (((!i1) || (!i2)) || (!i4))):=Rg.l_ (hr 32 (by decide))
  refine Rg.F7 rfl (Rg.Dg rfl e32) fun DT=>?_
  rw [DT] at e32
  have e35:zZ.tmps[35]?=some (.int .i64 (X.natAbs:Int)):=by have h_:=Rg.l_ (hr 35 (by decide));rw [DT] at h_;exact h_
  have e37:zZ.tmps[37]?=some (.int .i64 E):=by have h_:=Rg.l_ (hr 37 (by decide));rw [DT] at h_;exact h_
  have DI:(i1=true/\i2=true)/\i4=true:=by revert DT;cases i1 <;> cases i2 <;> cases i4 <;> simp
  have ef:=Rg.ef zZ;refine Rg.ah (Rg.ar rfl (Rg.Dg rfl e32)) (by go_simp;exact ⟨rfl,rfl⟩) ?_;refine (PG.out DI.1.1 DI.1.2 _).mono ?_;rintro e w5 ⟨rfl,rfl⟩;exact ⟨_,rfl,rfl,DE _ _⟩
 ·intro _ zZ w_ hB hr
  have e32:zZ.tmps[32]?=some (.bool (((!i1) || (!i2)) || (!i4))):=Rg.l_ (hr 32 (by decide))
  refine Rg.F7 rfl (Rg.Dg rfl e32) fun DT=>?_
  rw [DT] at e32
  have e38:zZ.tmps[38]?=some (.int .i64 gg):=by have h_:=Rg.l_ (hr 38 (by decide));rw [DT] at h_;exact h_
  have ec:=Rg.ec zZ;exact Rg.aW (Rg.ar rfl (Rg.Dg rfl e32)) (by go_simp;first | done | rfl | (simp [bne];done))
 ·intro _ zZ w_ hB hr
  have e32:zZ.tmps[32]?=some (.bool (((!i1) || (!i2)) || (!i4))):=Rg.l_ (hr 32 (by decide));have e39:zZ.tmps[39]?=some (bif (((!i1) || (!i2)) || (!i4)) then undef else .bool (!(gg == 1))):=Rg.l_ (hr 39 (by decide));have ec:=Rg.ec zZ;generalize (((!i1) || (!i2)) || (!i4))=c_ at e32 e39 ⊢
  cases c_ <;> exact Rg.aW rfl (by go_simp)
 intro vals wz hB hv hne;have HX:vals 24=.bool ((((!i1) || (!i2)) || (!i4)) || (!(gg == 1))):=hv 24 (by decide);simp only [Rg.bF,Rg.fill,Act.put,Nat.reduceAdd];clear hv;simp only [HX];clear HX;unfold Rg.aX;replace C:=C.keep hB;replace Q:=Q.keep hB;replace B:=d_ B hB;clear hB hne
 cases hq:((((!i1) || (!i2)) || (!i4)) || (!(gg == 1))) with
 | true=>
  have hr:=DB (hno.out hq);clear PV hno hyes FX hq;go_wp2;go_ret;exact ⟨by rw [hr.out];rfl,B⟩
 | false=>
 obtain ⟨⟨j1,j2,j4⟩,hr⟩:=hyes.out hq;have PV:=DB (PV.out j1 j2);obtain ⟨y1,y2⟩:=FX.out.1 j4;have Fb:=M.aH (x:=Y) (y:=Y) (m:=10000000) (n:=10000000);replace hr:=DB hr;clear hno hyes FX hq j1 j2 j4
 go_upto_region 5 with fail
 refine Rg.bg 13 [.is (.pointer (some ⟨w.heap.size+1,1,none⟩)),.is Y,.is (.pointer (some ⟨w.heap.size+1,1,none⟩)),.is Y,.is (Y*Y:Int),.is (.agg #[a,b]),.is (.pointer (some ⟨w.heap.size+1,0,none⟩)),.is X,.is (.pointer (some ⟨w.heap.size+1,2,none⟩)),.is E,.is v,.is (decide (Y*Y=v)),.is (decide (Y*Y=v))] (by kernel_rfl) (by kernel_rfl) (by kernel_rfl) ⟨?_,?_,?_,?_,?_,?_,?_,?_,?_,?_,?_,?_,?_,trivial⟩ ?_
 all_goals try ((first | (refine Rg.b1 ?_;intro zZ w_ hB e) | (refine Rg.b2 ?_;intro zZ w_ hB e f));have kz:=aE hB Q.aO.2.1;have kz:=aE hB C.box.c0;have kz:=aE hB C.box.c1;have kz:=aE hB Q.aO.1;have kz:=aE hB Q.aO.2.2;(first | (go_simp;done) | (go_simp;exact Rg.wo (by omega)) | (go_simp;first | done | rfl | (by_cases DR:Y*Y=v <;> simp [DR];done);done)))
 ·intro _ zZ w_ hB hr
  have e46:=Rg.l_ (hr 46 (by decide));have e48:=Rg.l_ (hr 48 (by decide));have e50:=Rg.l_ (hr 50 (by decide));have ef:=Rg.ef zZ;exact Rg.bV rfl (by go_simp) (PV.out _)
 intro vals wy Hd hv hne;have Et:vals 12=.bool (decide (Y*Y=v)):=hv 12 (by decide);simp only [Rg.bF,Rg.fill,Act.put,Nat.reduceAdd];clear hv;simp only [Et];clear Et;unfold Rg.aX;go_wp2;go_ret;exact ⟨by rw [hr.out];rfl,d_ B Hd⟩
theorem pM (a b X Y E:Int) (w:World) :
  Calls Tryz.prog 51 #[.agg #[a,b],.agg #[X,Y,E]] w fun e w'=>e=.returned (.bool (M.good a b && M.aY a b X Y E))/\Below w.heap.size w w':=by
 have PC:=fun W=>pk a b W
 have PO:=fun W=>Bk a b X Y E W
 obtain ⟨wc,hw3,C,Q,B⟩:=fR w #[a,b] 25 #[X,Y,E] 40;have ⟨q0,q1,q2⟩:=Q.aO;have e_:=C.box.c0;have f_:=C.box.c1
 cases hgd:M.good a b with
 | false=>
  rw [hgd] at PC;have PC:=DB PC;clear PO;go_enter Tryz.func51,Tryz.ntmps51
  go_wp2_with (go_at_call 74;(with_reducible refine (PC.out _).mono ?_);rintro e w4 ⟨rfl,hb4⟩;replace C:=C.keep hb4;replace B:=d_ B hb4;replace Q:=Q.keep hb4;(have ⟨z0,z1,z2⟩:=Q.aO);(replace ⟨e_,f_⟩:=C.b2))
  go_ret;exact ⟨rfl,B⟩
 | true=>
 rw [hgd] at PC;have PC:=DB PC
 have PO:=fun W=>PO W hgd
 generalize M.aY a b X Y E=pp at *;have PO:=DB PO;clear hgd;go_enter Tryz.func51,Tryz.ntmps51
 go_wp2_with (first
  | (go_at_call 74;(with_reducible refine (PC.out _).mono ?_);rintro e w4 ⟨rfl,hb4⟩;replace C:=C.keep hb4;replace B:=d_ B hb4;replace Q:=Q.keep hb4;(have ⟨z0,z1,z2⟩:=Q.aO);(replace ⟨e_,f_⟩:=C.b2))
  | (go_at_call 93;(with_reducible refine (PO.out _).mono ?_);rintro e w5 ⟨rfl,hb5⟩;replace B:=d_ B hb5))
 go_ret;exact ⟨rfl,B⟩
theorem lQ (X Y E:Int) (w:World) (h1:-4000000000000000000<=Y) (h2:Y<=4000000000000000000) :
  Calls Tryz.prog 49 #[.agg #[X,Y,E]] w fun e w'=>e=.returned (.agg #[X,(-Y:Int),E])/\Below w.heap.size w w':=by
 go_enter Tryz.func49,Tryz.ntmps49
 go_wp2;exact bodyPost_ret (v:=.agg #[X,(-Y:Int),E]) (by simp [results,Tryz.results49,go_sem, *]) rfl (⟨rfl,(by repeat (first | exact DE _ _ | refine aQ ?_ _ | refine aR ?_ (by assumption) | refine Below.drew ?_ | refine DD ?_ (by first | exact DF _ | exact Nat.le_add_right _ _ | (simp <;> omega)) _ | refine aN ?_ _))⟩)
namespace M
def sN (a X1 Y1 E1 X2 Y2 E2:Int):Int:=if X1=X2/\Y1=Y2/\E1=E2 then 3*X1*X1+a*E1*E1*E1*E1 else Y2*E1*E1*E1 - Y1*E2*E2*E2
def sD (X1 Y1 E1 X2 Y2 E2:Int):Int:=if X1=X2/\Y1=Y2/\E1=E2 then 2*Y1*E1 else E1*E2*(X2*E1*E1 - X1*E2*E2)
end M
theorem M.Bu {a X1 Y1 E1 X2 Y2 E2:Int} (ha1:-1000<=a) (ha2:a<=1000) (hx1:-10000<=X1) (hx2:X1<=10000) (hy1:-3000000<=Y1) (hy2:Y1<=3000000) (he1:1<=E1) (he2:E1<=20) (hx3:-10000<=X2) (hx4:X2<=10000) (hy3:-3000000<=Y2) (hy4:Y2<=3000000) (FE:1<=E2) (Fj:E2<=20):-200000000000<=M.sN a X1 Y1 E1 X2 Y2 E2/\M.sN a X1 Y1 E1 X2 Y2 E2<=200000000000/\-200000000000<=M.sD X1 Y1 E1 X2 Y2 E2/\M.sD X1 Y1 E1 X2 Y2 E2<=200000000000:=by
 have sb1:=M.aH (x:=Y2) (y:=E1) (m:=3000000) (n:=20);have Md:=M.aH (x:=Y2*E1) (y:=E1) (m:=60000000) (n:=20);have Me:=M.aH (x:=Y2*E1*E1) (y:=E1) (m:=1200000000) (n:=20);have Mf:=M.aH (x:=Y1) (y:=E2) (m:=3000000) (n:=20);have Mg:=M.aH (x:=Y1*E2) (y:=E2) (m:=60000000) (n:=20);have Mh:=M.aH (x:=Y1*E2*E2) (y:=E2) (m:=1200000000) (n:=20);have Mi:=M.aH (x:=E1) (y:=E2) (m:=20) (n:=20);have Mj:=M.aH (x:=X2) (y:=E1) (m:=10000) (n:=20);have Mk:=M.aH (x:=X2*E1) (y:=E1) (m:=200000) (n:=20);have IF:=M.aH (x:=X1) (y:=E2) (m:=10000) (n:=20);have IG:=M.aH (x:=X1*E2) (y:=E2) (m:=200000) (n:=20);have IH:=M.aH (x:=E1*E2) (y:=X2*E1*E1 - X1*E2*E2) (m:=400) (n:=8000000);have II:=M.aH (x:=3) (y:=X1) (m:=3) (n:=10000);have IJ:=M.aH (x:=3*X1) (y:=X1) (m:=30000) (n:=10000);have IK:=M.aH (x:=a) (y:=E1) (m:=1000) (n:=20);have IL:=M.aH (x:=a*E1) (y:=E1) (m:=20000) (n:=20);have Ju:=M.aH (x:=a*E1*E1) (y:=E1) (m:=400000) (n:=20);have Jv:=M.aH (x:=a*E1*E1*E1) (y:=E1) (m:=8000000) (n:=20);have Jw:=M.aH (x:=2) (y:=Y1) (m:=2) (n:=3000000);have Jx:=M.aH (x:=2*Y1) (y:=E1) (m:=6000000) (n:=20);unfold M.sN M.sD
 split <;> omega
theorem z8 (a b X1 Y1 E1 X2 Y2 E2:Int) (w:World) (ha1:-1000<=a) (ha2:a<=1000) (hx1:-10000<=X1) (hx2:X1<=10000) (hy1:-3000000<=Y1) (hy2:Y1<=3000000) (he1:1<=E1) (he2:E1<=20) (hx3:-10000<=X2) (hx4:X2<=10000) (hy3:-3000000<=Y2) (hy4:Y2<=3000000) (FE:1<=E2) (Fj:E2<=20) :
  Calls Tryz.prog 86 #[.agg #[a,b],.agg #[X1,Y1,E1],.agg #[X2,Y2,E2]] w fun e w'=>e=.returned (.tuple #[M.sN a X1 Y1 E1 X2 Y2 E2,M.sD X1 Y1 E1 X2 Y2 E2])/\Below w.heap.size w w':=by
 have hcase:(X1=X2/\Y1=Y2/\E1=E2)∨¬ (X1=X2/\Y1=Y2/\E1=E2):=Classical.em _
 rcases hcase with hsame | E9
 ·have e1:=DB (show M.sN a X1 Y1 E1 X2 Y2 E2=3*X1*X1+a*E1*E1*E1*E1 from if_pos hsame)
  have e2:=DB (show M.sD X1 Y1 E1 X2 Y2 E2=2*Y1*E1 from if_pos hsame);rw [e1.out,e2.out];obtain ⟨rfl,rfl,rfl⟩:=hsame;clear e1 e2 hx3 hx4 hy3 hy4 FE Fj;have Jy:=M.aH (x:=3) (y:=X1) (m:=3) (n:=10000);have Jz:=M.aH (x:=3*X1) (y:=X1) (m:=30000) (n:=10000);have J0:=M.aH (x:=a) (y:=E1) (m:=1000) (n:=20);have J1:=M.aH (x:=a*E1) (y:=E1) (m:=20000) (n:=20);have J2:=M.aH (x:=a*E1*E1) (y:=E1) (m:=400000) (n:=20);have J3:=M.aH (x:=a*E1*E1*E1) (y:=E1) (m:=8000000) (n:=20);have J4:=M.aH (x:=2) (y:=Y1) (m:=2) (n:=3000000);have Lm:=M.aH (x:=2*Y1) (y:=E1) (m:=6000000) (n:=20);obtain ⟨wc,hw3,C,Q,U,B⟩:=cZ w #[a,b] 25 #[X1,Y1,E1] 40 #[X1,Y1,E1] 40;have ⟨q0,q1,q2⟩:=Q.aO;have ⟨u0,u1,u2⟩:=U.aO;have e_:=C.box.c0;have f_:=C.box.c1;go_enter Tryz.func86,Tryz.ntmps86
  go_wp2
  go_upto_region 2 with fail
  refine Rg.bg 29 [.is (.pointer (some ⟨w.heap.size+1,0,none⟩)),.is X1,.is (3*X1:Int),.is (.pointer (some ⟨w.heap.size+1,0,none⟩)),.is X1,.is ((3*X1)*X1:Int),.is (.pointer (some ⟨w.heap.size,0,none⟩)),.is a,.is (.pointer (some ⟨w.heap.size+1,2,none⟩)),.is E1,.is (a*E1:Int),.is (.pointer (some ⟨w.heap.size+1,2,none⟩)),.is E1,.is ((a*E1)*E1:Int),.is (.pointer (some ⟨w.heap.size+1,2,none⟩)),.is E1,.is (((a*E1)*E1)*E1:Int),.is (.pointer (some ⟨w.heap.size+1,2,none⟩)),.is E1,.is ((((a*E1)*E1)*E1)*E1:Int),.is (((3*X1)*X1)+((((a*E1)*E1)*E1)*E1):Int),.is (.pointer (some ⟨w.heap.size+1,1,none⟩)),.is Y1,.is (2*Y1:Int),.is (.pointer (some ⟨w.heap.size+1,2,none⟩)),.is E1,.is ((2*Y1)*E1:Int),.is (((3*X1)*X1)+((((a*E1)*E1)*E1)*E1):Int),.is ((2*Y1)*E1:Int)] (by kernel_rfl) (by kernel_rfl) (by kernel_rfl) ⟨?_,?_,?_,?_,?_,?_,?_,?_,?_,?_,?_,?_,?_,?_,?_,?_,?_,?_,?_,?_,?_,?_,?_,?_,?_,?_,?_,?_,?_,trivial⟩ ?_
  all_goals try ((first | (refine Rg.b1 ?_;intro zZ w_ hB e) | (refine Rg.b2 ?_;intro zZ w_ hB e f));have kz:=aE hB Q.aO.1;have ec:=Rg.ec zZ;have kz:=aE hB C.box.c0;have kz:=aE hB Q.aO.2.2;have kz:=aE hB Q.aO.2.1;(first | (go_simp;done) | (go_simp;exact Rg.wo (by omega))))
  intro vals wz hB hv hne;have Lw:vals 27=.int .i64 (((3*X1)*X1)+((((a*E1)*E1)*E1)*E1)):=hv 27 (by decide);have Lx:vals 28=.int .i64 ((2*Y1)*E1):=hv 28 (by decide);simp only [Rg.bF,Rg.fill,Act.put,Nat.reduceAdd];clear hv;simp only [Lw,Lx];clear Lw Lx;unfold Rg.aX;go_wp2;go_ret2;exact ⟨rfl,d_ B hB⟩
 have e1:=DB (show M.sN a X1 Y1 E1 X2 Y2 E2=Y2*E1*E1*E1 - Y1*E2*E2*E2 from if_neg E9);have e2:=DB (show M.sD X1 Y1 E1 X2 Y2 E2=E1*E2*(X2*E1*E1 - X1*E2*E2) from if_neg E9);rw [e1.out,e2.out];clear e1 e2;have RN:=M.aH (x:=Y2) (y:=E1) (m:=3000000) (n:=20);have RO:=M.aH (x:=Y2*E1) (y:=E1) (m:=60000000) (n:=20);have RP:=M.aH (x:=Y2*E1*E1) (y:=E1) (m:=1200000000) (n:=20);have RQ:=M.aH (x:=Y1) (y:=E2) (m:=3000000) (n:=20);have RR:=M.aH (x:=Y1*E2) (y:=E2) (m:=60000000) (n:=20);have RS:=M.aH (x:=Y1*E2*E2) (y:=E2) (m:=1200000000) (n:=20);have RT:=M.aH (x:=E1) (y:=E2) (m:=20) (n:=20);have sb36:=M.aH (x:=X2) (y:=E1) (m:=10000) (n:=20);have sb37:=M.aH (x:=X2*E1) (y:=E1) (m:=200000) (n:=20);have sb38:=M.aH (x:=X1) (y:=E2) (m:=10000) (n:=20);have sb39:=M.aH (x:=X1*E2) (y:=E2) (m:=200000) (n:=20);have sb40:=M.aH (x:=E1*E2) (y:=X2*E1*E1 - X1*E2*E2) (m:=400) (n:=8000000)
 have hne:X1≠X2∨Y1≠Y2∨E1≠E2:=by
  rcases Classical.em (X1=X2) with h1 | h1
  ·rcases Classical.em (Y1=Y2) with h2 | h2
   ·exact Or.inr (Or.inr fun h3=>E9 ⟨h1,h2,h3⟩)
   exact Or.inr (Or.inl h2)
  exact Or.inl h1
 clear E9
 have hdec:(decide (X1=X2) && (decide (Y1=Y2) && decide (E1=E2)))=false:=by
  rcases hne with h | h | h <;> simp [h]
 obtain ⟨wc,hw3,C,Q,U,B⟩:=cZ w #[a,b] 25 #[X1,Y1,E1] 40 #[X2,Y2,E2] 40;have ⟨q0,q1,q2⟩:=Q.aO;have ⟨u0,u1,u2⟩:=U.aO;have e_:=C.box.c0;have f_:=C.box.c1
 rcases hne with h | h | h
 all_goals
  have hb:=beq_eq_false_iff_ne.2 h;go_enter Tryz.func86,Tryz.ntmps86
  go_wp2
  all_goals
   go_ret2;exact ⟨rfl,B⟩
namespace M
def EC (a X1 Y1 E1 X2 Y2 E2:Int):Int:=if sD X1 Y1 E1 X2 Y2 E2=0 then 1 else b9 (sN a X1 Y1 E1 X2 Y2 E2) (sD X1 Y1 E1 X2 Y2 E2)
def Dz (a X1 Y1 E1 X2 Y2 E2:Int):Int:=if sD X1 Y1 E1 X2 Y2 E2=0 then 0 else bK (sN a X1 Y1 E1 X2 Y2 E2) (sD X1 Y1 E1 X2 Y2 E2)
end M
theorem ub (a b X1 Y1 E1 X2 Y2 E2:Int) (w:World) (ha1:-1000<=a) (ha2:a<=1000) (hx1:-10000<=X1) (hx2:X1<=10000) (hy1:-3000000<=Y1) (hy2:Y1<=3000000) (he1:1<=E1) (he2:E1<=20) (hx3:-10000<=X2) (hx4:X2<=10000) (hy3:-3000000<=Y2) (hy4:Y2<=3000000) (FE:1<=E2) (Fj:E2<=20) :
  Calls Tryz.prog 98 #[.agg #[a,b],.agg #[X1,Y1,E1],.agg #[X2,Y2,E2]] w fun e w'=>e=.returned (.tuple #[M.EC a X1 Y1 E1 X2 Y2 E2,M.Dz a X1 Y1 E1 X2 Y2 E2])/\Below w.heap.size w w':=by
 have hbd:=M.Bu (a:=a) ha1 ha2 hx1 hx2 hy1 hy2 he1 he2 hx3 hx4 hy3 hy4 FE Fj
 have PE:=fun (h:M.sD X1 Y1 E1 X2 Y2 E2≠0) W=>iv (M.sN a X1 Y1 E1 X2 Y2 E2) (M.sD X1 Y1 E1 X2 Y2 E2) W (by omega) (by omega) (by omega) (by omega) h
 unfold M.EC M.Dz;have hcase:(X1=X2/\Y1=Y2/\E1=E2)∨¬ (X1=X2/\Y1=Y2/\E1=E2):=Classical.em _
 rcases hcase with hsame | E9
 ·have e1:=show M.sN a X1 Y1 E1 X2 Y2 E2=3*X1*X1+a*E1*E1*E1*E1 from if_pos hsame
  have e2:=show M.sD X1 Y1 E1 X2 Y2 E2=2*Y1*E1 from if_pos hsame
  rw [e1,e2] at PE hbd;rw [e1,e2];obtain ⟨rfl,rfl,rfl⟩:=hsame;clear e1 e2 hx3 hx4 hy3 hy4 FE Fj;have sb1:=M.aH (x:=Y1) (y:=E1) (m:=3000000) (n:=20);have Md:=M.aH (x:=Y1*E1) (y:=E1) (m:=60000000) (n:=20);have Me:=M.aH (x:=Y1*E1*E1) (y:=E1) (m:=1200000000) (n:=20);have Mf:=M.aH (x:=E1) (y:=E1) (m:=20) (n:=20);have Mg:=M.aH (x:=X1) (y:=E1) (m:=10000) (n:=20);have Mh:=M.aH (x:=X1*E1) (y:=E1) (m:=200000) (n:=20);have Mi:=M.aH (x:=E1*E1) (y:=X1*E1*E1 - X1*E1*E1) (m:=400) (n:=8000000);have Mj:=M.aH (x:=3) (y:=X1) (m:=3) (n:=10000);have Mk:=M.aH (x:=3*X1) (y:=X1) (m:=30000) (n:=10000);have IF:=M.aH (x:=a) (y:=E1) (m:=1000) (n:=20);have IG:=M.aH (x:=a*E1) (y:=E1) (m:=20000) (n:=20);have IH:=M.aH (x:=a*E1*E1) (y:=E1) (m:=400000) (n:=20);have II:=M.aH (x:=a*E1*E1*E1) (y:=E1) (m:=8000000) (n:=20);have IJ:=M.aH (x:=2) (y:=Y1) (m:=2) (n:=3000000);have IK:=M.aH (x:=2*Y1) (y:=E1) (m:=6000000) (n:=20);obtain ⟨wc,hw3,C,Q,U,B⟩:=cZ w #[a,b] 25 #[X1,Y1,E1] 40 #[X1,Y1,E1] 40;have ⟨q0,q1,q2⟩:=Q.aO;have ⟨u0,u1,u2⟩:=U.aO;have e_:=C.box.c0;have f_:=C.box.c1
  by_cases h0:2*Y1*E1=0
  ·have h1:(2*Y1*E1 == 0)=true:=by rw [beq_iff_eq];exact h0
   rw [if_pos h0,if_pos h0];clear PE;go_enter Tryz.func98,Tryz.ntmps98
   go_wp2
   all_goals
    go_ret2;exact ⟨rfl,B⟩
  have h1:(2*Y1*E1 == 0)=false:=by rw [beq_eq_false_iff_ne];exact h0
  rw [if_neg h0,if_neg h0];have PE:=PE h0;generalize bK (3*X1*X1+a*E1*E1*E1*E1) (2*Y1*E1)=pd,b9 (3*X1*X1+a*E1*E1*E1*E1) (2*Y1*E1)=pn at *;have PE:=DB PE;go_enter Tryz.func98,Tryz.ntmps98
  go_wp2_with (go_at_call 99;(with_reducible refine (PE.out _).mono ?_);rintro e w4 ⟨rfl,hb4⟩;have B4:=d_ B hb4)
  all_goals
   go_ret2;exact ⟨rfl,B4⟩
 have e1:=show M.sN a X1 Y1 E1 X2 Y2 E2=Y2*E1*E1*E1 - Y1*E2*E2*E2 from if_neg E9
 have e2:=show M.sD X1 Y1 E1 X2 Y2 E2=E1*E2*(X2*E1*E1 - X1*E2*E2) from if_neg E9
 rw [e1,e2] at PE hbd;rw [e1,e2];clear e1 e2;have IL:=M.aH (x:=Y2) (y:=E1) (m:=3000000) (n:=20);have Ju:=M.aH (x:=Y2*E1) (y:=E1) (m:=60000000) (n:=20);have Jv:=M.aH (x:=Y2*E1*E1) (y:=E1) (m:=1200000000) (n:=20);have Jw:=M.aH (x:=Y1) (y:=E2) (m:=3000000) (n:=20);have Jx:=M.aH (x:=Y1*E2) (y:=E2) (m:=60000000) (n:=20);have Jy:=M.aH (x:=Y1*E2*E2) (y:=E2) (m:=1200000000) (n:=20);have Jz:=M.aH (x:=E1) (y:=E2) (m:=20) (n:=20);have J0:=M.aH (x:=X2) (y:=E1) (m:=10000) (n:=20);have J1:=M.aH (x:=X2*E1) (y:=E1) (m:=200000) (n:=20);have J2:=M.aH (x:=X1) (y:=E2) (m:=10000) (n:=20);have J3:=M.aH (x:=X1*E2) (y:=E2) (m:=200000) (n:=20);have J4:=M.aH (x:=E1*E2) (y:=X2*E1*E1 - X1*E2*E2) (m:=400) (n:=8000000)
 have hne:X1≠X2∨Y1≠Y2∨E1≠E2:=by
  rcases Classical.em (X1=X2) with h1 | h1
  ·rcases Classical.em (Y1=Y2) with h2 | h2
   ·exact Or.inr (Or.inr fun h3=>E9 ⟨h1,h2,h3⟩)
   exact Or.inr (Or.inl h2)
  exact Or.inl h1
 clear E9
 have hdec:(decide (X1=X2) && (decide (Y1=Y2) && decide (E1=E2)))=false:=by
  rcases hne with h | h | h <;> simp [h]
 obtain ⟨wc,hw3,C,Q,U,B⟩:=cZ w #[a,b] 25 #[X1,Y1,E1] 40 #[X2,Y2,E2] 40;have ⟨q0,q1,q2⟩:=Q.aO;have ⟨u0,u1,u2⟩:=U.aO;have e_:=C.box.c0;have f_:=C.box.c1
 rcases hne with h | h | h
 all_goals
  have hb:=beq_eq_false_iff_ne.2 h
  by_cases h0:E1*E2*(X2*E1*E1 - X1*E2*E2)=0
  ·have h1:(E1*E2*(X2*E1*E1 - X1*E2*E2) == 0)=true:=by rw [beq_iff_eq];exact h0
   rw [if_pos h0,if_pos h0];clear PE;go_enter Tryz.func98,Tryz.ntmps98
   go_wp2
   all_goals
    go_ret2;exact ⟨rfl,B⟩
  have h1:(E1*E2*(X2*E1*E1 - X1*E2*E2) == 0)=false:=by rw [beq_eq_false_iff_ne];exact h0
  rw [if_neg h0,if_neg h0];have PE:=PE h0;generalize bK (Y2*E1*E1*E1 - Y1*E2*E2*E2) (E1*E2*(X2*E1*E1 - X1*E2*E2))=pd,b9 (Y2*E1*E1*E1 - Y1*E2*E2*E2) (E1*E2*(X2*E1*E1 - X1*E2*E2))=pn at *;have PE:=DB PE;go_enter Tryz.func98,Tryz.ntmps98
  go_wp2_with (go_at_call 99;(with_reducible refine (PE.out _).mono ?_);rintro e w4 ⟨rfl,hb4⟩;have B4:=d_ B hb4)
  all_goals
   go_ret2;exact ⟨rfl,B4⟩
theorem j7 (a b:Int) (va vb:Value) (w:World) (ba bb:Nat) (hoa:aF w ba va (Wh.a_ a.natAbs)) (Dp:aF w bb vb (Wh.a_ b.natAbs)) (hl1:(Wh.a_ a.natAbs).length<=100000) (hl2:(Wh.a_ b.natAbs).length<=100000) :
  Calls Tryz.prog 131 #[.agg #[decide (a<0),va],.agg #[decide (b<0),vb]] w fun e w'=>e=.returned (.int .i64 (Wh.Du a b))/\Below w.heap.size w w':=by
 obtain ⟨aa,ca,rfl,-,-⟩:=aF.view hoa;obtain ⟨ab,cb,rfl,-,-⟩:=aF.view Dp
 have P1:=fun s r W (h1:aF W ba (.slice aa (Wh.a_ a.natAbs).length ca) (Wh.a_ a.natAbs)) (h2:aF W bb (.slice ab (Wh.a_ b.natAbs).length cb) (Wh.a_ b.natAbs))=>er a.natAbs b.natAbs s r _ _ W ba bb h1 h2 hl1 hl2
 have P2:=fun s r W (h1:aF W ba (.slice aa (Wh.a_ a.natAbs).length ca) (Wh.a_ a.natAbs)) (h2:aF W bb (.slice ab (Wh.a_ b.natAbs).length cb) (Wh.a_ b.natAbs))=>er b.natAbs a.natAbs s r _ _ W bb ba h2 h1 hl2 hl1
 replace hoa:=DB hoa;replace Dp:=DB Dp;generalize (Wh.a_ b.natAbs).length=lb,(Wh.a_ a.natAbs).length=la at *
 by_cases h1:a<0
 ·by_cases h2:b<0
  ·have hs:=DB (show Wh.Du (b.natAbs:Int) (a.natAbs:Int)=Wh.Du a b by unfold Wh.Du;(repeat' split) <;> omega)
   rw [decide_eq_true h1,decide_eq_true h2];rw [←hs.out];clear h1 h2 P1;replace P2:=DB P2;have hBb:=((DE w.heap.size w).alloc (DF _) (.cells #[true,.slice aa la ca] 116)).alloc (by rw [DC];omega) (.cells #[true,.slice ab lb cb] 116);go_enter Tryz.func131,Tryz.ntmps131
   go_wp2_with (go_at_call 129;(with_reducible refine (P2.out _ _ _ (aF.below hoa.out hBb) (aF.below Dp.out hBb)).mono ?_);rintro e w4 ⟨rfl,hb4⟩)
   go_ret;exact ⟨rfl,d_ hBb hb4⟩
  have hs:=DB (show Wh.Du a b=-1 by unfold Wh.Du;(repeat' split) <;> omega);rw [decide_eq_true h1,decide_eq_false h2];rw [hs.out];clear h1 h2 P1 P2;go_enter Tryz.func131,Tryz.ntmps131
  go_wp2;go_ret;exact ⟨rfl,(by repeat (first | exact DE _ _ | refine aQ ?_ _ | refine aR ?_ (by assumption) | refine Below.drew ?_ | refine DD ?_ (by first | exact DF _ | exact Nat.le_add_right _ _ | (simp <;> omega)) _ | refine aN ?_ _))⟩
 by_cases h2:b<0
 ·have hs:=DB (show Wh.Du a b=1 by unfold Wh.Du;(repeat' split) <;> omega)
  rw [decide_eq_false h1,decide_eq_true h2];rw [hs.out];clear h1 h2 P1 P2;go_enter Tryz.func131,Tryz.ntmps131
  go_wp2;go_ret;exact ⟨rfl,(by repeat (first | exact DE _ _ | refine aQ ?_ _ | refine aR ?_ (by assumption) | refine Below.drew ?_ | refine DD ?_ (by first | exact DF _ | exact Nat.le_add_right _ _ | (simp <;> omega)) _ | refine aN ?_ _))⟩
 have hs:=DB (show Wh.Du (a.natAbs:Int) (b.natAbs:Int)=Wh.Du a b by unfold Wh.Du;(repeat' split) <;> omega);rw [decide_eq_false h1,decide_eq_false h2];rw [←hs.out];clear h1 h2 P2;replace P1:=DB P1;have hBb:=((DE w.heap.size w).alloc (DF _) (.cells #[false,.slice aa la ca] 116)).alloc (by rw [DC];omega) (.cells #[false,.slice ab lb cb] 116);go_enter Tryz.func131,Tryz.ntmps131
 go_wp2_with (go_at_call 129;(with_reducible refine (P1.out _ _ _ (aF.below hoa.out hBb) (aF.below Dp.out hBb)).mono ?_);rintro e w4 ⟨rfl,hb4⟩)
 go_ret;exact ⟨rfl,d_ hBb hb4⟩
namespace M
def sq (A D:Int):Int:=max (-10000) (min 10000 (-(-A / D)))
theorem nV {A D m:Int} (hD:0<D):-(-A / D)<=m ↔ A<=D*m:=by
 have e1:=Int.mul_ediv_add_emod (-A) D;have e2:=Int.emod_nonneg (-A) (by omega:D≠0);have e3:=Int.emod_lt_of_pos (-A) hD;generalize -A / D=q at *
 constructor
 ·intro h
  have:D*(-q)<=D*m:=Int.mul_le_mul_of_nonneg_left h (by omega);rw [Int.mul_neg] at this;omega
 intro h
 rcases Int.lt_or_le m (-q) with h1 | h1
 ·have:D*(m+1)<=D*(-q):=Int.mul_le_mul_of_nonneg_left (by omega) (by omega)
  rw [Int.mul_neg,Int.mul_add] at this;omega
 exact h1
theorem C4 {A D x:Int} (hD:0<D) (h1:-10000<=x) (h2:x<=10000) (h:D*x=A):sq A D=x:=by
 have q1:=(nV (A:=A) (m:=x) hD).2 (by omega)
 have q2:¬ -(-A / D)<=x - 1:=fun h3=>by
  have:=(nV hD).1 h3;rw [Int.mul_sub] at this;omega
 unfold sq;omega
end M
theorem kC (A D:Int) (va vd:Value) (w:World) (ba bd:Nat) (hoa:aF w ba va (Wh.a_ A.natAbs)) (hod:aF w bd vd (Wh.a_ D.natAbs)) (hA:Wh.sz A 1000) (hD:Wh.sz D 1000) (hD0:0<D) :
  Calls Tryz.prog 91 #[.agg #[decide (A<0),va],.agg #[decide (D<0),vd],(10000:Int)] w fun e w'=>e=.returned (.tuple #[M.sq A D,decide (D*M.sq A D=A)])/\Below w.heap.size w w':=by
 obtain ⟨aa,ca,rfl,-,-⟩:=aF.view hoa;obtain ⟨ad,cd,rfl,-,-⟩:=aF.view hod
 have PT:=fun n (h1:-10000<=n) (h2:n<=10000) v W k (h:aF W k v (Wh.a_ D.natAbs))=>ll D n v W k h (Wh.aU.2 (Wh.aM hD (by omega))) (by omega) (by omega)
 have PC:=fun n (h1:-10000<=n) (h2:n<=10000) v v' W k k' (h:aF W k v (Wh.a_ (D*n).natAbs)) (h':aF W k' v' (Wh.a_ A.natAbs))=>j7 (D*n) A v v' W k k' h h' (Wh.aU.2 (Wh.aM (Wh.ak hD (Wh.bP (n:=n) (by omega) (by omega))) (by omega))) (Wh.aU.2 (Wh.aM hA (by omega)))
 generalize decide (D<0)=s2,decide (A<0)=s1 at *;replace hoa:=DB hoa;replace hod:=DB hod;generalize (Wh.a_ D.natAbs).length=ld,(Wh.a_ A.natAbs).length=la at *;have PT:=DB PT;have PC:=DB PC
 have D3:-10000<=M.sq A D/\M.sq A D<=10000:=by unfold M.sq;omega
 have hcl:=DB fun m=>M.nV (A:=A) (D:=D) (m:=m) hD0
 have hsd:Hid (M.sq A D=max (-10000) (min 10000 (-(-A / D)))):=DB rfl;generalize M.sq A D=L at *;obtain ⟨wc,hw3,V,U,B⟩:=fR w #[s1,.slice aa la ca] 116 #[s2,.slice ad ld cd] 116;obtain ⟨l1,l2⟩:=D3;go_enter Tryz.func91,Tryz.ntmps91
 go_wp2
 go_loopw [8,9] (fun vl vh wr=>∃ lo hi:Int,vl=.int .i64 lo/\vh=.int .i64 hi/\-10000<=lo/\lo<=L/\L<=hi/\hi<=10000/\aG wr w.heap.size 116 #[s1,.slice aa la ca]/\aG wr (w.heap.size+1) 116 #[s2,.slice ad ld cd]/\Below w.heap.size w wr) (fun vl vh _=>(intOf vh - intOf vl).toNat)
 case atStart=>exact ⟨-10000,10000,rfl,rfl,by omega,l1,l2,by omega,V,U,B⟩
 case round=>
 clear V U B hw3;obtain ⟨lo,hi,rfl,rfl,h1,h2,h3,h4,V,U,B⟩:=hrel;have oa:=DB (aF.below hoa.out B);have od:=DB (aF.below hod.out B)
 by_cases hlt:lo<hi
 ·have hm1:lo<=(lo+hi) / 2:=by omega
  have hm2:(lo+hi) / 2<hi:=by omega
  have PF:=fun W=>fZ (lo+hi) 2 W (by omega) (by omega) (by omega) (by omega)
  have hge:=(hcl.out ((lo+hi) / 2))
  generalize (lo+hi) / 2=m at *;have PF:=DB PF
  have ME:=DB fun v W k h=>PT.out m (by omega) (by omega) v W k h
  have IM:=fun v v' W k k' h h'=>PC.out m (by omega) (by omega) v v' W k k' h h'
  have hsg:0<=Wh.Du (D*m) A ↔ A<=D*m:=by unfold Wh.Du;(repeat' split) <;> omega
  have hsn:L<=m ↔ A<=D*m:=by rw [←hge,hsd.out];omega
  generalize Wh.Du (D*m) A=sg at *;have IM:=DB IM
  by_cases hL:L<=m
  ·have hs0:0<=sg:=hsg.2 (hsn.1 hL)
   clear hsg hsn hge PC PT
   go_upto_region 4 with (go_at_call 130;(with_reducible refine (PF.out _).mono ?_);rintro e w4 ⟨rfl,rfl⟩)
   refine Rg.bg 6 [.is (.agg #[s2,.slice ad ld cd]),.is m,.at (aI (wr.heap.size) (D*m)),.is (.agg #[s1,.slice aa la ca]),.is sg,.is true] (by kernel_rfl) (by kernel_rfl) (by kernel_rfl) ⟨?_,?_,?_,?_,?_,?_,trivial⟩ ?_
   all_goals try ((refine Rg.b1 ?_;intro zZ w_ hB e);have kz:=aE hB U.box.c0;have kz:=aE hB U.box.c1;have kz:=aE hB V.box.c0;have kz:=aE hB V.box.c1;have ec:=Rg.ec zZ;(first | (go_simp;done) | (go_simp;first | done | omega | (simp;omega);done)))
   ·intro _ zZ w_ hB hr
    have e21:=Rg.l_ (hr 21 (by decide));have e22:=Rg.l_ (hr 22 (by decide));have ef:=Rg.ef zZ;refine Rg.ah rfl (by go_simp;exact ⟨rfl,rfl⟩) ?_;exact aI.ret hB (ME.out _ _ _ (aF.below od.out hB))
   ·intro _ zZ w_ hB hr
    obtain ⟨s23,a23,l23,c23,HF,e23,Ji⟩:=aI.get (hr 23 (by decide));have e24:=Rg.l_ (hr 24 (by decide));have ef:=Rg.ef zZ;obtain rfl:=HF.out;exact Rg.bV rfl (by go_simp) (IM.out _ _ _ _ _ Ji (aF.below oa.out hB))
   intro vals wz hB hv hne;have Gp:vals 5=.bool true:=hv 5 (by decide);simp only [Rg.bF,Rg.fill,Act.put,Nat.reduceAdd];clear hv;simp only [Gp];clear Gp;replace V:=V.keep hB;replace U:=U.keep hB;replace B:=d_ B hB;clear hB;unfold Rg.aX;go_wp2
   go_roundw
   case rel=>exact ⟨lo,m,rfl,rfl,h1,h2,hL,by omega,V,U,B⟩
   case measure=>simp [intOf] <;> omega
  have hs0:¬ 0<=sg:=fun h=>hL (hsn.2 (hsg.1 h))
  clear hsg hsn hge PC PT
  go_upto_region 4 with (go_at_call 130;(with_reducible refine (PF.out _).mono ?_);rintro e w4 ⟨rfl,rfl⟩)
  refine Rg.bg 6 [.is (.agg #[s2,.slice ad ld cd]),.is m,.at (aI (wr.heap.size) (D*m)),.is (.agg #[s1,.slice aa la ca]),.is sg,.is false] (by kernel_rfl) (by kernel_rfl) (by kernel_rfl) ⟨?_,?_,?_,?_,?_,?_,trivial⟩ ?_
  all_goals try ((refine Rg.b1 ?_;intro zZ w_ hB e);have kz:=aE hB U.box.c0;have kz:=aE hB U.box.c1;have kz:=aE hB V.box.c0;have kz:=aE hB V.box.c1;have ec:=Rg.ec zZ;(first | (go_simp;done) | (go_simp;first | done | omega | (simp;omega);done)))
  ·intro _ zZ w_ hB hr
   have e21:=Rg.l_ (hr 21 (by decide));have e22:=Rg.l_ (hr 22 (by decide));have ef:=Rg.ef zZ;refine Rg.ah rfl (by go_simp;exact ⟨rfl,rfl⟩) ?_;exact aI.ret hB (ME.out _ _ _ (aF.below od.out hB))
  ·intro _ zZ w_ hB hr
   obtain ⟨s23,a23,l23,c23,HF,e23,Ji⟩:=aI.get (hr 23 (by decide));have e24:=Rg.l_ (hr 24 (by decide));have ef:=Rg.ef zZ;obtain rfl:=HF.out;exact Rg.bV rfl (by go_simp) (IM.out _ _ _ _ _ Ji (aF.below oa.out hB))
  intro vals wz hB hv hne;have Gp:vals 5=.bool false:=hv 5 (by decide);simp only [Rg.bF,Rg.fill,Act.put,Nat.reduceAdd];clear hv;simp only [Gp];clear Gp;replace V:=V.keep hB;replace U:=U.keep hB;replace B:=d_ B hB;clear hB;unfold Rg.aX;go_wp2
  go_roundw
  case rel=>exact ⟨m+1,hi,rfl,rfl,by omega,by omega,h3,h4,V,U,B⟩
  case measure=>simp [intOf] <;> omega
 obtain rfl:lo=L:=by omega
 obtain rfl:hi=lo:=by omega
 have ME:=DB fun v W k h=>PT.out hi (by omega) (by omega) v W k h
 have IM:=fun v v' W k k' h h'=>PC.out hi (by omega) (by omega) v v' W k k' h h'
 have hsg:Wh.Du (D*hi) A=0 ↔ D*hi=A:=by unfold Wh.Du;(repeat' split) <;> omega
 generalize Wh.Du (D*hi) A=sg at *;have IM:=DB IM;have hdd:=DB (show decide (D*hi=A)=decide (sg=0) by rw [decide_eq_decide];exact hsg.symm);clear hsg PC PT
 go_upto_region 7 with fail
 refine Rg.bg 9 [.is hi,.is (.agg #[s2,.slice ad ld cd]),.is hi,.at (aI (wr.heap.size) (D*hi)),.is (.agg #[s1,.slice aa la ca]),.is sg,.is (decide (sg=0)),.is hi,.is (decide (sg=0))] (by kernel_rfl) (by kernel_rfl) (by kernel_rfl) ⟨?_,?_,?_,?_,?_,?_,?_,?_,?_,trivial⟩ ?_
 all_goals try ((refine Rg.b1 ?_;intro zZ w_ hB e);have kz:=aE hB U.box.c0;have kz:=aE hB U.box.c1;have kz:=aE hB V.box.c0;have kz:=aE hB V.box.c1;have ec:=Rg.ec zZ;(first | (go_simp;done) | (go_simp;first | done | rfl | (by_cases DR:sg=0 <;> simp [DR];done);done)))
 ·intro _ zZ w_ hB hr
  have e31:=Rg.l_ (hr 31 (by decide));have e32:=Rg.l_ (hr 32 (by decide));have ef:=Rg.ef zZ;refine Rg.ah rfl (by go_simp;exact ⟨rfl,rfl⟩) ?_;exact aI.ret hB (ME.out _ _ _ (aF.below od.out hB))
 ·intro _ zZ w_ hB hr
  obtain ⟨ID,a33,IB,Ht,HG,e33,Jj⟩:=aI.get (hr 33 (by decide));have e34:=Rg.l_ (hr 34 (by decide));have ef:=Rg.ef zZ;obtain rfl:=HG.out;exact Rg.bV rfl (by go_simp) (IM.out _ _ _ _ _ Jj (aF.below oa.out hB))
 intro vals wz hB hv hne;have E0:vals 7=.int .i64 hi:=hv 7 (by decide);have GP:vals 8=.bool (decide (sg=0)):=hv 8 (by decide);simp only [Rg.bF,Rg.fill,Act.put,Nat.reduceAdd];clear hv;simp only [E0,GP];clear E0 GP;unfold Rg.aX;go_wp2;go_ret2;exact ⟨by rw [hdd.out];rfl,d_ B hB⟩
namespace M
def top (n m X1 E1 X2 E2:Int):Int:=n*n*(E1*E1*E2*E2) - m*m*(X1*E2*E2+X2*E1*E1)
def bot (m E1 E2:Int):Int:=m*m*(E1*E1*E2*E2)
def fi (n m X1 Y1 E1 x e:Int):Int:=n*(X1*e*e - x*E1*E1)*E1 - Y1*m*e*e
theorem CV {x1 x2 y1 y2 l A B:Int} (h1:y1*y1=x1*x1*x1+A*x1+B) (h2:y2*y2=x2*x2*x2+A*x2+B) (hl:l*(x2 - x1)=y2 - y1) (hne:x2 - x1≠0):(l*(x1 - (l*l - x1 - x2)) - y1)*(l*(x1 - (l*l - x1 - x2)) - y1)=(l*l - x1 - x2)*(l*l - x1 - x2)*(l*l - x1 - x2)+A*(l*l - x1 - x2)+B:=by
 have hU:(x2 - x1)*(A - 2*l*(y1 - l*x1) - (x1*x2+(x1+x2)*(l*l - x1 - x2)))=0:=by grind
 have hU2:A - 2*l*(y1 - l*x1) - (x1*x2+(x1+x2)*(l*l - x1 - x2))=0:=by
  rcases Int.mul_eq_zero.1 hU with h | h
  ·exact absurd h hne
  exact h
 grind
theorem RU {x1 y1 l A B:Int} (h1:y1*y1=x1*x1*x1+A*x1+B) (hl:l*(2*y1)=3*x1*x1+A):(l*(x1 - (l*l - x1 - x1)) - y1)*(l*(x1 - (l*l - x1 - x1)) - y1)=(l*l - x1 - x1)*(l*l - x1 - x1)*(l*l - x1 - x1)+A*(l*l - x1 - x1)+B:=by
 grind
theorem scale {a b X Y E m F:Int} (h:Y*Y=X*X*X+a*X*E*E*E*E+b*E*E*E*E*E*E):(Y*m*m*m*F*F*F)*(Y*m*m*m*F*F*F)=(X*m*m*F*F)*(X*m*m*F*F)*(X*m*m*F*F)+a*((m*E*F)*(m*E*F)*((m*E*F)*(m*E*F)))*(X*m*m*F*F)+b*((m*E*F)*(m*E*F)*((m*E*F)*(m*E*F))*((m*E*F)*(m*E*F))):=by
 have q:(Y*m*m*m*F*F*F)*(Y*m*m*m*F*F*F)=(Y*Y)*(m*m*m*m*m*m*(F*F*F*F*F*F)):=by clear h;grind
 rw [q,h];clear h q
 grind
theorem slp {n m u v k l r:Int} (h:n*u=m*v) (e1:l=u*k*n) (e2:r=v*(k*m)):l=r:=by
 rw [e1,e2,show u*k*n=n*u*k by grind,h];clear h e1 e2
 grind
theorem C9 {a b X1 Y1 E1 X2 Y2 E2 n m:Int} (h1:Y1*Y1=cv a b X1 E1) (h2:Y2*Y2=cv a b X2 E2) (he1:E1≠0) (he2:E2≠0) (hm:m≠0) (hs:n*sD X1 Y1 E1 X2 Y2 E2=m*sN a X1 Y1 E1 X2 Y2 E2) (hd:sD X1 Y1 E1 X2 Y2 E2≠0) :
  (n*E1*E2*(X1*m*m*E2*E2 - top n m X1 E1 X2 E2) - Y1*m*m*m*E2*E2*E2)*(n*E1*E2*(X1*m*m*E2*E2 - top n m X1 E1 X2 E2) - Y1*m*m*m*E2*E2*E2)=top n m X1 E1 X2 E2*top n m X1 E1 X2 E2*top n m X1 E1 X2 E2+a*(bot m E1 E2*bot m E1 E2)*top n m X1 E1 X2 E2+b*(bot m E1 E2*bot m E1 E2*bot m E1 E2):=by
 unfold cv at h1 h2
 have ht:top n m X1 E1 X2 E2=(n*E1*E2)*(n*E1*E2) - X1*m*m*E2*E2 - X2*m*m*E1*E1:=by unfold top;grind
 have hb:bot m E1 E2=(m*E1*E2)*(m*E1*E2):=by unfold bot;grind
 have k1:=scale (m:=m) (F:=E2) h1
 by_cases hc:X1=X2/\Y1=Y2/\E1=E2
 ·unfold sD at hs;rw [if_pos hc] at hs
  unfold sN at hs;rw [if_pos hc] at hs;obtain ⟨rfl,rfl,rfl⟩:=hc;have kl:(n*E1*E1)*(2*(Y1*m*m*m*E1*E1*E1))=3*(X1*m*m*E1*E1)*(X1*m*m*E1*E1)+a*((m*E1*E1)*(m*E1*E1)*((m*E1*E1)*(m*E1*E1))):=slp (k:=m*m*m*E1*E1*E1*E1) hs (by clear hs k1;grind) (by clear hs k1;grind);have:=RU k1 kl;rw [ht,hb];exact this
 unfold sD at hs hd;rw [if_neg hc] at hs hd;unfold sN at hs;rw [if_neg hc] at hs;have k2:=scale (m:=m) (F:=E1) h2;rw [show m*E2*E1=m*E1*E2 by grind] at k2;have kl:(n*E1*E2)*(X2*m*m*E1*E1 - X1*m*m*E2*E2)=Y2*m*m*m*E1*E1*E1 - Y1*m*m*m*E2*E2*E2:=slp (k:=m*m) hs (by clear hs k1 k2 hd;grind) (by clear hs k1 k2 hd;grind)
 have kn:X2*m*m*E1*E1 - X1*m*m*E2*E2≠0:=by
  intro h
  have:m*m*(X2*E1*E1 - X1*E2*E2)=0:=by rw [←h];clear h;grind
  rcases Int.mul_eq_zero.1 this with h | h
  ·rcases Int.mul_eq_zero.1 h with h | h <;> exact hm h
  exact hd (by rw [h];simp)
 have:=CV k1 k2 kl kn;rw [ht,hb];exact this
theorem eU {k x y:Int} (hk:k≠0) (h:k*x=k*y):x=y:=Int.eq_of_mul_eq_mul_left hk h
theorem yK {a b X1 Y1 E1 X2 Y2 E2 n m x e:Int} (h1:Y1*Y1=cv a b X1 E1) (h2:Y2*Y2=cv a b X2 E2) (he1:E1≠0) (he2:E2≠0) (hm:m≠0) (hs:n*sD X1 Y1 E1 X2 Y2 E2=m*sN a X1 Y1 E1 X2 Y2 E2) (hd:sD X1 Y1 E1 X2 Y2 E2≠0) (hx:bot m E1 E2*x=top n m X1 E1 X2 E2*(e*e)) :
  (e*fi n m X1 Y1 E1 x e)*(e*fi n m X1 Y1 E1 x e)=(m*E1*E1*E1)*(m*E1*E1*E1)*cv a b x e:=by
 have h3:=C9 h1 h2 he1 he2 hm hs hd
 have hy:e*e*(n*E1*E2*(X1*m*m*E2*E2 - top n m X1 E1 X2 E2) - Y1*m*m*m*E2*E2*E2)=m*m*E2*E2*E2*fi n m X1 Y1 E1 x e:=by
  unfold fi;unfold bot at hx
  have hq:n*E1*E2*(m*m*(E1*E1*E2*E2)*x)=n*E1*E2*(top n m X1 E1 X2 E2*(e*e)):=by rw [hx]
  generalize top n m X1 E1 X2 E2=t at *;clear h1 h2 he1 he2 hm hs hd h3 hx
  grind
 generalize top n m X1 E1 X2 E2=t,fi n m X1 Y1 E1 x e=s,(n*E1*E2*(X1*m*m*E2*E2 - top n m X1 E1 X2 E2) - Y1*m*m*m*E2*E2*E2)=y3 at *
 have hk:(m*m*m*m)*(E2*E2*E2*E2*E2*E2)≠0:=by
  repeat' apply Int.mul_ne_zero
  all_goals assumption
 apply eU hk
 have q1:(m*m*m*m)*(E2*E2*E2*E2*E2*E2)*((e*s)*(e*s))=e*e*(e*e*y3)*(e*e*y3):=by rw [hy];clear h1 h2 hs h3 hx hy;grind
 have q2:e*e*(e*e*y3)*(e*e*y3)=(e*e)*(e*e)*(e*e)*(y3*y3):=by clear h1 h2 hs h3 hx hy q1;grind
 rw [q1,q2,h3]
 have q3:bot m E1 E2=(m*E1*E2)*(m*E1*E2):=by unfold bot;grind
 have q4:(e*e)*(e*e)*(e*e)*(t*t*t+a*(bot m E1 E2*bot m E1 E2)*t+b*(bot m E1 E2*bot m E1 E2*bot m E1 E2))=(t*(e*e))*(t*(e*e))*(t*(e*e))+a*(bot m E1 E2*bot m E1 E2)*(t*(e*e))*(e*e*(e*e))+b*(bot m E1 E2*bot m E1 E2*bot m E1 E2)*(e*e*(e*e)*(e*e)):=by clear h1 h2 hs h3 hx hy q1 q2 q3;grind
 rw [q4,←hx];unfold cv;rw [q3];clear h1 h2 he1 he2 hm hs hd h3 hx hy hk q1 q2 q3 q4
 grind
theorem yC {k c z:Int} (hk:k≠0) (h:z*z=k*k*c):∃ q,z=k*q/\q*q=c:=by
 have h1:k*k ∣ z*z:=⟨c,h⟩
 have h2:k.natAbs ^ 2 ∣ z.natAbs ^ 2:=by
  have:=Int.natAbs_dvd_natAbs.2 h1
  rwa [Int.natAbs_mul,Int.natAbs_mul,←Nat.pow_two,←Nat.pow_two] at this
 have h3:k ∣ z:=Int.natAbs_dvd_natAbs.1 ((Nat.pow_dvd_pow_iff (by decide)).1 h2);obtain ⟨q,rfl⟩:=h3;refine ⟨q,rfl,?_⟩;have hkk:k*k≠0:=Int.mul_ne_zero hk hk
 apply eU hkk
 rw [←h];clear h h1 h2
 grind
theorem AC {a b X1 Y1 E1 X2 Y2 E2 n m x e:Int} (h1:Y1*Y1=cv a b X1 E1) (h2:Y2*Y2=cv a b X2 E2) (he1:E1≠0) (he2:E2≠0) (hm:m≠0) (hs:n*sD X1 Y1 E1 X2 Y2 E2=m*sN a X1 Y1 E1 X2 Y2 E2) (hd:sD X1 Y1 E1 X2 Y2 E2≠0) (hx:bot m E1 E2*x=top n m X1 E1 X2 E2*(e*e)) :
  ∃ y,e*fi n m X1 Y1 E1 x e=m*E1*E1*E1*y/\y*y=cv a b x e:=
 yC (Int.mul_ne_zero (Int.mul_ne_zero (Int.mul_ne_zero hm he1) he1) he1) (yK h1 h2 he1 he2 hm hs hd hx)
theorem uh {X1 E1 X2 E2 n m x e:Int} (hg:Int.gcd n m=1) (hx:bot m E1 E2*x=top n m X1 E1 X2 E2*(e*e)):m ∣ E1*E2*e:=by
 have h1:(n*(E1*E2*e))*(n*(E1*E2*e))=m*m*(E1*E1*E2*E2*x+(X1*E2*E2+X2*E1*E1)*(e*e)):=by
  unfold bot top at hx;clear hg
  grind
 have h3:m ∣ n*(E1*E2*e):=by
  by_cases hm:m=0
  ·subst hm
   simp only [Int.zero_mul] at h1
   rcases Int.mul_eq_zero.1 h1 with h | h <;> rw [h] <;> exact ⟨0,rfl⟩
  obtain ⟨q,hq,-⟩:=yC hm h1;exact ⟨q,hq⟩
 have h4:=Int.dvd_gcd_mul_iff_dvd_mul.2 h3;rw [Int.gcd_comm,hg] at h4
 simpa using h4
theorem xw {X1 E1 X2 E2 n m x e:Int} (he1:1<=E1) (he2:1<=E2) (he:1<=e) (hx1:X1<=10000) (hx2:X2<=10000) (hx3:x<=10000) (hx:bot m E1 E2*x=top n m X1 E1 X2 E2*(e*e)):n*n<=30000*(m*m):=by
 have k1:1<=E1*E1:=by have:=Int.mul_le_mul he1 he1 (by omega) (by omega);omega
 have k2:1<=E2*E2:=by have:=Int.mul_le_mul he2 he2 (by omega) (by omega);omega
 have k3:1<=e*e:=by have:=Int.mul_le_mul he he (by omega) (by omega);omega
 have h1:(E1*E1)*(E2*E2)*(e*e)*(n*n)=m*m*((E1*E1)*(E2*E2)*x+(E2*E2)*(e*e)*X1+(E1*E1)*(e*e)*X2):=by
  unfold bot top at hx;clear k1 k2 k3
  grind
 have hmm:0<=m*m:=by rcases Int.le_total 0 m with h | h;exact Int.mul_nonneg h h;exact Int.mul_nonneg_of_nonpos_of_nonpos h h
 clear hx he1 he2 he;generalize e*e=z,E2*E2=v,E1*E1=u at *;have p1:0<=u*v:=Int.mul_nonneg (by omega) (by omega);have p2:0<=v*z:=Int.mul_nonneg (by omega) (by omega);have p3:0<=u*z:=Int.mul_nonneg (by omega) (by omega);have p4:0<u*v*z:=Int.mul_pos (Int.mul_pos (by omega) (by omega)) (by omega)
 have s1:u*v*x<=u*v*z*10000:=by
  have a1:=Int.mul_le_mul_of_nonneg_left hx3 p1;have a2:=Int.mul_le_mul_of_nonneg_left k3 p1;omega
 have s2:v*z*X1<=u*v*z*10000:=by
  have a1:=Int.mul_le_mul_of_nonneg_left hx1 p2;have a2:=Int.mul_le_mul_of_nonneg_left k1 p2
  have a3:v*z*u=u*v*z:=by clear h1;grind
  omega
 have s3:u*z*X2<=u*v*z*10000:=by
  have a1:=Int.mul_le_mul_of_nonneg_left hx2 p3;have a2:=Int.mul_le_mul_of_nonneg_left k2 p3
  have a3:u*z*v=u*v*z:=by clear h1;grind
  omega
 have s4:u*v*z*(n*n)<=u*v*z*(30000*(m*m)):=by
  rw [h1];have a1:=Int.mul_le_mul_of_nonneg_left (show u*v*x+v*z*X1+u*z*X2<=u*v*z*30000 by omega) hmm
  have a2:m*m*(u*v*z*30000)=u*v*z*(30000*(m*m)):=by clear h1 a1 s1 s2 s3;grind
  omega
 exact Int.le_of_mul_le_mul_left s4 p4
theorem nH {n m:Int} (h:n*n<=30000*(m*m)):(n.natAbs:Int)<=200*(m.natAbs:Int):=by
 rw [←Int.natAbs_mul_self' n,←Int.natAbs_mul_self' m] at h
 have u0:0<=(n.natAbs:Int):=by omega
 have v0:0<=(m.natAbs:Int):=by omega
 generalize (n.natAbs:Int)=u at *;generalize (m.natAbs:Int)=v at *
 rcases Int.lt_or_le (200*v) u with q | q
 ·exfalso
  have:=Int.mul_le_mul (show 200*v+1<=u by omega) (show 200*v+1<=u by omega) (by omega) (by omega);rw [show (200*v+1)*(200*v+1)=40000*(v*v)+400*v+1 by clear this h q;grind] at this;have vv:=Int.mul_nonneg v0 v0;omega
 exact q
theorem rc {n m k:Int} (hk:0<k):b9 (n*k) (m*k)=b9 n m/\bK (n*k) (m*k)=bK n m:=by
 have hg:M.gcd (n*k) (m*k)=M.gcd n m*k:=by
  unfold M.gcd;rw [Int.gcd_mul_right]
  push_cast
  rw [Int.natAbs_of_nonneg (by omega)]
 have t1:(n*k).tdiv (M.gcd n m*k)=n.tdiv (M.gcd n m):=Int.mul_tdiv_mul_of_pos_left n (M.gcd n m) hk;have t2:(m*k).tdiv (M.gcd n m*k)=m.tdiv (M.gcd n m):=Int.mul_tdiv_mul_of_pos_left m (M.gcd n m) hk
 by_cases hn:m<0
 ·have hn':m*k<0:=Int.mul_neg_of_neg_of_pos hn hk
  rw [fg hn',ff hn',fg hn,ff hn,hg,t1,t2];exact ⟨rfl,rfl⟩
 have hn':0<=m*k:=Int.mul_nonneg (by omega) (by omega);rw [dP (by omega),dO (by omega),dP (by omega),dO (by omega),hg,t1,t2];exact ⟨rfl,rfl⟩
theorem oX {t b x f:Int} (hb:0<b) (hf:0<f) (hg:Int.gcd x f=1) (h:b*x=t*f):b9 t b=x/\bK t b=f:=by
 have h1:f ∣ x*b:=⟨t,by rw [Int.mul_comm x b,h,Int.mul_comm]⟩
 have h2:=Int.dvd_gcd_mul_iff_dvd_mul.2 h1;rw [Int.gcd_comm,hg] at h2
 obtain ⟨k,hk⟩:=(by simpa using h2:f ∣ b)
 have hk0:0<k:=by
  rcases Int.lt_or_le 0 k with q | q
  ·exact q
  have:=Int.mul_nonneg_of_nonpos_of_nonpos (show -f<=0 by omega) q;rw [Int.neg_mul] at this;omega
 have ht:t=x*k:=by
  apply eU (show f≠0 by omega)
  rw [Int.mul_comm f t,←h,hk];clear h h1 h2 hk
  grind
 have hs:=rc (n:=x) (m:=f) hk0
 have hgg:M.gcd x f=1:=by unfold M.gcd;rw [hg];rfl
 rw [ht,hk];rw [hs.1,hs.2,dP (by omega),dO (by omega),hgg];simp
theorem oY {t b:Int} (hb:0<b):b*b9 t b=t*bK t b/\0<bK t b/\Int.gcd (b9 t b) (bK t b)=1:=by
 have hg:(0:Int)<M.gcd t b:=by
  unfold M.gcd;have:=Int.gcd_pos_of_ne_zero_right t (show b≠0 by omega);omega
 have d1:(M.gcd t b:Int) ∣ t:=Int.gcd_dvd_left ..;have d2:(M.gcd t b:Int) ∣ b:=Int.gcd_dvd_right ..;rw [dP (by omega),dO (by omega)];obtain ⟨u,hu⟩:=d1;obtain ⟨v,hv⟩:=d2
 have e1:t.tdiv (M.gcd t b)=u:=by
                     conv=>lhs;arg 1;rw [hu]
                     exact Int.mul_tdiv_cancel_left u (by omega)
 have e2:b.tdiv (M.gcd t b)=v:=by
                     conv=>lhs;arg 1;rw [hv]
                     exact Int.mul_tdiv_cancel_left v (by omega)
 rw [e1,e2]
 have hgu:M.gcd (M.gcd t b*u) (M.gcd t b*v)=M.gcd t b:=by rw [←hu,←hv]
 generalize M.gcd t b=g at *;unfold M.gcd at hgu;rw [Int.gcd_mul_left] at hgu
 push_cast at hgu
 rw [Int.natAbs_of_nonneg (by omega)] at hgu;refine ⟨?_,?_,?_⟩
 ·rw [hu,hv];clear hu hv e1 e2 hgu;grind
 ·rcases Int.lt_or_le 0 v with q | q
  ·exact q
  have:=Int.mul_nonneg_of_nonpos_of_nonpos (show -g<=0 by omega) q;rw [Int.neg_mul] at this;omega
 have:(Int.gcd u v:Int)=1:=by
  apply eU (show g≠0 by omega)
  omega
 omega
theorem nu {x e:Int}:Int.gcd x (e*e)=1 ↔ Int.gcd x e=1:=by
 unfold Int.gcd;rw [Int.natAbs_mul]
 constructor
 ·intro h
  exact Nat.Coprime.coprime_mul_left_right (show Nat.Coprime x.natAbs (e.natAbs*e.natAbs) from h)
 intro h;exact Nat.Coprime.mul_right (show Nat.Coprime x.natAbs e.natAbs from h) h
theorem tK {e:Int} (h:0<=e):root (e*e)=e:=(kS ⟨h,Int.le_refl _,by rw [Int.add_mul,Int.mul_add];omega⟩).symm
noncomputable def EJ (n m X1 E1 X2 E2:Int):Int:=root (bK (top n m X1 E1 X2 E2) (bot m E1 E2))
noncomputable def FO (n m X1 E1 X2 E2:Int):Int:=b9 (top n m X1 E1 X2 E2) (bot m E1 E2)
noncomputable def G1 (n m X1 Y1 E1 X2 E2:Int):Int:=(EJ n m X1 E1 X2 E2*fi n m X1 Y1 E1 (FO n m X1 E1 X2 E2) (EJ n m X1 E1 X2 E2)) / (m*E1*E1*E1)
noncomputable def ei (n m X1 E1 X2 E2:Int):Bool:=decide (EJ n m X1 E1 X2 E2*EJ n m X1 E1 X2 E2=bK (top n m X1 E1 X2 E2) (bot m E1 E2)) && decide (EJ n m X1 E1 X2 E2<=20) && M.ins (FO n m X1 E1 X2 E2) (-10000) 10000
theorem kG {m E1 E2:Int} (hm:m≠0) (he1:E1≠0) (he2:E2≠0):0<bot m E1 E2:=by
 have h:bot m E1 E2=(m*E1*E2)*(m*E1*E2):=by unfold bot;grind
 have h0:m*E1*E2≠0:=Int.mul_ne_zero (Int.mul_ne_zero hm he1) he2;rw [h]
 rcases Int.lt_or_gt_of_ne h0 with q | q
 ·exact Int.mul_pos_of_neg_of_neg q q
 exact Int.mul_pos q q
theorem Aw {n m X1 E1 X2 E2 x e:Int} (hm:m≠0) (he1:E1≠0) (he2:E2≠0) (h1:1<=e) (h2:e<=20) (h3:-10000<=x) (h4:x<=10000) (hg:Int.gcd x e=1) (hx:bot m E1 E2*x=top n m X1 E1 X2 E2*(e*e)):ei n m X1 E1 X2 E2=true/\FO n m X1 E1 X2 E2=x/\EJ n m X1 E1 X2 E2=e:=by
 have hp:=oX (kG hm he1 he2) (Int.mul_pos (by omega) (by omega)) (nu.2 hg) hx
 have hE:EJ n m X1 E1 X2 E2=e:=by unfold EJ;rw [hp.2];exact tK (by omega)
 have hX:FO n m X1 E1 X2 E2=x:=hp.1;refine ⟨?_,hX,hE⟩;unfold ei;rw [hE,hX,hp.2];simp [M.ins,h2,h3,h4]
theorem sK {n m X1 E1 X2 E2:Int} (hm:m≠0) (he1:E1≠0) (he2:E2≠0) (h:ei n m X1 E1 X2 E2=true):1<=EJ n m X1 E1 X2 E2/\EJ n m X1 E1 X2 E2<=20/\-10000<=FO n m X1 E1 X2 E2/\FO n m X1 E1 X2 E2<=10000/\Int.gcd (FO n m X1 E1 X2 E2) (EJ n m X1 E1 X2 E2)=1/\bot m E1 E2*FO n m X1 E1 X2 E2=top n m X1 E1 X2 E2*(EJ n m X1 E1 X2 E2*EJ n m X1 E1 X2 E2):=by
 have hp:=oY (t:=top n m X1 E1 X2 E2) (kG hm he1 he2);unfold ei at h;simp only [Bool.and_eq_true,decide_eq_true_eq,M.ins] at h;obtain ⟨⟨k1,k2⟩,k3,k4⟩:=h;rw [←k1] at hp;have hE:0<=EJ n m X1 E1 X2 E2:=(iF (by have:=hp.2.1;omega)).1;refine ⟨?_,k2,k3,k4,nu.1 hp.2.2,hp.1⟩
 rcases Int.lt_or_le 0 (EJ n m X1 E1 X2 E2) with q | q
 ·omega
 have:EJ n m X1 E1 X2 E2=0:=by omega
 have:=hp.2.1;rw [‹EJ n m X1 E1 X2 E2=0›] at this;omega
end M
end
section
namespace M
open Ieee
theorem O5 (neg:Bool) (n:Nat):Toward.even.cut neg n 0=n:=by
 unfold Toward.cut;simp [Nat.mod_one]
theorem BE {neg:Bool} {n drop k:Nat} (h:n<2 ^ (drop+k)):Toward.even.cut neg n drop<=2 ^ k:=by
 unfold Toward.cut
 dsimp only
 rw [Nat.one_shiftLeft]
 have hb:∀ b:Bool,b.toNat<=1:=fun b=>by cases b <;> decide
 have hp:0<2 ^ k:=Nat.two_pow_pos k;refine Nat.le_trans (Nat.add_le_add_left (hb _) _) ?_
 by_cases hd:drop<=n.log2+2
 ·rw [Nat.min_eq_left hd]
  have:n / 2 ^ drop<2 ^ k:=by
   rw [Nat.div_lt_iff_lt_mul (Nat.two_pow_pos _),←Nat.pow_add,Nat.add_comm k];exact h
  omega
 rw [Nat.min_eq_right (by omega)];have h1:n<2 ^ (n.log2+2):=Nat.lt_of_lt_of_le Nat.lt_log2_self (Nat.pow_le_pow_right (by decide) (by omega));rw [Nat.div_eq_of_lt h1];omega
theorem yd {neg:Bool} {n drop k:Nat} (h:n<2 ^ (drop+k)):Toward.zero.cut neg n drop<=2 ^ k:=by
 unfold Toward.cut
 dsimp only
 rw [Nat.one_shiftLeft]
 by_cases hd:drop<=n.log2+2
 ·rw [Nat.min_eq_left hd]
  have:n / 2 ^ drop<2 ^ k:=by
   rw [Nat.div_lt_iff_lt_mul (Nat.two_pow_pos _),←Nat.pow_add,Nat.add_comm k];exact h
  simp
  omega
 rw [Nat.min_eq_right (by omega)];have h1:n<2 ^ (n.log2+2):=Nat.lt_of_lt_of_le Nat.lt_log2_self (Nat.pow_le_pow_right (by decide) (by omega));rw [Nat.div_eq_of_lt h1];simp
theorem gl (n:Nat):∀ todo root:Nat,Datum.rootFrom n todo root<root+2 ^ todo
 | 0,root=>by simp [Datum.rootFrom]
 | todo+1,root=>by
  unfold Datum.rootFrom
  dsimp only
  have h1:=gl n todo (root+1 <<< todo);have h2:=gl n todo root;have h3:(1 <<< todo:Nat)=2 ^ todo:=Nat.one_shiftLeft todo
  have h4:2 ^ (todo+1)=2*2 ^ todo:=by rw [Nat.pow_succ];omega
  rw [h3] at h1 ⊢
  split <;> omega
theorem lX {ρ:Nat} (h:ρ<9218868437227405312):double.read ρ=if ρ<4503599627370496 then .number false ρ (-1074) else .number false (4503599627370496+ρ % 4503599627370496) (-1074+(ρ / 4503599627370496 - 1:Nat)):=by
 unfold Format.read;have e1:double.signWeight=9223372036854775808:=rfl;have e2:double.binade=4503599627370496:=rfl;have e3:double.infRung=9218868437227405312:=rfl
 have e4:double.leastPlace=-1074:=by decide
 rw [e1,e2,e3,e4];have h1:ρ % 9223372036854775808=ρ:=Nat.mod_eq_of_lt (by omega);have h2:ρ / 9223372036854775808=0:=Nat.div_eq_of_lt (by omega)
 dsimp only
 rw [h1,h2];simp only [h,if_true];rfl
theorem jV {n k:Nat} (h:n≠0):(n <<< k).log2=n.log2+k:=by
 rw [Nat.shiftLeft_eq];have h0:n*2 ^ k≠0:=Nat.mul_ne_zero h (Nat.pos_iff_ne_zero.1 (Nat.two_pow_pos k));refine Nat.le_antisymm ?_ ?_
 ·refine Nat.lt_succ_iff.1 ((Nat.log2_lt h0).2 ?_)
  rw [show (n.log2+k).succ=(n.log2+1)+k from by omega,Nat.pow_add];exact Nat.mul_lt_mul_of_pos_right Nat.lt_log2_self (Nat.two_pow_pos k)
 refine (Nat.le_log2 h0).2 ?_;rw [Nat.pow_add];exact Nat.mul_le_mul_right _ (Nat.log2_self_le h)
theorem mE {n:Nat} (h0:n≠0) (h:n<9007199254740992):double.read (double.nearest false n 0)=.number false (n <<< (52 - n.log2)) ((n.log2:Int) - 52):=by
 have hL:n.log2<=52:=Nat.lt_succ_iff.1 ((Nat.log2_lt h0).2 h);have hK:=jV (k:=52 - n.log2) h0;rw [show n.log2+(52 - n.log2)=52 from by omega] at hK
 have MI:n <<< (52 - n.log2)≠0:=by rw [Nat.shiftLeft_eq];exact Nat.mul_ne_zero h0 (Nat.pos_iff_ne_zero.1 (Nat.two_pow_pos _))
 have k1:=Nat.log2_self_le MI;have k2:=Nat.lt_log2_self (n:=n <<< (52 - n.log2));rw [hK] at k1 k2;generalize hk:n <<< (52 - n.log2)=K at *
 have e:double.nearest false n 0=(n.log2+1022)*4503599627370496+K:=by
  unfold Format.nearest;have e2:double.binade=4503599627370496:=rfl;have e3:double.infRung=9218868437227405312:=rfl
  have e4:double.leastPlace=-1074:=by decide
  have e5:double.fractionBits=52:=rfl;rw [if_neg h0,e2,e3,e4,e5]
  dsimp only
  have m1:max ((0:Int)+(n.log2:Int) - ((52:Nat):Int)) (-1074)=(n.log2:Int) - 52:=by omega
  rw [m1]
  have m2:((0:Int) - ((n.log2:Int) - 52)).toNat=52 - n.log2:=by omega
  have m3:((n.log2:Int) - 52 - 0).toNat=0:=by omega
  have m4:((n.log2:Int) - 52 - -1074).toNat=n.log2+1022:=by omega
  rw [m2,m3,hk,O5,m4,Nat.min_eq_left (by omega)];rfl
 rw [e,lX (by omega),if_neg (by omega)]
 have d1:((n.log2+1022)*4503599627370496+K) % 4503599627370496=K - 4503599627370496:=by omega
 have d2:((n.log2+1022)*4503599627370496+K) / 4503599627370496=n.log2+1023:=by omega
 rw [d1,d2,show 4503599627370496+(K - 4503599627370496)=K from by omega,show -1074+((n.log2+1023 - 1:Nat):Int)=(n.log2:Int) - 52 from by omega]
theorem so {m:Nat} {i:Int} (hm:m<2 ^ 53) (hi:i<=-30):∃ R:Int,(Datum.number false m i).toInt .zero=some R/\0<=R/\R<=8388608:=by
 have hz:i.toNat=0:=by omega
 have h1:=yd (neg:=false) (n:=m) (drop:=(-i).toNat) (k:=23) (Nat.lt_of_lt_of_le hm (Nat.pow_le_pow_right (by decide) (by omega)));rw [show (2:Nat) ^ 23=8388608 from rfl] at h1;refine ⟨(Toward.zero.cut false m (-i).toNat:Nat),?_,by omega,by omega⟩;unfold Datum.toInt Datum.integral
 dsimp only
 rw [hz,Nat.shiftLeft_zero];simp [signed]
theorem wk {ρ:Nat} (hρ:ρ<=4706261610602168320):∃ R:Int,(double.read ρ).toInt .zero=some R/\0<=R/\R<=8388608:=by
 have hmd:=Nat.mod_lt ρ (show 0<4503599627370496 from by decide);rw [lX (by omega)];have e53:(9007199254740992:Nat)=2 ^ 53:=rfl
 by_cases hs:ρ<4503599627370496
 ·rw [if_pos hs]
  exact so (by rw [←e53];omega) (by omega)
 rw [if_neg hs];exact so (by rw [←e53];omega) (by omega)
theorem y9 {mag:Nat} {cH:Int}:Toward.even.cut false (mag <<< (cH - (cH+mag.log2 - 52)).toNat) (cH+mag.log2 - 52 - cH).toNat<=2 ^ 53:=by
 refine BE ?_;have h3:=Nat.lt_log2_self (n:=mag);rw [Nat.shiftLeft_eq]
 rcases Nat.lt_or_ge mag.log2 53 with q | q
 ·have z1:(cH - (cH+mag.log2 - 52)).toNat=52 - mag.log2:=by omega
  have z2:(cH+mag.log2 - 52 - cH).toNat=0:=by omega
  have h4:=Nat.mul_lt_mul_of_pos_right h3 (Nat.two_pow_pos (52 - mag.log2));rw [←Nat.pow_add,show mag.log2+1+(52 - mag.log2)=53 from by omega] at h4;rw [z1,z2,Nat.zero_add];exact h4
 have z1:(cH - (cH+mag.log2 - 52)).toNat=0:=by omega
 have z2:(cH+mag.log2 - 52 - cH).toNat=mag.log2 - 52:=by omega
 rw [z1,z2,Nat.pow_zero,Nat.mul_one,show mag.log2 - 52+53=mag.log2+1 from by omega];exact h3
theorem uP {mag:Nat} {cH:Int} (h:mag<2 ^ 56) (h1:-200<=cH) (h2:cH<=-34):double.nearest false mag cH<=4706261610602168320:=by
 unfold Format.nearest;have e2:double.binade=4503599627370496:=rfl
 have e4:double.leastPlace=-1074:=by decide
 have e5:double.fractionBits=52:=rfl
 have w0:∀ x,double.word false x=x:=fun x=>rfl
 by_cases h0:mag=0
 ·rw [if_pos h0,w0];omega
 rw [if_neg h0,e2,e4,e5,w0];have hl:mag.log2<=55:=Nat.lt_succ_iff.1 ((Nat.log2_lt h0).2 h)
 have m1:max (cH+(mag.log2:Int) - ((52:Nat):Int)) (-1074)=cH+mag.log2 - 52:=by omega
 rw [m1];refine Nat.le_trans (Nat.min_le_left _ _) ?_;have hc:=y9 (mag:=mag) (cH:=cH);rw [show (2:Nat) ^ 53=9007199254740992 from rfl] at hc
 have hb:(cH+mag.log2 - 52 - -1074).toNat<=1043:=by omega
 have hb2:=Nat.mul_le_mul_right 4503599627370496 hb;exact Nat.le_trans (Nat.add_le_add hb2 hc) (by decide)
theorem uF {mag:Nat} {cH:Int} (h:mag<2 ^ 56) (h1:-200<=cH) (h2:cH<=-34) :
  ∃ R:Int,(double.read (double.nearest false mag cH)).toInt .zero=some R/\0<=R/\R<=8388608:=wk (uP h h1 h2)
theorem rk {n:Nat} (h:n<8796093022208):∃ r:Nat,double.sqrt (double.nearest false n 0)=some r/\∃ R:Int,(double.read r).toInt .zero=some R/\0<=R/\R<=8388608:=by
 by_cases h0:n=0
 ·subst h0
  exact ⟨_,rfl,_,rfl,by decide,by decide⟩
 have hL:n.log2<=42:=Nat.lt_succ_iff.1 ((Nat.log2_lt h0).2 h);have hK:=jV (k:=52 - n.log2) h0;rw [show n.log2+(52 - n.log2)=52 from by omega] at hK
 have MI:n <<< (52 - n.log2)≠0:=by rw [Nat.shiftLeft_eq];exact Nat.mul_ne_zero h0 (Nat.pos_iff_ne_zero.1 (Nat.two_pow_pos _))
 unfold Format.sqrt;rw [mE h0 (by omega)];generalize n <<< (52 - n.log2)=K at *;generalize hn:n.log2=l at *;unfold Datum.root
 dsimp only
 have e5:double.fractionBits=52:=rfl;rw [if_neg MI,e5,hK];simp only [Bool.false_eq_true,if_false,Option.map_some];refine ⟨_,rfl,?_⟩
 have hr:(((l:Int) - 52 - ((2*(52+2) - 52:Nat):Int)) % 2).toNat<=1:=by omega
 generalize hmm:(((l:Int) - 52 - ((2*(52+2) - 52:Nat):Int)) % 2).toNat=b at *;unfold Format.write
 dsimp only
 refine uF ?_ ?_ ?_
 ·have hx:=gl (K <<< (2*(52+2) - 52+b)) ((K <<< (2*(52+2) - 52+b)).log2 / 2+1) 0
  have hy:(K <<< (2*(52+2) - 52+b)).log2 / 2+1<=55:=by rw [jV MI];omega
  have hz:=Nat.pow_le_pow_right (n:=2) (by decide) hy
  have hb:∀ c:Bool,c.toNat<=1:=fun c=>by cases c <;> decide
  rw [show (2:Nat) ^ 55=36028797018963968 from rfl] at hz;rw [show (2:Nat) ^ 56=72057594037927936 from rfl];have:=hb (Datum.rootFrom (K <<< (2*(52+2) - 52+b)) ((K <<< (2*(52+2) - 52+b)).log2 / 2+1) 0*Datum.rootFrom (K <<< (2*(52+2) - 52+b)) ((K <<< (2*(52+2) - 52+b)).log2 / 2+1) 0 != K <<< (2*(52+2) - 52+b));omega
 ·omega
 omega
end M
theorem rm {n:Int} (h0:0<=n) (h:n<=8000000000000):∃ r:Nat,FloatKind.f64.format.sqrt (FloatKind.f64.nearest n)=some r/\∃ R:Int,floatToIntVal .f64 r .i64=some R/\0<=R/\R<=8388608:=by
 obtain ⟨r,h1,R,h2,h3,h4⟩:=M.rk (n:=n.natAbs) (by omega);refine ⟨r,?_,R,?_,h3,h4⟩
 ·have e:FloatKind.f64.nearest n=Ieee.double.nearest false n.natAbs 0:=by
   unfold FloatKind.nearest FloatKind.encode Ieee.Format.write
   dsimp only
   rw [show decide (n<0)=false from by simp;omega];rfl
  rw [e];exact h1
 unfold floatToIntVal;rw [show (FloatKind.f64.decode r).toInt .zero=some R from h2]
 dsimp only
 rw [if_pos]
 have a1:IntKind.i64.min=-9223372036854775808:=by decide
 have a2:IntKind.i64.max=9223372036854775807:=by decide
 omega
end
section
open Go.RowKit
noncomputable def M.iH (n:Int):Bool:=decide (0<=n) && (M.root n*M.root n == n)
theorem M.iz {n r:Int} (h:r*r=n):M.iH n=true:=by
 have h0:0<=n:=by
  rw [←h]
  rcases Int.le_total 0 r with q | q
  ·exact Int.mul_nonneg q q
  exact Int.mul_nonneg_of_nonpos_of_nonpos q q
 have hr:=M.kS (n:=n) (r:=(r.natAbs:Int)) ⟨by omega,by rw [←h];exact Int.le_of_eq (Int.natAbs_mul_self' r),by
  have:(r.natAbs:Int)*(r.natAbs:Int)=r*r:=Int.natAbs_mul_self' r;rw [←h,←this,Int.mul_add,Int.add_mul]
  omega⟩
 unfold M.iH;rw [←hr,Int.natAbs_mul_self',h];simp [h0]
theorem M.yu {n r:Int} (h0:0<=r) (h1:r*r<n) (h2:n<(r+1)*(r+1)):M.iH n=false:=by
 have h3:0<=r*r:=Int.mul_nonneg h0 h0;have hr:=M.kS (n:=n) (r:=r) ⟨h0,by omega,h2⟩;unfold M.iH;rw [←hr,show (r*r == n)=false from by simp;omega];simp
theorem M.wl {n:Int} (h:n<0):M.iH n=false:=by
 unfold M.iH;rw [show decide (0<=n)=false from by simp;omega];rfl
theorem ui (x r:Nat) (h:FloatKind.f64.format.sqrt x=some r) (W:World):(callFunc 145 #[.float .f64 x]).run Tryz.prog W=.ok (.value (.float .f64 r)) W:=by
 rw [run_callFunc_extern Tryz.func145 (by kernel_rfl) (by kernel_rfl) (by kernel_rfl) (e:=Extern.MathSqrt.sqrt) (by kernel_rfl)]
 have e:(Extern.MathSqrt.sqrt #[.float .f64 x]).run Tryz.prog W=.ok (.float .f64 r) W:=by
  change Sem.run Tryz.prog (match FloatKind.f64.format.sqrt x with
   | some r=>pure (Value.float .f64 r)
   | none=>do pure (Value.float .f64 (←choose (.nanBits .f64 x x)))) W=_
  rw [h];rfl
 rw [e];rfl
theorem At (x r:Nat) (h:FloatKind.f64.format.sqrt x=some r) (w:World) :
  Calls Tryz.prog 126 #[.float .f64 x] w fun e w'=>e=.returned (.float .f64 r)/\w=w':=by
 have hd:=ui x r h;go_enter Tryz.func126,Tryz.ntmps126
 go_wp2;go_ret;exact ⟨rfl,rfl⟩
noncomputable def M.rt (n:Int):Int:=if M.iH n then M.root n else 0
theorem M.ot {n r:Int} (h0:0<=r) (h:r*r=n):M.rt n=r:=by
 unfold M.rt;rw [M.iz h,if_pos rfl,←h];exact M.tK h0
theorem M.xl {n:Int} (h:M.iH n=false):M.rt n=0:=by
 unfold M.rt;rw [h];rfl
theorem iw (n:Int) (w:World) (h1:n<=8000000000000) :
  Calls Tryz.prog 85 #[n] w fun e w'=>e=.returned (.tuple #[M.rt n,M.iH n])/\w=w':=by
 by_cases h0:n<0
 ·have hz:=M.wl h0
  have hv:=M.xl hz;go_enter Tryz.func85,Tryz.ntmps85
  go_wp2;go_ret2;exact ⟨by rw [hz,hv];rfl,rfl⟩
 obtain ⟨r,hs,R,hR,R0,R1⟩:=rm (n:=n) (by omega) h1
 have hc:=fun W=>run_convert_float_int (P:=Tryz.prog) W 143 3 .f64 .i64 r R (by kernel_rfl) (by kernel_rfl) hR
 have hs':FloatKind.f64.format.sqrt (floatOfInt .f64 n)=some r:=hs
 have hcall:=fun W=>At (floatOfInt .f64 n) r hs' W
 clear hs hs' hR;have HH:=DB hcall;clear hcall;go_enter Tryz.func85,Tryz.ntmps85
 go_wp2_with (go_at_call 126;refine (HH.out _).mono ?_;rintro e w' ⟨rfl,rfl⟩)
 go_loop [4] (fun vr=>∃ a:Int,vr=.int .i64 a/\0<=a/\a<=8388608) (fun vr=>(intOf vr).toNat)
 case atStart=>exact ⟨R,rfl,R0,R1⟩
 case round=>
 obtain ⟨a,rfl,a0,a1⟩:=hrel;have hb:=M.oM (x:=a) (y:=a) (m:=8388608) (n:=8388608) a0 a1 a0 a1
 by_cases c:n<a*a
 ·have ha:1<=a:=by
   rcases Int.lt_or_le a 1 with q | q
   ·obtain rfl:a=0:=by omega
    simp at c
    omega
   exact q
  go_wp2
  go_round
  case rel=>exact ⟨a - 1,rfl,by omega,by omega⟩
  case measure=>simp [intOf];omega
 clear HH hc;go_wp2
 go_loop [4] (fun vr=>∃ a:Int,vr=.int .i64 a/\0<=a/\a<=8388608/\a*a<=n) (fun vr=>(8388608 - intOf vr).toNat)
 case atStart=>exact ⟨a,rfl,a0,a1,by omega⟩
 case round=>
 obtain ⟨b,rfl,b0,b1,b2⟩:=hrel;have hbb:=M.oM (x:=b+1) (y:=b+1) (m:=8388609) (n:=8388609) (by omega) (by omega) (by omega) (by omega);have hb3:=M.oM (x:=b) (y:=b) (m:=8388608) (n:=8388608) b0 b1 b0 b1
 by_cases d:(b+1)*(b+1)<=n
 ·have hlt:b+1<8388608:=by
   rcases Int.lt_or_le (b+1) 8388608 with q | q
   ·exact q
   have:=Int.mul_le_mul q q (by omega) (by omega);omega
  go_wp2
  go_round
  case rel=>exact ⟨b+1,rfl,by omega,by omega,d⟩
  case measure=>simp [intOf];omega
 by_cases f:b*b=n
 ·have hz:=M.iz f
  have hv:=M.ot b0 f;go_wp2;go_ret2
  first | (rw [hz,hv];exact ⟨rfl,rfl⟩) | (rw [hv];exact ⟨rfl,rfl⟩) | (rw [hv];rfl) | exact ⟨rfl,rfl⟩ | rfl
 have hz:=M.yu (n:=n) b0 (by omega) (by omega);have hv:=M.xl hz;go_wp2;go_ret2
 first | (rw [hz,hv];exact ⟨rfl,rfl⟩) | (rw [hv];exact ⟨rfl,rfl⟩) | (rw [hv];rfl) | exact ⟨rfl,rfl⟩ | rfl
namespace M
theorem uT {t b:Int} (hb:b<0):b9 t b=b9 (-t) (-b)/\bK t b=bK (-t) (-b):=by
 have hg:M.gcd (-t) (-b)=M.gcd t b:=by unfold M.gcd;rw [Int.gcd_neg,Int.neg_gcd]
 rw [fg hb,ff hb,dP (by omega),dO (by omega),hg,Int.neg_tdiv,Int.neg_tdiv];exact ⟨rfl,rfl⟩
theorem ge {t b:Int} (hb:b≠0):b*b9 t b=t*bK t b/\0<bK t b/\Int.gcd (b9 t b) (bK t b)=1:=by
 rcases Int.lt_or_gt_of_ne hb with h | h
 ·obtain ⟨e1,e2⟩:=uT (t:=t) h
  obtain ⟨k1,k2,k3⟩:=oY (t:=-t) (b:=-b) (by omega);rw [e1,e2];refine ⟨?_,k2,k3⟩;rw [Int.neg_mul,Int.neg_mul] at k1;omega
 exact oY h
theorem iD {t b:Int} (hb:b≠0):(b9 t b).natAbs<=t.natAbs/\(bK t b).natAbs<=b.natAbs:=by
 obtain ⟨k1,k2,k3⟩:=ge (t:=t) hb
 have d1:bK t b ∣ b:=by
  have:bK t b ∣ b9 t b*b:=⟨t,by rw [Int.mul_comm,k1,Int.mul_comm]⟩
  have h:=Int.dvd_gcd_mul_iff_dvd_mul.2 this;rw [Int.gcd_comm,k3] at h
  simpa using h
 have d2:b9 t b ∣ t:=by
  have:b9 t b ∣ bK t b*t:=⟨b,by rw [Int.mul_comm,←k1,Int.mul_comm]⟩
  have h:=Int.dvd_gcd_mul_iff_dvd_mul.2 this;rw [k3] at h
  simpa using h
 refine ⟨?_,Nat.le_of_dvd (by omega) (Int.natAbs_dvd_natAbs.2 d1)⟩
 by_cases ht:t=0
 ·subst ht
  have:b*b9 0 b=0:=by rw [k1];simp
  rcases Int.mul_eq_zero.1 this with h | h
  ·exact absurd h hb
  rw [h];simp
 exact Nat.le_of_dvd (by omega) (Int.natAbs_dvd_natAbs.2 d2)
theorem tO {a X1 Y1 E1 X2 Y2 E2:Int} (h:sD X1 Y1 E1 X2 Y2 E2≠0):EC a X1 Y1 E1 X2 Y2 E2*sD X1 Y1 E1 X2 Y2 E2=Dz a X1 Y1 E1 X2 Y2 E2*sN a X1 Y1 E1 X2 Y2 E2/\0<Dz a X1 Y1 E1 X2 Y2 E2/\Int.gcd (EC a X1 Y1 E1 X2 Y2 E2) (Dz a X1 Y1 E1 X2 Y2 E2)=1/\(EC a X1 Y1 E1 X2 Y2 E2).natAbs<=(sN a X1 Y1 E1 X2 Y2 E2).natAbs/\(Dz a X1 Y1 E1 X2 Y2 E2).natAbs<=(sD X1 Y1 E1 X2 Y2 E2).natAbs:=by
 unfold EC Dz;rw [if_neg h,if_neg h];obtain ⟨k1,k2,k3⟩:=ge (t:=sN a X1 Y1 E1 X2 Y2 E2) h;obtain ⟨k4,k5⟩:=iD (t:=sN a X1 Y1 E1 X2 Y2 E2) h;exact ⟨by rw [Int.mul_comm,k1,Int.mul_comm],k2,k3,k4,k5⟩
theorem pP {n m X1 E1 X2 E2:Int} (hm:m≠0) (he1:1<=E1) (he2:E1<=20) (FE:1<=E2) (Fj:E2<=20) (hx1:X1<=10000) (hx2:X2<=10000) (hg:Int.gcd n m=1) (h:ei n m X1 E1 X2 E2=true):(m.natAbs:Int)<=8000/\(n.natAbs:Int)<=200*(m.natAbs:Int):=by
 obtain ⟨k1,k2,k3,k4,k5,k6⟩:=sK hm (by omega) (by omega) h;refine ⟨?_,nH (xw he1 FE k1 hx1 hx2 k4 k6)⟩;have hd:=uh hg k6;generalize EJ n m X1 E1 X2 E2=e at *;have p1:=M.aH (x:=E1) (y:=E2) (m:=20) (n:=20);have p2:=M.aH (x:=E1*E2) (y:=e) (m:=400) (n:=20);have p3:0<E1*E2*e:=Int.mul_pos (Int.mul_pos (by omega) (by omega)) (by omega);have:=Nat.le_of_dvd (by omega) (Int.natAbs_dvd_natAbs.2 hd);omega
theorem CP {a b X1 Y1 E1 X2 Y2 E2 n m:Int} (h1:Y1*Y1=cv a b X1 E1) (h2:Y2*Y2=cv a b X2 E2) (he1:E1≠0) (he2:E2≠0) (hm:m≠0) (hs:n*sD X1 Y1 E1 X2 Y2 E2=m*sN a X1 Y1 E1 X2 Y2 E2) (hd:sD X1 Y1 E1 X2 Y2 E2≠0) (h:ei n m X1 E1 X2 E2=true) :
  EJ n m X1 E1 X2 E2*fi n m X1 Y1 E1 (FO n m X1 E1 X2 E2) (EJ n m X1 E1 X2 E2)=m*E1*E1*E1*G1 n m X1 Y1 E1 X2 E2/\G1 n m X1 Y1 E1 X2 E2*G1 n m X1 Y1 E1 X2 E2=cv a b (FO n m X1 E1 X2 E2) (EJ n m X1 E1 X2 E2):=by
 obtain ⟨k1,k2,k3,k4,k5,k6⟩:=sK hm he1 he2 h;obtain ⟨y,hy1,hy2⟩:=AC h1 h2 he1 he2 hm hs hd k6
 have:G1 n m X1 Y1 E1 X2 E2=y:=by
  unfold G1;rw [hy1];exact Int.mul_ediv_cancel_left y (Int.mul_ne_zero (Int.mul_ne_zero (Int.mul_ne_zero hm he1) he1) he1)
 rw [this];exact ⟨hy1,hy2⟩
theorem Cy {n d X1 Y1 E1 x e Y up under y bottom:Int} (hd:0<d) (he1:0<E1) (he:0<e) (hY:e*fi n d X1 Y1 E1 x e=d*E1*E1*E1*Y) (k1:d*(E1*E1)*e*e*up=n*(X1*e*e - x*(E1*E1))*under) (ku:0<under) (k2:under*(E1*E1)*E1*y=(up*(E1*E1)*E1 - Y1*under)*bottom) (kb:0<bottom) (kg:Int.gcd y bottom=1):y*(e*e*e).tdiv bottom=Y:=by
 have q1:(d*E1*E1*E1*under*E1*E1)*(e*e*e*y)=(d*E1*E1*E1*under*E1*E1)*(Y*bottom):=by
  unfold fi at hY
  have s1:(d*E1*E1*E1*under*E1*E1)*(e*e*e*y)=d*E1*E1*e*e*e*(under*(E1*E1)*E1*y):=by clear hY k1 k2;grind
  have s2:d*E1*E1*e*e*e*((up*(E1*E1)*E1 - Y1*under)*bottom)=e*bottom*E1*E1*E1*(d*(E1*E1)*e*e*up) - d*E1*E1*e*e*e*Y1*under*bottom:=by clear hY k1 k2 s1;grind
  have s3:e*bottom*E1*E1*E1*(n*(X1*e*e - x*(E1*E1))*under) - d*E1*E1*e*e*e*Y1*under*bottom=bottom*under*E1*E1*(e*(n*(X1*e*e - x*E1*E1)*E1 - Y1*d*e*e)):=by clear hY k1 k2 s1 s2;grind
  rw [s1,k2,s2,k1,s3,hY];clear hY k1 k2 s1 s2 s3
  grind
 have q2:e*e*e*y=Y*bottom:=eU (by
                            repeat' apply Int.mul_ne_zero
                            all_goals omega) q1
 have q3:bottom ∣ y*(e*e*e):=⟨Y,by rw [Int.mul_comm y,q2,Int.mul_comm]⟩
 have q4:=Int.dvd_gcd_mul_iff_dvd_mul.2 q3;rw [Int.gcd_comm,kg] at q4
 obtain ⟨k,hk⟩:=(by simpa using q4:bottom ∣ e*e*e)
 rw [hk,Int.mul_tdiv_cancel_left k (by omega)];rw [hk] at q2
 apply eU (show bottom≠0 by omega)
 rw [Int.mul_comm bottom Y,←q2];clear q1 q2 q3 q4 hk hY k1 k2
 grind
theorem Bh {m E1 e s Y r:Int} (hm:m≠0) (he1:0<E1) (he:0<e) (hY:e*s=m*E1*E1*E1*Y) (hr:0<=r) (h:r*r=Y*Y):(if decide (s<0) != decide (m<0) then -r else r)=Y:=by
 have hE:0<E1*E1*E1:=Int.mul_pos (Int.mul_pos he1 he1) he1
 have hY2:e*s=E1*E1*E1*(m*Y):=by rw [hY];clear hY h;grind
 have hr2:r=Y∨r=-Y:=by
  have:(r - Y)*(r+Y)=0:=by clear hY hY2;grind
  rcases Int.mul_eq_zero.1 this with h | h
  ·left;omega
  right;omega
 have hs1:s<0 ↔ m*Y<0:=by
  constructor
  ·intro q
   rcases Int.lt_or_le (m*Y) 0 with p | p
   ·exact p
   have a1:=Int.mul_nonneg (show 0<=E1*E1*E1 by omega) p;have a2:=Int.mul_neg_of_pos_of_neg he q;omega
  intro q
  rcases Int.lt_or_le s 0 with p | p
  ·exact p
  have a1:=Int.mul_nonneg (show 0<=e by omega) p;have a2:=Int.mul_neg_of_pos_of_neg hE q;omega
 have hs2:decide (s<0)=decide (m*Y<0):=by simpa using hs1
 rw [hs2];clear hY hY2 hs2 hs1 h
 rcases Int.lt_or_gt_of_ne hm with q | q
 ·rw [decide_eq_true q]
  rcases Int.lt_trichotomy Y 0 with p | p | p
  ·rw [decide_eq_false (by have:=Int.mul_pos_of_neg_of_neg q p;omega)]
   simp;omega
  ·subst p;rw [Int.mul_zero];simp;omega
  rw [decide_eq_true (Int.mul_neg_of_neg_of_pos q p)];simp;omega
 rw [decide_eq_false (show ¬ m<0 by omega)]
 rcases Int.lt_trichotomy Y 0 with p | p | p
 ·rw [decide_eq_true (Int.mul_neg_of_pos_of_neg q p)]
  simp;omega
 ·subst p;rw [Int.mul_zero];simp;omega
 rw [decide_eq_false (by have:=Int.mul_pos q p;omega)];simp;omega
end M
end
end Go.Proofs.YtkalaljcbmkbmaaGreat
