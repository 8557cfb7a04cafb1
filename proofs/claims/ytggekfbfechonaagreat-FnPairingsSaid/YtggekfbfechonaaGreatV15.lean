/-
  Joined texts: contracts and plain lemmas.
-/
import Derived.Test.YtggekfbfechonaaGreatV1
import Derived.Test.YtggekfbfechonaaGreatV14
import Derived.Test.YtggekfbfechonaaGreatV9
import Derived.Test.YtggekfbfechonaaGreatV11
import Derived.Test.YtggekfbfechonaaGreatV10
import Derived.Test.YtggekfbfechonaaGreatV13
set_option linter.unusedSimpArgs false
set_option linter.unusedVariables false
set_option maxRecDepth 100000
set_option maxHeartbeats 8000000
namespace Go.Proofs.YtggekfbfechonaaGreat
section
open Go.RowKit
namespace M
theorem sQ {s:Sp} (h:AP s):pick (s.isSome && aM (yT s) (yS s)) (pn (yT s))=xp s∧pick (s.isSome && aM (yT s) (yS s)) (pd (yT s))=xr s∧pick (s.isSome && aM (yT s) (yS s)) (pn (yS s))=xu s∧pick (s.isSome && aM (yT s) (yS s)) (pd (yS s))=xv s∧(s.isSome && aM (yT s) (yS s))=s.isSome:=by
 cases s with
 | none=>exact ⟨rfl,rfl,rfl,rfl,rfl⟩
 | some p=>
 have hs:=h p rfl;have e:((some p:Sp).isSome && aM (yT (some p)) (yS (some p)))=true:=hs;rw [e];exact ⟨rfl,rfl,rfl,rfl,rfl⟩
noncomputable def cO (a b X Y E:Int):Bool:=good a b && bB a b X Y E
theorem bp {a b X Y E:Int} (h:cO a b X Y E=true):good a b=true∧bB a b X Y E=true:=by
 unfold cO at h
 rwa [Bool.and_eq_true] at h
noncomputable def cF (a b X1 Y1 E1 X2 Y2 E2:Int):Sp:=gd (cO a b X1 Y1 E1 && cO a b X2 Y2 E2) (dA a b X1 Y1 E1 X2 Y2 E2)
noncomputable def eR (a b X Y E:Int):Sp:=gd (cO a b X Y E) (dZ a b X E)
noncomputable def dY (a b X Y E:Int):Sp:=gd (cO a b X Y E) (bR a b X E)
noncomputable def l9 (a b X Y E:Int):Int:=pick (dY a b X Y E).isSome (bN a b X E:Nat)
theorem gl (s:Sp):gd false s=none:=rfl
theorem fZ {a b X1 Y1 E1 X2 Y2 E2:Int} (hg:good a b=true) (hp:bB a b X1 Y1 E1=true) (hq:bB a b X2 Y2 E2=true):AP (dA a b X1 Y1 E1 X2 Y2 E2):=by
 unfold dA
 split
 ·exact lM
 exact di
theorem mh {a b X Y E:Int}:AP (dZ a b X E):=by
 unfold dZ;exact tq
theorem kL {a b X Y E:Int} (hg:good a b=true) (hp:bB a b X Y E=true):AP (bR a b X E):=by
 obtain ⟨p1,p2,p3,p4,-,-⟩:=b6 (am hg) hp;exact dh (am hg) p1 p2 p3 p4
end M
theorem pD (a b X1 Y1 E1 X2 Y2 E2:Int) (w:World) :
  Calls Tryz.prog 84 #[.agg #[.int .i64 a,.int .i64 b],.agg #[.int .i64 X1,.int .i64 Y1,.int .i64 E1],.agg #[.int .i64 X2,.int .i64 Y2,.int .i64 E2]] w fun e w'=>e=.returned (.bool (M.cO a b X1 Y1 E1 && M.cO a b X2 Y2 E2))∧Below w.heap.size w w':=by
 have P1:∀ W,Calls Tryz.prog 62 #[.agg #[.int .i64 a,.int .i64 b],.agg #[.int .i64 X1,.int .i64 Y1,.int .i64 E1]] W fun e w'=>e=.returned (.bool (M.cO a b X1 Y1 E1))∧Below W.heap.size W w':=fun W=>eS a b X1 Y1 E1 W
 have P2:∀ W,Calls Tryz.prog 62 #[.agg #[.int .i64 a,.int .i64 b],.agg #[.int .i64 X2,.int .i64 Y2,.int .i64 E2]] W fun e w'=>e=.returned (.bool (M.cO a b X2 Y2 E2))∧Below W.heap.size W w':=fun W=>eS a b X2 Y2 E2 W
 generalize M.cO a b X2 Y2 E2=s2,M.cO a b X1 Y1 E1=s1 at *;replace P2:=xL P2;obtain ⟨wc,hw3,C,Q,U,B⟩:=fM w #[.int .i64 a,.int .i64 b] 25 #[.int .i64 X1,.int .i64 Y1,.int .i64 E1] 27 #[.int .i64 X2,.int .i64 Y2,.int .i64 E2] 27;have f_:=C.box.c0;have i_:=C.box.c1;have ⟨q0,q1,q2⟩:=Q.aK;have ⟨u0,u1,u2⟩:=U.aK;cases s1
 ·replace P1:=xL P1
  go_enter Tryz.func84,Tryz.ntmps84
  go_wp2_with (go_at_call 62;(with_reducible refine (P1.out _).mono ?_);rintro e w4 ⟨rfl,hb4⟩;replace B:=d_ B hb4;replace C:=C.keep hb4;replace Q:=Q.keep hb4;replace U:=U.keep hb4;have f_:=C.box.c0;have i_:=C.box.c1;(have ⟨q0,q1,q2⟩:=Q.aK);(have ⟨u0,u1,u2⟩:=U.aK))
  exact bodyPost_ret (v:=.bool false) (by simp [results,Tryz.results84,go_sem, *]) rfl (⟨rfl,B⟩)
 replace P1:=xL P1;go_enter Tryz.func84,Tryz.ntmps84
 go_wp2_with (first | (go_at_call 62;(with_reducible refine (P1.out _).mono ?_);rintro e w4 ⟨rfl,hb4⟩;replace B:=d_ B hb4;replace C:=C.keep hb4;replace Q:=Q.keep hb4;replace U:=U.keep hb4;have f_:=C.box.c0;have i_:=C.box.c1;(have ⟨q0,q1,q2⟩:=Q.aK);(have ⟨u0,u1,u2⟩:=U.aK)) | (go_at_call 62;(with_reducible refine (P2.out _).mono ?_);rintro e w5 ⟨rfl,hb5⟩;replace B:=d_ B hb5;replace C:=C.keep hb5;replace Q:=Q.keep hb5;replace U:=U.keep hb5;have f_:=C.box.c0;have i_:=C.box.c1;(have ⟨q0,q1,q2⟩:=Q.aK);(have ⟨u0,u1,u2⟩:=U.aK)))
 exact bodyPost_ret (v:=.bool s2) (by simp [results,Tryz.results84,go_sem, *]) rfl (⟨by rw [Bool.true_and],B⟩)
theorem dp (a b X1 Y1 E1 X2 Y2 E2:Int) (w:World) :
  Calls Tryz.prog 24 #[.agg #[.int .i64 a,.int .i64 b],.agg #[.int .i64 X1,.int .i64 Y1,.int .i64 E1],.agg #[.int .i64 X2,.int .i64 Y2,.int .i64 E2]] w fun e w'=>e=.returned (.tuple #[.agg #[.int .i64 (M.xp (M.cF a b X1 Y1 E1 X2 Y2 E2)),.int .i64 (M.xr (M.cF a b X1 Y1 E1 X2 Y2 E2)),.int .i64 (M.xu (M.cF a b X1 Y1 E1 X2 Y2 E2)),.int .i64 (M.xv (M.cF a b X1 Y1 E1 X2 Y2 E2))],.bool (M.cF a b X1 Y1 E1 X2 Y2 E2).isSome])∧Below w.heap.size w w':=by
 have y_:∀ W,Calls Tryz.prog 55 #[.agg #[.int .i64 a,.int .i64 b],.agg #[.int .i64 X1,.int .i64 Y1,.int .i64 E1]] W fun e w'=>e=.returned (.bool (M.cO a b X1 Y1 E1))∧Below W.heap.size W w':=fun W=>dM a b X1 Y1 E1 W
 have zO:∀ W,Calls Tryz.prog 55 #[.agg #[.int .i64 a,.int .i64 b],.agg #[.int .i64 X2,.int .i64 Y2,.int .i64 E2]] W fun e w'=>e=.returned (.bool (M.cO a b X2 Y2 E2))∧Below W.heap.size W w':=fun W=>dM a b X2 Y2 E2 W
 unfold M.cF;obtain ⟨wc,hw3,C,Q,U,R,B⟩:=fO w #[.int .i64 a,.int .i64 b] 25 #[.int .i64 X1,.int .i64 Y1,.int .i64 E1] 27 #[.int .i64 X2,.int .i64 Y2,.int .i64 E2] 27 #[.int .i64 0,.int .i64 0,.int .i64 0,.int .i64 0] 33;have f_:=C.box.c0;have i_:=C.box.c1;have ⟨q0,q1,q2⟩:=Q.aK;have ⟨u0,u1,u2⟩:=U.aK
 cases h0:M.cO a b X1 Y1 E1 with
 | false=>
  simp only [h0,Bool.true_and,Bool.false_and,Bool.and_false] at y_ zO ⊢;replace y_:=xL y_;replace zO:=xL zO;rw [M.gl];go_enter Tryz.func24,Tryz.ntmps24
  go_wp2_with (first | (go_at_call 55;(with_reducible refine (y_.out _).mono ?_);rintro e w4 ⟨rfl,hb4⟩;replace B:=d_ B hb4;replace C:=C.keep hb4;replace Q:=Q.keep hb4;replace U:=U.keep hb4;replace R:=R.keep hb4;have f_:=C.box.c0;have i_:=C.box.c1;(have ⟨q0,q1,q2⟩:=Q.aK);(have ⟨u0,u1,u2⟩:=U.aK);(have ⟨r0,r1,r2,r3,z0,z1,z2,z3,rl⟩:=R.aN)) | (go_at_call 55;(with_reducible refine (zO.out _).mono ?_);rintro e w5 ⟨rfl,hb5⟩;replace B:=d_ B hb5;replace C:=C.keep hb5;replace Q:=Q.keep hb5;replace U:=U.keep hb5;replace R:=R.keep hb5;have f_:=C.box.c0;have i_:=C.box.c1;(have ⟨q0,q1,q2⟩:=Q.aK);(have ⟨u0,u1,u2⟩:=U.aK);(have ⟨r0,r1,r2,r3,z0,z1,z2,z3,rl⟩:=R.aN)))
  exact bodyPost_ret (v:=.tuple #[.agg #[.int .i64 0,.int .i64 0,.int .i64 0,.int .i64 0],.bool false]) (by simp [results,Tryz.results24,go_sem, *]) rfl (⟨rfl,xN (xN (xN (xN B (by dsimp only;omega) _) (by dsimp only;omega) _) (by dsimp only;omega) _) (by dsimp only;omega) _⟩)
 | true=>
 cases h1:M.cO a b X2 Y2 E2 with
 | false=>
  simp only [h0,h1,Bool.true_and,Bool.false_and,Bool.and_false] at y_ zO ⊢;replace y_:=xL y_;replace zO:=xL zO;rw [M.gl];go_enter Tryz.func24,Tryz.ntmps24
  go_wp2_with (first | (go_at_call 55;(with_reducible refine (y_.out _).mono ?_);rintro e w4 ⟨rfl,hb4⟩;replace B:=d_ B hb4;replace C:=C.keep hb4;replace Q:=Q.keep hb4;replace U:=U.keep hb4;replace R:=R.keep hb4;have f_:=C.box.c0;have i_:=C.box.c1;(have ⟨q0,q1,q2⟩:=Q.aK);(have ⟨u0,u1,u2⟩:=U.aK);(have ⟨r0,r1,r2,r3,z0,z1,z2,z3,rl⟩:=R.aN)) | (go_at_call 55;(with_reducible refine (zO.out _).mono ?_);rintro e w5 ⟨rfl,hb5⟩;replace B:=d_ B hb5;replace C:=C.keep hb5;replace Q:=Q.keep hb5;replace U:=U.keep hb5;replace R:=R.keep hb5;have f_:=C.box.c0;have i_:=C.box.c1;(have ⟨q0,q1,q2⟩:=Q.aK);(have ⟨u0,u1,u2⟩:=U.aK);(have ⟨r0,r1,r2,r3,z0,z1,z2,z3,rl⟩:=R.aN)))
  exact bodyPost_ret (v:=.tuple #[.agg #[.int .i64 0,.int .i64 0,.int .i64 0,.int .i64 0],.bool false]) (by simp [results,Tryz.results24,go_sem, *]) rfl (⟨rfl,xN (xN (xN (xN B (by dsimp only;omega) _) (by dsimp only;omega) _) (by dsimp only;omega) _) (by dsimp only;omega) _⟩)
 | true=>
 simp only [h0,h1,Bool.true_and,Bool.and_self] at y_ zO ⊢;rw [M.co];replace y_:=xL y_;replace zO:=xL zO;obtain ⟨hg,hp1⟩:=M.bp h0;obtain ⟨-,hp2⟩:=M.bp h1
 have PR:=fun W=>kP a b X1 Y1 E1 X2 Y2 E2 W hg hp1 hp2
 have hok:M.AP (M.dA a b X1 Y1 E1 X2 Y2 E2):=M.fZ hg hp1 hp2;clear h0 h1 hg hp1 hp2;generalize M.dA a b X1 Y1 E1 X2 Y2 E2=rv at *
 have PI:=fun W=>fA (M.yT rv) (M.yS rv) rv.isSome W
 obtain ⟨I5,I6,I7,I8,I9⟩:=M.sQ hok;rw [I5,I6,I7,I8,I9] at PI;clear I5 I6 I7 I8 I9 hok;generalize M.yS rv=hi,M.yT rv=lo,rv.isSome=f,M.xv rv=i4,M.xu rv=i3,M.xr rv=i2,M.xp rv=i1 at *;replace PR:=xL PR;replace PI:=xL PI;go_enter Tryz.func24,Tryz.ntmps24
 go_wp2_with (first | (go_at_call 55;(with_reducible refine (y_.out _).mono ?_);rintro e w4 ⟨rfl,hb4⟩;replace B:=d_ B hb4;replace C:=C.keep hb4;replace Q:=Q.keep hb4;replace U:=U.keep hb4;replace R:=R.keep hb4;have f_:=C.box.c0;have i_:=C.box.c1;(have ⟨q0,q1,q2⟩:=Q.aK);(have ⟨u0,u1,u2⟩:=U.aK);(have ⟨r0,r1,r2,r3,z0,z1,z2,z3,rl⟩:=R.aN)) | (go_at_call 55;(with_reducible refine (zO.out _).mono ?_);rintro e w5 ⟨rfl,hb5⟩;replace B:=d_ B hb5;replace C:=C.keep hb5;replace Q:=Q.keep hb5;replace U:=U.keep hb5;replace R:=R.keep hb5;have f_:=C.box.c0;have i_:=C.box.c1;(have ⟨q0,q1,q2⟩:=Q.aK);(have ⟨u0,u1,u2⟩:=U.aK);(have ⟨r0,r1,r2,r3,z0,z1,z2,z3,rl⟩:=R.aN)) | (go_at_call 83;(with_reducible refine (PR.out _).mono ?_);rintro e w7 ⟨rfl,yC⟩;replace B:=d_ B yC;replace C:=C.keep yC;replace Q:=Q.keep yC;replace U:=U.keep yC;replace R:=R.keep yC;have f_:=C.box.c0;have i_:=C.box.c1;(have ⟨q0,q1,q2⟩:=Q.aK);(have ⟨u0,u1,u2⟩:=U.aK);(have ⟨r0,r1,r2,r3,z0,z1,z2,z3,rl⟩:=R.aN);have DW:=B.size;replace B:=B.alloc DW (.cells #[.int .i64 lo,.int .i64 hi] 74);replace R:=R.alloc (.cells #[.int .i64 lo,.int .i64 hi] 74);have V:=aH.new w7 #[.int .i64 lo,.int .i64 hi] 74;(have ⟨r0,r1,r2,r3,z0,z1,z2,z3,rl⟩:=R.aN);(have ⟨v0,v1,_,_,_⟩:=V.box)) | (go_at_call 58;(with_reducible refine (PI.out _).mono ?_);rintro e w8 ⟨rfl,xw⟩;replace B:=d_ B xw;replace R:=R.keep xw;(have ⟨r0,r1,r2,r3,z0,z1,z2,z3,rl⟩:=R.aN)))
 exact bodyPost_ret (v:=.tuple #[.agg #[.int .i64 i1,.int .i64 i2,.int .i64 i3,.int .i64 i4],.bool f]) (by simp [results,Tryz.results24,go_sem, *]) rfl (⟨rfl,xN (xN (xN (xN B (by dsimp only;omega) _) (by dsimp only;omega) _) (by dsimp only;omega) _) (by dsimp only;omega) _⟩)
theorem fL (a b X1 Y1 E1 X2 Y2 E2:Int) (w:World) :
  Calls Tryz.prog 25 #[.agg #[.int .i64 a,.int .i64 b],.agg #[.int .i64 X1,.int .i64 Y1,.int .i64 E1],.agg #[.int .i64 X2,.int .i64 Y2,.int .i64 E2]] w fun e w'=>e=.returned (.tuple #[.agg #[.int .i64 (M.xp (M.cF a b X1 Y1 E1 X2 Y2 E2)),.int .i64 (M.xr (M.cF a b X1 Y1 E1 X2 Y2 E2)),.int .i64 (M.xu (M.cF a b X1 Y1 E1 X2 Y2 E2)),.int .i64 (M.xv (M.cF a b X1 Y1 E1 X2 Y2 E2))],.bool (M.cF a b X1 Y1 E1 X2 Y2 E2).isSome])∧Below w.heap.size w w':=by
 have PT:=fun W=>pD a b X1 Y1 E1 X2 Y2 E2 W
 unfold M.cF;obtain ⟨wc,hw3,C,Q,U,R,B⟩:=fO w #[.int .i64 a,.int .i64 b] 25 #[.int .i64 X1,.int .i64 Y1,.int .i64 E1] 27 #[.int .i64 X2,.int .i64 Y2,.int .i64 E2] 27 #[.int .i64 0,.int .i64 0,.int .i64 0,.int .i64 0] 33;have f_:=C.box.c0;have i_:=C.box.c1;have ⟨q0,q1,q2⟩:=Q.aK;have ⟨u0,u1,u2⟩:=U.aK
 cases h0:M.cO a b X1 Y1 E1 with
 | false=>
  simp only [h0,Bool.true_and,Bool.false_and,Bool.and_false] at PT ⊢;replace PT:=xL PT;rw [M.gl];go_enter Tryz.func25,Tryz.ntmps25
  go_wp2_with (first | (go_at_call 84;(with_reducible refine (PT.out _).mono ?_);rintro e w4 ⟨rfl,hb4⟩;replace B:=d_ B hb4;replace C:=C.keep hb4;replace Q:=Q.keep hb4;replace U:=U.keep hb4;replace R:=R.keep hb4;have f_:=C.box.c0;have i_:=C.box.c1;(have ⟨q0,q1,q2⟩:=Q.aK);(have ⟨u0,u1,u2⟩:=U.aK);(have ⟨r0,r1,r2,r3,z0,z1,z2,z3,rl⟩:=R.aN)))
  exact bodyPost_ret (v:=.tuple #[.agg #[.int .i64 0,.int .i64 0,.int .i64 0,.int .i64 0],.bool false]) (by simp [results,Tryz.results25,go_sem, *]) rfl (⟨rfl,xN (xN (xN (xN B (by dsimp only;omega) _) (by dsimp only;omega) _) (by dsimp only;omega) _) (by dsimp only;omega) _⟩)
 | true=>
 cases h1:M.cO a b X2 Y2 E2 with
 | false=>
  simp only [h0,h1,Bool.true_and,Bool.false_and,Bool.and_false] at PT ⊢;replace PT:=xL PT;rw [M.gl];go_enter Tryz.func25,Tryz.ntmps25
  go_wp2_with (first | (go_at_call 84;(with_reducible refine (PT.out _).mono ?_);rintro e w4 ⟨rfl,hb4⟩;replace B:=d_ B hb4;replace C:=C.keep hb4;replace Q:=Q.keep hb4;replace U:=U.keep hb4;replace R:=R.keep hb4;have f_:=C.box.c0;have i_:=C.box.c1;(have ⟨q0,q1,q2⟩:=Q.aK);(have ⟨u0,u1,u2⟩:=U.aK);(have ⟨r0,r1,r2,r3,z0,z1,z2,z3,rl⟩:=R.aN)))
  exact bodyPost_ret (v:=.tuple #[.agg #[.int .i64 0,.int .i64 0,.int .i64 0,.int .i64 0],.bool false]) (by simp [results,Tryz.results25,go_sem, *]) rfl (⟨rfl,xN (xN (xN (xN B (by dsimp only;omega) _) (by dsimp only;omega) _) (by dsimp only;omega) _) (by dsimp only;omega) _⟩)
 | true=>
 simp only [h0,h1,Bool.true_and,Bool.and_self] at PT ⊢;rw [M.co];replace PT:=xL PT;obtain ⟨hg,hp1⟩:=M.bp h0;obtain ⟨-,hp2⟩:=M.bp h1
 have PR:=fun W=>ri a b X1 Y1 E1 X2 Y2 E2 W hg hp1 hp2
 have hok:M.AP (M.dA a b X1 Y1 E1 X2 Y2 E2):=M.fZ hg hp1 hp2;clear h0 h1 hg hp1 hp2;generalize M.dA a b X1 Y1 E1 X2 Y2 E2=rv at *;generalize M.xv rv=i4,M.xu rv=i3,M.xr rv=i2,M.xp rv=i1 at *;clear hok;generalize rv.isSome=f at *;replace PR:=xL PR;go_enter Tryz.func25,Tryz.ntmps25
 go_wp2_with (first | (go_at_call 84;(with_reducible refine (PT.out _).mono ?_);rintro e w4 ⟨rfl,hb4⟩;replace B:=d_ B hb4;replace C:=C.keep hb4;replace Q:=Q.keep hb4;replace U:=U.keep hb4;replace R:=R.keep hb4;have f_:=C.box.c0;have i_:=C.box.c1;(have ⟨q0,q1,q2⟩:=Q.aK);(have ⟨u0,u1,u2⟩:=U.aK);(have ⟨r0,r1,r2,r3,z0,z1,z2,z3,rl⟩:=R.aN)) | (go_at_call 85;(with_reducible refine (PR.out _).mono ?_);rintro e w7 ⟨rfl,yC⟩;replace B:=d_ B yC;replace R:=R.keep yC;(have ⟨r0,r1,r2,r3,z0,z1,z2,z3,rl⟩:=R.aN)))
 exact bodyPost_ret (v:=.tuple #[.agg #[.int .i64 i1,.int .i64 i2,.int .i64 i3,.int .i64 i4],.bool f]) (by simp [results,Tryz.results25,go_sem, *]) rfl (⟨rfl,xN (xN (xN (xN B (by dsimp only;omega) _) (by dsimp only;omega) _) (by dsimp only;omega) _) (by dsimp only;omega) _⟩)
theorem gn (a b X Y E:Int) (w:World) :
  Calls Tryz.prog 31 #[.agg #[.int .i64 a,.int .i64 b],.agg #[.int .i64 X,.int .i64 Y,.int .i64 E]] w fun e w'=>e=.returned (.tuple #[.agg #[.int .i64 (M.xp (M.eR a b X Y E)),.int .i64 (M.xr (M.eR a b X Y E)),.int .i64 (M.xu (M.eR a b X Y E)),.int .i64 (M.xv (M.eR a b X Y E))],.bool (M.eR a b X Y E).isSome])∧Below w.heap.size w w':=by
 have PT:∀ W,Calls Tryz.prog 55 #[.agg #[.int .i64 a,.int .i64 b],.agg #[.int .i64 X,.int .i64 Y,.int .i64 E]] W fun e w'=>e=.returned (.bool (M.cO a b X Y E))∧Below W.heap.size W w':=fun W=>dM a b X Y E W
 unfold M.eR;obtain ⟨wc,hw3,C,Q,R,B⟩:=fM w #[.int .i64 a,.int .i64 b] 25 #[.int .i64 X,.int .i64 Y,.int .i64 E] 27 #[.int .i64 0,.int .i64 0,.int .i64 0,.int .i64 0] 33;have f_:=C.box.c0;have i_:=C.box.c1;have ⟨q0,q1,q2⟩:=Q.aK
 cases h0:M.cO a b X Y E with
 | false=>
  simp only [h0,Bool.true_and,Bool.false_and,Bool.and_false] at PT ⊢;replace PT:=xL PT;rw [M.gl];go_enter Tryz.func31,Tryz.ntmps31
  go_wp2_with (first | (go_at_call 55;(with_reducible refine (PT.out _).mono ?_);rintro e w4 ⟨rfl,hb4⟩;replace B:=d_ B hb4;replace C:=C.keep hb4;replace Q:=Q.keep hb4;replace R:=R.keep hb4;have f_:=C.box.c0;have i_:=C.box.c1;(have ⟨q0,q1,q2⟩:=Q.aK);(have ⟨r0,r1,r2,r3,z0,z1,z2,z3,rl⟩:=R.aN)))
  exact bodyPost_ret (v:=.tuple #[.agg #[.int .i64 0,.int .i64 0,.int .i64 0,.int .i64 0],.bool false]) (by simp [results,Tryz.results31,go_sem, *]) rfl (⟨rfl,xN (xN (xN (xN B (by dsimp only;omega) _) (by dsimp only;omega) _) (by dsimp only;omega) _) (by dsimp only;omega) _⟩)
 | true=>
 simp only [h0,Bool.true_and,Bool.and_self] at PT ⊢;rw [M.co];replace PT:=xL PT;obtain ⟨hg,hp1⟩:=M.bp h0;obtain ⟨p1,p2,p3,p4,-,-⟩:=M.b6 (M.am hg) hp1
 have PR:=fun W=>jw a b X Y E W hg p1 p2 p3 p4
 have hok:M.AP (M.dZ a b X E):=M.mh (Y:=Y);clear h0 hg hp1 p1 p2 p3 p4;generalize M.dZ a b X E=rv at *
 have PI:=fun W=>fA (M.yT rv) (M.yS rv) rv.isSome W
 obtain ⟨I5,I6,I7,I8,I9⟩:=M.sQ hok;rw [I5,I6,I7,I8,I9] at PI;clear I5 I6 I7 I8 I9 hok;generalize M.yS rv=hi,M.yT rv=lo,rv.isSome=f,M.xv rv=i4,M.xu rv=i3,M.xr rv=i2,M.xp rv=i1 at *;replace PR:=xL PR;replace PI:=xL PI;go_enter Tryz.func31,Tryz.ntmps31
 go_wp2_with (first | (go_at_call 55;(with_reducible refine (PT.out _).mono ?_);rintro e w4 ⟨rfl,hb4⟩;replace B:=d_ B hb4;replace C:=C.keep hb4;replace Q:=Q.keep hb4;replace R:=R.keep hb4;have f_:=C.box.c0;have i_:=C.box.c1;(have ⟨q0,q1,q2⟩:=Q.aK);(have ⟨r0,r1,r2,r3,z0,z1,z2,z3,rl⟩:=R.aN)) | (go_at_call 97;(with_reducible refine (PR.out _).mono ?_);rintro e w7 ⟨rfl,yC⟩;replace B:=d_ B yC;replace C:=C.keep yC;replace Q:=Q.keep yC;replace R:=R.keep yC;have f_:=C.box.c0;have i_:=C.box.c1;(have ⟨q0,q1,q2⟩:=Q.aK);(have ⟨r0,r1,r2,r3,z0,z1,z2,z3,rl⟩:=R.aN);have DW:=B.size;replace B:=B.alloc DW (.cells #[.int .i64 lo,.int .i64 hi] 74);replace R:=R.alloc (.cells #[.int .i64 lo,.int .i64 hi] 74);have V:=aH.new w7 #[.int .i64 lo,.int .i64 hi] 74;(have ⟨r0,r1,r2,r3,z0,z1,z2,z3,rl⟩:=R.aN);(have ⟨v0,v1,_,_,_⟩:=V.box)) | (go_at_call 58;(with_reducible refine (PI.out _).mono ?_);rintro e w8 ⟨rfl,xw⟩;replace B:=d_ B xw;replace R:=R.keep xw;(have ⟨r0,r1,r2,r3,z0,z1,z2,z3,rl⟩:=R.aN)))
 exact bodyPost_ret (v:=.tuple #[.agg #[.int .i64 i1,.int .i64 i2,.int .i64 i3,.int .i64 i4],.bool f]) (by simp [results,Tryz.results31,go_sem, *]) rfl (⟨rfl,xN (xN (xN (xN B (by dsimp only;omega) _) (by dsimp only;omega) _) (by dsimp only;omega) _) (by dsimp only;omega) _⟩)
theorem iA (a b X Y E:Int) (w:World) :
  Calls Tryz.prog 32 #[.agg #[.int .i64 a,.int .i64 b],.agg #[.int .i64 X,.int .i64 Y,.int .i64 E]] w fun e w'=>e=.returned (.tuple #[.agg #[.int .i64 (M.xp (M.eR a b X Y E)),.int .i64 (M.xr (M.eR a b X Y E)),.int .i64 (M.xu (M.eR a b X Y E)),.int .i64 (M.xv (M.eR a b X Y E))],.bool (M.eR a b X Y E).isSome])∧Below w.heap.size w w':=by
 have PT:∀ W,Calls Tryz.prog 62 #[.agg #[.int .i64 a,.int .i64 b],.agg #[.int .i64 X,.int .i64 Y,.int .i64 E]] W fun e w'=>e=.returned (.bool (M.cO a b X Y E))∧Below W.heap.size W w':=fun W=>eS a b X Y E W
 unfold M.eR;obtain ⟨wc,hw3,C,Q,R,B⟩:=fM w #[.int .i64 a,.int .i64 b] 25 #[.int .i64 X,.int .i64 Y,.int .i64 E] 27 #[.int .i64 0,.int .i64 0,.int .i64 0,.int .i64 0] 33;have f_:=C.box.c0;have i_:=C.box.c1;have ⟨q0,q1,q2⟩:=Q.aK
 cases h0:M.cO a b X Y E with
 | false=>
  simp only [h0,Bool.true_and,Bool.false_and,Bool.and_false] at PT ⊢;replace PT:=xL PT;rw [M.gl];go_enter Tryz.func32,Tryz.ntmps32
  go_wp2_with (first | (go_at_call 62;(with_reducible refine (PT.out _).mono ?_);rintro e w4 ⟨rfl,hb4⟩;replace B:=d_ B hb4;replace C:=C.keep hb4;replace Q:=Q.keep hb4;replace R:=R.keep hb4;have f_:=C.box.c0;have i_:=C.box.c1;(have ⟨q0,q1,q2⟩:=Q.aK);(have ⟨r0,r1,r2,r3,z0,z1,z2,z3,rl⟩:=R.aN)))
  exact bodyPost_ret (v:=.tuple #[.agg #[.int .i64 0,.int .i64 0,.int .i64 0,.int .i64 0],.bool false]) (by simp [results,Tryz.results32,go_sem, *]) rfl (⟨rfl,xN (xN (xN (xN B (by dsimp only;omega) _) (by dsimp only;omega) _) (by dsimp only;omega) _) (by dsimp only;omega) _⟩)
 | true=>
 simp only [h0,Bool.true_and,Bool.and_self] at PT ⊢;rw [M.co];replace PT:=xL PT;obtain ⟨hg,hp1⟩:=M.bp h0;obtain ⟨p1,p2,p3,p4,-,-⟩:=M.b6 (M.am hg) hp1
 have PR:=fun W=>rj a b X Y E W hg p1 p2 p3 p4
 have hok:M.AP (M.dZ a b X E):=M.mh (Y:=Y);clear h0 hg hp1 p1 p2 p3 p4;generalize M.dZ a b X E=rv at *;generalize M.xv rv=i4,M.xu rv=i3,M.xr rv=i2,M.xp rv=i1 at *;clear hok;generalize rv.isSome=f at *;replace PR:=xL PR;go_enter Tryz.func32,Tryz.ntmps32
 go_wp2_with (first | (go_at_call 62;(with_reducible refine (PT.out _).mono ?_);rintro e w4 ⟨rfl,hb4⟩;replace B:=d_ B hb4;replace C:=C.keep hb4;replace Q:=Q.keep hb4;replace R:=R.keep hb4;have f_:=C.box.c0;have i_:=C.box.c1;(have ⟨q0,q1,q2⟩:=Q.aK);(have ⟨r0,r1,r2,r3,z0,z1,z2,z3,rl⟩:=R.aN)) | (go_at_call 98;(with_reducible refine (PR.out _).mono ?_);rintro e w7 ⟨rfl,yC⟩;replace B:=d_ B yC;replace R:=R.keep yC;(have ⟨r0,r1,r2,r3,z0,z1,z2,z3,rl⟩:=R.aN)))
 exact bodyPost_ret (v:=.tuple #[.agg #[.int .i64 i1,.int .i64 i2,.int .i64 i3,.int .i64 i4],.bool f]) (by simp [results,Tryz.results32,go_sem, *]) rfl (⟨rfl,xN (xN (xN (xN B (by dsimp only;omega) _) (by dsimp only;omega) _) (by dsimp only;omega) _) (by dsimp only;omega) _⟩)
end
section
namespace M
inductive xh where
 | O:xh
 | fin (x y:Rat):xh
namespace xh
def On (a b:Rat):xh→Prop
 | O=>True
 | .fin x y=>y*y=x*x*x+a*x+b
def neg:xh→xh
 | O=>O
 | .fin x y=>.fin x (-y)
def Slp (a x1 y1 x2 y2 l:Rat):Prop:=y1 - y2=l*(x1 - x2)∧l*(y1+y2)=x1*x1+x1*x2+x2*x2+a
def lam (a x1 y1 x2 y2:Rat):Rat:=if x1=x2 then (3*x1*x1+a) / (2*y1) else (y1 - y2) / (x1 - x2)
def thd (x1 y1 x2 l:Rat):xh:=.fin (l*l - x1 - x2) (l*(x1 - (l*l - x1 - x2)) - y1)
def add (a:Rat):xh→xh→xh
 | O,Q=>Q
 | .fin x y,O=>.fin x y
 | .fin x1 y1,.fin x2 y2=>if x1=x2∧y1=-y2 then O else thd x1 y1 x2 (lam a x1 y1 x2 y2)
theorem wC (a:Rat) (P:xh):add a O P=P:=rfl
theorem jz (a:Rat) (P:xh):add a P O=P:=by cases P <;> rfl
theorem eW {a b x1 y1 x2 y2:Rat} (h1:On a b (.fin x1 y1)) (h2:On a b (.fin x2 y2)) (h:¬ (x1=x2∧y1=-y2)):Slp a x1 y1 x2 y2 (lam a x1 y1 x2 y2):=by
 unfold On at h1 h2;unfold Slp lam
 split
 ·rename_i hx
  subst hx
  have h3:(y1 - y2)*(y1+y2)=0:=by grind
  have h4:y1=y2:=by
   rcases Rat.mul_eq_zero.1 h3 with h4 | h4
   ·grind
   exact absurd ⟨rfl,by grind⟩ h
  subst h4
  have h5:y1≠0:=fun h0=>h ⟨rfl,by grind⟩
  constructor
  ·grind
  grind
 rename_i hx
 have h5:x1 - x2≠0:=by grind
 constructor
 ·grind
 grind
theorem pc {a b x1 y1 x2 y2 l:Rat} (hd:4*a*a*a+27*b*b≠0) (h1:On a b (.fin x1 y1)) (h:Slp a x1 y1 x2 y2 l):¬ (x1=x2∧y1=-y2):=by
 rintro ⟨rfl,hy⟩;unfold On at h1;obtain ⟨e1,e2⟩:=h
 have h0:y1=0:=by grind
 have h00:y2=0:=by grind
 subst h0 h00
 apply hd
 have e3:a=-3*x1*x1:=by grind
 have e4:b=2*x1*x1*x1:=by grind
 grind
theorem su {a b x1 y1 x2 y2 l l':Rat} (hd:4*a*a*a+27*b*b≠0) (h1:On a b (.fin x1 y1)) (h:Slp a x1 y1 x2 y2 l) (h':Slp a x1 y1 x2 y2 l'):l=l':=by
 have hn:=pc hd h1 h;obtain ⟨e1,e2⟩:=h;obtain ⟨f1,f2⟩:=h'
 by_cases hx:x1=x2
 ·have hy:y1+y2≠0:=fun h0=>hn ⟨hx,by grind⟩
  grind
 have:x1 - x2≠0:=by grind
 grind
theorem cY {a b x1 y1 x2 y2 l:Rat} (hd:4*a*a*a+27*b*b≠0) (h1:On a b (.fin x1 y1)) (h2:On a b (.fin x2 y2)) (h:Slp a x1 y1 x2 y2 l):add a (.fin x1 y1) (.fin x2 y2)=thd x1 y1 x2 l:=by
 have hn:=pc hd h1 h;have hl:=su hd h1 h (eW h1 h2 hn)
 show (if x1=x2∧y1=-y2 then O else thd x1 y1 x2 (lam a x1 y1 x2 y2))=_
 rw [if_neg hn,←hl]
theorem cH {a x1 y1 x2 y2:Rat} (h:x1=x2∧y1=-y2):add a (.fin x1 y1) (.fin x2 y2)=O:=if_pos h
theorem lk {a b x1 y1 x2 y2 l:Rat} (h1:On a b (.fin x1 y1)) (h:Slp a x1 y1 x2 y2 l):On a b (thd x1 y1 x2 l):=by
 unfold thd On at *;obtain ⟨e1,e2⟩:=h
 grind
theorem gE {a b:Rat} (hd:4*a*a*a+27*b*b≠0) {P Q:xh} (h1:On a b P) (h2:On a b Q):On a b (add a P Q):=by
 cases P with
 | O=>exact h2
 | fin x1 y1=>
 cases Q with
 | O=>exact h1
 | fin x2 y2=>
 by_cases hv:x1=x2∧y1=-y2
 ·rw [cH hv];trivial
 have:=eW h1 h2 hv;rw [cY hd h1 h2 this];exact lk h1 this
theorem dr {a b:Rat} {P:xh} (h:On a b P):On a b (neg P):=by
 cases P with
 | O=>trivial
 | fin x y=>unfold neg On at *;grind
theorem neg_neg (P:xh):neg (neg P)=P:=by
 cases P with
 | O=>rfl
 | fin x y=>unfold neg;simp
theorem Slp.symm {a x1 y1 x2 y2 l:Rat} (h:Slp a x1 y1 x2 y2 l):Slp a x2 y2 x1 y1 l:=by
 obtain ⟨e1,e2⟩:=h
 constructor <;> grind
theorem s9 {a x1 y1 x2 y2 l:Rat} (h:Slp a x1 y1 x2 y2 l):thd x1 y1 x2 l=thd x2 y2 x1 l:=by
 obtain ⟨e1,e2⟩:=h;unfold thd
 congr 1
 ·grind
 grind
theorem add_comm {a b:Rat} (hd:4*a*a*a+27*b*b≠0) {P Q:xh} (h1:On a b P) (h2:On a b Q):add a P Q=add a Q P:=by
 cases P with
 | O=>exact (jz a Q).symm
 | fin x1 y1=>
 cases Q with
 | O=>rfl
 | fin x2 y2=>
 by_cases hv:x1=x2∧y1=-y2
 ·rw [cH hv,cH]
  exact ⟨hv.1.symm,by grind⟩
 have:=eW h1 h2 hv;rw [cY hd h1 h2 this,cY hd h2 h1 this.symm,s9 this]
theorem dR (a:Rat) (P:xh):add a (neg P) P=O:=by
 cases P with
 | O=>rfl
 | fin x y=>exact cH ⟨rfl,rfl⟩
theorem pJ {a b:Rat} (hd:4*a*a*a+27*b*b≠0) {P Q:xh} (h1:On a b P) (h2:On a b Q):neg (add a P Q)=add a (neg P) (neg Q):=by
 cases P with
 | O=>rfl
 | fin x1 y1=>
 cases Q with
 | O=>rfl
 | fin x2 y2=>
 by_cases hv:x1=x2∧y1=-y2
 ·rw [cH hv]
  show O=add a (.fin x1 (-y1)) (.fin x2 (-y2))
  rw [cH];exact ⟨hv.1,by grind⟩
 have h3:=eW h1 h2 hv
 have h4:Slp a x1 (-y1) x2 (-y2) (-lam a x1 y1 x2 y2):=by
  obtain ⟨e1,e2⟩:=h3
  constructor <;> grind
 rw [cY hd h1 h2 h3]
 show _=add a (.fin x1 (-y1)) (.fin x2 (-y2))
 rw [cY hd (dr h1) (dr h2) h4];unfold thd neg
 congr 1 <;> grind
theorem rJ {a b:Rat} (hd:4*a*a*a+27*b*b≠0) {P Q:xh} (h1:On a b P) (h2:On a b Q):add a (neg P) (add a P Q)=Q:=by
 cases P with
 | O=>rfl
 | fin x1 y1=>
 cases Q with
 | O=>exact dR a _
 | fin x2 y2=>
 by_cases hv:x1=x2∧y1=-y2
 ·rw [cH hv]
  show xh.fin x1 (-y1)=xh.fin x2 y2
  rw [hv.1,hv.2]
  congr 1
  grind
 have h3:=eW h1 h2 hv;generalize lam a x1 y1 x2 y2=l at h3;rw [cY hd h1 h2 h3];have h5:=lk h1 h3
 have h4:Slp a x1 (-y1) (l*l - x1 - x2) (l*(x1 - (l*l - x1 - x2)) - y1) (-l):=by
  obtain ⟨e1,e2⟩:=h3;unfold On at *
  constructor
  ·grind
  grind
 show add a (.fin x1 (-y1)) (.fin _ _)=_
 rw [cY hd (dr h1) h5 h4];obtain ⟨e1,e2⟩:=h3;unfold thd
 congr 1 <;> grind
theorem q9 {a x1 y1 x y x3 y3 l m:Rat} (hl:Slp a x1 y1 x y l) (hm:Slp a x y x3 y3 m) (hne:l≠m) :
  ∃ n r,Slp a (l*l - x1 - x) (l*(x1 - (l*l - x1 - x)) - y1) x3 y3 n∧Slp a x1 y1 (m*m - x - x3) (m*(x - (m*m - x - x3)) - y) r∧
   thd (l*l - x1 - x) (l*(x1 - (l*l - x1 - x)) - y1) x3 n=thd x1 y1 (m*m - x - x3) r:=by
 have hd:l - m≠0:=by grind
 obtain ⟨w,hw⟩:∃ w,w*(l - m)=x3 - x1:=⟨(x3 - x1) / (l - m),by grind⟩
 obtain ⟨e1,e2⟩:=hl;obtain ⟨f1,f2⟩:=hm
 have k1:2*y*(l - m)=(x3 - x)*(m*m - x1 - x - x3) - (x1 - x)*(l*l - x1 - x - x3):=by grind
 have k2:2*y+(l+m)*(x3 - x)=w*(l*l - x1 - x - x3):=by
  have:(l - m)*(2*y+(l+m)*(x3 - x))=(l - m)*(w*(l*l - x1 - x - x3)):=by grind
  grind
 have k3:2*y+(l+m)*(x1 - x)=w*(m*m - x1 - x - x3):=by
  have:(l - m)*(2*y+(l+m)*(x1 - x))=(l - m)*(w*(m*m - x1 - x - x3)):=by grind
  grind
 refine ⟨-l - w,-m - w,⟨?_,?_⟩,⟨?_,?_⟩,?_⟩
 ·grind
 ·grind
 ·grind
 ·grind
 unfold thd
 congr 1
 ·grind
 grind
theorem fh {a b:Rat} (hd:4*a*a*a+27*b*b≠0) {P Q R:xh} (h1:On a b P) (h2:On a b Q) (h3:On a b R):add a (add a P Q) R=add a P (add a Q R):=by
 cases P with
 | O=>rfl
 | fin x1 y1=>
 cases Q with
 | O=>rfl
 | fin x y=>
 cases R with
 | O=>rw [jz,jz]
 | fin x3 y3=>
 by_cases v1:x1=x∧y1=-y
 ·rw [cH v1]
  have:=rJ hd h2 h3;rw [show xh.fin x1 y1=neg (.fin x y) by rw [v1.1,v1.2];rfl,this];rfl
 by_cases v2:x=x3∧y=-y3
 ·rw [cH v2,jz,add_comm hd (gE hd h1 h2) h3,add_comm hd h1 h2]
  have:=rJ hd h2 h1;rw [show xh.fin x3 y3=neg (.fin x y) by rw [v2.1,v2.2];unfold neg;simp,this]
 have hl:=eW h1 h2 v1;have hm:=eW h2 h3 v2;generalize lam a x1 y1 x y=l at hl;generalize lam a x y x3 y3=m at hm;rw [cY hd h1 h2 hl,cY hd h2 h3 hm];have hS:=lk h1 hl;have hT:=lk h2 hm
 by_cases hlm:l=m
 ·subst hlm
  obtain ⟨e1,e2⟩:=id hl;obtain ⟨f1,f2⟩:=id hm
  have k:(x3 - x1)*(l*l - x1 - x - x3)=0:=by grind
  rcases Rat.mul_eq_zero.1 k with k | k
  ·obtain rfl:x3=x1:=by grind
   obtain rfl:y3=y1:=by grind
   rw [←cY hd h1 h2 hl,←cY hd h2 h3 hm,add_comm hd (gE hd h1 h2) h1,add_comm hd h1 h2]
  show add a (.fin _ _) (.fin _ _)=add a (.fin _ _) (.fin _ _)
  rw [cH ⟨by grind,by grind⟩,cH ⟨by grind,by grind⟩]
 obtain ⟨n,r,e1,e2,e3⟩:=q9 hl hm hlm
 show add a (.fin _ _) (.fin _ _)=add a (.fin _ _) (.fin _ _)
 rw [cY hd hS h3 e1,cY hd h1 hT e2,e3]
end xh
end M
namespace M
def Ab (x n:Int):Prop:=-n≤x∧x≤n
theorem Ab.of (x:Int):Ab x x.natAbs:=by unfold Ab;omega
theorem Ab.nn {x n:Int} (h:Ab x n):0≤n:=by unfold Ab at h;omega
theorem Ab.mul {x y m n:Int} (h:Ab x m) (k:Ab y n):Ab (x*y) (m*n):=aL h.1 h.2 k.1 k.2
theorem Ab.add {x y m n:Int} (h:Ab x m) (k:Ab y n):Ab (x+y) (m+n):=by unfold Ab at *;omega
theorem Ab.sub {x y m n:Int} (h:Ab x m) (k:Ab y n):Ab (x - y) (m+n):=by unfold Ab at *;omega
theorem Ab.neg {x n:Int} (h:Ab x n):Ab (-x) n:=by unfold Ab at *;omega
theorem Ab.le {x m n:Int} (h:Ab x m) (k:m≤n):Ab x n:=by unfold Ab at *;omega
theorem Ab.to {x n:Int} (h:Ab x n):x.natAbs≤n.toNat:=by unfold Ab at h;omega
theorem Ab.num {n:Int} (h:0≤n):Ab n n:=by unfold Ab;omega
theorem rI {n:Nat} (h:n≠0):2 ^ (Wh.bl n - 1)≤n:=by
 unfold Wh.bl;rw [if_neg h,Nat.add_sub_cancel];exact Nat.log2_self_le h
theorem jO (n:Nat):n<2 ^ Wh.bl n:=by
 unfold Wh.bl
 split
 ·rename_i h;subst h;decide
 exact Nat.lt_log2_self
theorem km {n:Nat} (h:n≠0):1≤Wh.bl n:=by
 unfold Wh.bl;rw [if_neg h];omega
theorem oh {m n:Nat} (h:m≤n):Wh.bl m≤Wh.bl n:=Wh.mF (Nat.lt_of_le_of_lt h (jO n))
theorem un (m n:Nat):max (Wh.bl m) (Wh.bl n)=Wh.bl (max m n):=by
 rcases Nat.le_total m n with h | h
 ·rw [Nat.max_eq_right h,Nat.max_eq_right (oh h)]
 rw [Nat.max_eq_left h,Nat.max_eq_left (oh h)]
def hh (x z:Int):Nat:=max x.natAbs z.natAbs
def hb (x z:Int):Nat:=Wh.bl (hh x z)
theorem mU (x z:Int):Ab x (hh x z)∧Ab z (hh x z):=by unfold Ab hh;omega
theorem wR {x z n:Int} (h:Ab x n) (k:Ab z n):((hh x z:Nat):Int)≤n:=by unfold Ab at *;unfold hh;omega
theorem uL {a b x z h:Int} (hx:Ab x h) (hz:Ab z h):Ab (Wh.bE a b x z) ((1+2*a.natAbs+8*b.natAbs+a.natAbs*a.natAbs)*(h*h*h*h)):=by
 have ha:=Ab.of a;have hb:=Ab.of b;unfold Wh.bE
 have:=((((hx.mul hx).mul hx).mul hx).sub ((((((Ab.num (n:=2) (by decide)).mul ha).mul hx).mul hx).mul hz).mul hz)).sub ((((((Ab.num (n:=8) (by decide)).mul hb).mul hx).mul hz).mul hz).mul hz) |>.add ((((((ha.mul ha).mul hz).mul hz).mul hz).mul hz))
 refine this.le (Int.le_of_eq ?_)
 grind
theorem tR {a b x z h:Int} (hx:Ab x h) (hz:Ab z h):Ab (Wh.aw a b x z) (4*(1+a.natAbs+b.natAbs)*(h*h*h*h)):=by
 have ha:=Ab.of a;have hb:=Ab.of b;unfold Wh.aw;have:=((Ab.num (n:=4) (by decide)).mul hz).mul ((((hx.mul hx).mul hx).add (((ha.mul hx).mul hz).mul hz)).add (((hb.mul hz).mul hz).mul hz));refine this.le (Int.le_of_eq ?_)
 grind
def r1 (a x z:Int):Int:=12*x*x*z+16*a*z*z*z
def r2 (a b x z:Int):Int:=3*x*x*x - 5*a*x*z*z - 27*b*z*z*z
def r3 (a b x z:Int):Int:=4*af a b*x*x*x - 4*a*a*b*x*x*z+4*a*(3*a*a*a+22*b*b)*x*z*z+12*b*(a*a*a+8*b*b)*z*z*z
def r4 (a b x z:Int):Int:=a*a*b*x*x*x+a*(5*a*a*a+32*b*b)*x*x*z+2*b*(13*a*a*a+96*b*b)*x*z*z - 3*a*a*(a*a*a+8*b*b)*z*z*z
theorem uW (a b x z:Int):r1 a x z*Wh.bE a b x z - r2 a b x z*Wh.aw a b x z=4*af a b*(z*z*z*z*z*z*z):=by
 unfold r1 r2 Wh.bE Wh.aw af
 grind
theorem uV (a b x z:Int):r3 a b x z*Wh.bE a b x z+r4 a b x z*Wh.aw a b x z=4*af a b*(x*x*x*x*x*x*x):=by
 unfold r3 r4 Wh.bE Wh.aw af
 grind
theorem ww {a x z h:Int} (hx:Ab x h) (hz:Ab z h):Ab (r1 a x z) ((12+16*a.natAbs)*(h*h*h)):=by
 have ha:=Ab.of a;unfold r1;have:=((((Ab.num (n:=12) (by decide)).mul hx).mul hx).mul hz).add (((((Ab.num (n:=16) (by decide)).mul ha).mul hz).mul hz).mul hz);exact this.le (Int.le_of_eq (by grind))
theorem xA {a b x z h:Int} (hx:Ab x h) (hz:Ab z h):Ab (r2 a b x z) ((3+5*a.natAbs+27*b.natAbs)*(h*h*h)):=by
 have ha:=Ab.of a;have hb:=Ab.of b;unfold r2;have:=(((((Ab.num (n:=3) (by decide)).mul hx).mul hx).mul hx).sub (((((Ab.num (n:=5) (by decide)).mul ha).mul hx).mul hz).mul hz)).sub (((((Ab.num (n:=27) (by decide)).mul hb).mul hz).mul hz).mul hz);exact this.le (Int.le_of_eq (by grind))
theorem xB {a b x z h:Int} (hx:Ab x h) (hz:Ab z h):Ab (r3 a b x z) ((4*(af a b).natAbs+4*a.natAbs*a.natAbs*b.natAbs+4*a.natAbs*(3*a.natAbs*a.natAbs*a.natAbs+22*b.natAbs*b.natAbs)+12*b.natAbs*(a.natAbs*a.natAbs*a.natAbs+8*b.natAbs*b.natAbs))*(h*h*h)):=by
 have ha:=Ab.of a;have hb:=Ab.of b;have hd:=Ab.of (af a b);unfold r3;have t1:=((((Ab.num (n:=4) (by decide)).mul hd).mul hx).mul hx).mul hx;have t2:=((((((Ab.num (n:=4) (by decide)).mul ha).mul ha).mul hb).mul hx).mul hx).mul hz;have t3:=(((((Ab.num (n:=4) (by decide)).mul ha).mul (((((Ab.num (n:=3) (by decide)).mul ha).mul ha).mul ha).add (((Ab.num (n:=22) (by decide)).mul hb).mul hb))).mul hx).mul hz).mul hz;have t4:=(((((Ab.num (n:=12) (by decide)).mul hb).mul (((ha.mul ha).mul ha).add (((Ab.num (n:=8) (by decide)).mul hb).mul hb))).mul hz).mul hz).mul hz;exact (((t1.sub t2).add t3).add t4).le (Int.le_of_eq (by grind))
theorem xC {a b x z h:Int} (hx:Ab x h) (hz:Ab z h):Ab (r4 a b x z) ((a.natAbs*a.natAbs*b.natAbs+a.natAbs*(5*a.natAbs*a.natAbs*a.natAbs+32*b.natAbs*b.natAbs)+2*b.natAbs*(13*a.natAbs*a.natAbs*a.natAbs+96*b.natAbs*b.natAbs)+3*a.natAbs*a.natAbs*(a.natAbs*a.natAbs*a.natAbs+8*b.natAbs*b.natAbs))*(h*h*h)):=by
 have ha:=Ab.of a;have hb:=Ab.of b;unfold r4;have t1:=((((ha.mul ha).mul hb).mul hx).mul hx).mul hx
 have t2:=((((ha.mul (((((Ab.num (n:=5) (by decide)).mul ha).mul ha).mul ha).add (((Ab.num (n:=32) (by decide)).mul hb).mul hb))).mul hx).mul hx).mul hz)
 have t3:=(((((Ab.num (n:=2) (by decide)).mul hb).mul (((((Ab.num (n:=13) (by decide)).mul ha).mul ha).mul ha).add (((Ab.num (n:=96) (by decide)).mul hb).mul hb))).mul hx).mul hz).mul hz;have t4:=((((((Ab.num (n:=3) (by decide)).mul ha).mul ha).mul (((ha.mul ha).mul ha).add (((Ab.num (n:=8) (by decide)).mul hb).mul hb))).mul hz).mul hz).mul hz;exact (((t1.add t2).add t3).sub t4).le (Int.le_of_eq (by grind))
theorem rP {a b x z:Int} (h0:hh x z≠0) :
  4*((af a b).natAbs:Int)*((hh x z:Int)*hh x z*hh x z*hh x z)≤hK a.natAbs b.natAbs (af a b).natAbs*hh (Wh.bE a b x z) (Wh.aw a b x z):=by
 obtain ⟨hx,hz⟩:=mU x z;obtain ⟨hF,hG⟩:=mU (Wh.bE a b x z) (Wh.aw a b x z);have e1:=uW a b x z;have e2:=uV a b x z;have k1:=((ww (a:=a) hx hz).mul hF).sub ((xA (a:=a) (b:=b) hx hz).mul hG);have k2:=((xB (a:=a) (b:=b) hx hz).mul hF).add ((xC (a:=a) (b:=b) hx hz).mul hG);rw [e1] at k1;rw [e2] at k2
 have hpos:(1:Int)≤hh x z:=by omega
 have hN:(0:Int)≤hh (Wh.bE a b x z) (Wh.aw a b x z):=by omega
 have hor:(hh x z:Int)=x.natAbs∨(hh x z:Int)=z.natAbs:=by unfold hh;omega
 generalize hh (Wh.bE a b x z) (Wh.aw a b x z)=N at *
 have ap:∀ u:Int,(4*af a b*(u*u*u*u*u*u*u)).natAbs=4*(af a b).natAbs*(u.natAbs*u.natAbs*u.natAbs*u.natAbs*u.natAbs*u.natAbs*u.natAbs):=fun u=>by simp [Int.natAbs_mul]
 have fin:∀ (u c:Int),(hh x z:Int)=u.natAbs→Ab (4*af a b*(u*u*u*u*u*u*u)) (c*((hh x z:Int)*hh x z*hh x z)*N)→4*((af a b).natAbs:Int)*((hh x z:Int)*hh x z*hh x z*hh x z)≤c*N:=fun u c hu hab=>by
  have h1:(((4*af a b*(u*u*u*u*u*u*u)).natAbs:Nat):Int)≤c*((hh x z:Int)*hh x z*hh x z)*N:=by unfold Ab at hab;omega
  rw [ap] at h1
  push_cast at h1
  rw [←hu] at h1;have hq:(0:Int)<(hh x z:Int)*hh x z*hh x z:=Int.mul_pos (Int.mul_pos (by omega) (by omega)) (by omega);generalize (hh x z:Int)=h at *;refine Int.le_of_mul_le_mul_left (a:=h*h*h) ?_ hq
  calc h*h*h*(4*((af a b).natAbs:Int)*(h*h*h*h))=4*((af a b).natAbs:Int)*(h*h*h*h*h*h*h):=by grind
   _≤_:=h1
   _=_:=by grind
 unfold hK
 rcases hor with ho | ho
 ·refine Int.le_trans (fin x _ ho (k2.le (Int.le_of_eq ?_))) (Int.mul_le_mul_of_nonneg_right (Int.le_max_right _ _) hN)
  grind
 refine Int.le_trans (fin z _ ho (k1.le (Int.le_of_eq ?_))) (Int.mul_le_mul_of_nonneg_right (Int.le_max_left _ _) hN)
 grind
theorem ut (a b x z:Int):(hh (Wh.bE a b x z) (Wh.aw a b x z):Int)≤hM a.natAbs b.natAbs*((hh x z:Int)*hh x z*hh x z*hh x z):=by
 obtain ⟨hx,hz⟩:=mU x z;have hp:(0:Int)≤(hh x z:Int)*hh x z*hh x z*hh x z:=Int.mul_nonneg (Int.mul_nonneg (Int.mul_nonneg (by omega) (by omega)) (by omega)) (by omega);refine wR ((uL (a:=a) (b:=b) hx hz).le ?_) ((tR (a:=a) (b:=b) hx hz).le ?_)
 ·exact Int.mul_le_mul_of_nonneg_right (by unfold hM;exact Int.le_max_left _ _) hp
 exact Int.mul_le_mul_of_nonneg_right (by unfold hM;exact Int.le_max_right _ _) hp
theorem tE {a b x z f g:Int} {d:Nat} (h0:hh x z≠0) (hd:d≠0) (hdD:d≤4*(af a b).natAbs) (hF:Wh.bE a b x z=d*f) (hG:Wh.aw a b x z=d*g) :
  4*hb x z≤hb f g+hC a b+3∧hb f g≤4*hb x z+hC a b:=by
 have h1:=rP (a:=a) (b:=b) h0;have h2:=ut a b x z
 have e:hh (Wh.bE a b x z) (Wh.aw a b x z)=d*hh f g:=by
  rw [hF,hG];unfold hh;simp only [Int.natAbs_mul,Int.natAbs_natCast];exact (Nat.mul_max_mul_left _ _ _)
 rw [e] at h1 h2;unfold hb hC
 have hKn:(0:Int)≤hK a.natAbs b.natAbs (af a b).natAbs:=by
  unfold hK
  have:(0:Int)≤15+21*(a.natAbs:Int)+27*(b.natAbs:Int):=by omega
  exact Int.le_trans this (Int.le_max_left _ _)
 have hMn:(0:Int)≤hM a.natAbs b.natAbs:=by
  unfold hM
  have:(0:Int)≤4*(1+(a.natAbs:Int)+(b.natAbs:Int)):=by omega
  exact Int.le_trans this (Int.le_max_right _ _)
 obtain ⟨K,hK⟩:=Int.eq_ofNat_of_zero_le hKn;obtain ⟨M,hM⟩:=Int.eq_ofNat_of_zero_le hMn;rw [hK] at h1 ⊢;rw [hM] at h2 ⊢;generalize (af a b).natAbs=D,hh f g=h',hh x z=h at *
 have eQ:(max (M:Int) (K:Int)).toNat=max M K:=by omega
 rw [eQ]
 have h1:4*D*(h*h*h*h)≤K*(d*h'):=by exact_mod_cast h1
 have h2:d*h'≤M*(h*h*h*h):=by exact_mod_cast h2
 have hC:=jO (max M K);generalize Wh.bl (max M K)=C at *
 have hMC:M<2 ^ C:=by omega
 have hKC:K<2 ^ C:=by omega
 have hb1:=rI h0;have hb2:=jO h;have hb3:=km h0;generalize Wh.bl h=B at *
 obtain ⟨B,rfl⟩:∃ c,B=c+1:=⟨B - 1,by omega⟩
 rw [Nat.add_sub_cancel] at hb1
 have h3:h*h*h*h≤K*h':=by
  have hD:0<4*D:=by omega
  refine Nat.le_of_mul_le_mul_left (c:=4*D) ?_ hD;refine Nat.le_trans h1 ?_
  calc K*(d*h')=d*(K*h'):=by grind
   _≤4*D*(K*h'):=Nat.mul_le_mul_right _ hdD
 have h4:h'≤M*(h*h*h*h):=Nat.le_trans (Nat.le_mul_of_pos_left _ (by omega)) h2
 have p1:2 ^ (4*B)≤h*h*h*h:=by
  calc 2 ^ (4*B)=2 ^ B*2 ^ B*2 ^ B*2 ^ B:=by rw [←Nat.pow_add,←Nat.pow_add,←Nat.pow_add];congr 1;omega
   _≤_:=Nat.mul_le_mul (Nat.mul_le_mul (Nat.mul_le_mul hb1 hb1) hb1) hb1
 have p2:h*h*h*h<2 ^ (4*(B+1)):=by
  calc h*h*h*h<2 ^ (B+1)*2 ^ (B+1)*2 ^ (B+1)*2 ^ (B+1):=Nat.mul_lt_mul'' (Nat.mul_lt_mul'' (Nat.mul_lt_mul'' hb2 hb2) hb2) hb2
   _=_:=by rw [←Nat.pow_add,←Nat.pow_add,←Nat.pow_add];congr 1;omega
 have p3:=jO h'
 constructor
 ·have:2 ^ (4*B)<2 ^ (C+Wh.bl h'):=by
   rw [Nat.pow_add 2 C]
   calc 2 ^ (4*B)≤K*h':=Nat.le_trans p1 h3
    _<_:=Nat.mul_lt_mul'' hKC p3
  have:=(Nat.pow_lt_pow_iff_right (by decide)).1 this;omega
 refine Wh.mF (Nat.lt_of_le_of_lt h4 ?_);rw [Nat.pow_add,Nat.mul_comm];exact Nat.mul_lt_mul'' p2 hMC
end M
namespace M
theorem uB (x:Rat):x*((x.den:Int):Rat)=((x.num:Int):Rat):=by
 have h1:=Rat.num_divInt_den x;rw [Rat.divInt_eq_div] at h1
 have h:((x.den:Int):Rat)≠0:=by
  have:=x.den_nz
  exact_mod_cast this
 have h2:=Rat.div_mul_cancel (a:=(x.num:Rat)) h;rw [h1] at h2;exact h2
theorem uC {x:Rat} {m n:Int} (hn:0<n) (hc:Int.gcd m n=1) (h:x*(n:Rat)=(m:Rat)):x.num=m∧(x.den:Int)=n:=by
 have hz:(n:Rat)≠0:=by
  have:n≠0:=by omega
  exact_mod_cast this
 have h1:x=Rat.divInt m n:=by
  rw [Rat.divInt_eq_div,←h,Rat.mul_div_cancel hz]
 obtain ⟨k,rfl⟩:=Int.eq_ofNat_of_zero_le (Int.le_of_lt hn)
 have hr:m.natAbs.Coprime k:=by simpa [Int.gcd] using hc
 have h2:x=⟨m,k,by omega,hr⟩:=by
  rw [h1];exact (Rat.mk_eq_divInt (nz:=by omega) (c:=hr)).symm
 rw [h2];exact ⟨rfl,rfl⟩
namespace xh
def px:xh→Int
 | O=>1
 | .fin x _=>x.num
def pz:xh→Int
 | O=>0
 | .fin x _=>x.den
def hp (P:xh):Nat:=hb (px P) (pz P)
theorem cop (P:xh):Int.gcd (px P) (pz P)=1:=by
 cases P with
 | O=>rfl
 | fin x y=>exact x.reduced
theorem ws (P:xh):0≤pz P:=by
 cases P with
 | O=>exact Int.le_refl _
 | fin x y=>exact Int.natCast_nonneg _
theorem fX {x z:Int} (h:Int.gcd x z=1):hh x z≠0:=by
 unfold hh;intro h0
 have h1:x=0:=by omega
 have h2:z=0:=by omega
 subst h1 h2;cases h
theorem u9 (P:xh):1≤hp P:=km (fX (cop P))
def rx:xh→Rat
 | O=>1
 | .fin x _=>x
def rz:xh→Rat
 | O=>0
 | .fin _ _=>1
def rs:xh→Rat
 | O=>1
 | .fin x _=>((x.den:Int):Rat)
theorem wl (P:xh):((px P:Int):Rat)=rs P*rx P:=by
 cases P with
 | O=>unfold px rs rx;rw [Rat.mul_one];rfl
 | fin x y=>unfold px rs rx;rw [←uB,Rat.mul_comm]
theorem wu (P:xh):((pz P:Int):Rat)=rs P*rz P:=by
 cases P with
 | O=>unfold pz rs rz;rw [Rat.mul_zero];rfl
 | fin x y=>unfold pz rs rz;rw [Rat.mul_one]
def q0 (x1 z1 x2 z2:Rat):Rat:=(x1*z2 - x2*z1)*(x1*z2 - x2*z1)
def q1 (a b x1 z1 x2 z2:Rat):Rat:=2*((x1*z2+x2*z1)*(a*z1*z2+x1*x2)+2*b*z1*z1*z2*z2)
def q2 (a b x1 z1 x2 z2:Rat):Rat:=(x1*x2 - a*z1*z2)*(x1*x2 - a*z1*z2) - 4*b*z1*z2*(x1*z2+x2*z1)
def Pr (q0 q1 q2 t0 t1 t2:Rat):Prop:=q0*t1=q1*t0∧q0*t2=q2*t0∧q1*t2=q2*t1
theorem tu {a b x1 y1 x2 y2:Rat} (h1:y1*y1=x1*x1*x1+a*x1+b) (h2:y2*y2=x2*x2*x2+a*x2+b) :
  ((y1 - y2)*(y1 - y2) - (x1+x2)*(x1 - x2)*(x1 - x2))*((y1+y2)*(y1+y2) - (x1+x2)*(x1 - x2)*(x1 - x2)) =
   (x1 - x2)*(x1 - x2)*(((x1*x2 - a*1*1)*(x1*x2 - a*1*1) - 4*b*1*1*(x1*1+x2*1))*(1*1)):=by
 have e:((y1 - y2)*(y1 - y2) - (x1+x2)*(x1 - x2)*(x1 - x2))*((y1+y2)*(y1+y2) - (x1+x2)*(x1 - x2)*(x1 - x2)) =
   (y1*y1 - y2*y2)*(y1*y1 - y2*y2) - 2*(y1*y1+y2*y2)*((x1+x2)*(x1 - x2)*(x1 - x2))+((x1+x2)*(x1 - x2)*(x1 - x2))*((x1+x2)*(x1 - x2)*(x1 - x2)):=by
  clear h1 h2
  grind
 rw [e,h1,h2];clear e h1 h2
 grind
theorem tt {a b:Rat} {P Q:xh} (h1:On a b P) (h2:On a b Q) :
  Pr (q0 (rx P) (rz P) (rx Q) (rz Q)) (q1 a b (rx P) (rz P) (rx Q) (rz Q)) (q2 a b (rx P) (rz P) (rx Q) (rz Q))
   (rz (add a P Q)*rz (add a P (neg Q))) (rx (add a P Q)*rz (add a P (neg Q))+rx (add a P (neg Q))*rz (add a P Q)) (rx (add a P Q)*rx (add a P (neg Q))):=by
 cases P with
 | O=>
  show Pr (q0 1 0 _ _) (q1 a b 1 0 _ _) (q2 a b 1 0 _ _) (rz Q*rz (neg Q)) (rx Q*rz (neg Q)+rx (neg Q)*rz Q) (rx Q*rx (neg Q))
  have e1:rx (neg Q)=rx Q:=by cases Q <;> rfl
  have e2:rz (neg Q)=rz Q:=by cases Q <;> rfl
  rw [e1,e2];unfold Pr q0 q1 q2;refine ⟨?_,?_,?_⟩ <;> grind
 | fin x1 y1=>
 cases Q with
 | O=>
  show Pr (q0 x1 1 1 0) (q1 a b x1 1 1 0) (q2 a b x1 1 1 0) (1*1) (x1*1+x1*1) (x1*x1)
  unfold Pr q0 q1 q2;refine ⟨?_,?_,?_⟩ <;> grind
 | fin x2 y2=>
 show Pr (q0 x1 1 x2 1) (q1 a b x1 1 x2 1) (q2 a b x1 1 x2 1) _ _ _
 unfold On at h1 h2
 by_cases hx:x1=x2
 ·subst hx
  have h3:(y1 - y2)*(y1+y2)=0:=by grind
  have key:∀ y:Rat,y*y=x1*x1*x1+a*x1+b→add a (.fin x1 y) (.fin x1 y)=O∧y=0∨∃ u v,add a (.fin x1 y) (.fin x1 y)=.fin u v∧q1 a b x1 1 x1 1*u=q2 a b x1 1 x1 1:=fun y hy=>by
   by_cases h0:y=0
   ·left
    refine ⟨cH ⟨rfl,by grind⟩,h0⟩
   right
   have hv:¬ (x1=x1∧y=-y):=fun h=>h0 (by grind)
   have hs:=eW (a:=a) (b:=b) (x1:=x1) (y1:=y) (x2:=x1) (y2:=y) hy hy hv;have e:add a (.fin x1 y) (.fin x1 y)=thd x1 y x1 (lam a x1 y x1 y):=if_neg hv;rw [e];refine ⟨_,_,rfl,?_⟩;obtain ⟨-,e2⟩:=hs;generalize lam a x1 y x1 y=l at *;unfold q1 q2
   grind
  have hq0:q0 x1 1 x1 1=0:=by unfold q0;grind
  rw [hq0]
  rcases Rat.mul_eq_zero.1 h3 with h4 | h4
  ·obtain rfl:y1=y2:=by grind
   have ev:add a (.fin x1 y1) (neg (.fin x1 y1))=O:=cH ⟨rfl,by grind⟩;rw [ev]
   rcases key y1 h1 with ⟨e,rfl⟩ | ⟨u,v,e,hu⟩
   ·rw [e]
    unfold Pr rx rz q1;refine ⟨?_,?_,?_⟩ <;> grind
   rw [e];unfold Pr rx rz;refine ⟨?_,?_,?_⟩ <;> grind
  obtain rfl:y2=-y1:=by grind
  have ev:add a (.fin x1 y1) (.fin x1 (-y1))=O:=cH ⟨rfl,by grind⟩
  have en:neg (.fin x1 (-y1))=.fin x1 y1:=by
   show xh.fin x1 (- -y1)=_
   rw [Rat.neg_neg]
  rw [ev,en]
  rcases key y1 h1 with ⟨e,rfl⟩ | ⟨u,v,e,hu⟩
  ·rw [e]
   unfold Pr rx rz q1;refine ⟨?_,?_,?_⟩ <;> grind
  rw [e];unfold Pr rx rz;refine ⟨?_,?_,?_⟩ <;> grind
 have hd:x1 - x2≠0:=by grind
 have e1:add a (.fin x1 y1) (.fin x2 y2)=thd x1 y1 x2 ((y1 - y2) / (x1 - x2)):=by
  show (if x1=x2∧y1=-y2 then O else thd x1 y1 x2 (lam a x1 y1 x2 y2))=_
  rw [if_neg fun h=>hx h.1];unfold lam;rw [if_neg hx]
 have e2:add a (.fin x1 y1) (neg (.fin x2 y2))=thd x1 y1 x2 ((y1+y2) / (x1 - x2)):=by
  show (if x1=x2∧y1=- -y2 then O else thd x1 y1 x2 (lam a x1 y1 x2 (-y2)))=_
  rw [if_neg fun h=>hx h.1];unfold lam;rw [if_neg hx]
  congr 2
  grind
 rw [e1,e2];have g1:=Rat.div_mul_cancel (a:=y1 - y2) hd;have g2:=Rat.div_mul_cancel (a:=y1+y2) hd;generalize (y1+y2) / (x1 - x2)=m,(y1 - y2) / (x1 - x2)=l at *
 show Pr _ _ _ (1*1) ((l*l - x1 - x2)*1+(m*m - x1 - x2)*1) ((l*l - x1 - x2)*(m*m - x1 - x2))
 have k1:q0 x1 1 x2 1*((l*l - x1 - x2)*1+(m*m - x1 - x2)*1)=q1 a b x1 1 x2 1*(1*1):=by
  unfold q0 q1
  grind
 have k2:q0 x1 1 x2 1*((l*l - x1 - x2)*(m*m - x1 - x2))=q2 a b x1 1 x2 1*(1*1):=by
  have:(x1 - x2)*(x1 - x2)*(q0 x1 1 x2 1*((l*l - x1 - x2)*(m*m - x1 - x2)))=(x1 - x2)*(x1 - x2)*(q2 a b x1 1 x2 1*(1*1)):=by
   unfold q0 q2
   have f1:(x1 - x2)*(x1 - x2)*(l*l - x1 - x2)=(y1 - y2)*(y1 - y2) - (x1+x2)*(x1 - x2)*(x1 - x2):=by grind
   have f2:(x1 - x2)*(x1 - x2)*(m*m - x1 - x2)=(y1+y2)*(y1+y2) - (x1+x2)*(x1 - x2)*(x1 - x2):=by grind
   generalize m*m - x1 - x2=v,l*l - x1 - x2=u at *
   have f3:(x1 - x2)*(x1 - x2)*((x1*1 - x2*1)*(x1*1 - x2*1)*(u*v))=((x1 - x2)*(x1 - x2)*u)*((x1 - x2)*(x1 - x2)*v):=by grind
   rw [f3,f1,f2];exact tu h1 h2
  grind
 refine ⟨k1,k2,?_⟩
 have:q0 x1 1 x2 1≠0:=by
  unfold q0;intro h
  rcases Rat.mul_eq_zero.1 h with h | h <;> grind
 generalize m*m - x1 - x2=v,l*l - x1 - x2=u,q2 a b x1 1 x2 1=c2,q1 a b x1 1 x2 1=c1,q0 x1 1 x2 1=c0 at *
 have k3:c0*(c1*(u*v))=c0*(c2*(u*1+v*1)):=by grind
 grind
end xh
end M
namespace M
theorem u7 {u1 w1 u2 w2 t:Int} (h0:Ab (w1*w2) t) (h1:Ab (u1*w2+u2*w1) t) (h2:Ab (u1*u2) t):((hh u1 w1*hh u2 w2:Nat):Int)≤2*t:=by
 have ht:=h0.nn
 have hab:∀ x y:Int,((x.natAbs*y.natAbs:Nat):Int)=((x*y).natAbs:Nat):=fun x y=>by rw [Int.natAbs_mul]
 have big:∀ x y:Int,2*t<x→t<y→t*t<x*y:=fun x y hx hy=>by
  have h1:(2*t+1)*(t+1)≤x*y:=Int.mul_le_mul (by omega) (by omega) (by omega) (by omega)
  have h2:(2*t+1)*(t+1)=2*(t*t)+3*t+1:=by grind
  have h3:=Int.mul_nonneg ht ht;omega
 have mix:∀ u1 w1 u2 w2:Int,Ab (w1*w2) t→Ab (u1*w2+u2*w1) t→Ab (u1*u2) t→((u1*w2).natAbs:Int)≤2*t:=by
  intro u1 w1 u2 w2 h0 h1 h2
  by_cases hc:((u1*w2).natAbs:Int)≤2*t
  ·exact hc
  exfalso
  have e:(u1*w2)*(u2*w1)=(w1*w2)*(u1*u2):=by grind
  have e2:=(h0.mul h2)
  rw [←e] at e2;unfold Ab at h1 e2;generalize u2*w1=q,u1*w2=p at *
  rcases Int.le_total 0 p with hp | hp
  ·have a1:2*t<p:=by omega
   have a2:q<0:=by omega
   have a3:t < -q:=by omega
   have:t*t<p*(-q):=big _ _ a1 a3
   have e4:p*(-q)=-(p*q):=by grind
   omega
  have a1:2*t < -p:=by omega
  have a3:t<q:=by omega
  have:t*t<(-p)*q:=big _ _ a1 a3
  have e4:(-p)*q=-(p*q):=by grind
  omega
 have m1:=mix u1 w1 u2 w2 h0 h1 h2;have m2:=mix u2 w2 u1 w1 (by rw [Int.mul_comm];exact h0) (by rw [Int.add_comm];exact h1) (by rw [Int.mul_comm];exact h2);unfold Ab at h0 h2
 have c1:hh u1 w1=u1.natAbs∨hh u1 w1=w1.natAbs:=by unfold hh;omega
 have c2:hh u2 w2=u2.natAbs∨hh u2 w2=w2.natAbs:=by unfold hh;omega
 rcases c1 with c1 | c1 <;> rcases c2 with c2 | c2 <;> rw [c1,c2,hab]
 ·omega
 ·exact m1
 ·rw [Int.mul_comm];exact m2
 omega
theorem qD {u1 w1 u2 w2:Int} (h1:Int.gcd u1 w1=1) (h2:Int.gcd u2 w2=1) {g:Nat} (d0:(g:Int) ∣ w1*w2) (d1:(g:Int) ∣ u1*w2+u2*w1) (d2:(g:Int) ∣ u1*u2):g=1:=by
 have cop:∀ (k:Nat) (x y:Int),Int.gcd x y=1→(k:Int) ∣ x→(k:Int) ∣ y→k=1:=fun k x y h hx hy=>by
  have:=Int.dvd_gcd hx hy;rw [h] at this;exact Nat.dvd_one.1 this
 have gd:∀ (x:Int),(Nat.gcd g x.natAbs=1)→∀ y:Int,(g:Int) ∣ x*y→(g:Int) ∣ y:=fun x hx y hd=>by
  have:g ∣ x.natAbs*y.natAbs:=by
   rw [←Int.natAbs_mul];exact Int.ofNat_dvd_left.1 hd
  exact Int.ofNat_dvd_left.2 (Nat.Coprime.dvd_of_dvd_mul_left hx this)
 have sub:∀ x:Int,((Nat.gcd g x.natAbs:Nat):Int) ∣ g∧((Nat.gcd g x.natAbs:Nat):Int) ∣ x:=fun x=>⟨Int.natCast_dvd_natCast.2 (Nat.gcd_dvd_left _ _),Int.ofNat_dvd_left.2 (Nat.gcd_dvd_right _ _)⟩
 have k1:Nat.gcd g w1.natAbs=1:=by
  obtain ⟨a1,a2⟩:=sub w1;generalize hk:Nat.gcd g w1.natAbs=k at *
  have cu:Nat.gcd k u1.natAbs=1:=by
   refine cop _ u1 w1 h1 (Int.ofNat_dvd_left.2 (Nat.gcd_dvd_right _ _)) (Int.dvd_trans (Int.natCast_dvd_natCast.2 (Nat.gcd_dvd_left _ _)) a2)
  have gk:∀ y:Int,(k:Int) ∣ u1*y→(k:Int) ∣ y:=fun y hd=>by
   have:k ∣ u1.natAbs*y.natAbs:=by
    rw [←Int.natAbs_mul];exact Int.ofNat_dvd_left.1 hd
   exact Int.ofNat_dvd_left.2 (Nat.Coprime.dvd_of_dvd_mul_left cu this)
  have b2:=gk u2 (Int.dvd_trans a1 d2)
  have b1:(k:Int) ∣ u1*w2:=by
   have h:=Int.dvd_sub (Int.dvd_trans a1 d1) (Int.dvd_trans a2 (Int.dvd_mul_left u2 w1))
   rwa [Int.add_sub_cancel] at h
  exact cop k u2 w2 h2 b2 (gk w2 b1)
 have b:=gd w1 k1 w2 d0;have k2:Nat.gcd g u2.natAbs=1:=cop _ u2 w2 h2 (sub u2).2 (Int.dvd_trans (sub u2).1 b);have c:=gd u2 k2 u1 (by rw [Int.mul_comm];exact d2)
 have e:(g:Int) ∣ u2*w1:=by
  have h:=Int.dvd_sub d1 (Int.dvd_trans b (Int.dvd_mul_left u1 w2))
  rwa [show u1*w2+u2*w1 - u1*w2=u2*w1 by omega] at h
 exact cop g u1 w1 h1 c (gd u2 k2 w1 e)
theorem tv {q0 q1 q2 t0 t1 t2 m:Int} (hq:¬ (q0=0∧q1=0∧q2=0)) (ht:∀ g:Nat,(g:Int) ∣ t0→(g:Int) ∣ t1→(g:Int) ∣ t2→g=1)
  (e1:q0*t1=q1*t0) (e2:q0*t2=q2*t0) (e3:q1*t2=q2*t1) (a0:Ab q0 m) (a1:Ab q1 m) (a2:Ab q2 m):Ab t0 m∧Ab t1 m∧Ab t2 m:=by
 have key:∀ q:Int,∀ t:Int,t ∣ q*t0→t ∣ q*t1→t ∣ q*t2→t ∣ q:=fun q t d0 d1 d2=>by
  have g1:t ∣ ((Int.gcd (q*t0) (Int.gcd (q*t1) (q*t2)):Nat):Int):=Int.dvd_coe_gcd d0 (Int.dvd_coe_gcd d1 d2)
  have e:Int.gcd (q*t0) (Int.gcd (q*t1) (q*t2))=q.natAbs:=by
   rw [Int.gcd_mul_left]
   have:((q.natAbs*Int.gcd t1 t2:Nat):Int)=(q.natAbs:Int)*(Int.gcd t1 t2:Nat):=by push_cast;rfl
   rw [this]
   have e3:Int.gcd (q*t0) ((q.natAbs:Int)*((Int.gcd t1 t2:Nat):Int))=Int.gcd ((q.natAbs:Int)*t0) ((q.natAbs:Int)*((Int.gcd t1 t2:Nat):Int)):=by
    unfold Int.gcd;simp [Int.natAbs_mul]
   rw [e3,Int.gcd_mul_left]
   have h1:Int.gcd t0 ((Int.gcd t1 t2:Nat):Int)=1:=by
    refine ht _ (Int.gcd_dvd_left ..) ?_ ?_
    ·exact Int.dvd_trans (Int.gcd_dvd_right ..) (Int.gcd_dvd_left ..)
    exact Int.dvd_trans (Int.gcd_dvd_right ..) (Int.gcd_dvd_right ..)
   rw [h1];simp
  rw [e] at g1;exact Int.dvd_natAbs.1 g1
 have fin:∀ l:Int,q0=l*t0→q1=l*t1→q2=l*t2→Ab t0 m∧Ab t1 m∧Ab t2 m:=fun l f0 f1 f2=>by
  have hl:l≠0:=fun h=>hq ⟨by rw [f0,h];simp,by rw [f1,h];simp,by rw [f2,h];simp⟩
  have sm:∀ t:Int,Ab (l*t) m→Ab t m:=fun t h=>by
   have h1:(l*t).natAbs=l.natAbs*t.natAbs:=Int.natAbs_mul _ _;have h2:1*t.natAbs≤l.natAbs*t.natAbs:=Nat.mul_le_mul_right _ (by omega);unfold Ab at *;omega
  exact ⟨sm _ (f0 ▸ a0),sm _ (f1 ▸ a1),sm _ (f2 ▸ a2)⟩
 by_cases h0:t0=0
 ·subst h0
  by_cases h1:t1=0
  ·subst h1
   have h2:t2≠0:=fun h=>by
    subst h;have:=ht 2 (by simp) (by simp) (by simp);cases this
   have z0:q0=0:=by
    have:q0*t2=0:=by rw [e2];simp
    rcases Int.mul_eq_zero.1 this with h | h
    ·exact h
    exact absurd h h2
   have z1:q1=0:=by
    have:q1*t2=0:=by rw [e3];simp
    rcases Int.mul_eq_zero.1 this with h | h
    ·exact h
    exact absurd h h2
   obtain ⟨l,hl⟩:=key q2 t2 (by simp) (by simp) (Int.dvd_mul_left _ _);exact fin l (by rw [z0];simp) (by rw [z1];simp) (by rw [hl,Int.mul_comm])
  have z0:q0=0:=by
   have:q0*t1=0:=by rw [e1];simp
   rcases Int.mul_eq_zero.1 this with h | h
   ·exact h
   exact absurd h h1
  obtain ⟨l,hl⟩:=key q1 t1 (by simp) (Int.dvd_mul_left _ _) (by rw [e3];exact Int.dvd_mul_left _ _);refine fin l (by rw [z0];simp) (by rw [hl,Int.mul_comm]) ?_
  have:t1*q2=t1*(l*t2):=by rw [Int.mul_comm,←e3,hl];grind
  exact Int.eq_of_mul_eq_mul_left h1 this
 obtain ⟨l,hl⟩:=key q0 t0 (Int.dvd_mul_left _ _) (by rw [e1];exact Int.dvd_mul_left _ _) (by rw [e2];exact Int.dvd_mul_left _ _);refine fin l (by rw [hl,Int.mul_comm]) ?_ ?_
 ·have:t0*q1=t0*(l*t1):=by rw [Int.mul_comm,←e1,hl];grind
  exact Int.eq_of_mul_eq_mul_left h0 this
 have:t0*q2=t0*(l*t2):=by rw [Int.mul_comm,←e2,hl];grind
 exact Int.eq_of_mul_eq_mul_left h0 this
end M
namespace M
namespace xh
def i0 (x1 z1 x2 z2:Int):Int:=(x1*z2 - x2*z1)*(x1*z2 - x2*z1)
def i1 (a b x1 z1 x2 z2:Int):Int:=2*((x1*z2+x2*z1)*(a*z1*z2+x1*x2)+2*b*z1*z1*z2*z2)
def i2 (a b x1 z1 x2 z2:Int):Int:=(x1*x2 - a*z1*z2)*(x1*x2 - a*z1*z2) - 4*b*z1*z2*(x1*z2+x2*z1)
def cT (a b:Int):Int:=4*(1+a.natAbs+b.natAbs)+(1+a.natAbs)*(1+a.natAbs)+8*b.natAbs
theorem Nm {a b x1 z1 x2 z2 h k:Int} (hx1:Ab x1 h) (hz1:Ab z1 h) (hx2:Ab x2 k) (hz2:Ab z2 k) :
  Ab (i0 x1 z1 x2 z2) (cT a b*(h*h*k*k))∧Ab (i1 a b x1 z1 x2 z2) (cT a b*(h*h*k*k))∧Ab (i2 a b x1 z1 x2 z2) (cT a b*(h*h*k*k)):=by
 have ha:=Ab.of a;have hb:=Ab.of b;have hp:0≤h*h*k*k:=Int.mul_nonneg (Int.mul_nonneg (Int.mul_nonneg hx1.nn hx1.nn) hx2.nn) hx2.nn;have hA:(0:Int)≤(a.natAbs:Int)*a.natAbs:=Int.mul_nonneg (by omega) (by omega)
 have le:∀ c:Int,c≤cT a b→c*(h*h*k*k)≤cT a b*(h*h*k*k):=fun c hc=>Int.mul_le_mul_of_nonneg_right hc hp
 have eT:cT a b=5+6*a.natAbs+12*b.natAbs+(a.natAbs:Int)*a.natAbs:=by unfold cT;grind
 refine ⟨?_,?_,?_⟩
 ·have t:=(hx1.mul hz2).sub (hx2.mul hz1)
  refine (t.mul t).le (Int.le_trans (Int.le_of_eq ?_) (le 4 (by omega)))
  grind
 ·have t1:=(hx1.mul hz2).add (hx2.mul hz1)
  have t2:=((ha.mul hz1).mul hz2).add (hx1.mul hx2);have t3:=(((((Ab.num (n:=2) (by decide)).mul hb).mul hz1).mul hz1).mul hz2).mul hz2;refine ((Ab.num (n:=2) (by decide)).mul ((t1.mul t2).add t3)).le (Int.le_trans (Int.le_of_eq ?_) (le (4*(1+a.natAbs+b.natAbs)) (by omega)))
  grind
 have t1:=(hx1.mul hx2).sub ((ha.mul hz1).mul hz2);have t2:=(hx1.mul hz2).add (hx2.mul hz1);have t3:=((((Ab.num (n:=4) (by decide)).mul hb).mul hz1).mul hz2).mul t2;refine ((t1.mul t1).sub t3).le (Int.le_trans (Int.le_of_eq ?_) (le ((1+a.natAbs)*(1+a.natAbs)+8*b.natAbs) (by rw [eT];grind)))
 grind
theorem vX {P Q:xh} (h:px P*pz Q=px Q*pz P):px P=px Q∧pz P=pz Q:=by
 cases P with
 | O=>
  cases Q with
  | O=>exact ⟨rfl,rfl⟩
  | fin x y=>
  have h:(1:Int)*(x.den:Int)=x.num*0:=h;have:=x.den_nz;omega
 | fin x1 y1=>
 cases Q with
 | O=>
  have h:x1.num*0=1*(x1.den:Int):=h;have:=x1.den_nz;omega
 | fin x2 y2=>
 have:x1=x2:=Rat.eq_iff_mul_eq_mul.2 h;subst this;exact ⟨rfl,rfl⟩
theorem wS {a b:Int} (hd:af a b≠0) (P Q:xh):¬ (i0 (px P) (pz P) (px Q) (pz Q)=0∧i1 a b (px P) (pz P) (px Q) (pz Q)=0∧i2 a b (px P) (pz P) (px Q) (pz Q)=0):=by
 rintro ⟨h0,h1,h2⟩
 have hx:px P*pz Q=px Q*pz P:=by
  unfold i0 at h0
  rcases Int.mul_eq_zero.1 h0 with h | h <;> omega
 obtain ⟨e1,e2⟩:=vX hx;rw [←e1,←e2] at h1 h2
 have eG:Wh.aw a b (px P) (pz P)=0:=by rw [←h1];unfold Wh.aw i1;grind
 have eF:Wh.bE a b (px P) (pz P)=0:=by rw [←h2];unfold Wh.bE i2;grind
 have hp:=fX (cop P);have:=rP (a:=a) (b:=b) hp;rw [eG,eF] at this;have e0:hh 0 0=0:=rfl;rw [e0] at this;have hpos:(0:Int)<(hh (px P) (pz P):Int)*hh (px P) (pz P)*hh (px P) (pz P)*hh (px P) (pz P):=Int.mul_pos (Int.mul_pos (Int.mul_pos (by omega) (by omega)) (by omega)) (by omega)
 have hD:(0:Int)<4*((af a b).natAbs:Int):=by omega
 have:=Int.mul_pos hD hpos;simp at *
 omega
theorem pP {a b:Int} {P Q:xh} (h1:On a b P) (h2:On a b Q) (S D:xh) (hS:add a P Q=S) (hD:add a P (neg Q)=D) :
  (i0 (px P) (pz P) (px Q) (pz Q)*(px S*pz D+px D*pz S)=i1 a b (px P) (pz P) (px Q) (pz Q)*(pz S*pz D))∧
  (i0 (px P) (pz P) (px Q) (pz Q)*(px S*px D)=i2 a b (px P) (pz P) (px Q) (pz Q)*(pz S*pz D))∧
  (i1 a b (px P) (pz P) (px Q) (pz Q)*(px S*px D)=i2 a b (px P) (pz P) (px Q) (pz Q)*(px S*pz D+px D*pz S)):=by
 obtain ⟨e1,e2,e3⟩:=tt h1 h2;rw [hS,hD] at e1 e2 e3;unfold q0 q1 at e1;unfold q0 q2 at e2;unfold q1 q2 at e3;unfold i0 i1 i2;refine ⟨?_,?_,?_⟩ <;> apply Rat.intCast_inj.1 <;> push_cast <;> simp only [wl,wu]
 all_goals
  clear h1 h2 hS hD;generalize rs D=s4,rz D=z4,rx D=x4,rs S=s3,rz S=z3,rx S=x3,rs Q=s2,rz Q=z2,rx Q=x2,rs P=s1,rz P=z1,rx P=x1 at *;generalize (a:Rat)=a at *;generalize (b:Rat)=b at *
 ·clear e2 e3
  have:=congrArg (fun t=>s1*s1*s2*s2*s3*s4*t) e1
  grind
 ·clear e1 e3
  have:=congrArg (fun t=>s1*s1*s2*s2*s3*s4*t) e2
  grind
 clear e1 e2;have:=congrArg (fun t=>s1*s1*s2*s2*s3*s4*t) e3
 grind
def cU (a b:Int):Nat:=Wh.bl (2*cT a b).toNat+2
theorem sM {a b:Int} (hd:af a b≠0) {P Q:xh} (h1:On a b P) (h2:On a b Q):hp (add a P Q)+hp (add a P (neg Q))≤2*hp P+2*hp Q+cU a b:=by
 have hp:=pP h1 h2 _ _ rfl rfl;generalize add (a:Rat) P Q=S at *;generalize add (a:Rat) P (neg Q)=D at *;obtain ⟨e1,e2,e3⟩:=hp;obtain ⟨x1,z1⟩:=mU (px P) (pz P);obtain ⟨x2,z2⟩:=mU (px Q) (pz Q);obtain ⟨a0,a1,a2⟩:=Nm (a:=a) (b:=b) x1 z1 x2 z2;obtain ⟨b0,b1,b2⟩:=tv (wS hd P Q) (fun g=>qD (cop S) (cop D)) e1 e2 e3 a0 a1 a2;have hm:=u7 b0 b1 b2;have n1:=fX (cop P);have n2:=fX (cop Q);have n3:=fX (cop S);have n4:=fX (cop D)
 have hcT:0≤cT a b:=by
  have hA:(0:Int)≤(1+(a.natAbs:Int))*(1+a.natAbs):=Int.mul_nonneg (by omega) (by omega);unfold cT;omega
 unfold xh.hp hb cU;obtain ⟨c,hc⟩:=Int.eq_ofNat_of_zero_le hcT;rw [hc] at hm ⊢;clear e1 e2 e3 x1 z1 x2 z2 a0 a1 a2 b0 b1 b2 hc hcT;generalize hh (px D) (pz D)=d,hh (px S) (pz S)=s,hh (px Q) (pz Q)=q,hh (px P) (pz P)=p at *
 have e:(2*(c:Int)).toNat=2*c:=by omega
 rw [e]
 have hm:s*d≤2*(c*(p*p*q*q)):=by exact_mod_cast hm
 have p1:=jO p;have q1:=jO q;have s1:=rI n3;have d1:=rI n4;have s2:=km n3;have d2:=km n4;have c1:=jO (2*c);generalize Wh.bl (2*c)=C,Wh.bl d=D,Wh.bl s=S,Wh.bl q=Q,Wh.bl p=P at *
 have:2 ^ (S - 1+(D - 1))<2 ^ (C+(P+P+Q+Q)):=by
  rw [Nat.pow_add,Nat.pow_add 2 C,Nat.pow_add,Nat.pow_add,Nat.pow_add];have h1:2 ^ (S - 1)*2 ^ (D - 1)≤s*d:=Nat.mul_le_mul s1 d1;have h2:p*p*q*q<2 ^ P*2 ^ P*2 ^ Q*2 ^ Q:=Nat.mul_lt_mul'' (Nat.mul_lt_mul'' (Nat.mul_lt_mul'' p1 p1) q1) q1;have h3:=Nat.mul_lt_mul'' c1 h2
  have h4:2*(c*(p*p*q*q))=2*c*(p*p*q*q):=by grind
  omega
 have:=(Nat.pow_lt_pow_iff_right (by decide)).1 this;omega
end xh
end M
namespace M
theorem rW {a b x z d:Int} (hc:Int.gcd x z=1) (h1:d ∣ Wh.bE a b x z) (h2:d ∣ Wh.aw a b x z):d ∣ 4*af a b:=by
 have e1:d ∣ 4*af a b*(z*z*z*z*z*z*z):=by
  rw [←uW];exact Int.dvd_sub (Int.dvd_trans h1 (Int.dvd_mul_left _ _)) (Int.dvd_trans h2 (Int.dvd_mul_left _ _))
 have e2:d ∣ 4*af a b*(x*x*x*x*x*x*x):=by
  rw [←uV];exact Int.dvd_add (Int.dvd_trans h1 (Int.dvd_mul_left _ _)) (Int.dvd_trans h2 (Int.dvd_mul_left _ _))
 have e3:=Int.dvd_coe_gcd e2 e1;rw [Int.gcd_mul_left] at e3
 have e4:Int.gcd (x*x*x*x*x*x*x) (z*z*z*z*z*z*z)=1:=by
  unfold Int.gcd at *
  have:∀ u:Int,(u*u*u*u*u*u*u).natAbs=u.natAbs ^ 7:=fun u=>by simp [Int.natAbs_mul];grind
  rw [this,this];exact Nat.Coprime.pow 7 7 hc
 rw [e4,Nat.mul_one] at e3;exact Int.dvd_natAbs.1 e3
namespace xh
theorem jm {a b:Int} (hd:af a b≠0):4*(a:Rat)*a*a+27*(b:Rat)*b≠0:=by
 intro h
 apply hd
 unfold af
 exact_mod_cast h
theorem uT {a b:Int} (hd:af a b≠0) {P:xh} (h:On a b P):∃ d:Int,d≠0∧d ∣ 4*af a b∧Wh.bE a b (px P) (pz P)=d*px (add a P P)∧Wh.aw a b (px P) (pz P)=d*pz (add a P P):=by
 have hO:add (a:Rat) P (neg P)=O:=by
  rw [add_comm (jm hd) h (dr h)];exact dR _ _
 obtain ⟨-,-,e3⟩:=pP h h _ _ rfl hO
 have eG:i1 a b (px P) (pz P) (px P) (pz P)=Wh.aw a b (px P) (pz P):=by unfold Wh.aw i1;grind
 have eF:i2 a b (px P) (pz P) (px P) (pz P)=Wh.bE a b (px P) (pz P):=by unfold Wh.bE i2;grind
 have hne:=wS hd P P
 have h0:i0 (px P) (pz P) (px P) (pz P)=0:=by unfold i0;grind
 rw [eG,eF] at e3 hne;have hO1:px O=1:=rfl;have hO2:pz O=0:=rfl;rw [hO1,hO2,Int.mul_one,Int.mul_zero,Int.zero_add,Int.one_mul] at e3;have hc:=cop (add a P P);generalize add (a:Rat) P P=S at *
 have dv:=fun d=>rW (a:=a) (b:=b) (d:=d) (cop P)
 generalize Wh.aw a b (px P) (pz P)=G,Wh.bE a b (px P) (pz P)=F at *
 have fin:∀ d:Int,F=d*px S→G=d*pz S→∃ d:Int,d≠0∧d ∣ 4*af a b∧F=d*px S∧G=d*pz S:=fun d f g=>
  ⟨d,fun h=>hne ⟨h0,by rw [g,h];simp,by rw [f,h];simp⟩,dv d ⟨_,f⟩ ⟨_,g⟩,f,g⟩
 have cd:∀ x y k:Int,Int.gcd x y=1→x ∣ y*k→x ∣ k:=fun x y k hxy hk=>by
  have h1:x.natAbs ∣ y.natAbs*k.natAbs:=by
   rw [←Int.natAbs_mul];exact Int.natAbs_dvd_natAbs.2 hk
  exact Int.natAbs_dvd_natAbs.1 (Nat.Coprime.dvd_of_dvd_mul_left hxy h1)
 by_cases hz:pz S=0
 ·rw [hz] at e3 hc
  have hx:px S≠0:=fun h=>by rw [h] at hc;cases hc
  have hG:G=0:=by
   rw [Int.mul_zero] at e3
   rcases Int.mul_eq_zero.1 e3 with h | h
   ·exact h
   exact absurd h hx
  obtain ⟨d,hd⟩:=cd (px S) 0 F hc (by
   have:px S ∣ 1:=by
    unfold Int.gcd at hc;simp at hc
    exact Int.natAbs_dvd_natAbs.1 (by rw [hc];exact Nat.dvd_refl 1)
   exact Int.dvd_trans this (Int.one_dvd _))
  exact fin d (by rw [hd,Int.mul_comm]) (by rw [hG,hz];simp)
 obtain ⟨d,hd⟩:=cd (pz S) (px S) G (by rw [Int.gcd_comm];exact hc) ⟨F,by rw [Int.mul_comm,e3,Int.mul_comm]⟩;refine fin d ?_ (by rw [hd,Int.mul_comm])
 have:pz S*F=pz S*(d*px S):=by rw [Int.mul_comm,←e3,hd];grind
 exact Int.eq_of_mul_eq_mul_left hz this
theorem kv {a b:Int} (hd:af a b≠0) {P:xh} (h:On a b P):4*hp P≤hp (add a P P)+hC a b+3∧hp (add a P P)≤4*hp P+hC a b:=by
 obtain ⟨d,h1,h2,h3,h4⟩:=uT hd h
 have hle:d.natAbs≤4*(af a b).natAbs:=by
  have:=Int.natAbs_dvd_natAbs.2 h2;rw [Int.natAbs_mul] at this;exact Nat.le_of_dvd (by omega) this
 rcases Int.le_total 0 d with hs | hs
 ·have e:((d.natAbs:Nat):Int)=d:=by omega
  exact tE (d:=d.natAbs) (fX (cop P)) (by omega) hle (by rw [e];exact h3) (by rw [e];exact h4)
 have e:((d.natAbs:Nat):Int)=-d:=by omega
 have w:=tE (f:=-px (add a P P)) (g:=-pz (add a P P)) (d:=d.natAbs) (fX (cop P)) (by omega) hle (by rw [e,h3];grind) (by rw [e,h4];grind)
 have eh:hb (-px (add a P P)) (-pz (add a P P))=hp (add a P P):=by unfold hp hb hh;simp
 rw [eh] at w;exact w
def yn (a:Rat):Nat→xh→xh
 | 0,P=>P
 | n+1,P=>add a (yn a n P) (yn a n P)
theorem dn {a b:Rat} (hd:4*a*a*a+27*b*b≠0) {P:xh} (h:On a b P):∀ n,On a b (yn a n P)
 | 0=>h
 | n+1=>gE hd (dn hd h n) (dn hd h n)
theorem uk {a b:Rat} (hd:4*a*a*a+27*b*b≠0) {P Q R S:xh} (h1:On a b P) (h2:On a b Q) (h3:On a b R) (h4:On a b S):add a (add a P Q) (add a R S)=add a (add a P R) (add a Q S):=by
 rw [fh hd h1 h2 (gE hd h3 h4),←fh hd h2 h3 h4,add_comm hd h2 h3,fh hd h3 h2 h4,←fh hd h1 h3 (gE hd h2 h4)]
theorem kx {a b:Rat} (hd:4*a*a*a+27*b*b≠0) {P Q:xh} (h1:On a b P) (h2:On a b Q):∀ n,yn a n (add a P Q)=add a (yn a n P) (yn a n Q)
 | 0=>rfl
 | n+1=>by
  show add a (yn a n (add a P Q)) (yn a n (add a P Q))=add a (add a _ _) (add a _ _)
  rw [kx hd h1 h2 n,uk hd (dn hd h1 n) (dn hd h2 n) (dn hd h1 n) (dn hd h2 n)]
theorem ot {a b:Rat} (hd:4*a*a*a+27*b*b≠0) {P:xh} (h1:On a b P):∀ n,yn a n (neg P)=neg (yn a n P)
 | 0=>rfl
 | n+1=>by
  show add a (yn a n (neg P)) (yn a n (neg P))=neg (add a _ _)
  rw [ot hd h1 n,pJ hd (dn hd h1 n) (dn hd h1 n)]
theorem rV (a:Rat):∀ n,yn a n O=O
 | 0=>rfl
 | n+1=>by
  show add a (yn a n O) (yn a n O)=O
  rw [rV a n];rfl
def hs (a:Int) (P:xh) (n:Nat):Int:=(hp (yn a n P):Nat)
def Cl (f g:Nat→Int):Prop:=∃ c:Int,∀ n,-c≤f n - g n∧f n - g n≤c
theorem Cl.refl (f:Nat→Int):Cl f f:=⟨0,fun n=>by omega⟩
theorem Cl.symm {f g:Nat→Int} (h:Cl f g):Cl g f:=by
 obtain ⟨c,h⟩:=h;exact ⟨c,fun n=>by have:=h n;omega⟩
theorem Cl.trans {f g k:Nat→Int} (h:Cl f g) (h':Cl g k):Cl f k:=by
 obtain ⟨c,h⟩:=h;obtain ⟨d,h'⟩:=h';exact ⟨c+d,fun n=>by have:=h n;have:=h' n;omega⟩
theorem Cl.add {f g k l:Nat→Int} (h:Cl f g) (h':Cl k l):Cl (fun n=>f n+k n) (fun n=>g n+l n):=by
 obtain ⟨c,h⟩:=h;obtain ⟨d,h'⟩:=h';exact ⟨c+d,fun n=>by have:=h n;have:=h' n;show _≤f n+k n - (g n+l n)∧f n+k n - (g n+l n)≤_;omega⟩
theorem Cl.sub {f g k l:Nat→Int} (h:Cl f g) (h':Cl k l):Cl (fun n=>f n - k n) (fun n=>g n - l n):=by
 obtain ⟨c,h⟩:=h;obtain ⟨d,h'⟩:=h';exact ⟨c+d,fun n=>by have:=h n;have:=h' n;show _≤f n - k n - (g n - l n)∧f n - k n - (g n - l n)≤_;omega⟩
theorem Cl.mul {f g:Nat→Int} (k:Int) (h:Cl f g):Cl (fun n=>k*f n) (fun n=>k*g n):=by
 obtain ⟨c,h⟩:=h;refine ⟨k.natAbs*c,fun n=>?_⟩;have h1:=h n;have:=(Ab.of k).mul (show Ab (f n - g n) c from h1);rw [Int.mul_sub] at this;exact this
theorem Cl.of {f g:Nat→Int} (h:∀ n,f n=g n):Cl f g:=⟨0,fun n=>by rw [h n];omega⟩
theorem NY (a:Int) (n:Nat):hs a O n=1:=by
 unfold hs;rw [rV]
 decide
theorem vD (a:Int) (P:xh) (n:Nat):1≤hs a P n:=by
 have:=u9 (yn a n P);unfold hs;omega
theorem rm {a b:Int} (hd:af a b≠0) {P:xh} (h:On a b P) (n:Nat):4*hs a P n≤hs a P (n+1)+hC a b+3∧hs a P (n+1)≤4*hs a P n+hC a b:=by
 have:=kv hd (dn (jm hd) h n);unfold hs
 show 4*((hp (yn a n P):Nat):Int)≤((hp (add a (yn a n P) (yn a n P)):Nat):Int)+_+3∧((hp (add a (yn a n P) (yn a n P)):Nat):Int)≤_
 omega
theorem par {a b:Int} (hd:af a b≠0) {P Q:xh} (h1:On a b P) (h2:On a b Q):Cl (fun n=>hs a (add a P Q) n+hs a (add a P (neg Q)) n) (fun n=>2*hs a P n+2*hs a Q n):=by
 refine ⟨cU a b+hC a b+3,fun n=>?_⟩;have rd:=jm hd;have o1:=dn rd h1 n;have o2:=dn rd h2 n;have k1:=sM hd o1 o2;have k2:=sM hd (gE rd o1 o2) (gE rd o1 (dr o2))
 have e1:add (a:Rat) (add a (yn a n P) (yn a n Q)) (add a (yn a n P) (neg (yn a n Q)))=add a (yn a n P) (yn a n P):=by
  rw [uk rd o1 o2 o1 (dr o2),add_comm rd o2 (dr o2),dR,jz]
 have e2:add (a:Rat) (add a (yn a n P) (yn a n Q)) (neg (add a (yn a n P) (neg (yn a n Q))))=add a (yn a n Q) (yn a n Q):=by
  rw [pJ rd o1 (dr o2),neg_neg,uk rd o1 o2 (dr o1) o2,add_comm rd o1 (dr o1),dR,wC]
 rw [e1,e2] at k2;have w1:=kv hd o1;have w2:=kv hd o2;have e3:yn (a:Rat) n (add a P Q)=_:=kx rd h1 h2 n;have e4:yn (a:Rat) n (add a P (neg Q))=_:=kx rd h1 (dr h2) n;rw [ot rd h2] at e4;unfold hs;simp only;rw [e3,e4];omega
end xh
end M
namespace M
namespace xh
theorem vA {a b:Int} (hd:af a b≠0) {P:xh} (h:On a b P):Cl (hs a (add a P P)) (fun n=>4*hs a P n):=by
 have q:=par hd h h;rw [add_comm (jm hd) h (dr h),dR] at q;obtain ⟨c,q⟩:=q;refine ⟨c+1,fun n=>?_⟩;have:=q n;simp only at this;rw [NY] at this
 show _≤hs a (add a P P) n - 4*hs a P n∧hs a (add a P P) n - 4*hs a P n≤_
 omega
def mul (a:Rat):Nat→xh→xh
 | 0,_=>O
 | n+1,P=>add a (mul a n P) P
end xh
end M
namespace M
def dW (X Y E:Int):xh:=if E=0 then .O else .fin ((X:Rat) / ((E*E:Int):Rat)) ((Y:Rat) / ((E*E*E:Int):Rat))
theorem dT {a b X Y E:Int} (h:bB a b X Y E=true) (hE:E≠0):(-10000≤X∧X≤10000)∧(1≤E∧E≤20)∧Int.gcd X E=1∧Y*Y=cv a b X E:=by
 unfold bB at h;rw [if_neg hE] at h;simp only [Bool.and_eq_true,ins,decide_eq_true_eq,beq_iff_eq,gcd] at h;obtain ⟨⟨⟨h1,h2⟩,h3⟩,h4⟩:=h;exact ⟨h1,h2,by omega,h4⟩
theorem sZ {a b X Y E:Int} (h:bB a b X Y E=true) (hE:E=0):X=0∧Y=0:=by
 unfold bB at h;rw [if_pos hE] at h;simp only [Bool.and_eq_true,decide_eq_true_eq] at h;exact h
theorem dV {E:Int} (h:E≠0):(E:Rat)≠0:=by exact_mod_cast h
theorem dw {a b X Y E:Int} (h:bB a b X Y E=true):xh.On a b (dW X Y E):=by
 unfold dW
 split
 ·trivial
 rename_i hE
 obtain ⟨-,-,-,h4⟩:=dT h hE;unfold xh.On
 have h5:(Y:Rat)*Y=X*X*X+a*X*E*E*E*E+b*E*E*E*E*E*E:=by
  unfold cv at h4
  exact_mod_cast h4
 have hz:=dV hE
 push_cast
 generalize (E:Rat)=e at *;have k1:=Rat.div_mul_cancel (a:=(X:Rat)) (b:=e*e) (by grind);have k2:=Rat.div_mul_cancel (a:=(Y:Rat)) (b:=e*e*e) (by grind);generalize (X:Rat) / (e*e)=x at *;generalize (Y:Rat) / (e*e*e)=y at *;rw [←k1,←k2] at h5;clear k1 k2
 have:(e*e*e*e*e*e)*(y*y)=(e*e*e*e*e*e)*(x*x*x+a*x+b):=by grind
 have Hf:e*e*e*e*e*e≠0:=by grind
 grind
theorem oI {a b X Y E:Int} (h:bB a b X Y E=true) (hE:E≠0):xh.px (dW X Y E)=X∧xh.pz (dW X Y E)=E*E:=by
 obtain ⟨-,h2,h3,-⟩:=dT h hE;unfold dW;rw [if_neg hE]
 have hg:Int.gcd X (E*E)=1:=by
  unfold Int.gcd at *;rw [Int.natAbs_mul];exact Nat.Coprime.mul_right h3 h3
 have hp:0<E*E:=Int.mul_pos (by omega) (by omega);exact uC hp hg (Rat.div_mul_cancel (dV (by omega)))
theorem vN (X Y:Int):dW X Y 0=.O:=rfl
theorem ux {a b:Int} {d x z:Int} (h0:d ∣ 4*af a b) (hc:Int.gcd x z=1):Wh.BF (af a b) (d*x) (d*z)=d.natAbs:=by
 unfold Wh.BF;rw [Nat.gcd_assoc]
 have e:Nat.gcd (d*x).natAbs (d*z).natAbs=d.natAbs:=by
  have:=Int.gcd_mul_left d x z;rw [hc,Nat.mul_one] at this;exact this
 rw [e];have:=Int.natAbs_dvd_natAbs.2 h0;rw [Int.natAbs_mul] at this;exact Nat.gcd_eq_right this
theorem MX {a b:Int} {d x z:Int} (h0:d≠0) (h1:d ∣ 4*af a b) (hc:Int.gcd x z=1) (hz:0<z) :
  Wh.C8 (af a b) (d*x) (d*z)=x∧Wh.C7 (af a b) (d*x) (d*z)=z:=by
 unfold Wh.C8 Wh.C7;rw [ux h1 hc]
 rcases Int.lt_or_le d 0 with hs | hs
 ·have hneg:d*z<0:=by
   have:=Int.mul_pos (a:=-d) (b:=z) (by omega) hz;rw [Int.neg_mul] at this;omega
  rw [if_pos hneg,if_pos hneg]
  have e:(d.natAbs:Int)=-d:=by omega
  rw [e]
  have:∀ t:Int,-(d*t / -d)=t:=fun t=>by
   rw [show d*t=-d*-t by grind,Int.mul_ediv_cancel_left _ (by omega)];omega
  exact ⟨this x,this z⟩
 have hpos:¬ d*z<0:=by
  have:=Int.mul_pos (a:=d) (b:=z) (by omega) hz;omega
 rw [if_neg hpos,if_neg hpos]
 have e:(d.natAbs:Int)=d:=by omega
 rw [e];exact ⟨Int.mul_ediv_cancel_left _ h0,Int.mul_ediv_cancel_left _ h0⟩
def lw (P:xh):Out→Prop
 | .val u v=>xh.px P=u∧xh.pz P=v
 | .inf=>P=.O
 | .bad=>True
theorem uA {P:xh} (h:xh.pz P=0):P=.O:=by
 cases P with
 | O=>rfl
 | fin x y=>
 have:=x.den_nz;have h:(x.den:Int)=0:=h;omega
theorem sk {a b:Int} (hd:af a b≠0) {P:xh} (hP:xh.On a b P) {o:Out} (ho:lw P o):∀ n,lw (xh.yn a n P) (run a b n o)
 | 0=>ho
 | n+1=>by
  have ih:=sk hd hP ho n;have hon:=xh.dn (xh.jm hd) hP n
  show lw (xh.add a (xh.yn a n P) (xh.yn a n P)) (nx a b (run a b n o))
  generalize run a b n o=q at *;generalize xh.yn (a:Rat) n P=Q at *
  cases q with
  | bad=>trivial
  | inf=>
   have ih:Q=.O:=ih;rw [ih];rfl
  | val u v=>
  obtain ⟨rfl,rfl⟩:=(ih:xh.px Q=u∧xh.pz Q=v)
  obtain ⟨d,h1,h2,h3,h4⟩:=xh.uT hd hon;have hc:=xh.cop (xh.add (a:Rat) Q Q);have hn:=xh.ws (xh.add (a:Rat) Q Q);unfold nx
  dsimp only
  rw [h3,h4]
  split
  ·rename_i hz
   rcases Int.mul_eq_zero.1 hz with h | h
   ·exact absurd h h1
   exact uA h
  rename_i hz
  split
  ·have hp:0<xh.pz (xh.add (a:Rat) Q Q):=by
    rcases Int.lt_or_le 0 (xh.pz (xh.add (a:Rat) Q Q)) with h | h
    ·exact h
    exact absurd (show d*xh.pz (xh.add (a:Rat) Q Q)=0 by rw [show xh.pz (xh.add (a:Rat) Q Q)=0 by omega,Int.mul_zero]) hz
   obtain ⟨e1,e2⟩:=MX h1 h2 hc hp;rw [e1,e2];exact ⟨rfl,rfl⟩
  trivial
theorem vK {a b X Y E:Int} (hd:af a b≠0) (h:bB a b X Y E=true) (n:Nat):lw (xh.yn a n (dW X Y E)) (ai a b X E n):=by
 unfold ai
 split
 ·rename_i hE
  subst hE;rw [vN,xh.rV];rfl
 rename_i hE
 exact sk hd (dw h) (o:=.val X (E*E)) (oI h hE) n
def AU (s:Nat→Int) (lo hi:Int):Prop:=∃ c:Int,∀ n,lo*4 ^ n - c≤4096*s n∧4096*s n≤hi*4 ^ n+c
theorem fa (n:Nat):(1:Int)≤4 ^ n:=by
 induction n with
 | zero=>decide
 | succ n ih=>rw [Int.pow_succ];omega
theorem wX (n:Nat):(n:Int)≤4 ^ n:=by
 induction n with
 | zero=>decide
 | succ n ih=>rw [Int.pow_succ];have:=fa n;omega
theorem grow {x c:Int} (h:∀ n:Nat,x*4 ^ n≤c):x≤0:=by
 rcases Int.lt_or_le 0 x with hx | hx
 ·exfalso
  have h1:=h (c.toNat+1);have h2:=wX (c.toNat+1);have h3:1*(4:Int) ^ (c.toNat+1)≤x*4 ^ (c.toNat+1):=Int.mul_le_mul_of_nonneg_right (by omega) (by have:=fa (c.toNat+1);omega);omega
 exact hx
theorem AU.meet {s t:Nat→Int} {l h l' h':Int} (k:AU s l h) (k':AU t l' h') (e:xh.Cl s t):l≤h':=by
 obtain ⟨c,k⟩:=k;obtain ⟨d,k'⟩:=k';obtain ⟨f,e⟩:=e
 have:=grow (x:=l - h') (c:=c+d+4096*f) fun n=>by
  have:=k n;have:=k' n;have:=e n;rw [Int.sub_mul];omega
 omega
theorem AU.valid {s:Nat→Int} {l h:Int} (k:AU s l h):l≤h:=k.meet k (xh.Cl.refl s)
theorem AU.common {s:Nat→Int} {l h l' h':Int} (k:AU s l h) (k':AU s l' h'):AU s (max l l') (min h h'):=by
 obtain ⟨c,k⟩:=k;obtain ⟨d,k'⟩:=k';refine ⟨max c d,fun n=>?_⟩;have:=k n;have:=k' n
 rcases Int.le_total l l' with h1 | h1 <;> rcases Int.le_total h h' with h2 | h2
 ·rw [Int.max_eq_right h1,Int.min_eq_left h2];omega
 ·rw [Int.max_eq_right h1,Int.min_eq_right h2];omega
 ·rw [Int.max_eq_left h1,Int.min_eq_left h2];omega
 rw [Int.max_eq_left h1,Int.min_eq_right h2];omega
theorem AU.cl {s t:Nat→Int} {l h:Int} (k:AU s l h) (e:xh.Cl s t):AU t l h:=by
 obtain ⟨c,k⟩:=k;obtain ⟨f,e⟩:=e;exact ⟨c+4096*f,fun n=>by have:=k n;have:=e n;omega⟩
theorem AU.add {s t:Nat→Int} {l h l' h':Int} (k:AU s l h) (k':AU t l' h'):AU (fun n=>s n+t n) (l+l') (h+h'):=by
 obtain ⟨c,k⟩:=k;obtain ⟨d,k'⟩:=k';exact ⟨c+d,fun n=>by have:=k n;have:=k' n;rw [Int.add_mul,Int.add_mul];show _≤4096*(s n+t n)∧4096*(s n+t n)≤_;omega⟩
theorem AU.sub {s t:Nat→Int} {l h l' h':Int} (k:AU s l h) (k':AU t l' h'):AU (fun n=>s n - t n) (l - h') (h - l'):=by
 obtain ⟨c,k⟩:=k;obtain ⟨d,k'⟩:=k';exact ⟨c+d,fun n=>by have:=k n;have:=k' n;rw [Int.sub_mul,Int.sub_mul];show _≤4096*(s n - t n)∧4096*(s n - t n)≤_;omega⟩
theorem AU.scale {s:Nat→Int} {l h:Int} (m:Nat) (k:AU s l h):AU (fun n=>(m:Int)*s n) (l*m) (h*m):=by
 obtain ⟨c,k⟩:=k;refine ⟨m*c,fun n=>?_⟩;have k:=k n
 have hm:(0:Int)≤m:=by omega
 have k1:=Int.mul_le_mul_of_nonneg_left k.1 hm;have k2:=Int.mul_le_mul_of_nonneg_left k.2 hm
 constructor
 ·calc l*m*4 ^ n - m*c=(m:Int)*(l*4 ^ n - c):=by grind
   _≤(m:Int)*(4096*s n):=k1
   _=4096*((m:Int)*s n):=by grind
 calc 4096*((m:Int)*s n)=(m:Int)*(4096*s n):=by grind
  _≤(m:Int)*(h*4 ^ n+c):=k2
  _=h*m*4 ^ n+m*c:=by grind
end M
namespace M
def Fr (C:Int) (s:Nat→Int):Prop:=∀ n,1≤s n∧4*s n≤s (n+1)+C+3∧s (n+1)≤4*s n+C
theorem Fr.lo {C:Int} {s:Nat→Int} (h:Fr C s) (n:Nat):∀ k:Nat,4 ^ k*(3*(s n - 1) - C)≤3*(s (n+k) - 1) - C
 | 0=>by simp
 | k+1=>by
  have ih:=h.lo n k;have:=h (n+k);rw [Int.pow_succ,show n+(k+1)=n+k+1 by omega]
  have e:4 ^ k*4*(3*(s n - 1) - C)=4*(4 ^ k*(3*(s n - 1) - C)):=by grind
  rw [e];generalize 4 ^ k*(3*(s n - 1) - C)=x at *;omega
theorem Fr.hi {C:Int} {s:Nat→Int} (h:Fr C s) (n:Nat):∀ k:Nat,3*s (n+k)+C≤4 ^ k*(3*s n+C)
 | 0=>by simp
 | k+1=>by
  have ih:=h.hi n k;have:=h (n+k);rw [Int.pow_succ,show n+(k+1)=n+k+1 by omega]
  have e:4 ^ k*4*(3*s n+C)=4*(4 ^ k*(3*s n+C)):=by grind
  rw [e];generalize 4 ^ k*(3*s n+C)=x at *;omega
theorem Fr.hld {C:Nat} {s:Nat→Int} (h:Fr C s) (n:Nat):AU s (max 0 (3*(s n - 1) - C)*4096 / p4 n) (-(-((3*s n+C)*4096) / p4 n)):=by
 have hT:=fa n
 have Jl:(0:Int)<p4 n:=by unfold p4;omega
 have l1:max 0 (3*(s n - 1) - C)*4096 / p4 n*p4 n≤max 0 (3*(s n - 1) - C)*4096:=Int.ediv_mul_le _ (by omega);have l2:-((3*s n+C)*4096) / p4 n*p4 n≤-((3*s n+C)*4096):=Int.ediv_mul_le _ (by omega);have l0:0≤max 0 (3*(s n - 1) - C)*4096 / p4 n:=Int.ediv_nonneg (by omega) (by omega)
 have l3:-((3*s n+C)*4096) / p4 n≤0:=by
  have:=(h n).1;have:=Int.ediv_le_ediv (c:=p4 n) Jl (show -((3*s n+C)*4096)≤0 by omega)
  simpa using this
 generalize hL:max 0 (3*(s n - 1) - C)*4096 / p4 n=L at *;generalize hH:-((3*s n+C)*4096) / p4 n=H at *;clear hL hH;unfold p4 at l1 l2;refine ⟨L*4 ^ n+4096*(3+2*C+3*s n),fun N=>?_⟩;have hs:=(h N).1;have hsn:=(h n).1
 rcases Nat.lt_or_ge N n with hN | hN
 ·obtain ⟨k,rfl⟩:∃ k,n=N+k:=⟨n - N,by omega⟩
  have hk:=fa k;have hP:=fa N;have w:=h.lo N k;have e:(4:Int) ^ (N+k)=4 ^ N*4 ^ k:=Int.pow_add ..
  constructor
  ·have:L*4 ^ N≤L*4 ^ (N+k):=by
    rw [e];refine Int.mul_le_mul_of_nonneg_left ?_ l0;have:(4:Int) ^ N*1≤4 ^ N*4 ^ k:=Int.mul_le_mul_of_nonneg_left hk (by omega);omega
   omega
  have h1:3*(s N - 1) - C≤max 0 (3*(s (N+k) - 1) - C):=by
   rcases Int.lt_or_le 0 (3*(s N - 1) - C) with q | q
   ·have:1*(3*(s N - 1) - C)≤4 ^ k*(3*(s N - 1) - C):=Int.mul_le_mul_of_nonneg_right hk (by omega)
    omega
   omega
  have h2:0≤-H*4 ^ N:=Int.mul_nonneg (by omega) (by omega);have h3:0≤L*4 ^ (N+k):=Int.mul_nonneg l0 (by have:=fa (N+k);omega);omega
 obtain ⟨k,rfl⟩:∃ k,N=n+k:=⟨N - n,by omega⟩
 have hk:=fa k;have w1:=h.lo n k;have w2:=h.hi n k;have e:(4:Int) ^ (n+k)=4 ^ n*4 ^ k:=Int.pow_add ..;have h0:0≤L*4 ^ n:=Int.mul_nonneg l0 (by omega)
 constructor
 ·-- from below
  have h1:3*(L*4 ^ (n+k))≤3*(4096*s (n+k)):=by
   rw [e]
   have e2:3*(L*(4 ^ n*4 ^ k))=4 ^ k*(L*(3*4 ^ n)):=by grind
   rw [e2];refine Int.le_trans (Int.mul_le_mul_of_nonneg_left l1 (by omega)) ?_
   rcases Int.lt_or_le 0 (3*(s n - 1) - C) with q | q
   ·rw [Int.max_eq_right (by omega)]
    have e3:4 ^ k*((3*(s n - 1) - (C:Int))*4096)=4096*(4 ^ k*(3*(s n - 1) - C)):=by grind
    rw [e3];omega
   rw [Int.max_eq_left (by omega)];simp
   omega
  omega
 have h1:3*(4096*s (n+k))≤3*(-H*4 ^ (n+k)):=by
  rw [e]
  have e2:3*(-H*(4 ^ n*4 ^ k))=4 ^ k*(-(H*(3*4 ^ n))):=by grind
  rw [e2]
  have e3:3*(4096*s (n+k))≤4 ^ k*((3*s n+C)*4096):=by
   have e4:4 ^ k*((3*s n+(C:Int))*4096)=4096*(4 ^ k*(3*s n+C)):=by grind
   rw [e4];omega
  exact Int.le_trans e3 (Int.mul_le_mul_of_nonneg_left (by omega) (by omega))
 omega
theorem rk {a b:Int} (hd:af a b≠0) {P:xh} (h:xh.On a b P):Fr (hC a b) (xh.hs a P):=fun n=>⟨xh.vD a P n,(xh.rm hd h n).1,(xh.rm hd h n).2⟩
theorem tP {a:Int} {P:xh} {n:Nat} {u v:Int} (h:lw (xh.yn a n P) (.val u v)):df (.val u v)=xh.hs a P n:=by
 obtain ⟨h1,h2⟩:=(h:xh.px _=u∧xh.pz _=v)
 unfold xh.hs xh.hp hb hh;rw [h1,h2,←un]
 show max ((Wh.bl u.natAbs:Nat):Int) ((Wh.bl v.natAbs:Nat):Int)=_
 omega
theorem qi {s:Nat→Int} (h:∃ c:Int,∀ n,0≤s n∧s n≤c):AU s 0 0:=by
 obtain ⟨c,h⟩:=h;exact ⟨4096*c,fun n=>by have:=h n;omega⟩
theorem mO {a:Rat} {P:xh} {n:Nat} (h:xh.yn a n P=.O):∀ k,xh.yn a (n+k) P=.O
 | 0=>h
 | k+1=>by
  show xh.add a (xh.yn a (n+k) P) (xh.yn a (n+k) P)=.O
  rw [mO h k];rfl
theorem vC {a b:Int} (hd:af a b≠0) {P:xh} (h:xh.On a b P) {n:Nat} (hO:xh.yn a n P=.O):∃ c:Int,∀ k,0≤xh.hs a P k∧xh.hs a P k≤c:=by
 have W:=rk hd h
 have e1:xh.hs a P n=1:=by unfold xh.hs;rw [hO];decide
 refine ⟨2+hC a b,fun k=>⟨by have:=(W k).1;omega,?_⟩⟩
 rcases Nat.lt_or_ge k n with hk | hk
 ·obtain ⟨j,rfl⟩:∃ j,n=k+j:=⟨n - k,by omega⟩
  have w:=W.lo k j;rw [e1] at w;have hj:=fa j
  rcases Int.lt_or_le 0 (3*(xh.hs a P k - 1) - hC a b) with q | q
  ·have:1*(3*(xh.hs a P k - 1) - hC a b)≤4 ^ j*(3*(xh.hs a P k - 1) - hC a b):=Int.mul_le_mul_of_nonneg_right hj (by omega)
   omega
  omega
 obtain ⟨j,rfl⟩:∃ j,k=n+j:=⟨k - n,by omega⟩
 have:xh.hs a P (n+j)=1:=by unfold xh.hs;rw [mO hO j];decide
 omega
theorem pL {a b X Y E:Int} (hd:af a b≠0) (h:bB a b X Y E=true) (n:Nat) (ho:isOk (ai a b X E n)=true):AU (xh.hs a (dW X Y E)) (hL (hC a b) n (ai a b X E n)) (hH (hC a b) n (ai a b X E n)):=by
 have hon:=dw h;have hi:=vK hd h n
 cases hq:ai a b X E n with
 | bad=>rw [hq] at ho;cases ho
 | inf=>
  rw [hq] at hi;exact qi (vC hd hon hi)
 | val u v=>
 rw [hq] at hi;have:=(rk hd hon).hld n;rw [←tP hi] at this;exact this
theorem kE {a b X E:Int}:∀ {n k:Nat},k≤n→isOk (ai a b X E n)=true→isOk (ai a b X E k)=true
 | 0,k,hk,h=>by
  obtain rfl:k=0:=by omega
  exact h
 | n+1,k,hk,h=>by
  by_cases e:k=n+1
  ·exact e ▸ h
  refine kE (n:=n) (by omega) ?_;unfold ai at *
  split
  ·rfl
  rename_i hE
  rw [if_neg hE] at h;have h:isOk (nx a b (run a b n (.val X (E*E))))=true:=h
  cases hr:run a b n (.val X (E*E)) with
  | bad=>rw [hr] at h;cases h
  | inf=>rfl
  | val u v=>rfl
theorem uS {a b X Y E:Int} (hd:af a b≠0) (h:bB a b X Y E=true):∀ n:Nat,isOk (ai a b X E n)=true→AU (xh.hs a (dW X Y E)) (bL a b X E n) (bH a b X E n)
 | 0,ho=>pL hd h 0 ho
 | n+1,ho=>(uS hd h n (kE (Nat.le_succ n) ho)).common (pL hd h (n+1) ho)
theorem rC {a b X E:Int}:∀ f k:Nat,isOk (ai a b X E k)=true→isOk (ai a b X E (C1 a b X E f k))=true
 | 0,k,h=>h
 | f+1,k,h=>by
  unfold C1
  split
  ·rename_i h1
   exact rC f (k+1) h1
  exact h
theorem wH (a b X E:Int):isOk (ai a b X E (bN a b X E))=true:=by
 refine rC 5 0 ?_;unfold ai
 split <;> rfl
theorem jL {a b X Y E:Int} (hd:af a b≠0) (h:bB a b X Y E=true):AU (xh.hs a (dW X Y E)) (bL a b X E (bN a b X E)) (bH a b X E (bN a b X E)):=uS hd h _ (wH a b X E)
end M
namespace M
theorem ck {k x y:Rat} (hk:k≠0) (h:k*x=k*y):x=y:=by
 have:k*(x - y)=0:=by grind
 rcases Rat.mul_eq_zero.1 this with h | h
 ·exact absurd h hk
 grind
theorem fx {X Y E:Int} (hE:E≠0):∃ x y:Rat,dW X Y E=.fin x y∧x*((E:Rat)*E)=X∧y*((E:Rat)*E*E)=Y:=by
 refine ⟨_,_,if_neg hE,?_,?_⟩
 ·push_cast
  exact Rat.div_mul_cancel (by have:=dV hE;grind)
 push_cast
 exact Rat.div_mul_cancel (by have:=dV hE;grind)
theorem sW {a b X Y E X' Y' E':Int} (h:bB a b X Y E=true) (h':bB a b X' Y' E'=true) (e:dW X Y E=dW X' Y' E'):X=X'∧Y=Y'∧E=E':=by
 by_cases hE:E=0
 ·by_cases hE':E'=0
  ·have h1:=sZ h hE
   have h2:=sZ h' hE';omega
  unfold dW at e;rw [if_pos hE,if_neg hE'] at e;cases e
 by_cases hE':E'=0
 ·unfold dW at e
  rw [if_neg hE,if_pos hE'] at e;cases e
 have h1:=oI h hE;have h2:=oI h' hE';rw [e] at h1;have p1:=(dT h hE).2.1;have p2:=(dT h' hE').2.1
 have eE:E=E':=by
  have h3:E*E=E'*E':=h1.2.symm.trans h2.2
  rcases Int.lt_or_le E E' with q | q
  ·have:=Int.mul_lt_mul q (Int.le_of_lt q) (by omega) (by omega)
   omega
  rcases Int.lt_or_le E' E with q' | q'
  ·have:=Int.mul_lt_mul q' (Int.le_of_lt q') (by omega) (by omega)
   omega
  omega
 subst eE;obtain ⟨x,y,k1,k2,k3⟩:=fx (X:=X) (Y:=Y) hE;obtain ⟨x',y',l1,l2,l3⟩:=fx (X:=X') (Y:=Y') hE;rw [k1,l1] at e
 injection e with e1 e2
 refine ⟨h1.1.symm.trans h2.1,?_,rfl⟩;rw [e2,l3] at k3
 exact_mod_cast k3.symm
theorem xD {x:Int} (h:(x:Rat)=0):x=0:=by exact_mod_cast h
theorem sp {a b X1 Y1 E1 X2 Y2 E2:Int} (h1:bB a b X1 Y1 E1=true) (h2:bB a b X2 Y2 E2=true) (e1:E1≠0) (e2:E2≠0) (h0:sD X1 Y1 E1 X2 Y2 E2≠0) {x1 y1 x2 y2:Rat}
  (k1:x1*((E1:Rat)*E1)=X1) (k2:y1*((E1:Rat)*E1*E1)=Y1) (k3:x2*((E2:Rat)*E2)=X2) (k4:y2*((E2:Rat)*E2*E2)=Y2)
  (o1:y1*y1=x1*x1*x1+a*x1+b) (o2:y2*y2=x2*x2*x2+a*x2+b) :
  ∃ l:Rat,xh.Slp a x1 y1 x2 y2 l∧l*(sD X1 Y1 E1 X2 Y2 E2:Int)=(sN a X1 Y1 E1 X2 Y2 E2:Int):=by
 have z1:=dV e1;have z2:=dV e2
 by_cases hc:X1=X2∧Y1=Y2∧E1=E2
 ·unfold sD at h0
  rw [if_pos hc] at h0
  have hy:y1≠0:=fun h=>by
   rw [h,Rat.zero_mul] at k2;have:=xD k2.symm;subst this;simp at h0
  unfold sD sN;rw [if_pos hc,if_pos hc];obtain ⟨rfl,rfl,rfl⟩:=hc;have ex:x1=x2:=ck (k:=(E1:Rat)*E1) (by grind) (by grind);have ey:y1=y2:=ck (k:=(E1:Rat)*E1*E1) (by grind) (by grind);subst ex ey;refine ⟨(3*x1*x1+a) / (2*y1),⟨by grind,?_⟩,?_⟩
  ·have:=Rat.div_mul_cancel (a:=3*x1*x1+a) (b:=2*y1) (by grind)
   grind
  have:=Rat.div_mul_cancel (a:=3*x1*x1+a) (b:=2*y1) (by grind);generalize (3*x1*x1+(a:Rat)) / (2*y1)=l at *
  push_cast
  rw [←k1,←k2];clear k1 k2 k3 k4 o1 o2;generalize (E1:Rat)=e at *
  have:l*(2*(y1*(e*e*e))*e)=(l*(2*y1))*(e*e*e*e):=by grind
  grind
 unfold sD at h0;rw [if_neg hc] at h0;unfold sD sN;rw [if_neg hc,if_neg hc]
 have hx:x2 - x1≠0:=fun h=>by
  apply h0
  have:(X2*E1*E1 - X1*E2*E2:Int)=0:=by
   apply xD
   push_cast
   rw [←k1,←k3];clear k2 k4 o1 o2
   grind
  rw [this,Int.mul_zero]
 have hd:=Rat.div_mul_cancel (a:=y2 - y1) hx;refine ⟨(y2 - y1) / (x2 - x1),⟨by grind,?_⟩,?_⟩
 ·generalize (y2 - y1) / (x2 - x1)=l at *
  refine ck hx ?_
  have:(x2 - x1)*(l*(y1+y2))=(y2 - y1)*(y1+y2):=by rw [←hd];grind
  rw [this];clear this hd k1 k2 k3 k4
  grind
 generalize (y2 - y1) / (x2 - x1)=l at *
 push_cast
 rw [←k1,←k2,←k3,←k4];clear k1 k2 k3 k4 o1 o2;generalize (E1:Rat)=e at *;generalize (E2:Rat)=f at *
 have:l*(e*f*(x2*(f*f)*e*e - x1*(e*e)*f*f))=(l*(x2 - x1))*(e*e*e*f*f*f):=by grind
 rw [this,hd]
 grind
theorem eK {a b:Int} (h:good a b=true):af a b≠0:=by
 unfold good at h;rw [Bool.and_eq_true] at h
 simpa using h.2
theorem pH {a b X1 Y1 E1 X2 Y2 E2:Int} (hg:good a b=true) (h1:bB a b X1 Y1 E1=true) (h2:bB a b X2 Y2 E2=true) (e1:E1≠0) (e2:E2≠0) (h0:sD X1 Y1 E1 X2 Y2 E2≠0) :
  ∃ u v:Rat,xh.add a (dW X1 Y1 E1) (dW X2 Y2 E2)=.fin u v∧
   (∀ (x:Int) (e:Int),e≠0→(u*((e:Rat)*e)=x ↔ bot (zB a X1 Y1 E1 X2 Y2 E2) E1 E2*x=top (zU a X1 Y1 E1 X2 Y2 E2) (zB a X1 Y1 E1 X2 Y2 E2) X1 E1 X2 E2*(e*e)))∧
   ∀ (x y e:Int),e≠0→u*((e:Rat)*e)=x→e*ep (zU a X1 Y1 E1 X2 Y2 E2) (zB a X1 Y1 E1 X2 Y2 E2) X1 Y1 E1 x e=zB a X1 Y1 E1 X2 Y2 E2*E1*E1*E1*y→v*((e:Rat)*e*e)=y:=by
 obtain ⟨x1,y1,k0,k1,k2⟩:=fx (X:=X1) (Y:=Y1) e1;obtain ⟨x2,y2,k3,k4,k5⟩:=fx (X:=X2) (Y:=Y2) e2;have o1:=dw h1;have o2:=dw h2;rw [k0] at o1 ⊢;rw [k3] at o2 ⊢;obtain ⟨l,hl,hn⟩:=sp h1 h2 e1 e2 h0 k1 k2 k4 k5 o1 o2;obtain ⟨hs,hd0,-⟩:=pa (a:=a) h0
 have hln:l*(zB a X1 Y1 E1 X2 Y2 E2:Int)=(zU a X1 Y1 E1 X2 Y2 E2:Int):=by
  refine ck (k:=(sD X1 Y1 E1 X2 Y2 E2:Rat)) (dV h0) ?_
  have:((zU a X1 Y1 E1 X2 Y2 E2*sD X1 Y1 E1 X2 Y2 E2:Int):Rat)=((zB a X1 Y1 E1 X2 Y2 E2*sN a X1 Y1 E1 X2 Y2 E2:Int):Rat):=by rw [hs]
  push_cast at this
  rw [←hn] at this
  grind
 have hm:=dV (E:=zB a X1 Y1 E1 X2 Y2 E2) (by omega);generalize zB a X1 Y1 E1 X2 Y2 E2=m,zU a X1 Y1 E1 X2 Y2 E2=n at *;refine ⟨_,_,xh.cY (xh.jm (eK hg)) o1 o2 hl,fun x e he=>?_,fun x y e he hx hy=>?_⟩
 ·have hxr:(bot m E1 E2*x=top n m X1 E1 X2 E2*(e*e)) ↔ ((m:Rat)*m*(E1*E1*E2*E2)*x=((n:Rat)*n*(E1*E1*E2*E2) - m*m*(X1*E2*E2+X2*E1*E1))*(e*e)):=by
   unfold bot top
   constructor
   ·intro h
    exact_mod_cast h
   intro h
   exact_mod_cast h
  rw [hxr,←k1,←k4,←hln];have z1:=dV e1;have z2:=dV e2;have z3:=dV he;clear k0 k1 k2 k3 k4 k5 o1 o2 hn hln hxr hl;generalize (E1:Rat)=e1 at *;generalize (E2:Rat)=e2 at *;generalize (e:Rat)=e at *;generalize (m:Rat)=m at *;generalize (x:Rat)=x at *
  have e0:(l*m*(l*m)*(e1*e1*e2*e2) - m*m*(x1*(e1*e1)*e2*e2+x2*(e2*e2)*e1*e1))*(e*e)=(m*m*(e1*e1*e2*e2))*((l*l - x1 - x2)*(e*e)):=by grind
  rw [e0]
  constructor
  ·intro h
   rw [h]
  intro h;exact (ck (k:=m*m*(e1*e1*e2*e2)) (by grind) h).symm
 have Js:((e:Rat)*(n*(X1*e*e - x*E1*E1)*E1 - Y1*m*e*e))=m*E1*E1*E1*y:=by
  unfold ep at hy
  exact_mod_cast hy
 rw [←k1,←k2,←hln,←hx] at Js;have z1:=dV e1;have z3:=dV he;clear k0 k1 k2 k3 k4 k5 o1 o2 hn hln hl hx hy;generalize (E1:Rat)=e1 at *;generalize (e:Rat)=e at *;generalize (m:Rat)=m at *;generalize (y:Rat)=y at *;refine ck (k:=m*e1*e1*e1) (by grind) ?_;rw [←Js];generalize l*l - x1 - x2=u
 grind
theorem gU {a b X1 Y1 E1 X2 Y2 E2:Int} (hg:good a b=true) (h1:bB a b X1 Y1 E1=true) (h2:bB a b X2 Y2 E2=true) (hk:bk a X1 Y1 E1 X2 Y2 E2=true) :
  dW (dC a X1 Y1 E1 X2 Y2 E2) (dO a X1 Y1 E1 X2 Y2 E2) (dB a X1 Y1 E1 X2 Y2 E2)=xh.add a (dW X1 Y1 E1) (dW X2 Y2 E2):=by
 unfold bk at hk;unfold dC dO dB
 by_cases e1:E1=0
 ·subst e1
  rw [if_pos rfl,if_pos rfl,if_pos rfl];rfl
 rw [if_neg e1] at hk;rw [if_neg e1,if_neg e1,if_neg e1]
 by_cases e2:E2=0
 ·subst e2
  rw [if_pos rfl,if_pos rfl,if_pos rfl];exact (xh.jz _ _).symm
 rw [if_neg e2] at hk;rw [if_neg e2,if_neg e2,if_neg e2];obtain ⟨p1,p2,p3,p4⟩:=dT h1 e1;obtain ⟨r1,r2,r3,r4⟩:=dT h2 e2
 by_cases h0:sD X1 Y1 E1 X2 Y2 E2=0
 ·obtain ⟨q1,q2,q3⟩:=(pK p4 r4 p2.1 r2.1 p3 r3).1 h0
  unfold Br CF BG;rw [if_pos h0,if_pos h0,if_pos h0];subst q1 q2 q3;unfold dW;rw [if_pos rfl,if_neg e1,if_neg e1]
  symm
  refine xh.cH ⟨rfl,?_⟩
  push_cast
  rw [Rat.div_def,Rat.div_def,Rat.neg_mul]
 obtain ⟨u,v,k1,k2,k3⟩:=pH hg h1 h2 e1 e2 h0;obtain ⟨-,-,H⟩:=iy (n:=zU a X1 Y1 E1 X2 Y2 E2) (m:=zB a X1 Y1 E1 X2 Y2 E2) p4 r4 p1.2 r1.2 p2.1 p2.2 r2.1 r2.2 h0 (Or.inl ⟨rfl,rfl⟩);obtain ⟨c1,c2,c3,c4,c5,c6,c7,c8,-⟩:=H hk _ _ _ rfl rfl rfl
 have hE:BG a X1 Y1 E1 X2 Y2 E2≠0:=by omega
 have hu:=(k2 _ _ hE).2 c6;have hv:=k3 _ _ _ hE hu c7;rw [k1];obtain ⟨x,y,l1,l2,l3⟩:=fx (X:=Br a X1 Y1 E1 X2 Y2 E2) (Y:=CF a X1 Y1 E1 X2 Y2 E2) hE;have z:=dV hE;rw [l1]
 congr 1
 ·exact ck (k:=(BG a X1 Y1 E1 X2 Y2 E2:Rat)*BG a X1 Y1 E1 X2 Y2 E2) (by grind) (by grind)
 exact ck (k:=(BG a X1 Y1 E1 X2 Y2 E2:Rat)*BG a X1 Y1 E1 X2 Y2 E2*BG a X1 Y1 E1 X2 Y2 E2) (by grind) (by grind)
theorem ui {a b X1 Y1 E1 X2 Y2 E2 X Y E:Int} (hg:good a b=true) (h1:bB a b X1 Y1 E1=true) (h2:bB a b X2 Y2 E2=true) (h3:bB a b X Y E=true) (hs:xh.add a (dW X1 Y1 E1) (dW X2 Y2 E2)=dW X Y E) :
  bk a X1 Y1 E1 X2 Y2 E2=true∧dC a X1 Y1 E1 X2 Y2 E2=X∧dO a X1 Y1 E1 X2 Y2 E2=Y∧dB a X1 Y1 E1 X2 Y2 E2=E:=by
 have hin:=M.am hg
 have key:bk a X1 Y1 E1 X2 Y2 E2=true:=by
  unfold bk
  by_cases e1:E1=0
  ·rw [if_pos e1]
  rw [if_neg e1]
  by_cases e2:E2=0
  ·rw [if_pos e2]
  rw [if_neg e2]
  by_cases h0:sD X1 Y1 E1 X2 Y2 E2=0
  ·unfold fz
   rw [if_pos h0]
  obtain ⟨p1,p2,p3,p4⟩:=dT h1 e1;obtain ⟨r1,r2,r3,r4⟩:=dT h2 e2;obtain ⟨u,v,k1,k2,k3⟩:=pH hg h1 h2 e1 e2 h0;obtain ⟨-,H,-⟩:=iy (n:=zU a X1 Y1 E1 X2 Y2 E2) (m:=zB a X1 Y1 E1 X2 Y2 E2) p4 r4 p1.2 r1.2 p2.1 p2.2 r2.1 r2.2 h0 (Or.inl ⟨rfl,rfl⟩);rw [k1] at hs
  by_cases hE:E=0
  ·subst hE
   cases hs
  obtain ⟨q1,q2,q3,q4⟩:=dT h3 hE;obtain ⟨x,y,l1,l2,l3⟩:=fx (X:=X) (Y:=Y) hE;rw [l1] at hs
  injection hs with s1 s2
  rw [←s1] at l2;exact (H X E q2.1 q2.2 q1.1 q1.2 q3 ((k2 X E hE).1 l2)).1
 refine ⟨key,?_⟩;exact sW (dk hin h1 h2) h3 ((gU hg h1 h2 key).trans hs)
theorem q7 {a b X1 Y1 E1 X2 Y2 E2:Int} (hg:good a b=true) (h1:bB a b X1 Y1 E1=true) (h2:bB a b X2 Y2 E2=true) (hk:bk a X1 Y1 E1 X2 Y2 E2=true) :
  bk a X2 Y2 E2 X1 Y1 E1=true∧dC a X2 Y2 E2 X1 Y1 E1=dC a X1 Y1 E1 X2 Y2 E2∧dO a X2 Y2 E2 X1 Y1 E1=dO a X1 Y1 E1 X2 Y2 E2∧dB a X2 Y2 E2 X1 Y1 E1=dB a X1 Y1 E1 X2 Y2 E2:=by
 refine ui hg h2 h1 (dk (M.am hg) h1 h2) ?_;rw [gU hg h1 h2 hk];exact xh.add_comm (xh.jm (eK hg)) (dw h2) (dw h1)
theorem sY (X Y E:Int):dW X (-Y) E=xh.neg (dW X Y E):=by
 unfold dW
 split
 ·rfl
 show xh.fin _ _=xh.fin _ _
 congr 1
 push_cast
 rw [Rat.div_def,Rat.div_def,Rat.neg_mul]
theorem gy {a b X Y E:Int} (h:bB a b X Y E=true):bB a b X (-Y) E=true:=by
 unfold bB at *
 split
 ·rename_i hE
  rw [if_pos hE] at h;simp only [Bool.and_eq_true,decide_eq_true_eq] at *;omega
 rename_i hE
 rw [if_neg hE] at h;simp only [Bool.and_eq_true,decide_eq_true_eq] at *;exact ⟨h.1,by rw [show -Y*-Y=Y*Y by grind];exact h.2⟩
end M
end
section
open Go.RowKit
namespace M
theorem nj {X E:Int} (hX1:-10000≤X) (hX2:X≤10000) (hE1:0≤E) (hE2:E≤20):df (.val X (E*E))≤14:=by
 have h1:Wh.bl X.natAbs≤14:=Wh.mF (by omega)
 have Id:0≤E*E∧E*E≤400:=⟨Int.mul_nonneg hE1 hE1,by have:=Int.mul_le_mul hE2 hE2 hE1 (by omega);omega⟩
 have h2:Wh.bl (E*E).natAbs≤14:=Wh.mF (by omega)
 show max ((Wh.bl X.natAbs:Nat):Int) ((Wh.bl (E*E).natAbs:Nat):Int)≤14
 omega
theorem gG {a b X Y E:Int} (hg:good a b=true) (h:bB a b X Y E=true) (k:Nat):0≤bL a b X E k∧bH a b X E k≤150000:=by
 have hin:=am hg;obtain ⟨x1,x2,e1,e2,-⟩:=b6 hin h;have hm:=nh (a:=a) (b:=b) (X:=X) (E:=E) (k:=0) k (Nat.zero_le _);have hCb:=kA hin;have hb:=nj x1 x2 e1 e2
 have h0:0≤bL a b X E 0∧bH a b X E 0≤150000:=by
  show 0≤hL (hC a b) 0 (ai a b X E 0)∧hH (hC a b) 0 (ai a b X E 0)≤150000
  unfold ai
  split
  ·exact ⟨Int.le_refl _,by show (0:Int)≤150000;decide⟩
  show 0≤max 0 (3*(df (.val X (E*E)) - 1) - (hC a b:Int))*4096 / p4 0∧-(-((3*df (.val X (E*E))+(hC a b:Int))*4096) / p4 0)≤150000
  have e:p4 0=3:=rfl;rw [e];omega
 omega
theorem et {a b X Y E:Int} (hg:good a b=true) (h:bB a b X Y E=true):bR a b X E=some (bL a b X E (bN a b X E),bH a b X E (bN a b X E)):=by
 have hs:=gG hg h (bN a b X E);have hv:=(jL (eK hg) h).valid;unfold bR zR
 have:aM (bL a b X E (bN a b X E)) (bH a b X E (bN a b X E))=true:=by
  unfold aM;simp only [Bool.and_eq_true,decide_eq_true_eq];omega
 rw [if_pos this]
theorem mf {l h:Int} (h1:l≤h) (h2:-409600000≤l) (h3:h≤409600000):mkS l h=some (l,h):=by
 unfold mkS aM;rw [if_pos (by simp only [Bool.and_eq_true,decide_eq_true_eq];omega)]
theorem iG {a b c d:Int} (h1:a≤b) (h2:c≤d) (h3:-10000000≤a) (h4:b≤10000000) (h5:-10000000≤c) (h6:d≤10000000):fQ (some (a,b)) (some (c,d))=some (a+c,b+d):=mf (by omega) (by omega) (by omega)
theorem d9 {a b c d:Int} (h1:a≤b) (h2:c≤d) (h3:-10000000≤a) (h4:b≤10000000) (h5:-10000000≤c) (h6:d≤10000000):cy (some (a,b)) (some (c,d))=some (a - d,b - c):=mf (by omega) (by omega) (by omega)
structure HB (a b X Y E l h:Int):Prop where
 is:bR a b X E=some (l,h)
 lo:0≤l
 hi:h≤150000
 le:l≤h
 hld:AU (xh.hs a (dW X Y E)) l h
theorem HB.ex {a b X Y E:Int} (hg:good a b=true) (h:bB a b X Y E=true):∃ l u,HB a b X Y E l u∧l=bL a b X E (bN a b X E)∧u=bH a b X E (bN a b X E):=
 ⟨_,_,⟨et hg h,(gG hg h _).1,(gG hg h _).2,(jL (eK hg) h).valid,jL (eK hg) h⟩,rfl,rfl⟩
theorem wZ {x y:Int} (h1:-409600000≤x) (h2:x≤409600000) (h3:-409600000≤y) (h4:y≤409600000):(pn x*pd y<pn y*pd x) ↔ x<y:=by
 obtain ⟨-,x1,-,x2,x3,x4,-⟩:=gJ (bG h1 h2);obtain ⟨-,y1,-,y2,y3,y4,-⟩:=gJ (bG h3 h4);have ex:4096 / pd x*pd x=4096:=Int.ediv_mul_cancel (Int.dvd_of_emod_eq_zero x2);have ey:4096 / pd y*pd y=4096:=Int.ediv_mul_cancel (Int.dvd_of_emod_eq_zero y2);generalize 4096 / pd y=v,4096 / pd x=u at *
 have e1:(u*v)*(pn x*pd y)=x*4096:=by rw [←x3,←ey];grind
 have e2:(u*v)*(pn y*pd x)=y*4096:=by rw [←y3,←ex];grind
 have huv:0<u*v:=Int.mul_pos (by omega) (by omega)
 constructor
 ·intro h
  have:=Int.mul_lt_mul_of_pos_left h huv;rw [e1,e2] at this;omega
 intro h;refine Int.lt_of_mul_lt_mul_left (a:=u*v) ?_ (Int.le_of_lt huv);rw [e1,e2];omega
end M
end
end Go.Proofs.YtggekfbfechonaaGreat
