/-
  Joined texts: contracts and plain lemmas.
-/
import Derived.Test.YtggekfbfechonaaGreatV1
import Derived.Test.YtggekfbfechonaaGreatV15
import Derived.Test.YtggekfbfechonaaGreatV2
import Derived.Test.YtggekfbfechonaaGreatV14
import Derived.Deep.DeepCutAuto
set_option linter.unusedSimpArgs false
set_option linter.unusedVariables false
set_option maxRecDepth 100000
set_option maxHeartbeats 8000000
namespace Go.Proofs.YtggekfbfechonaaGreat
section
open Go.RowKit
namespace M
theorem j0 {a b X Y E:Int} (hg:good a b=true) (h:bB a b X Y E=true):zR a b X E=true:=by
 have hs:=et hg h;unfold bR at hs
 cases hb:zR a b X E with
 | true=>rfl
 | false=>rw [hb] at hs;simp at hs
noncomputable def wid (s:Sp):Option (Int × Int):=match s with | some p=>yU (p.2 - p.1) 4096 | none=>none
end M
theorem jx (lo hi:Int) (w:World) (h:M.aM lo hi=true) :
  Calls Tryz.prog 86 #[.agg #[.int .i64 (M.pn lo),.int .i64 (M.pd lo),.int .i64 (M.pn hi),.int .i64 (M.pd hi)]] w fun e w'=>e=.returned (.tuple #[.agg #[.int .i64 (M.fN (M.yU (hi - lo) 4096)),.int .i64 (M.fD (M.yU (hi - lo) 4096))],.bool (M.yU (hi - lo) 4096).isSome])∧Below w.heap.size w w':=by
 obtain ⟨ab,a1,b1⟩:=M.bQ h
 have PG:=fun W=>gp lo hi W (M.bG (by omega) (by omega)) (M.bG (by omega) (by omega))
 rw [h] at PG
 have PE:=fun W=>eM lo hi W (M.bG (by omega) (by omega)) (M.bG (by omega) (by omega))
 have PM:=fun W=>jU (hi - lo) 4096 W (by omega) (by omega) (by omega) (by omega) (by omega)
 generalize M.pd hi=d2,M.pn hi=n2,M.pd lo=d1,M.pn lo=n1,(M.yU (hi - lo) 4096).isSome=f3,M.fD (M.yU (hi - lo) 4096)=f2,M.fN (M.yU (hi - lo) 4096)=f1 at *;replace PG:=xL PG;replace PE:=xL PE;replace PM:=xL PM;clear h;obtain ⟨wc,hw3,I,R2,B⟩:=iD w #[.int .i64 n1,.int .i64 d1,.int .i64 n2,.int .i64 d2] 33 #[.int .i64 0,.int .i64 0] 31;have ⟨n0,n1,n2,n3,m0,m1,m2,m3,ml⟩:=I.aN;go_enter Tryz.func86,Tryz.ntmps86
 go_wp2_with (first | (go_at_call 136;(with_reducible refine (PG.out _).mono ?_);rintro e w4 ⟨rfl,hb4⟩;replace B:=d_ B hb4;replace I:=I.keep hb4;replace R2:=R2.keep hb4;(have ⟨n0,n1,n2,n3,m0,m1,m2,m3,ml⟩:=I.aN);(have ⟨r0,r1,Ah,Ai,rl⟩:=R2.box)) | (go_at_call 101;(with_reducible refine (PE.out _).mono ?_);rintro e w5 ⟨rfl,hb5⟩;replace B:=d_ B hb5;replace I:=I.keep hb5;replace R2:=R2.keep hb5;(have ⟨n0,n1,n2,n3,m0,m1,m2,m3,ml⟩:=I.aN);(have ⟨r0,r1,Ah,Ai,rl⟩:=R2.box)) | (go_at_call 79;(with_reducible refine (PM.out _).mono ?_);rintro e w6 ⟨rfl,hb6⟩;replace B:=d_ B hb6;replace R2:=R2.keep hb6;(have ⟨r0,r1,Ah,Ai,rl⟩:=R2.box)))
 exact bodyPost_ret (v:=.tuple #[.agg #[.int .i64 f1,.int .i64 f2],.bool f3]) (by simp [results,Tryz.results86,go_sem, *]) rfl (⟨rfl,xN (xN B (by dsimp only;omega) _) (by dsimp only;omega) _⟩)
theorem iM (a b X Y E:Int) (w:World) :
  Calls Tryz.prog 10 #[.agg #[.int .i64 a,.int .i64 b],.agg #[.int .i64 X,.int .i64 Y,.int .i64 E]] w fun e w'=>e=.returned (.tuple #[.agg #[.int .i64 (M.xp (M.dY a b X Y E)),.int .i64 (M.xr (M.dY a b X Y E)),.int .i64 (M.xu (M.dY a b X Y E)),.int .i64 (M.xv (M.dY a b X Y E))],.int .i64 (M.l9 a b X Y E),.bool (M.dY a b X Y E).isSome])∧Below w.heap.size w w':=by
 have PT:∀ W,Calls Tryz.prog 55 #[.agg #[.int .i64 a,.int .i64 b],.agg #[.int .i64 X,.int .i64 Y,.int .i64 E]] W fun e w'=>e=.returned (.bool (M.cO a b X Y E))∧Below W.heap.size W w':=fun W=>dM a b X Y E W
 unfold M.dY M.l9 M.dY;obtain ⟨wc,hw3,C,Q,R,B⟩:=fM w #[.int .i64 a,.int .i64 b] 25 #[.int .i64 X,.int .i64 Y,.int .i64 E] 27 #[.int .i64 0,.int .i64 0,.int .i64 0,.int .i64 0] 33;have f_:=C.box.c0;have i_:=C.box.c1;have ⟨q0,q1,q2⟩:=Q.aK
 cases h0:M.cO a b X Y E with
 | false=>
  simp only [h0,Bool.true_and,Bool.false_and,Bool.and_false] at PT ⊢;replace PT:=xL PT;rw [M.gl];go_enter Tryz.func10,Tryz.ntmps10
  go_wp2_with (first | (go_at_call 55;(with_reducible refine (PT.out _).mono ?_);rintro e w4 ⟨rfl,hb4⟩;replace B:=d_ B hb4;replace C:=C.keep hb4;replace Q:=Q.keep hb4;replace R:=R.keep hb4;have f_:=C.box.c0;have i_:=C.box.c1;(have ⟨q0,q1,q2⟩:=Q.aK);(have ⟨r0,r1,r2,r3,z0,z1,z2,z3,rl⟩:=R.aN)))
  exact bodyPost_ret (v:=.tuple #[.agg #[.int .i64 0,.int .i64 0,.int .i64 0,.int .i64 0],.int .i64 0,.bool false]) (by simp [results,Tryz.results10,go_sem, *]) rfl (⟨rfl,xN (xN (xN (xN B (by dsimp only;omega) _) (by dsimp only;omega) _) (by dsimp only;omega) _) (by dsimp only;omega) _⟩)
 | true=>
 simp only [h0,Bool.true_and,Bool.and_self] at PT ⊢;simp only [M.co];replace PT:=xL PT;obtain ⟨hg,hp1⟩:=M.bp h0;obtain ⟨p1,p2,p3,p4,-,-⟩:=M.b6 (M.am hg) hp1
 have PR:=fun W=>gV a b X Y E W hg p1 p2 p3 p4
 have ht:=M.j0 hg hp1;have hS:=M.et hg hp1;have hok:M.AP (M.bR a b X E):=M.kL hg hp1;clear h0 hg hp1 p1 p2 p3 p4;have hsp:M.aM (M.bL a b X E (M.bN a b X E)) (M.bH a b X E (M.bN a b X E))=true:=ht;rw [hS];rw [ht] at PR;clear ht hS hok;generalize M.bH a b X E (M.bN a b X E)=hi,M.bL a b X E (M.bN a b X E)=lo at *;generalize ((M.bN a b X E:Nat):Int)=kk at *
 have hin:M.xp (some (lo,hi))=M.pn lo∧M.xr (some (lo,hi))=M.pd lo∧M.xu (some (lo,hi))=M.pn hi∧M.xv (some (lo,hi))=M.pd hi:=⟨rfl,rfl,rfl,rfl⟩
 obtain ⟨y1,y2,y3,y4⟩:=hin;rw [y1,y2,y3,y4,show (some (lo,hi)).isSome=true from rfl,M.dS];clear y1 y2 y3 y4
 have PI:=fun W=>fA lo hi true W
 rw [hsp] at PI;simp only [Bool.and_self,M.dS] at PI;clear hsp;generalize M.pd hi=i4,M.pn hi=i3,M.pd lo=i2,M.pn lo=i1 at *;replace PR:=xL PR;replace PI:=xL PI;go_enter Tryz.func10,Tryz.ntmps10
 go_wp2_with (first | (go_at_call 55;(with_reducible refine (PT.out _).mono ?_);rintro e w4 ⟨rfl,hb4⟩;replace B:=d_ B hb4;replace C:=C.keep hb4;replace Q:=Q.keep hb4;replace R:=R.keep hb4;have f_:=C.box.c0;have i_:=C.box.c1;(have ⟨q0,q1,q2⟩:=Q.aK);(have ⟨r0,r1,r2,r3,z0,z1,z2,z3,rl⟩:=R.aN)) | (go_at_call 61;(with_reducible refine (PR.out _).mono ?_);rintro e w7 ⟨rfl,yC⟩;replace B:=d_ B yC;replace C:=C.keep yC;replace Q:=Q.keep yC;replace R:=R.keep yC;have f_:=C.box.c0;have i_:=C.box.c1;(have ⟨q0,q1,q2⟩:=Q.aK);(have ⟨r0,r1,r2,r3,z0,z1,z2,z3,rl⟩:=R.aN);have B0:=B;have DW:=B.size;replace B:=B.alloc DW (.cells #[.int .i64 lo,.int .i64 hi] 74);replace R:=R.alloc (.cells #[.int .i64 lo,.int .i64 hi] 74);have V:=aH.new w7 #[.int .i64 lo,.int .i64 hi] 74;(have ⟨r0,r1,r2,r3,z0,z1,z2,z3,rl⟩:=R.aN);(have ⟨v0,v1,_,_,_⟩:=V.box)) | (go_at_call 58;(with_reducible refine (PI.out _).mono ?_);rintro e w8 ⟨rfl,xw⟩;replace B:=d_ B xw;replace R:=R.keep xw;(have ⟨r0,r1,r2,r3,z0,z1,z2,z3,rl⟩:=R.aN);have B0:=B;have Jt:=B.size;replace B:=B.alloc Jt (.cells #[.int .i64 i1,.int .i64 i2,.int .i64 i3,.int .i64 i4] 33);replace R:=R.alloc (.cells #[.int .i64 i1,.int .i64 i2,.int .i64 i3,.int .i64 i4] 33);have I:=aH.new w8 #[.int .i64 i1,.int .i64 i2,.int .i64 i3,.int .i64 i4] 33;(have ⟨r0,r1,r2,r3,z0,z1,z2,z3,rl⟩:=R.aN);(have ⟨n0,n1,n2,n3,m0,m1,m2,m3,ml⟩:=I.aN)))
 exact bodyPost_ret (v:=.tuple #[.agg #[.int .i64 i1,.int .i64 i2,.int .i64 i3,.int .i64 i4],.int .i64 kk,.bool true]) (by simp [results,Tryz.results10,go_sem, *]) rfl (⟨rfl,(xN (xN (xN (xN (B0) (by dsimp only;omega) _) (by dsimp only;omega) _) (by dsimp only;omega) _) (by dsimp only;omega) _).alloc (by simp only [bP];exact Jt) _⟩)
theorem iT (a b X Y E:Int) (w:World) :
  Calls Tryz.prog 11 #[.agg #[.int .i64 a,.int .i64 b],.agg #[.int .i64 X,.int .i64 Y,.int .i64 E]] w fun e w'=>e=.returned (.tuple #[.agg #[.int .i64 (M.xp (M.dY a b X Y E)),.int .i64 (M.xr (M.dY a b X Y E)),.int .i64 (M.xu (M.dY a b X Y E)),.int .i64 (M.xv (M.dY a b X Y E))],.int .i64 (M.l9 a b X Y E),.bool (M.dY a b X Y E).isSome])∧Below w.heap.size w w':=by
 have PT:∀ W,Calls Tryz.prog 62 #[.agg #[.int .i64 a,.int .i64 b],.agg #[.int .i64 X,.int .i64 Y,.int .i64 E]] W fun e w'=>e=.returned (.bool (M.cO a b X Y E))∧Below W.heap.size W w':=fun W=>eS a b X Y E W
 unfold M.dY M.l9 M.dY;obtain ⟨wc,hw3,C,Q,R,B⟩:=fM w #[.int .i64 a,.int .i64 b] 25 #[.int .i64 X,.int .i64 Y,.int .i64 E] 27 #[.int .i64 0,.int .i64 0,.int .i64 0,.int .i64 0] 33;have f_:=C.box.c0;have i_:=C.box.c1;have ⟨q0,q1,q2⟩:=Q.aK
 cases h0:M.cO a b X Y E with
 | false=>
  simp only [h0,Bool.true_and,Bool.false_and,Bool.and_false] at PT ⊢;replace PT:=xL PT;rw [M.gl];go_enter Tryz.func11,Tryz.ntmps11
  go_wp2_with (first | (go_at_call 62;(with_reducible refine (PT.out _).mono ?_);rintro e w4 ⟨rfl,hb4⟩;replace B:=d_ B hb4;replace C:=C.keep hb4;replace Q:=Q.keep hb4;replace R:=R.keep hb4;have f_:=C.box.c0;have i_:=C.box.c1;(have ⟨q0,q1,q2⟩:=Q.aK);(have ⟨r0,r1,r2,r3,z0,z1,z2,z3,rl⟩:=R.aN)))
  exact bodyPost_ret (v:=.tuple #[.agg #[.int .i64 0,.int .i64 0,.int .i64 0,.int .i64 0],.int .i64 0,.bool false]) (by simp [results,Tryz.results11,go_sem, *]) rfl (⟨rfl,xN (xN (xN (xN B (by dsimp only;omega) _) (by dsimp only;omega) _) (by dsimp only;omega) _) (by dsimp only;omega) _⟩)
 | true=>
 simp only [h0,Bool.true_and,Bool.and_self] at PT ⊢;simp only [M.co];replace PT:=xL PT;obtain ⟨hg,hp1⟩:=M.bp h0;obtain ⟨p1,p2,p3,p4,-,-⟩:=M.b6 (M.am hg) hp1
 have PR:=fun W=>mH a b X Y E W hg p1 p2 p3 p4
 have ht:=M.j0 hg hp1;have hS:=M.et hg hp1;have hok:M.AP (M.bR a b X E):=M.kL hg hp1;clear h0 hg hp1 p1 p2 p3 p4;have hsp:M.aM (M.bL a b X E (M.bN a b X E)) (M.bH a b X E (M.bN a b X E))=true:=ht;rw [hS];rw [ht] at PR;clear ht hS hok;generalize M.bH a b X E (M.bN a b X E)=hi,M.bL a b X E (M.bN a b X E)=lo at *;generalize ((M.bN a b X E:Nat):Int)=kk at *
 have hin:M.xp (some (lo,hi))=M.pn lo∧M.xr (some (lo,hi))=M.pd lo∧M.xu (some (lo,hi))=M.pn hi∧M.xv (some (lo,hi))=M.pd hi:=⟨rfl,rfl,rfl,rfl⟩
 obtain ⟨y1,y2,y3,y4⟩:=hin;rw [y1,y2,y3,y4,show (some (lo,hi)).isSome=true from rfl,M.dS];clear y1 y2 y3 y4;simp only [M.dS] at PR;clear hsp;generalize M.pd hi=i4,M.pn hi=i3,M.pd lo=i2,M.pn lo=i1 at *;replace PR:=xL PR;go_enter Tryz.func11,Tryz.ntmps11
 go_wp2_with (first | (go_at_call 62;(with_reducible refine (PT.out _).mono ?_);rintro e w4 ⟨rfl,hb4⟩;replace B:=d_ B hb4;replace C:=C.keep hb4;replace Q:=Q.keep hb4;replace R:=R.keep hb4;have f_:=C.box.c0;have i_:=C.box.c1;(have ⟨q0,q1,q2⟩:=Q.aK);(have ⟨r0,r1,r2,r3,z0,z1,z2,z3,rl⟩:=R.aN)) | (go_at_call 63;(with_reducible refine (PR.out _).mono ?_);rintro e w7 ⟨rfl,yC⟩;replace B:=d_ B yC;replace R:=R.keep yC;(have ⟨r0,r1,r2,r3,z0,z1,z2,z3,rl⟩:=R.aN)))
 exact bodyPost_ret (v:=.tuple #[.agg #[.int .i64 i1,.int .i64 i2,.int .i64 i3,.int .i64 i4],.int .i64 kk,.bool true]) (by simp [results,Tryz.results11,go_sem, *]) rfl (⟨rfl,xN (xN (xN (xN B (by dsimp only;omega) _) (by dsimp only;omega) _) (by dsimp only;omega) _) (by dsimp only;omega) _⟩)
theorem gK (a b X1 Y1 E1 X2 Y2 E2:Int) (w:World) :
  Calls Tryz.prog 26 #[.agg #[.int .i64 a,.int .i64 b],.agg #[.int .i64 X1,.int .i64 Y1,.int .i64 E1],.agg #[.int .i64 X2,.int .i64 Y2,.int .i64 E2]] w fun e w'=>e=.returned (.tuple #[.agg #[.int .i64 (M.fN (M.wid (M.cF a b X1 Y1 E1 X2 Y2 E2))),.int .i64 (M.fD (M.wid (M.cF a b X1 Y1 E1 X2 Y2 E2)))],.bool (M.wid (M.cF a b X1 Y1 E1 X2 Y2 E2)).isSome])∧Below w.heap.size w w':=by
 have y_:∀ W,Calls Tryz.prog 55 #[.agg #[.int .i64 a,.int .i64 b],.agg #[.int .i64 X1,.int .i64 Y1,.int .i64 E1]] W fun e w'=>e=.returned (.bool (M.cO a b X1 Y1 E1))∧Below W.heap.size W w':=fun W=>dM a b X1 Y1 E1 W
 have zO:∀ W,Calls Tryz.prog 55 #[.agg #[.int .i64 a,.int .i64 b],.agg #[.int .i64 X2,.int .i64 Y2,.int .i64 E2]] W fun e w'=>e=.returned (.bool (M.cO a b X2 Y2 E2))∧Below W.heap.size W w':=fun W=>dM a b X2 Y2 E2 W
 unfold M.cF;obtain ⟨wc,hw3,C,Q,U,R2,B⟩:=fO w #[.int .i64 a,.int .i64 b] 25 #[.int .i64 X1,.int .i64 Y1,.int .i64 E1] 27 #[.int .i64 X2,.int .i64 Y2,.int .i64 E2] 27 #[.int .i64 0,.int .i64 0] 31;have f_:=C.box.c0;have i_:=C.box.c1;have ⟨q0,q1,q2⟩:=Q.aK;have ⟨u0,u1,u2⟩:=U.aK
 cases h0:M.cO a b X1 Y1 E1 with
 | false=>
  simp only [h0,Bool.true_and,Bool.false_and,Bool.and_false] at y_ zO ⊢;replace y_:=xL y_;replace zO:=xL zO;rw [M.gl,show M.wid none=none from rfl];go_enter Tryz.func26,Tryz.ntmps26
  go_wp2_with (first | (go_at_call 55;(with_reducible refine (y_.out _).mono ?_);rintro e w4 ⟨rfl,hb4⟩;replace B:=d_ B hb4;replace C:=C.keep hb4;replace Q:=Q.keep hb4;replace U:=U.keep hb4;replace R2:=R2.keep hb4;have f_:=C.box.c0;have i_:=C.box.c1;(have ⟨q0,q1,q2⟩:=Q.aK);(have ⟨u0,u1,u2⟩:=U.aK);(have ⟨r0,r1,Ah,Ai,rl⟩:=R2.box)) | (go_at_call 55;(with_reducible refine (zO.out _).mono ?_);rintro e w5 ⟨rfl,hb5⟩;replace B:=d_ B hb5;replace C:=C.keep hb5;replace Q:=Q.keep hb5;replace U:=U.keep hb5;replace R2:=R2.keep hb5;have f_:=C.box.c0;have i_:=C.box.c1;(have ⟨q0,q1,q2⟩:=Q.aK);(have ⟨u0,u1,u2⟩:=U.aK);(have ⟨r0,r1,Ah,Ai,rl⟩:=R2.box)))
  exact bodyPost_ret (v:=.tuple #[.agg #[.int .i64 0,.int .i64 0],.bool false]) (by simp [results,Tryz.results26,go_sem, *]) rfl (⟨rfl,xN (xN B (by dsimp only;omega) _) (by dsimp only;omega) _⟩)
 | true=>
 cases h1:M.cO a b X2 Y2 E2 with
 | false=>
  simp only [h0,h1,Bool.true_and,Bool.false_and,Bool.and_false] at y_ zO ⊢;replace y_:=xL y_;replace zO:=xL zO;rw [M.gl,show M.wid none=none from rfl];go_enter Tryz.func26,Tryz.ntmps26
  go_wp2_with (first | (go_at_call 55;(with_reducible refine (y_.out _).mono ?_);rintro e w4 ⟨rfl,hb4⟩;replace B:=d_ B hb4;replace C:=C.keep hb4;replace Q:=Q.keep hb4;replace U:=U.keep hb4;replace R2:=R2.keep hb4;have f_:=C.box.c0;have i_:=C.box.c1;(have ⟨q0,q1,q2⟩:=Q.aK);(have ⟨u0,u1,u2⟩:=U.aK);(have ⟨r0,r1,Ah,Ai,rl⟩:=R2.box)) | (go_at_call 55;(with_reducible refine (zO.out _).mono ?_);rintro e w5 ⟨rfl,hb5⟩;replace B:=d_ B hb5;replace C:=C.keep hb5;replace Q:=Q.keep hb5;replace U:=U.keep hb5;replace R2:=R2.keep hb5;have f_:=C.box.c0;have i_:=C.box.c1;(have ⟨q0,q1,q2⟩:=Q.aK);(have ⟨u0,u1,u2⟩:=U.aK);(have ⟨r0,r1,Ah,Ai,rl⟩:=R2.box)))
  exact bodyPost_ret (v:=.tuple #[.agg #[.int .i64 0,.int .i64 0],.bool false]) (by simp [results,Tryz.results26,go_sem, *]) rfl (⟨rfl,xN (xN B (by dsimp only;omega) _) (by dsimp only;omega) _⟩)
 | true=>
 simp only [h0,h1,Bool.true_and,Bool.and_self] at y_ zO ⊢;rw [M.co];replace y_:=xL y_;replace zO:=xL zO;obtain ⟨hg,hp1⟩:=M.bp h0;obtain ⟨-,hp2⟩:=M.bp h1
 have PR:=fun W=>kP a b X1 Y1 E1 X2 Y2 E2 W hg hp1 hp2
 have hok:=M.fZ hg hp1 hp2;clear h0 h1 hg hp1 hp2;generalize M.dA a b X1 Y1 E1 X2 Y2 E2=rv at *
 cases rv with
 | none=>
  replace PR:∀ W,Calls Tryz.prog 83 #[.agg #[.int .i64 a,.int .i64 b],.agg #[.int .i64 X1,.int .i64 Y1,.int .i64 E1],.agg #[.int .i64 X2,.int .i64 Y2,.int .i64 E2]] W fun e w'=>e=.returned (.tuple #[.agg #[.int .i64 0,.int .i64 0],.bool false])∧Below W.heap.size W w':=PR
  replace PR:=xL PR;clear hok;rw [show M.wid none=none from rfl];go_enter Tryz.func26,Tryz.ntmps26
  go_wp2_with (first | (go_at_call 55;(with_reducible refine (y_.out _).mono ?_);rintro e w4 ⟨rfl,hb4⟩;replace B:=d_ B hb4;replace C:=C.keep hb4;replace Q:=Q.keep hb4;replace U:=U.keep hb4;replace R2:=R2.keep hb4;have f_:=C.box.c0;have i_:=C.box.c1;(have ⟨q0,q1,q2⟩:=Q.aK);(have ⟨u0,u1,u2⟩:=U.aK);(have ⟨r0,r1,Ah,Ai,rl⟩:=R2.box)) | (go_at_call 55;(with_reducible refine (zO.out _).mono ?_);rintro e w5 ⟨rfl,hb5⟩;replace B:=d_ B hb5;replace C:=C.keep hb5;replace Q:=Q.keep hb5;replace U:=U.keep hb5;replace R2:=R2.keep hb5;have f_:=C.box.c0;have i_:=C.box.c1;(have ⟨q0,q1,q2⟩:=Q.aK);(have ⟨u0,u1,u2⟩:=U.aK);(have ⟨r0,r1,Ah,Ai,rl⟩:=R2.box)) | (go_at_call 83;(with_reducible refine (PR.out _).mono ?_);rintro e w7 ⟨rfl,yC⟩;replace B:=d_ B yC;replace R2:=R2.keep yC;(have ⟨r0,r1,Ah,Ai,rl⟩:=R2.box);have B0:=B;have DW:=B.size;replace B:=B.alloc DW (.cells #[.int .i64 0,.int .i64 0] 74);replace R2:=R2.alloc (.cells #[.int .i64 0,.int .i64 0] 74);have V:=aH.new w7 #[.int .i64 0,.int .i64 0] 74;(have ⟨r0,r1,Ah,Ai,rl⟩:=R2.box)))
  exact bodyPost_ret (v:=.tuple #[.agg #[.int .i64 0,.int .i64 0],.bool false]) (by simp [results,Tryz.results26,go_sem, *]) rfl (⟨rfl,(xN (xN (B0) (by dsimp only;omega) _) (by dsimp only;omega) _).alloc (by simp only [bP];exact DW) _⟩)
 | some p=>
 obtain ⟨lo,hi⟩:=p;obtain ⟨ab,b1,b2⟩:=M.bQ (hok _ rfl)
 have PW:=fun W=>eO (hi - lo) 4096 W (by omega) (by omega) (by omega) (by omega) (by omega)
 replace PR:∀ W,Calls Tryz.prog 83 #[.agg #[.int .i64 a,.int .i64 b],.agg #[.int .i64 X1,.int .i64 Y1,.int .i64 E1],.agg #[.int .i64 X2,.int .i64 Y2,.int .i64 E2]] W fun e w'=>e=.returned (.tuple #[.agg #[.int .i64 lo,.int .i64 hi],.bool true])∧Below W.heap.size W w':=PR
 rw [show M.wid (some (lo,hi))=M.yU (hi - lo) 4096 from rfl];clear hok;generalize M.yU (hi - lo) 4096=ff at *;generalize ff.isSome=f3,M.fD ff=f2,M.fN ff=f1 at *;replace PR:=xL PR;replace PW:=xL PW;go_enter Tryz.func26,Tryz.ntmps26
 go_wp2_with (first | (go_at_call 55;(with_reducible refine (y_.out _).mono ?_);rintro e w4 ⟨rfl,hb4⟩;replace B:=d_ B hb4;replace C:=C.keep hb4;replace Q:=Q.keep hb4;replace U:=U.keep hb4;replace R2:=R2.keep hb4;have f_:=C.box.c0;have i_:=C.box.c1;(have ⟨q0,q1,q2⟩:=Q.aK);(have ⟨u0,u1,u2⟩:=U.aK);(have ⟨r0,r1,Ah,Ai,rl⟩:=R2.box)) | (go_at_call 55;(with_reducible refine (zO.out _).mono ?_);rintro e w5 ⟨rfl,hb5⟩;replace B:=d_ B hb5;replace C:=C.keep hb5;replace Q:=Q.keep hb5;replace U:=U.keep hb5;replace R2:=R2.keep hb5;have f_:=C.box.c0;have i_:=C.box.c1;(have ⟨q0,q1,q2⟩:=Q.aK);(have ⟨u0,u1,u2⟩:=U.aK);(have ⟨r0,r1,Ah,Ai,rl⟩:=R2.box)) | (go_at_call 83;(with_reducible refine (PR.out _).mono ?_);rintro e w7 ⟨rfl,yC⟩;replace B:=d_ B yC;replace R2:=R2.keep yC;(have ⟨r0,r1,Ah,Ai,rl⟩:=R2.box);have B0:=B;have DW:=B.size;replace B:=B.alloc DW (.cells #[.int .i64 lo,.int .i64 hi] 74);replace R2:=R2.alloc (.cells #[.int .i64 lo,.int .i64 hi] 74);have V:=aH.new w7 #[.int .i64 lo,.int .i64 hi] 74;(have ⟨r0,r1,Ah,Ai,rl⟩:=R2.box);(have ⟨v0,v1,_,_,_⟩:=V.box)) | (go_at_call 74;(with_reducible refine (PW.out _).mono ?_);rintro e w8 ⟨rfl,xw⟩;replace B:=d_ B xw;replace R2:=R2.keep xw;(have ⟨r0,r1,Ah,Ai,rl⟩:=R2.box)))
 exact bodyPost_ret (v:=.tuple #[.agg #[.int .i64 f1,.int .i64 f2],.bool f3]) (by simp [results,Tryz.results26,go_sem, *]) rfl (⟨rfl,xN (xN B (by dsimp only;omega) _) (by dsimp only;omega) _⟩)
theorem gP (a b X1 Y1 E1 X2 Y2 E2:Int) (w:World) :
  Calls Tryz.prog 27 #[.agg #[.int .i64 a,.int .i64 b],.agg #[.int .i64 X1,.int .i64 Y1,.int .i64 E1],.agg #[.int .i64 X2,.int .i64 Y2,.int .i64 E2]] w fun e w'=>e=.returned (.tuple #[.agg #[.int .i64 (M.fN (M.wid (M.cF a b X1 Y1 E1 X2 Y2 E2))),.int .i64 (M.fD (M.wid (M.cF a b X1 Y1 E1 X2 Y2 E2)))],.bool (M.wid (M.cF a b X1 Y1 E1 X2 Y2 E2)).isSome])∧Below w.heap.size w w':=by
 have PP:=fun W=>fL a b X1 Y1 E1 X2 Y2 E2 W
 have hok:M.AP (M.cF a b X1 Y1 E1 X2 Y2 E2):=by
  unfold M.cF
  cases h0:M.cO a b X1 Y1 E1
  ·rw [Bool.false_and];exact M.di
  cases h1:M.cO a b X2 Y2 E2
  ·exact M.di
  exact M.fZ (M.bp h0).1 (M.bp h0).2 (M.bp h1).2
 generalize M.cF a b X1 Y1 E1 X2 Y2 E2=rv at *;obtain ⟨wc,hw3,C,Q,U,R2,B⟩:=fO w #[.int .i64 a,.int .i64 b] 25 #[.int .i64 X1,.int .i64 Y1,.int .i64 E1] 27 #[.int .i64 X2,.int .i64 Y2,.int .i64 E2] 27 #[.int .i64 0,.int .i64 0] 31;have f_:=C.box.c0;have i_:=C.box.c1;have ⟨q0,q1,q2⟩:=Q.aK;have ⟨u0,u1,u2⟩:=U.aK
 cases rv with
 | none=>
  replace PP:∀ W,Calls Tryz.prog 25 #[.agg #[.int .i64 a,.int .i64 b],.agg #[.int .i64 X1,.int .i64 Y1,.int .i64 E1],.agg #[.int .i64 X2,.int .i64 Y2,.int .i64 E2]] W fun e w'=>e=.returned (.tuple #[.agg #[.int .i64 0,.int .i64 0,.int .i64 0,.int .i64 0],.bool false])∧Below W.heap.size W w':=PP
  replace PP:=xL PP;clear hok;rw [show M.wid none=none from rfl];go_enter Tryz.func27,Tryz.ntmps27
  go_wp2_with (go_at_call 25;(with_reducible refine (PP.out _).mono ?_);rintro e w4 ⟨rfl,hb4⟩;replace B:=d_ B hb4;replace R2:=R2.keep hb4;(have ⟨r0,r1,Ah,Ai,rl⟩:=R2.box);have B0:=B;have Cb:=B.size;replace B:=B.alloc Cb (.cells #[.int .i64 0,.int .i64 0,.int .i64 0,.int .i64 0] 33);replace R2:=R2.alloc (.cells #[.int .i64 0,.int .i64 0,.int .i64 0,.int .i64 0] 33);have I:=aH.new w4 #[.int .i64 0,.int .i64 0,.int .i64 0,.int .i64 0] 33;(have ⟨r0,r1,Ah,Ai,rl⟩:=R2.box);(have ⟨n0,n1,n2,n3,m0,m1,m2,m3,ml⟩:=I.aN))
  exact bodyPost_ret (v:=.tuple #[.agg #[.int .i64 0,.int .i64 0],.bool false]) (by simp [results,Tryz.results27,go_sem, *]) rfl (⟨rfl,(xN (xN (B0) (by dsimp only;omega) _) (by dsimp only;omega) _).alloc (by simp only [bP];exact Cb) _⟩)
 | some p=>
 obtain ⟨lo,hi⟩:=p;have hsp:M.aM lo hi=true:=hok _ rfl
 have PW:=fun W=>jx lo hi W hsp
 replace PP:∀ W,Calls Tryz.prog 25 #[.agg #[.int .i64 a,.int .i64 b],.agg #[.int .i64 X1,.int .i64 Y1,.int .i64 E1],.agg #[.int .i64 X2,.int .i64 Y2,.int .i64 E2]] W fun e w'=>e=.returned (.tuple #[.agg #[.int .i64 (M.pn lo),.int .i64 (M.pd lo),.int .i64 (M.pn hi),.int .i64 (M.pd hi)],.bool true])∧Below W.heap.size W w':=PP
 rw [show M.wid (some (lo,hi))=M.yU (hi - lo) 4096 from rfl];clear hok hsp;generalize M.yU (hi - lo) 4096=ff,M.pd hi=i4,M.pn hi=i3,M.pd lo=i2,M.pn lo=i1 at *;generalize ff.isSome=f3,M.fD ff=f2,M.fN ff=f1 at *;replace PP:=xL PP;replace PW:=xL PW;go_enter Tryz.func27,Tryz.ntmps27
 go_wp2_with (first | (go_at_call 25;(with_reducible refine (PP.out _).mono ?_);rintro e w4 ⟨rfl,hb4⟩;replace B:=d_ B hb4;replace R2:=R2.keep hb4;(have ⟨r0,r1,Ah,Ai,rl⟩:=R2.box);have B0:=B;have Cb:=B.size;replace B:=B.alloc Cb (.cells #[.int .i64 i1,.int .i64 i2,.int .i64 i3,.int .i64 i4] 33);replace R2:=R2.alloc (.cells #[.int .i64 i1,.int .i64 i2,.int .i64 i3,.int .i64 i4] 33);have I:=aH.new w4 #[.int .i64 i1,.int .i64 i2,.int .i64 i3,.int .i64 i4] 33;(have ⟨r0,r1,Ah,Ai,rl⟩:=R2.box);(have ⟨n0,n1,n2,n3,m0,m1,m2,m3,ml⟩:=I.aN)) | (go_at_call 86;(with_reducible refine (PW.out _).mono ?_);rintro e w5 ⟨rfl,hb5⟩;replace B:=d_ B hb5;replace R2:=R2.keep hb5;(have ⟨r0,r1,Ah,Ai,rl⟩:=R2.box)))
 exact bodyPost_ret (v:=.tuple #[.agg #[.int .i64 f1,.int .i64 f2],.bool f3]) (by simp [results,Tryz.results27,go_sem, *]) rfl (⟨rfl,xN (xN B (by dsimp only;omega) _) (by dsimp only;omega) _⟩)
theorem aH.same {W:World} {g:Nat} {T:TypeId} {v:Value} (h:aH W g T #[v]):W.setCell ⟨g,0,none⟩ v=W:=by
 have hh:W.heap.modify g (fun | .cells c elem frozen=>.cells (if (none:Option Nat).isSome then c else c.setIfInBounds 0 v) elem frozen | o=>o)=W.heap:=by
  refine Array.ext (by simp) fun i h1 h2=>?_
  rw [Array.getElem_modify]
  split
  ·rename_i e
   subst e;have hg:W.heap[g]=.cells #[v] T (0,0):=(Array.getElem?_eq_some_iff.1 h).2;rw [hg];rfl
  rfl
 show { W with heap:=_ }=W
 conv=>rhs;rw [show W={ W with heap:=W.heap } from rfl]
 exact congrArg (fun x=>{ W with heap:=x }) hh
theorem aH.qY {W:World} {g:Nat} {T:TypeId} {u v x:Value} (h:aH W g T #[u,v,x]) (a b c:Value):aH (((W.setCell ⟨g,0,none⟩ a).setCell ⟨g,1,none⟩ b).setCell ⟨g,2,none⟩ c) g T #[a,b,c]:=((h.set 0 a).set 1 b).set 2 c
theorem aH.bg {W:World} {g:Nat} {T:TypeId} {u v x:Value} (h:aH W g T #[u,v,x]):W.cell? ⟨g,0,none⟩=some u∧W.cell? ⟨g,1,none⟩=some v∧W.cell? ⟨g,2,none⟩=some x∧W.frozen? ⟨g,0,none⟩=false∧W.frozen? ⟨g,1,none⟩=false∧W.frozen? ⟨g,2,none⟩=false:=⟨h.cell 0,h.cell 1,h.cell 2,h.xl 0,h.xl 1,h.xl 2⟩
theorem gt (g:Nat) (a b X Y E l h:Int) (w:World) (K:aH w g 106 #[.bool true]) (hg:M.good a b=true) (hp:M.bB a b X Y E=true) (hb:M.bR a b X E=some (l,h)) :
  Calls Tryz.prog 89 #[.pointer (some ⟨g,0,none⟩),.agg #[.int .i64 a,.int .i64 b],.agg #[.int .i64 X,.int .i64 Y,.int .i64 E]] w fun e w'=>e=.returned (.agg #[.int .i64 l,.int .i64 h])∧Below w.heap.size w w':=by
 obtain ⟨p1,p2,p3,p4,-,-⟩:=M.b6 (M.am hg) hp;have H:=gu g true a b X Y E w K hg p1 p2 p3 p4;rw [M.co,hb] at H
 refine H.mono fun e w' q=>⟨q.1,?_⟩
 have q2:Below w.heap.size (w.setCell ⟨g,0,none⟩ (.bool true)) w':=q.2
 rwa [K.same] at q2
theorem dN {a b:Int} (h1:a≤b) (h2:-409600000≤a) (h3:b≤409600000):M.aM a b=true:=by
 unfold M.aM;simp only [Bool.and_eq_true,decide_eq_true_eq];omega
theorem ru (g:Nat) (a b c d:Int) (w:World) (K:aH w g 106 #[.bool true]) (h1:a≤b) (h2:c≤d) (h3:-10000000≤a) (h4:b≤10000000) (h5:-10000000≤c) (h6:d≤10000000) :
  Calls Tryz.prog 90 #[.pointer (some ⟨g,0,none⟩),.agg #[.int .i64 a,.int .i64 b],.agg #[.int .i64 c,.int .i64 d]] w fun e w'=>e=.returned (.agg #[.int .i64 (a+c),.int .i64 (b+d)])∧Below w.heap.size w w':=by
 have H:=mb g true a b c d w K (by omega) (by omega) (by omega) (by omega) (by omega) (by omega) (by omega) (by omega);rw [dN (a:=a+c) (b:=b+d) (by omega) (by omega) (by omega)] at H
 refine H.mono fun e w' q=>⟨q.1,?_⟩
 have q2:Below w.heap.size (w.setCell ⟨g,0,none⟩ (.bool true)) w':=q.2
 rwa [K.same] at q2
theorem fu (g:Nat) (a b c d:Int) (w:World) (K:aH w g 106 #[.bool true]) (h1:a≤b) (h2:c≤d) (h3:-10000000≤a) (h4:b≤10000000) (h5:-10000000≤c) (h6:d≤10000000) :
  Calls Tryz.prog 91 #[.pointer (some ⟨g,0,none⟩),.agg #[.int .i64 a,.int .i64 b],.agg #[.int .i64 c,.int .i64 d]] w fun e w'=>e=.returned (.agg #[.int .i64 (a - d),.int .i64 (b - c)])∧Below w.heap.size w w':=by
 have H:=kH g true a b c d w K (by omega) (by omega) (by omega) (by omega) (by omega) (by omega) (by omega) (by omega);rw [dN (a:=a - d) (b:=b - c) (by omega) (by omega) (by omega)] at H
 refine H.mono fun e w' q=>⟨q.1,?_⟩
 have q2:Below w.heap.size (w.setCell ⟨g,0,none⟩ (.bool true)) w':=q.2
 rwa [K.same] at q2
theorem mX (lo hi:Int) (w:World) (h:M.aM lo hi=true) :
  Calls Tryz.prog 58 #[.agg #[.int .i64 lo,.int .i64 hi],.bool true] w fun e w'=>e=.returned (.tuple #[.agg #[.int .i64 (M.pn lo),.int .i64 (M.pd lo),.int .i64 (M.pn hi),.int .i64 (M.pd hi)],.bool true])∧Below w.heap.size w w':=by
 have H:=fA lo hi true w;rw [h] at H;exact H
namespace M
noncomputable def tc (a b X1 Y1 E1 X2 Y2 E2:Int):Sp:=cf a b (fQ (bR a b (dC a X1 Y1 E1 X2 Y2 E2) (dB a X1 Y1 E1 X2 Y2 E2)) (bR a b (dC a X1 Y1 E1 X2 (-Y2) E2) (dB a X1 Y1 E1 X2 (-Y2) E2))) [(X1,Y1,E1),(X2,Y2,E2),(X1,Y1,E1),(X2,Y2,E2)]
noncomputable def uz (a b X1 Y1 E1 X2 Y2 E2:Int):Sp:=gd (bk a X1 Y1 E1 X2 Y2 E2 && bk a X1 Y1 E1 X2 (-Y2) E2) (tc a b X1 Y1 E1 X2 Y2 E2)
noncomputable def gj (a b X1 Y1 E1 X2 Y2 E2:Int):Sp:=gd (cO a b X1 Y1 E1 && cO a b X2 Y2 E2) (uz a b X1 Y1 E1 X2 Y2 E2)
theorem nr {a b X1 Y1 E1 X2 Y2 E2 l1 h1 l2 h2 l3 h3 l4 h4:Int} (q1:HB a b X1 Y1 E1 l1 h1) (q2:HB a b X2 Y2 E2 l2 h2) (q3:HB a b (dC a X1 Y1 E1 X2 Y2 E2) (dO a X1 Y1 E1 X2 Y2 E2) (dB a X1 Y1 E1 X2 Y2 E2) l3 h3) (q4:HB a b (dC a X1 Y1 E1 X2 (-Y2) E2) (dO a X1 Y1 E1 X2 (-Y2) E2) (dB a X1 Y1 E1 X2 (-Y2) E2) l4 h4) :
  tc a b X1 Y1 E1 X2 Y2 E2=some (l3+l4 - h1 - h2 - h1 - h2,h3+h4 - l1 - l2 - l1 - l2):=by
 obtain ⟨i1,a1,b1,c1,-⟩:=q1;obtain ⟨i2,a2,b2,c2,-⟩:=q2;obtain ⟨i3,a3,b3,c3,-⟩:=q3;obtain ⟨i4,a4,b4,c4,-⟩:=q4;unfold tc cf;simp only [List.foldl_cons,List.foldl_nil];rw [i1,i2,i3,i4,iG c3 c4 (by omega) (by omega) (by omega) (by omega),d9 (by omega) c1 (by omega) (by omega) (by omega) (by omega),d9 (by omega) c2 (by omega) (by omega) (by omega) (by omega),d9 (by omega) c1 (by omega) (by omega) (by omega) (by omega),d9 (by omega) c2 (by omega) (by omega) (by omega) (by omega)]
end M
end
section
open Go Go.RowKit
namespace Rg
variable {P:Program} {Q:Exit→Act→World→Prop}
section
variable (P) (Q) (ops:Array Oper) (a0:Act) (T:List Val) (w1:World) (ka ks:Nat) (Tn:TypeId) (xs ys:Array Value)
def bw (k:Nat) (o:Oper):Prop:=
 if k=ka then ∀ (a:Act) (w:World),Region.wanted o (yielded ops a.tmps)=true∧o.wp P a w (fun a' w'=>a'=a.put o.dst (.pointer (some ⟨w.heap.size,0,none⟩))∧w'=w.alloc (.cells xs Tn)) Q
 else if k=ks then ∀ (a:Act) (w:World) (h:Nat),w1.heap.size≤h→aH w h Tn xs→(∀ t ∈ o.looksAt ops,oR ops a0 T ka ks h o a w t)→Region.wanted o (yielded ops a.tmps)=true∧o.wp P a w (fun a' w'=>(∃ v,a'=a.put o.dst v)∧aH w' h Tn ys∧Below w1.heap.size w w') Q
 else ∀ (a:Act) (w:World),Below w1.heap.size w1 w→(∀ t ∈ o.looksAt ops,jF ops a0 T ka ks o a w t)→Does P ops Q (zT T k) o a w
def qr:List Oper→Nat→Prop
 | [],_=>True
 | o :: os,k=>bw P Q ops a0 T w1 ka ks Tn xs ys k o∧qr os (k+1)
def ub (l:Nat→Bool) (vals:Nat→Value) (w:World):Prop:=
 Below w1.heap.size w1 w∧(∀ i,i≠ka→i≠ks→l i=true→(zT T i).ok (vals i) w)∧(l ka=true→∃ h,w1.heap.size≤h∧vals ka=.pointer (some ⟨h,0,none⟩)∧aH w h Tn (if l ks=true then ys else xs))
end
theorem sf {ops:Array Oper} {a0:Act} {T:List Val} {w1:World} {ka ks:Nat} {Tn:TypeId} {xs ys:Array Value}
  (hp:∀ j,j≠ka→j≠ks→(zT T j).pure=true) (hne:ka≠ks) (hE:fV ops ka ks=true) :
  ∀ (os:List Oper) (k:Nat),(∀ i,os[i]?=ops[k+i]?)→qr P Q ops a0 T w1 ka ks Tn xs ys os k→gQ P Q .any ops (ub T w1 ka ks Tn xs ys) a0 os k
 | [],_,_,_=>trivial
 | o :: os,k,hos,h=>by
  refine ⟨fun a w l vals hI hl hc AB hr=>?_,sf hp hne hE os (k+1) (fun i=>by rw [show k+1+i=k+(i+1) by omega,←hos (i+1)];rfl) h.2⟩;obtain ⟨hB,hv,hn⟩:=hI;have ho:ops[k]?=some o:=(hos 0).symm;have hsz:w1.heap.size≤w.heap.size:=hB.size
  have hQ:∀ t ∈ o.looksAt ops,jF ops a0 T ka ks o a w t:=fun t ht=>by
   have:=hr t ht;unfold rd at this;unfold jF
   split
   ·rename_i e he
    rw [he] at this;have h2:=List.find?_some he;rw [Bool.and_eq_true] at h2
    split
    ·trivial
    split
    ·trivial
    rename_i n1 n2
    exact ⟨_,this,hv _ n1 n2 (AB e (Array.mem_toList_iff.1 (List.mem_of_find?_eq_some he)) h2.1)⟩
   rename_i he
   rw [he] at this;exact this
  have hko:∀ j,j≠k→upd l k j=l j:=fun j hj=>if_neg hj
  have hkk:upd l k k=true:=if_pos rfl;have h1:=h.1;unfold bw at h1;unfold ly
  by_cases e1:k=ka
  ·rw [if_pos e1] at h1
   obtain ⟨hw,hwp⟩:=h1 a w;rw [if_pos hw];refine Oper.wp_mono ?_ hwp;rintro a' w' ⟨rfl,rfl⟩;subst e1
   have hls:l ks=false:=by
    cases q:l ks
    ·rfl
    rw [dL hc hE q] at hl;cases hl
   refine ⟨_,rfl,?_,?_,fun _=>⟨w.heap.size,hsz,if_pos rfl,?_⟩⟩
   ·exact hB.alloc hsz _
   ·intro i n1 n2 hi
    rw [hko i n1] at hi;have:dy vals k (.pointer (some ⟨w.heap.size,0,none⟩)) i=vals i:=if_neg n1;rw [this];exact Val.da (hp i n1 n2) (hv i n1 n2 hi)
   rw [hko ks (fun e=>hne e.symm),hls];exact aH.new w xs Tn
  rw [if_neg e1] at h1
  by_cases e2:k=ks
  ·rw [if_pos e2] at h1
   subst e2;obtain ⟨hh,Dt,DA,hh3⟩:=hn (gh ho AB hE);rw [hl] at hh3
   obtain ⟨hw,hwp⟩:=h1 a w hh Dt hh3 (fun t ht=>by
    have:=hr t ht;unfold rd at this;unfold oR
    split
    ·rename_i e he
     rw [he] at this;have h2:=List.find?_some he;rw [Bool.and_eq_true] at h2
     split
     ·rename_i q
      replace this:a.tmps[t]?=some (vals e.on):=this;rw [q,DA] at this;exact this
     split
     ·trivial
     rename_i n1 n2
     exact ⟨_,this,hv _ n1 n2 (AB e (Array.mem_toList_iff.1 (List.mem_of_find?_eq_some he)) h2.1)⟩
    rename_i he
    rw [he] at this
    exact this)
   rw [if_pos hw];refine Oper.wp_mono ?_ hwp;rintro a' w' ⟨⟨v,e⟩,h2,h3⟩;refine ⟨v,e,?_,?_,fun _=>⟨hh,Dt,?_,?_⟩⟩
   ·exact hB.trans h3
   ·intro i n1 n2 hi
    rw [hko i n2] at hi;have:dy vals k v i=vals i:=if_neg n2;rw [this];exact Val.da (hp i n1 n2) (hv i n1 n2 hi)
   ·have:dy vals k v ka=vals ka:=if_neg hne
    rw [this];exact DA
   rw [hkk];exact h2
  rw [if_neg e2] at h1
  have rest:∀ (v:Value) (w':World),(zT T k).ok v w'→Below w.heap.size w w'→ub T w1 ka ks Tn xs ys (upd l k) (dy vals k v) w':=by
   intro v w' h2 h3;refine ⟨hB.trans (h3.mono hsz),?_,?_⟩
   ·intro i n1 n2 hi
    by_cases hik:i=k
    ·subst hik
     have:dy vals i v i=v:=if_pos rfl;rw [this];exact h2
    rw [hko i hik] at hi;have:dy vals k v i=vals i:=if_neg hik;rw [this];exact Val.da (hp i n1 n2) (hv i n1 n2 hi)
   intro hi;rw [hko ka (fun e=>e1 e.symm)] at hi;obtain ⟨hh,Dt,DA,hh3⟩:=hn hi;refine ⟨hh,Dt,?_,?_⟩
   ·have:dy vals k v ka=vals ka:=if_neg (fun e=>e1 e.symm)
    rw [this];exact DA
   rw [hko ks (fun e=>e2 e.symm)];exact hh3.keep h3
  have hd:=h1 a w hB hQ;unfold Does at hd
  split
  ·rename_i hw
   rw [if_pos hw] at hd;refine Oper.wp_mono ?_ hd;rintro a' w' ⟨v,e,h2,h3⟩;exact ⟨v,e,rest v w' h2 h3⟩
  rename_i hw
  rw [if_neg hw] at hd;exact rest undef w hd (xO _ _)
theorem uZ {id:Nat} {ops:Array Oper} {a0:Act} {w:World} (ka ks:Nat) (Tn:TypeId) (xs ys:Array Value) (T:List Val)
  (hm:P.follows .mixedOrders=true) (hok:eP .any ops a0.tmps.size=true) (hC:(fV ops ka ks && decide (ka<ops.size) && decide (ks<ops.size))=true)
  (hp:∀ j,j≠ka→j≠ks→(zT T j).pure=true) (hne:ka≠ks)
  (hR:qr P Q ops a0 T w ka ks Tn xs ys ops.toList 0)
  (hF:∀ (vals:Nat→Value) (w':World) (h:Nat),w.heap.size≤h→aH w' h Tn ys→vals ka=.pointer (some ⟨h,0,none⟩)→Below w.heap.size w w'→(∀ i,i<ops.size→i≠ka→i≠ks→(zT T i).ok (vals i) w')→Q .normal (fill (fun _=>true) vals ops.toList 0 a0) w'):(Code.region id ops true).wp P Q a0 w:=by
 rw [Bool.and_eq_true,Bool.and_eq_true,decide_eq_true_eq,decide_eq_true_eq] at hC;obtain ⟨⟨hE,ha⟩,hs⟩:=hC;refine lS (ub T w ka ks Tn xs ys) hm hok (fun vals=>⟨?_,(fun _ _ _ h=>absurd h (by simp)),(fun h=>absurd h (by simp))⟩) (sf hp hne hE ops.toList 0 (fun i=>by rw [Nat.zero_add];exact Array.getElem?_toList) hR) ?_
 ·exact (xO _ w).drew
 intro l vals w' hl hI;obtain ⟨h1,h2,h3⟩:=hI;obtain ⟨h,q1,q2,q3⟩:=h3 (hl ka ha);rw [hl ks hs,if_pos rfl] at q3;exact hF vals w' h q1 q3 q2 h1 (fun i hi n1 n2=>h2 i n1 n2 (hl i hi))
end Rg
end
section
open Go.RowKit
theorem kR (X Y E:Int) (w:World) (h1:-4000000000000000000≤Y) (h2:Y≤4000000000000000000) :
  Calls Tryz.prog 93 #[.agg #[.int .i64 X,.int .i64 Y,.int .i64 E]] w fun e w'=>e=.returned (.agg #[.int .i64 X,.int .i64 (-Y),.int .i64 E])∧Below w.heap.size w w':=by
 go_enter Tryz.func93,Tryz.ntmps93
 go_wp2;exact bodyPost_ret (v:=.agg #[.int .i64 X,.int .i64 (-Y),.int .i64 E]) (by simp [results,Tryz.results93,go_sem, *]) rfl (⟨rfl,(by repeat (first | exact xO _ _ | refine aS ?_ _ | refine aW ?_ (by assumption) | refine Below.drew ?_ | refine xN ?_ (by first | exact xP _ | exact Nat.le_add_right _ _ | (simp <;> omega)) _ | refine aO ?_ _))⟩)
theorem vQ (w:World) (X1 Y1 E1 X2 Y2 E2:Int) (T:TypeId):iX (w.alloc (.cells #[.int .i64 X1,.int .i64 Y1,.int .i64 E1,.int .i64 X2,.int .i64 Y2,.int .i64 E2,.int .i64 X1,.int .i64 Y1,.int .i64 E1,.int .i64 X2,.int .i64 Y2,.int .i64 E2] T)) w.heap.size [(X1,Y1,E1),(X2,Y2,E2),(X1,Y1,E1),(X2,Y2,E2)]:=fun k p hp=>by
 have hk:k<4:=by
  have:=(List.getElem?_eq_some_iff.1 hp).1
  simpa using this
 have V:=aH.new w #[.int .i64 X1,.int .i64 Y1,.int .i64 E1,.int .i64 X2,.int .i64 Y2,.int .i64 E2,.int .i64 X1,.int .i64 Y1,.int .i64 E1,.int .i64 X2,.int .i64 Y2,.int .i64 E2] T
 have hk4:k=0∨k=1∨k=2∨k=3:=by omega
 rcases hk4 with rfl | rfl | rfl | rfl
 ·cases hp;exact ⟨V.cell 0,V.cell 1,V.cell 2⟩
 ·cases hp;exact ⟨V.cell 3,V.cell 4,V.cell 5⟩
 ·cases hp;exact ⟨V.cell 6,V.cell 7,V.cell 8⟩
 cases hp;exact ⟨V.cell 9,V.cell 10,V.cell 11⟩
theorem fF (a b X1 Y1 E1 X2 Y2 E2:Int) (w:World) :
  Calls Tryz.prog 29 #[.agg #[.int .i64 a,.int .i64 b],.agg #[.int .i64 X1,.int .i64 Y1,.int .i64 E1],.agg #[.int .i64 X2,.int .i64 Y2,.int .i64 E2]] w fun e w'=>e=.returned (.tuple #[.agg #[.int .i64 (M.xp (M.gj a b X1 Y1 E1 X2 Y2 E2)),.int .i64 (M.xr (M.gj a b X1 Y1 E1 X2 Y2 E2)),.int .i64 (M.xu (M.gj a b X1 Y1 E1 X2 Y2 E2)),.int .i64 (M.xv (M.gj a b X1 Y1 E1 X2 Y2 E2))],.bool (M.gj a b X1 Y1 E1 X2 Y2 E2).isSome])∧Below w.heap.size w w':=by
 have PT:=fun W=>pD a b X1 Y1 E1 X2 Y2 E2 W
 unfold M.gj;obtain ⟨wc,hw3,C,Q,U,R,B⟩:=fO w #[.int .i64 a,.int .i64 b] 25 #[.int .i64 X1,.int .i64 Y1,.int .i64 E1] 27 #[.int .i64 X2,.int .i64 Y2,.int .i64 E2] 27 #[.int .i64 0,.int .i64 0,.int .i64 0,.int .i64 0] 33;have f_:=C.box.c0;have i_:=C.box.c1;have ⟨q0,q1,q2⟩:=Q.aK;have ⟨u0,u1,u2⟩:=U.aK
 cases h0:M.cO a b X1 Y1 E1 with
 | false=>
  simp only [h0,Bool.true_and,Bool.false_and,Bool.and_false] at PT ⊢;replace PT:=xL PT;rw [M.gl];go_enter Tryz.func29,Tryz.ntmps29
  go_wp2_with (go_at_call 84;(with_reducible refine (PT.out _).mono ?_);rintro e w4 ⟨rfl,hb4⟩;replace B:=d_ B hb4;replace C:=C.keep hb4;replace Q:=Q.keep hb4;replace U:=U.keep hb4;replace R:=R.keep hb4;have f_:=C.box.c0;have i_:=C.box.c1;(have ⟨q0,q1,q2⟩:=Q.aK);(have ⟨u0,u1,u2⟩:=U.aK);(have ⟨r0,r1,r2,r3,z0,z1,z2,z3,rl⟩:=R.aN))
  exact bodyPost_ret (v:=.tuple #[.agg #[.int .i64 0,.int .i64 0,.int .i64 0,.int .i64 0],.bool false]) (by simp [results,Tryz.results29,go_sem, *]) rfl (⟨rfl,xN (xN (xN (xN B (by dsimp only;omega) _) (by dsimp only;omega) _) (by dsimp only;omega) _) (by dsimp only;omega) _⟩)
 | true=>
 cases h1:M.cO a b X2 Y2 E2 with
 | false=>
  simp only [h0,h1,Bool.true_and,Bool.false_and,Bool.and_false] at PT ⊢;replace PT:=xL PT;rw [M.gl];go_enter Tryz.func29,Tryz.ntmps29
  go_wp2_with (go_at_call 84;(with_reducible refine (PT.out _).mono ?_);rintro e w4 ⟨rfl,hb4⟩;replace B:=d_ B hb4;replace C:=C.keep hb4;replace Q:=Q.keep hb4;replace U:=U.keep hb4;replace R:=R.keep hb4;have f_:=C.box.c0;have i_:=C.box.c1;(have ⟨q0,q1,q2⟩:=Q.aK);(have ⟨u0,u1,u2⟩:=U.aK);(have ⟨r0,r1,r2,r3,z0,z1,z2,z3,rl⟩:=R.aN))
  exact bodyPost_ret (v:=.tuple #[.agg #[.int .i64 0,.int .i64 0,.int .i64 0,.int .i64 0],.bool false]) (by simp [results,Tryz.results29,go_sem, *]) rfl (⟨rfl,xN (xN (xN (xN B (by dsimp only;omega) _) (by dsimp only;omega) _) (by dsimp only;omega) _) (by dsimp only;omega) _⟩)
 | true=>
 simp only [h0,h1,Bool.true_and,Bool.and_self] at PT ⊢;rw [M.co];replace PT:=xL PT;obtain ⟨hg,hp1⟩:=M.bp h0;obtain ⟨-,hp2⟩:=M.bp h1;have hin:=M.am hg;have hm2:=M.gy hp2;have hs:=M.dk hin hp1 hp2;have hd:=M.dk hin hp1 hm2;obtain ⟨l1,t1,q1,-,-⟩:=M.HB.ex hg hp1;obtain ⟨l2,t2,q2,-,-⟩:=M.HB.ex hg hp2;obtain ⟨l3,t3,q3,-,-⟩:=M.HB.ex hg hs;obtain ⟨l4,t4,q4,-,-⟩:=M.HB.ex hg hd;have hgl:=M.nr q1 q2 q3 q4;unfold M.uz;rw [hgl];unfold M.tc at hgl;obtain ⟨i3,a3,b3,c3,-⟩:=q3;obtain ⟨i4,a4,b4,c4,-⟩:=q4;have hsum:=M.iG c3 c4 (by omega) (by omega) (by omega) (by omega);rw [i3,i4,hsum] at hgl
 have Fn:=fun W=>i8 a b X1 Y1 E1 X2 Y2 E2 W hg hp1 hp2
 have Fo:=fun W=>i8 a b X1 Y1 E1 X2 (-Y2) E2 W hg hp1 hm2
 obtain ⟨r1,r2,r3,r4,y1,y2⟩:=M.b6 hin hp2
 have PO:=fun W=>kR X2 Y2 E2 W (by omega) (by omega)
 obtain ⟨e1,e2,e3,e4,-,-⟩:=M.b6 hin hp1;obtain ⟨s1,s2,s3,s4,-,-⟩:=M.b6 hin hs;obtain ⟨d1,d2,d3,d4,-,-⟩:=M.b6 hin hd
 have CB:=fun W=>dg a b _ (M.dO a X1 Y1 E1 X2 Y2 E2) _ W hg s1 s2 s3 s4
 have Ea:=fun W=>dg a b _ (M.dO a X1 Y1 E1 X2 (-Y2) E2) _ W hg d1 d2 d3 d4
 rw [i3] at CB;rw [i4] at Ea
 have PP:=fun W=>mZ (l3,t3) (l4,t4) W (dN c3 (by omega) (by omega)) (dN c4 (by omega) (by omega))
 rw [hsum] at PP
 have PL:=fun g W h2=>mV a b (l3+l4,t3+t4) [(X1,Y1,E1),(X2,Y2,E2),(X1,Y1,E1),(X2,Y2,E2)] g 4 W hg (dN (by show l3+l4≤t3+t4;omega) (by show -409600000≤l3+l4;omega) (by show t3+t4≤409600000;omega)) h2 (by simp) (by
  intro p hp;simp only [List.mem_cons,List.not_mem_nil,or_false] at hp
  rcases hp with rfl | rfl | rfl | rfl
  ·exact ⟨e1,e2,e3,e4⟩
  ·exact ⟨r1,r2,r3,r4⟩
  ·exact ⟨e1,e2,e3,e4⟩
  exact ⟨r1,r2,r3,r4⟩)
 rw [hgl,show [(X1,Y1,E1),(X2,Y2,E2),(X1,Y1,E1),(X2,Y2,E2)].length=4 from rfl] at PL;clear h0 h1 hg hp1 hp2 hin hm2 hs hd i3 i4 y1 y2 a3 a4 b3 b4 c3 c4 hsum hgl q1 q2 r1 r2 r3 r4 e1 e2 e3 e4 s1 s2 s3 s4 d1 d2 d3 d4;generalize M.bk a X1 Y1 E1 X2 (-Y2) E2=o4,M.dB a X1 Y1 E1 X2 (-Y2) E2=E4,M.dO a X1 Y1 E1 X2 (-Y2) E2=Y4,M.dC a X1 Y1 E1 X2 (-Y2) E2=X4,M.bk a X1 Y1 E1 X2 Y2 E2=o3,M.dB a X1 Y1 E1 X2 Y2 E2=E3,M.dO a X1 Y1 E1 X2 Y2 E2=Y3,M.dC a X1 Y1 E1 X2 Y2 E2=X3 at *;generalize hS4:some (l3+l4 - t1 - t2 - t1 - t2,t3+t4 - l1 - l2 - l1 - l2)=fin at *
 have hfs:fin.isSome=true:=by rw [←hS4];rfl
 rw [hfs] at PL;clear hS4;rw [show (some (l3,t3)).isSome=true from rfl] at CB;rw [show (some (l4,t4)).isSome=true from rfl] at Ea;rw [show (some (l3+l4,t3+t4)).isSome=true from rfl] at PP;generalize hG:M.gd (o3 && o4) fin=gv at *;replace hG:=xL hG;replace hfs:=xL hfs;generalize M.xv (some (l3+l4,t3+t4))=k4,M.xu (some (l3+l4,t3+t4))=k3,M.xr (some (l3+l4,t3+t4))=k2,M.xp (some (l3+l4,t3+t4))=k1,M.xv (some (l4,t4))=g4,M.xu (some (l4,t4))=g3,M.xr (some (l4,t4))=g2,M.xp (some (l4,t4))=g1,M.xv (some (l3,t3))=f4,M.xu (some (l3,t3))=f3,M.xr (some (l3,t3))=f2,M.xp (some (l3,t3))=f1 at *;generalize hn1:M.xp fin=n1 at PL;generalize hn2:M.xr fin=n2 at PL;generalize E5:M.xu fin=n3 at PL;generalize E6:M.xv fin=n4 at PL;replace hn1:=xL hn1;replace hn2:=xL hn2;replace E5:=xL E5;replace E6:=xL E6;generalize hY:-Y2=m2 at *;clear hY;replace Fn:=xL Fn;replace Fo:=xL Fo;replace PO:=xL PO;replace CB:=xL CB;replace Ea:=xL Ea;replace PP:=xL PP;replace PL:=xL PL;go_enter Tryz.func29,Tryz.ntmps29
 go_upto_region 4 with (first | (go_at_call 84;(with_reducible refine (PT.out _).mono ?_);rintro e w4 ⟨rfl,hb4⟩;replace B:=d_ B hb4;replace C:=C.keep hb4;replace Q:=Q.keep hb4;replace U:=U.keep hb4;replace R:=R.keep hb4;have f_:=C.box.c0;have i_:=C.box.c1;(have ⟨q0,q1,q2⟩:=Q.aK);(have ⟨u0,u1,u2⟩:=U.aK);(have ⟨r0,r1,r2,r3,z0,z1,z2,z3,rl⟩:=R.aN)) | (go_at_call 92;(with_reducible refine (Fn.out _).mono ?_);rintro e w6 ⟨rfl,hb6⟩;replace B:=d_ B hb6;replace C:=C.keep hb6;replace Q:=Q.keep hb6;replace U:=U.keep hb6;replace R:=R.keep hb6;have f_:=C.box.c0;have i_:=C.box.c1;(have ⟨q0,q1,q2⟩:=Q.aK);(have ⟨u0,u1,u2⟩:=U.aK);(have ⟨r0,r1,r2,r3,z0,z1,z2,z3,rl⟩:=R.aN);have B0:=B;have Hf:=B.size;replace B:=B.alloc Hf (.cells #[.int .i64 X3,.int .i64 Y3,.int .i64 E3] 27);replace C:=C.alloc (.cells #[.int .i64 X3,.int .i64 Y3,.int .i64 E3] 27);replace Q:=Q.alloc (.cells #[.int .i64 X3,.int .i64 Y3,.int .i64 E3] 27);replace U:=U.alloc (.cells #[.int .i64 X3,.int .i64 Y3,.int .i64 E3] 27);replace R:=R.alloc (.cells #[.int .i64 X3,.int .i64 Y3,.int .i64 E3] 27);have S:=aH.new w6 #[.int .i64 X3,.int .i64 Y3,.int .i64 E3] 27;have f_:=C.box.c0;have i_:=C.box.c1;(have ⟨q0,q1,q2⟩:=Q.aK);(have ⟨u0,u1,u2⟩:=U.aK);(have ⟨r0,r1,r2,r3,z0,z1,z2,z3,rl⟩:=R.aN)))
 generalize w6.alloc (.cells #[.int .i64 X3,.int .i64 Y3,.int .i64 E3] 27)=wd at *;have ⟨k0,k1,_,_,_⟩:=C.box;have ⟨k2,k3,k4⟩:=Q.aK;have ⟨k5,k6,k7⟩:=U.aK;clear f_ i_ q0 q1 q2 u0 u1 u2 r0 r1 r2 r3 z0 z1 z2 z3;refine Rg.uZ 8 9 27 #[.int .i64 0,.int .i64 0,.int .i64 0] #[.int .i64 X4,.int .i64 Y4,.int .i64 E4] [.is (.agg #[.int .i64 a,.int .i64 b]),.is (.agg #[.int .i64 X1,.int .i64 Y1,.int .i64 E1]),.is (.agg #[.int .i64 X2,.int .i64 Y2,.int .i64 E2]),.is (.agg #[.int .i64 X2,.int .i64 m2,.int .i64 E2]),.is (.tuple #[.agg #[.int .i64 X4,.int .i64 Y4,.int .i64 E4],.bool o4]),.is (.tuple #[.agg #[.int .i64 X4,.int .i64 Y4,.int .i64 E4],.bool o4]),.is (.agg #[.int .i64 X4,.int .i64 Y4,.int .i64 E4]),.is (.bool o4),.is (undef),.is (undef),.is (.bool o4)] (by kernel_rfl) (by kernel_rfl) (by kernel_rfl) (fun j h1 h2=>match j,h1,h2 with | 0,h1,h2=>rfl | 1,h1,h2=>rfl | 2,h1,h2=>rfl | 3,h1,h2=>rfl | 4,h1,h2=>rfl | 5,h1,h2=>rfl | 6,h1,h2=>rfl | 7,h1,h2=>rfl | 8,h1,h2=>absurd rfl h1 | 9,h1,h2=>absurd rfl h2 | 10,h1,h2=>rfl | n+11,_,_=>rfl) (by decide) ⟨?_,?_,?_,?_,?_,?_,?_,?_,?_,?_,?_,trivial⟩ ?_
 ·unfold Rg.bw
  rw [if_neg (by decide),if_neg (by decide)];intro zZ w_ hB hr;have e3:zZ.tmps[3]?=some (.pointer (some ⟨w.heap.size,0,none⟩)):=hr 3 (by decide);have k0:=aE hB k0;have k1:=aE hB k1;exact Rg.aG rfl (by go_simp)
 ·unfold Rg.bw
  rw [if_neg (by decide),if_neg (by decide)];intro zZ w_ hB hr;have e4:zZ.tmps[4]?=some (.pointer (some ⟨w.heap.size+1,0,none⟩)):=hr 4 (by decide);have k0:=aE hB k2;have k1:=aE hB k3;have k2:=aE hB k4;exact Rg.aG rfl (by go_simp)
 ·unfold Rg.bw
  rw [if_neg (by decide),if_neg (by decide)];intro zZ w_ hB hr;have e5:zZ.tmps[5]?=some (.pointer (some ⟨w.heap.size+1+1,0,none⟩)):=hr 5 (by decide);have k0:=aE hB k5;have k1:=aE hB k6;have k2:=aE hB k7;exact Rg.aG rfl (by go_simp)
 ·unfold Rg.bw
  rw [if_neg (by decide),if_neg (by decide)];intro zZ w_ hB hr;have e34:=Rg.c_ (hr 34 (by decide));have ef:=Rg.ef zZ;exact Rg.bX rfl (by go_simp) (PO.out _)
 ·unfold Rg.bw
  rw [if_neg (by decide),if_neg (by decide)];intro zZ w_ hB hr;have e32:=Rg.c_ (hr 32 (by decide));have e33:=Rg.c_ (hr 33 (by decide));have e35:=Rg.c_ (hr 35 (by decide));have ef:=Rg.ef zZ;exact Rg.bX rfl (by go_simp) (Fo.out _)
 ·unfold Rg.bw
  rw [if_neg (by decide),if_neg (by decide)];intro zZ w_ hB hr;have e36:=Rg.c_ (hr 36 (by decide));exact Rg.aG rfl (by go_simp)
 ·unfold Rg.bw
  rw [if_neg (by decide),if_neg (by decide)];intro zZ w_ hB hr;have e31:=Rg.c_ (hr 31 (by decide));exact Rg.aG rfl (by go_simp)
 ·unfold Rg.bw
  rw [if_neg (by decide),if_neg (by decide)];intro zZ w_ hB hr;have e31:=Rg.c_ (hr 31 (by decide));exact Rg.aG rfl (by go_simp)
 ·unfold Rg.bw
  rw [if_pos rfl];intro zZ w_;exact Rg.nd rfl (by first | (go_simp;done) | (go_simp;rfl))
 ·unfold Rg.bw
  rw [if_neg (by decide),if_pos rfl];intro zZ w_ h_ hh hn hr;have e10:zZ.tmps[10]?=some (.pointer (some ⟨h_,0,none⟩)):=hr 10 (by decide);have e37:=Rg.c_ (hr 37 (by decide));have ⟨y0,y1,y2,x0,x1,x2⟩:=hn.bg;refine ⟨rfl,?_⟩;unfold Oper.wp
  go_simp
  exact ⟨aH.qY hn _ _ _,xN (xN (xN (xO _ _) hh _) hh _) hh _⟩
 ·unfold Rg.bw
  rw [if_neg (by decide),if_neg (by decide)];intro zZ w_ hB hr;have e38:=Rg.c_ (hr 38 (by decide));exact Rg.aG rfl (by go_simp)
 intro vals wz h_ hh hn Ay hB hv;have yH:vals 10=.bool o4:=hv 10 (by decide) (by decide) (by decide);simp only [Rg.ay,Rg.fill,Act.put,Nat.reduceAdd];clear hv;simp only [Ay,yH];clear Ay yH;have hd1:=rl;replace hB:Below wd.heap.size wd wz:=hB;replace B:=d_ B hB;replace C:=C.keep hB;replace Q:=Q.keep hB;replace U:=U.keep hB;replace R:=R.keep hB;replace S:=S.keep hB;have D:aH wz h_ 27 #[.int .i64 X4,.int .i64 Y4,.int .i64 E4]:=hn;clear hB hn hd1 rl k0 k1 k2 k3 k4 k5 k6 k7;have ⟨r0,r1,r2,r3,z0,z1,z2,z3,rl⟩:=R.aN
 cases o3 with
 | false=>
  obtain rfl:gv=none:=hG.out.symm;go_wp2;exact bodyPost_ret (v:=.tuple #[.agg #[.int .i64 0,.int .i64 0,.int .i64 0,.int .i64 0],.bool false]) (by simp [results,Tryz.results29,go_sem, *]) rfl (⟨rfl,xN (xN (xN (xN B (by dsimp only;omega) _) (by dsimp only;omega) _) (by dsimp only;omega) _) (by dsimp only;omega) _⟩)
 | true=>
 cases o4 with
 | false=>
  obtain rfl:gv=none:=hG.out.symm;go_wp2;exact bodyPost_ret (v:=.tuple #[.agg #[.int .i64 0,.int .i64 0,.int .i64 0,.int .i64 0],.bool false]) (by simp [results,Tryz.results29,go_sem, *]) rfl (⟨rfl,xN (xN (xN (xN B (by dsimp only;omega) _) (by dsimp only;omega) _) (by dsimp only;omega) _) (by dsimp only;omega) _⟩)
 | true=>
 obtain rfl:gv=fin:=hG.out.symm;clear hG r0 r1 r2 r3 z0 z1 z2 z3;have ⟨x0,x1,_,_,_⟩:=C.box;have ⟨x2,x3,x4⟩:=S.aK
 go_wp2_with fail
 refine (CB.out _).mono ?_;rintro e we ⟨rfl,hk⟩;have Nj:=(d_ B hk).size;replace B:=(d_ B hk).alloc Nj (.cells #[.int .i64 f1,.int .i64 f2,.int .i64 f3,.int .i64 f4] 33);replace C:=(C.keep hk).alloc (.cells #[.int .i64 f1,.int .i64 f2,.int .i64 f3,.int .i64 f4] 33);replace Q:=(Q.keep hk).alloc (.cells #[.int .i64 f1,.int .i64 f2,.int .i64 f3,.int .i64 f4] 33);replace U:=(U.keep hk).alloc (.cells #[.int .i64 f1,.int .i64 f2,.int .i64 f3,.int .i64 f4] 33);replace R:=(R.keep hk).alloc (.cells #[.int .i64 f1,.int .i64 f2,.int .i64 f3,.int .i64 f4] 33);replace D:=(D.keep hk).alloc (.cells #[.int .i64 f1,.int .i64 f2,.int .i64 f3,.int .i64 f4] 33);have J1:=aH.new we #[.int .i64 f1,.int .i64 f2,.int .i64 f3,.int .i64 f4] 33;clear hk;clear x0 x1 x2 x3 x4 S;have ⟨x0,x1,_,_,_⟩:=C.box;have ⟨x2,x3,x4⟩:=D.aK
 go_wp2_with fail
 refine (Ea.out _).mono ?_;rintro e wf ⟨rfl,hk⟩;have Nk:=(d_ B hk).size;replace B:=(d_ B hk).alloc Nk (.cells #[.int .i64 g1,.int .i64 g2,.int .i64 g3,.int .i64 g4] 33);replace C:=(C.keep hk).alloc (.cells #[.int .i64 g1,.int .i64 g2,.int .i64 g3,.int .i64 g4] 33);replace Q:=(Q.keep hk).alloc (.cells #[.int .i64 g1,.int .i64 g2,.int .i64 g3,.int .i64 g4] 33);replace U:=(U.keep hk).alloc (.cells #[.int .i64 g1,.int .i64 g2,.int .i64 g3,.int .i64 g4] 33);replace R:=(R.keep hk).alloc (.cells #[.int .i64 g1,.int .i64 g2,.int .i64 g3,.int .i64 g4] 33);replace J1:=(J1.keep hk).alloc (.cells #[.int .i64 g1,.int .i64 g2,.int .i64 g3,.int .i64 g4] 33);have J2:=aH.new wf #[.int .i64 g1,.int .i64 g2,.int .i64 g3,.int .i64 g4] 33;clear hk;clear x0 x1 x2 x3 x4 D;have ⟨x0,x1,x2,x3,_,_,_,_,_⟩:=J1.aN;have ⟨x4,x5,x6,x7,_,_,_,_,_⟩:=J2.aN
 go_wp2_with fail
 refine (PP.out _).mono ?_;rintro e wg ⟨rfl,hk⟩;have Nl:=(d_ B hk).size;replace B:=(d_ B hk).alloc Nl (.cells #[.int .i64 k1,.int .i64 k2,.int .i64 k3,.int .i64 k4] 33);replace C:=(C.keep hk).alloc (.cells #[.int .i64 k1,.int .i64 k2,.int .i64 k3,.int .i64 k4] 33);replace Q:=(Q.keep hk).alloc (.cells #[.int .i64 k1,.int .i64 k2,.int .i64 k3,.int .i64 k4] 33);replace U:=(U.keep hk).alloc (.cells #[.int .i64 k1,.int .i64 k2,.int .i64 k3,.int .i64 k4] 33);replace R:=(R.keep hk).alloc (.cells #[.int .i64 k1,.int .i64 k2,.int .i64 k3,.int .i64 k4] 33);have J3:=aH.new wg #[.int .i64 k1,.int .i64 k2,.int .i64 k3,.int .i64 k4] 33;clear hk;clear x0 x1 x2 x3 x4 x5 x6 x7 J1 J2;have ⟨x0,x1,_,_,_⟩:=C.box;have ⟨x2,x3,x4⟩:=Q.aK;have ⟨x5,x6,x7⟩:=U.aK;have ⟨y0,y1,y2,y3,_,_,_,_,_⟩:=J3.aN;have L:=vQ (wg.alloc (.cells #[.int .i64 k1,.int .i64 k2,.int .i64 k3,.int .i64 k4] 33)) X1 Y1 E1 X2 Y2 E2 27;rw [xM] at L
 go_wp2_with fail
 (with_reducible refine (PL.out _ _ L).mono ?_);rintro e wh ⟨rfl,hk⟩
 have hzg:=B.size;replace B:=(B.alloc hzg (.cells #[.int .i64 X1,.int .i64 Y1,.int .i64 E1,.int .i64 X2,.int .i64 Y2,.int .i64 E2,.int .i64 X1,.int .i64 Y1,.int .i64 E1,.int .i64 X2,.int .i64 Y2,.int .i64 E2] 27)).trans (hk.mono (by rw [xM];omega));replace R:=(R.alloc (.cells #[.int .i64 X1,.int .i64 Y1,.int .i64 E1,.int .i64 X2,.int .i64 Y2,.int .i64 E2,.int .i64 X1,.int .i64 Y1,.int .i64 E1,.int .i64 X2,.int .i64 Y2,.int .i64 E2] 27)).keep hk;clear hk L x0 x1 x2 x3 x4 x5 x6 x7 y0 y1 y2 y3;have ⟨r0,r1,r2,r3,z0,z1,z2,z3,rl9⟩:=R.aN;go_wp2;exact bodyPost_ret (v:=.tuple #[.agg #[.int .i64 n1,.int .i64 n2,.int .i64 n3,.int .i64 n4],.bool true]) (by simp [results,Tryz.results29,go_sem, *]) rfl (⟨by rw [hfs.out,hn1.out,hn2.out,E5.out,E6.out],xN (xN (xN (xN B (by dsimp only;omega) _) (by dsimp only;omega) _) (by dsimp only;omega) _) (by dsimp only;omega) _⟩)
namespace M
abbrev DG:=Int × Int × Int
noncomputable def Co (a X Y E:Int):Nat→Option DG
 | 0=>some (0,0,0)
 | n+1=>(Co a X Y E n).bind fun p=>if bk a p.1 p.2.1 p.2.2 X Y E=true then some (dC a p.1 p.2.1 p.2.2 X Y E,dO a p.1 p.2.1 p.2.2 X Y E,dB a p.1 p.2.1 p.2.2 X Y E) else none
def pX (r:Option DG):Int:=(r.getD (0,0,0)).1
def pY (r:Option DG):Int:=(r.getD (0,0,0)).2.1
def pE (r:Option DG):Int:=(r.getD (0,0,0)).2.2
theorem qU (a b:Int):bB a b 0 0 0=true:=by
 unfold bB;simp
theorem tC {a b X Y E:Int} (hg:good a b=true) (hp:bB a b X Y E=true):∀ n p,Co a X Y E n=some p→bB a b p.1 p.2.1 p.2.2=true
 | 0,p,h=>by
  cases h
  exact qU a b
 | n+1,p,h=>by
  unfold Co at h
  cases hq:Co a X Y E n with
  | none=>rw [hq] at h;cases h
  | some q=>
  rw [hq] at h;have hq2:=tC hg hp n q hq;simp only [Option.bind_some] at h
  split at h
  ·cases h
   exact dk (am hg) hq2 hp
  cases h
theorem nH {a X Y E:Int} {n:Nat} {p:DG} (h:Co a X Y E n=some p):Co a X Y E (n+1)=if bk a p.1 p.2.1 p.2.2 X Y E=true then some (dC a p.1 p.2.1 p.2.2 X Y E,dO a p.1 p.2.1 p.2.2 X Y E,dB a p.1 p.2.1 p.2.2 X Y E) else none:=by
 conv=>lhs;unfold Co
 rw [h];rfl
theorem jq {a X Y E:Int} {n:Nat} (h:Co a X Y E n=none):∀ k,n≤k→Co a X Y E k=none
 | 0,hk=>by
  obtain rfl:n=0:=by omega
  exact h
 | k+1,hk=>by
  by_cases e:n=k+1
  ·rw [←e];exact h
  conv=>lhs;unfold Co
  rw [jq h k (by omega)];rfl
def JC (n Y:Int):Int:=if n<0 then -Y else Y
noncomputable def qc (a X Y E n:Int):Option DG:=Co a X (JC n Y) E n.natAbs
end M
theorem kS (a b X Y E n:Int) (w:World) (hg:M.good a b=true) (hp:M.bB a b X Y E=true) (hn1:-1000000≤n) (hn2:n≤1000000) :
  Calls Tryz.prog 104 #[.agg #[.int .i64 a,.int .i64 b],.agg #[.int .i64 X,.int .i64 Y,.int .i64 E],.int .i64 n] w fun e w'=>e=.returned (.tuple #[.agg #[.int .i64 (M.pX (M.qc a X Y E n)),.int .i64 (M.pY (M.qc a X Y E n)),.int .i64 (M.pE (M.qc a X Y E n))],.bool (M.qc a X Y E n).isSome])∧Below w.heap.size w w':=by
 obtain ⟨r1,r2,r3,r4,y1,y2⟩:=M.b6 (M.am hg) hp
 have PO:=fun W=>kR X Y E W (by omega) (by omega)
 have hm:=M.gy hp
 obtain ⟨k,hk⟩:∃ k:Nat,k=n.natAbs:=⟨_,rfl⟩
 obtain ⟨Z,hZ⟩:∃ Z,Z=M.JC n Y:=⟨_,rfl⟩
 have hpz:M.bB a b X Z E=true:=by
  rw [hZ];unfold M.JC
  split
  ·exact hm
  exact hp
 have PA:=fun (p:M.DG) (h:M.bB a b p.1 p.2.1 p.2.2=true) W=>i8 a b p.1 p.2.1 p.2.2 X Z E W hg h hpz
 have HT:=M.tC hg hpz
 have hr:M.qc a X Y E n=M.Co a X Z E k:=by unfold M.qc;rw [←hZ,←hk]
 rw [hr]
 obtain ⟨res,hres⟩:∃ r,M.Co a X Z E k=r:=⟨_,rfl⟩
 rw [hres]
 have hkb:k≤1000000:=by omega
 clear r1 r2 r3 r4 y1 y2 hm hg hp hpz hr;replace PA:=xL PA;replace HT:=xL HT;replace hres:=xL hres;obtain ⟨wc,hw3,C,Q,R,B⟩:=fM w #[.int .i64 a,.int .i64 b] 25 #[.int .i64 X,.int .i64 Y,.int .i64 E] 27 #[.int .i64 0,.int .i64 0,.int .i64 0] 27;have ⟨k0,k1,_,_,_⟩:=C.box;have ⟨q0,q1,q2,m0,m1,m2⟩:=Q.bg
 by_cases hneg:n<0
 ·have hzy:-Y=Z:=by rw [hZ];unfold M.JC;exact (if_pos hneg).symm
  rw [hzy] at PO;replace PO:=xL PO;clear hzy
  have hkn:(k:Int)=-n:=by omega
  clear hZ hk;go_enter Tryz.func104,Tryz.ntmps104
  go_wp2_with fail
  (with_reducible refine (PO.out _).mono ?_);rintro e w4 ⟨rfl,hb4⟩
  replace B:=d_ B hb4;replace C:=C.keep hb4;replace Q:=Q.keep hb4;replace R:=R.keep hb4;clear k0 k1 q0 q1 q2 m0 m1 m2 hb4;have ⟨q0,q1,q2,m0,m1,m2⟩:=Q.bg;replace B:Below w.heap.size w (((w4.setCell ⟨w.heap.size+1,0,none⟩ (.int .i64 X)).setCell ⟨w.heap.size+1,1,none⟩ (.int .i64 Z)).setCell ⟨w.heap.size+1,2,none⟩ (.int .i64 E)):=xN (xN (xN B (by dsimp only;omega) _) (by dsimp only;omega) _) (by dsimp only;omega) _;replace C:=((C.other (k:=w.heap.size+1) (i:=0) (by omega) (.int .i64 X)).other (k:=w.heap.size+1) (i:=1) (by omega) (.int .i64 Z)).other (k:=w.heap.size+1) (i:=2) (by omega) (.int .i64 E);replace R:=((R.other (k:=w.heap.size+1) (i:=0) (by omega) (.int .i64 X)).other (k:=w.heap.size+1) (i:=1) (by omega) (.int .i64 Z)).other (k:=w.heap.size+1) (i:=2) (by omega) (.int .i64 E);replace Q:=Q.qY (.int .i64 X) (.int .i64 Z) (.int .i64 E)
  go_upto_region 4 with fail
  clear q0 q1 q2 m0 m1 m2;generalize (((w4.setCell ⟨w.heap.size+1,0,none⟩ (.int .i64 X)).setCell ⟨w.heap.size+1,1,none⟩ (.int .i64 Z)).setCell ⟨w.heap.size+1,2,none⟩ (.int .i64 E))=wd at *;have O:=aH.new wd #[.int .i64 0,.int .i64 0,.int .i64 0] 27;have Ni:=B.size;have hQl:=Q.lt;have hRl:=R.lt;have hCl:=C.lt;replace B:=B.alloc Ni (.cells #[.int .i64 0,.int .i64 0,.int .i64 0] 27);replace C:=C.alloc (.cells #[.int .i64 0,.int .i64 0,.int .i64 0] 27);replace Q:=Q.alloc (.cells #[.int .i64 0,.int .i64 0,.int .i64 0] 27);replace R:=R.alloc (.cells #[.int .i64 0,.int .i64 0,.int .i64 0] 27);go_wp2;generalize wd.heap.size=ko at *
  go_loopw [2] (fun vi wq=>∃ (j:Nat) (p:M.DG),j≤k∧vi=.int .i64 ((k:Int) - j)∧Hid (M.Co a X Z E j=some p)∧Below w.heap.size w wq∧aH wq ko 27 #[.int .i64 p.1,.int .i64 p.2.1,.int .i64 p.2.2]∧aH wq w.heap.size 25 #[.int .i64 a,.int .i64 b]∧aH wq (w.heap.size+1) 27 #[.int .i64 X,.int .i64 Z,.int .i64 E]∧aH wq (w.heap.size+1+1) 27 #[.int .i64 0,.int .i64 0,.int .i64 0]) (fun vi _=>(intOf vi).toNat)
  case atStart=>exact ⟨0,(0,0,0),by omega,congrArg (Value.int .i64) (by omega),xL rfl,B,O,C,Q,R⟩
  case round=>
  clear B O C Q R;obtain ⟨j,⟨px,py,pe⟩,hj,rfl,ht,B,O,C,Q,R⟩:=hrel;have Dv:=HT.out j _ ht.out;have hnx:=M.nH ht.out;replace PA:=PA.out _ Dv;clear Dv
  dsimp only at hnx PA O
  by_cases hlt:j<k
  ·have hgt:0<(k:Int) - j:=by omega
   generalize M.bk a px py pe X Z E=o3,M.dB a px py pe X Z E=E3,M.dO a px py pe X Z E=Y3,M.dC a px py pe X Z E=X3 at *;replace PA:=xL PA;replace hnx:=xL hnx;have ⟨k0,k1,_,_,_⟩:=C.box;have ⟨q0,q1,q2⟩:=Q.aK;have ⟨o0,o1,o2⟩:=O.aK
   go_wp2_with fail
   (with_reducible refine (PA.out _).mono ?_);rintro e wk ⟨rfl,AM⟩
   have Nh:=(d_ B AM).size;have B0:=d_ B AM;replace B:=B0.alloc Nh (.cells #[.int .i64 X3,.int .i64 Y3,.int .i64 E3] 27);replace O:=(O.keep AM).alloc (.cells #[.int .i64 X3,.int .i64 Y3,.int .i64 E3] 27);replace C:=(C.keep AM).alloc (.cells #[.int .i64 X3,.int .i64 Y3,.int .i64 E3] 27);replace Q:=(Q.keep AM).alloc (.cells #[.int .i64 X3,.int .i64 Y3,.int .i64 E3] 27);replace R:=(R.keep AM).alloc (.cells #[.int .i64 X3,.int .i64 Y3,.int .i64 E3] 27);have S:=aH.new wk #[.int .i64 X3,.int .i64 Y3,.int .i64 E3] 27;clear k0 k1 q0 q1 q2 o0 o1 o2 AM
   cases o3 with
   | false=>
    have hno:res=none:=hres.out.symm.trans (M.jq (hnx.out.trans (if_neg (by decide))) k (by omega));subst hno;have ⟨x0,x1,x2,z0,z1,z2⟩:=R.bg;go_wp2;exact bodyPost_ret (v:=.tuple #[.agg #[.int .i64 0,.int .i64 0,.int .i64 0],.bool false]) (by simp [results,Tryz.results104,go_sem, *]) rfl (⟨rfl,xN (xN (xN B (by dsimp only;omega) _) (by dsimp only;omega) _) (by dsimp only;omega) _⟩)
   | true=>
   replace hnx:=xL (hnx.out.trans (if_pos rfl));have ⟨x0,x1,x2,z0,z1,z2⟩:=O.bg;have ⟨s0,s1,s2⟩:=S.aK;go_wp2
   go_roundw
   case rel=>exact ⟨j+1,(X3,Y3,E3),by omega,by go_num,hnx,xN (xN (xN B (by dsimp only;omega) _) (by dsimp only;omega) _) (by dsimp only;omega) _,O.qY _ _ _,((C.other (by omega) _).other (by omega) _).other (by omega) _,((Q.other (by omega) _).other (by omega) _).other (by omega) _,((R.other (by omega) _).other (by omega) _).other (by omega) _⟩
   case measure=>simp [intOf];omega
  obtain rfl:j=k:=by omega
  obtain rfl:res=some (px,py,pe):=hres.out.symm.trans ht.out;have ⟨x0,x1,x2,z0,z1,z2⟩:=R.bg;have ⟨o0,o1,o2⟩:=O.aK
  have hz:¬ 0<(j:Int) - j:=by omega
  go_wp2;exact bodyPost_ret (v:=.tuple #[.agg #[.int .i64 px,.int .i64 py,.int .i64 pe],.bool true]) (by simp [results,Tryz.results104,go_sem, *]) rfl (⟨rfl,xN (xN (xN B (by dsimp only;omega) _) (by dsimp only;omega) _) (by dsimp only;omega) _⟩)
 obtain rfl:Z=Y:=by rw [hZ];unfold M.JC;exact if_neg hneg
 have hkn:(k:Int)=n:=by omega
 clear hZ hk PO;go_enter Tryz.func104,Tryz.ntmps104
 go_upto_region 4 with fail
 clear k0 k1 q0 q1 q2 m0 m1 m2;have O:=aH.new wc #[.int .i64 0,.int .i64 0,.int .i64 0] 27;have Ni:=B.size;have hQl:=Q.lt;have hRl:=R.lt;have hCl:=C.lt;replace B:=B.alloc Ni (.cells #[.int .i64 0,.int .i64 0,.int .i64 0] 27);replace C:=C.alloc (.cells #[.int .i64 0,.int .i64 0,.int .i64 0] 27);replace Q:=Q.alloc (.cells #[.int .i64 0,.int .i64 0,.int .i64 0] 27);replace R:=R.alloc (.cells #[.int .i64 0,.int .i64 0,.int .i64 0] 27);go_wp2;generalize wc.heap.size=ko at *
 go_loopw [2] (fun vi wq=>∃ (j:Nat) (p:M.DG),j≤k∧vi=.int .i64 ((k:Int) - j)∧Hid (M.Co a X Z E j=some p)∧Below w.heap.size w wq∧aH wq ko 27 #[.int .i64 p.1,.int .i64 p.2.1,.int .i64 p.2.2]∧aH wq w.heap.size 25 #[.int .i64 a,.int .i64 b]∧aH wq (w.heap.size+1) 27 #[.int .i64 X,.int .i64 Z,.int .i64 E]∧aH wq (w.heap.size+1+1) 27 #[.int .i64 0,.int .i64 0,.int .i64 0]) (fun vi _=>(intOf vi).toNat)
 case atStart=>exact ⟨0,(0,0,0),by omega,congrArg (Value.int .i64) (by omega),xL rfl,B,O,C,Q,R⟩
 case round=>
 clear B O C Q R;obtain ⟨j,⟨px,py,pe⟩,hj,rfl,ht,B,O,C,Q,R⟩:=hrel;have Dv:=HT.out j _ ht.out;have hnx:=M.nH ht.out;replace PA:=PA.out _ Dv;clear Dv
 dsimp only at hnx PA O
 by_cases hlt:j<k
 ·have hgt:0<(k:Int) - j:=by omega
  generalize M.bk a px py pe X Z E=o3,M.dB a px py pe X Z E=E3,M.dO a px py pe X Z E=Y3,M.dC a px py pe X Z E=X3 at *;replace PA:=xL PA;replace hnx:=xL hnx;have ⟨k0,k1,_,_,_⟩:=C.box;have ⟨q0,q1,q2⟩:=Q.aK;have ⟨o0,o1,o2⟩:=O.aK
  go_wp2_with fail
  (with_reducible refine (PA.out _).mono ?_);rintro e wk ⟨rfl,AM⟩
  have Nh:=(d_ B AM).size;have B0:=d_ B AM;replace B:=B0.alloc Nh (.cells #[.int .i64 X3,.int .i64 Y3,.int .i64 E3] 27);replace O:=(O.keep AM).alloc (.cells #[.int .i64 X3,.int .i64 Y3,.int .i64 E3] 27);replace C:=(C.keep AM).alloc (.cells #[.int .i64 X3,.int .i64 Y3,.int .i64 E3] 27);replace Q:=(Q.keep AM).alloc (.cells #[.int .i64 X3,.int .i64 Y3,.int .i64 E3] 27);replace R:=(R.keep AM).alloc (.cells #[.int .i64 X3,.int .i64 Y3,.int .i64 E3] 27);have S:=aH.new wk #[.int .i64 X3,.int .i64 Y3,.int .i64 E3] 27;clear k0 k1 q0 q1 q2 o0 o1 o2 AM
  cases o3 with
  | false=>
   have hno:res=none:=hres.out.symm.trans (M.jq (hnx.out.trans (if_neg (by decide))) k (by omega));subst hno;have ⟨x0,x1,x2,z0,z1,z2⟩:=R.bg;go_wp2;exact bodyPost_ret (v:=.tuple #[.agg #[.int .i64 0,.int .i64 0,.int .i64 0],.bool false]) (by simp [results,Tryz.results104,go_sem, *]) rfl (⟨rfl,xN (xN (xN B (by dsimp only;omega) _) (by dsimp only;omega) _) (by dsimp only;omega) _⟩)
  | true=>
  replace hnx:=xL (hnx.out.trans (if_pos rfl));have ⟨x0,x1,x2,z0,z1,z2⟩:=O.bg;have ⟨s0,s1,s2⟩:=S.aK;go_wp2
  go_roundw
  case rel=>exact ⟨j+1,(X3,Y3,E3),by omega,by go_num,hnx,xN (xN (xN B (by dsimp only;omega) _) (by dsimp only;omega) _) (by dsimp only;omega) _,O.qY _ _ _,((C.other (by omega) _).other (by omega) _).other (by omega) _,((Q.other (by omega) _).other (by omega) _).other (by omega) _,((R.other (by omega) _).other (by omega) _).other (by omega) _⟩
  case measure=>simp [intOf];omega
 obtain rfl:j=k:=by omega
 obtain rfl:res=some (px,py,pe):=hres.out.symm.trans ht.out;have ⟨x0,x1,x2,z0,z1,z2⟩:=R.bg;have ⟨o0,o1,o2⟩:=O.aK
 have hz:¬ 0<(j:Int) - j:=by omega
 go_wp2;exact bodyPost_ret (v:=.tuple #[.agg #[.int .i64 px,.int .i64 py,.int .i64 pe],.bool true]) (by simp [results,Tryz.results104,go_sem, *]) rfl (⟨rfl,xN (xN (xN B (by dsimp only;omega) _) (by dsimp only;omega) _) (by dsimp only;omega) _⟩)
namespace M
theorem mn {a b x y:Int} (h1:-10000≤x) (h2:x≤10000) (h:y*y=cv a b x 1):bB a b x y 1=true:=by
 unfold bB;rw [if_neg (by decide)];simp only [Bool.and_eq_true,beq_iff_eq,decide_eq_true_eq];exact ⟨⟨⟨lF.2 ⟨h1,h2⟩,rfl⟩,by unfold M.gcd;simp⟩,h⟩
theorem pR {n:Int} (h:0≤n) (h2:n≤4000000000000000000):0≤root n∧root n≤2000000000∧root n*root n≤n:=by
 obtain ⟨r0,r1,r2⟩:=fy h;refine ⟨r0,?_,r1⟩
 rcases Int.lt_or_le 2000000000 (root n) with q | q
 ·have:=Int.mul_le_mul (show 2000000001≤root n by omega) (show 2000000001≤root n by omega) (by decide) r0
  omega
 exact q
theorem ur {a b x:Int} (ha1:-1000≤a) (ha2:a≤1000) (hb1:-10000≤b) (hb2:b≤10000) (hx1:-200≤x) (hx2:x≤200):-9000000≤cv a b x 1∧cv a b x 1≤9000000:=by
 have e:cv a b x 1=x*x*x+a*x+b:=by unfold cv;grind
 have s1:=M.aL (x:=x) (y:=x) (m:=200) (n:=200) (by omega) (by omega) (by omega) (by omega);have s2:=M.aL (x:=x*x) (y:=x) (m:=40000) (n:=200) (by omega) (by omega) (by omega) (by omega);have s3:=M.aL (x:=a) (y:=x) (m:=1000) (n:=200) (by omega) (by omega) (by omega) (by omega);omega
end M
theorem np (n:Int) (w:World) (h1:0≤n) (h2:n≤4000000000000000000) :
  Calls Tryz.prog 191 #[.int .i64 n] w fun e w'=>e=.returned (.bool (M.root n*M.root n == n))∧w=w':=by
 have PR:=xL fun W=>jV n W h1 h2
 obtain ⟨r0,r1,r2⟩:=M.pR h1 h2;generalize M.root n=r at *;have hs:=M.aL (x:=r) (y:=r) (m:=2000000000) (n:=2000000000) (by omega) (by omega) (by omega) (by omega);generalize hq:r*r=q at *;go_enter Tryz.func191,Tryz.ntmps191
 go_wp2_with (go_at_call 150;(refine (PR.out _).mono ?_);rintro e w' ⟨rfl,rfl⟩)
 go_ret;exact ⟨rfl,rfl⟩
def FT (w:World) (base:Nat) (A:Option Addr) (l:List M.DG):Prop:=
 ∀ (k:Nat) (p:M.DG),l[k]?=some p→∃ g,A=some ⟨g,0,none⟩∧base≤g∧w.cell? ⟨g,k*3,none⟩=some (.int .i64 p.1)∧w.cell? ⟨g,k*3+1,none⟩=some (.int .i64 p.2.1)∧w.cell? ⟨g,k*3+2,none⟩=some (.int .i64 p.2.2)
theorem FT.nil (w:World) (base:Nat):FT w base none []:=fun k p h=>by simp at h
theorem FT.below {w w':World} {base:Nat} {A:Option Addr} {l:List M.DG} (h:FT w base A l) (hb:Below w.heap.size w w'):FT w' base A l:=fun k p hp=>by
 obtain ⟨g,h1,h2,h3,h4,h5⟩:=h k p hp;exact ⟨g,h1,h2,aE hb h3,aE hb h4,aE hb h5⟩
theorem tw (a b x:Int) (w:World) (hg:M.good a b=true) (hx1:-200≤x) (hx2:x≤200) :
  Calls Tryz.prog 160 #[.agg #[.int .i64 a,.int .i64 b],.int .i64 x,.int .i64 1] w fun e w'=>∃ (A:Option Addr) (l:List M.DG) (cp:Nat),e=.returned (.slice A l.length cp)∧l.length≤2∧FT w' w.heap.size A l∧(∀ p ∈ l,M.bB a b p.1 p.2.1 p.2.2=true)∧Below w.heap.size w w':=by
 obtain ⟨ha1,ha2,hb1,hb2⟩:=M.an (M.am hg)
 have PV:=fun W=>kT a b x 1 W ha1 ha2 hb1 hb2 (by omega) (by omega) (by omega) (by omega)
 obtain ⟨c1,c2⟩:=M.ur ha1 ha2 hb1 hb2 hx1 hx2
 have HO:=fun y (h:y*y=M.cv a b x 1)=>M.mn (a:=a) (b:=b) (x:=x) (y:=y) (by omega) (by omega) h
 replace HO:=xL HO;generalize M.cv a b x 1=c at *;replace PV:=xL PV;clear hg ha1 ha2 hb1 hb2;obtain ⟨wc,hw3,C,B⟩:=pi w #[.int .i64 a,.int .i64 b] 25;have ⟨k0,k1,_,_,_⟩:=C.box
 rcases Int.lt_or_le c 0 with hc | hc
 ·go_enter Tryz.func160,Tryz.ntmps160
  go_wp2_with (go_at_call 161;(with_reducible refine (PV.out _).mono ?_);rintro e w1 ⟨rfl,hb1⟩;replace B:=d_ B hb1)
  go_ret;exact ⟨none,[],0,rfl,by simp,FT.nil _ _,by simp,B⟩
 have PS:=fun W=>np c W hc (by omega)
 have PR:=fun W=>jV c W hc (by omega)
 obtain ⟨r0,r1,r2⟩:=M.pR hc (by omega);generalize M.root c=r at *
 have hn:¬ c<0:=by omega
 replace PR:=xL PR
 by_cases hs:r*r=c
 ·rw [show (r*r == c)=true from beq_iff_eq.2 hs] at PS
  replace PS:=xL PS
  by_cases h0:c=0
  ·have h1:=HO.out 0 (by omega)
   subst h0;clear HO hs r2 r1 r0 PR;go_enter Tryz.func160,Tryz.ntmps160
   go_wp2_with (first | (go_at_call 161;(with_reducible refine (PV.out _).mono ?_);rintro e w1 ⟨rfl,hb1⟩;replace B:=d_ B hb1) | (go_at_call 191;(with_reducible refine (PS.out _).mono ?_);rintro e w2 ⟨rfl,rfl⟩))
   go_ret
   exact ⟨_,[(x,0,1)],_,rfl,by simp,fun k p hp=>by
    have hk:k<1:=by simpa using (List.getElem?_eq_some_iff.1 hp).1
    obtain rfl:k=0:=by omega
    cases hp
    have V:=aH.new w1 #[.int .i64 x,.int .i64 0,.int .i64 1] 27
    exact ⟨w1.heap.size,rfl,B.size,V.cell 0,V.cell 1,V.cell 2⟩,by simp [h1],B.alloc B.size _⟩
  have h1:=HO.out r hs;have h2:=HO.out (-r) (by rw [Int.neg_mul_neg];exact hs);clear HO hs r2;replace h1:=xL h1;replace h2:=xL h2;go_enter Tryz.func160,Tryz.ntmps160
  go_wp2_with (first | (go_at_call 161;(with_reducible refine (PV.out _).mono ?_);rintro e w1 ⟨rfl,hb1⟩;replace B:=d_ B hb1) | (go_at_call 191;(with_reducible refine (PS.out _).mono ?_);rintro e w2 ⟨rfl,rfl⟩) | (go_at_call 150;(with_reducible refine (PR.out _).mono ?_);rintro e w2 ⟨rfl,rfl⟩))
  go_ret
  exact ⟨_,[(x,-r,1),(x,r,1)],_,rfl,by simp,fun k p hp=>by
   have hk:k<2:=by simpa using (List.getElem?_eq_some_iff.1 hp).1
   have hk2:k=0∨k=1:=by omega
   have V:=aH.new w1 #[.int .i64 x,.int .i64 (-r),.int .i64 1,.int .i64 x,.int .i64 r,.int .i64 1] 27
   rcases hk2 with rfl | rfl
   ·cases hp;exact ⟨w1.heap.size,rfl,B.size,V.cell 0,V.cell 1,V.cell 2⟩
   cases hp;exact ⟨w1.heap.size,rfl,B.size,V.cell 3,V.cell 4,V.cell 5⟩,by simp [h1.out,h2.out],B.alloc B.size _⟩
 rw [show (r*r == c)=false from beq_eq_false_iff_ne.2 hs] at PS;replace PS:=xL PS;clear HO;go_enter Tryz.func160,Tryz.ntmps160
 go_wp2_with (first | (go_at_call 161;(with_reducible refine (PV.out _).mono ?_);rintro e w1 ⟨rfl,hb1⟩;replace B:=d_ B hb1) | (go_at_call 191;(with_reducible refine (PS.out _).mono ?_);rintro e w2 ⟨rfl,rfl⟩))
 go_ret;exact ⟨none,[],0,rfl,by simp,FT.nil _ _,by simp,B⟩
theorem aH.aV {W W':World} {g r:Nat} {T:TypeId} {xs:Array Value} (h:aH W g T xs) (hg:W.grownBy W' (some r)) (hn:g≠r):aH W' g T xs:=(hg.block g h.lt (by simpa using hn)).trans h
theorem St.up {w W:World} {g B n K K':Nat} {v:Value} (h:St w W g B v n K) (hK:K≤K'):St w W g B v n K':=⟨h.cur.mono hK,h.gr,h.lt⟩
theorem St.aR {w W:World} {g B n K c o:Nat} {v:Value} (h:St w W g B v n K) (hc:w.heap.size≤c) (hg:g≠c) (hB:B≤c) (x:Value):St w (W.setCell ⟨c,o,none⟩ x) g B v n K:=
 ⟨h.cur.keepR (Gr.set (dE W (some c)) o x) hg hB,Gr.iR h.gr hc _,h.lt⟩
theorem aH.pV {W:World} {g:Nat} {T:TypeId} {u v x:Value} (h:aH W g T #[u,v,x]) (y1 y2 y3:Value):aH (((W.setCell ⟨g,0,none⟩ y1).setCell ⟨g,1,none⟩ y2).setCell ⟨g,2,none⟩ y3) g T #[y1,y2,y3]:=((h.set 0 y1).set 1 y2).set 2 y3
def A3 (wr:World) (g B:Nat) (v:Value) (n K:Nat) (W:World):Prop:=cX W g B v n K∧wr.grownBy W (some g)
theorem A3.keep {wr W W':World} {g B n K:Nat} {v:Value} (h:A3 wr g B v n K W) (hb:Below W.heap.size W W'):A3 wr g B v n K W':=⟨h.1.keep hb,ce h.2 (cM hb _)⟩
theorem A3.call {wr W W':World} {g B n K K':Nat} {v:Value} (h:A3 wr g B v n K W) (hc:cX W' g B v n K') (hg:W.grownBy W' (some g)):A3 wr g B v n K' W':=⟨hc,ce h.2 hg⟩
theorem A3.put {wr W:World} {g B n K h:Nat} {v:Value} (q:A3 wr g B v n K W) (hg:g≠h) (hB:B≤h) (hw:wr.heap.size≤h) (o:Nat) (x:Value):A3 wr g B v n K (W.setCell ⟨h,o,none⟩ x):=
 ⟨q.1.keepR (Gr.set (dE W (some h)) o x) hg hB,Gr.iR q.2 hw _⟩
theorem A3.start {w wr:World} {g B n K:Nat} {v:Value} (st:St w wr g B v n K):A3 wr g B v n K wr.drew:=⟨st.drew.cur,fW (dE wr _) 1⟩
theorem aH.jh {W:World} {k i:Nat} {x:Value} {L:List (Nat × TypeId × Array Value)} (h:∀ y ∈ L,aH W y.1 y.2.1 y.2.2) (hk:∀ y ∈ L,k<y.1):∀ y ∈ L,aH (W.setCell ⟨k,i,none⟩ x) y.1 y.2.1 y.2.2:=fun y hy=>(h y hy).other (by have:=hk y hy;omega) x
structure A7 (w:World) (g B:Nat) (v:Value) (n K r1 r2:Nat) (L:List (Nat × TypeId × Array Value)) (T1 T2:TypeId) (xs ys:Array Value) (W:World):Prop where
 rd:A3 w g B v n K W
 hV:∀ x ∈ L,aH W x.1 x.2.1 x.2.2
 R:aH W r1 T1 xs
 Q:aH W r2 T2 ys
 hn:w.heap.size≤r1∧r1<r2∧g≠r1∧g≠r2∧B≤r1
 hL:∀ x ∈ L,r2<x.1
theorem A7.drew {w W:World} {g B n K r1 r2:Nat} {v:Value} {L:List (Nat × TypeId × Array Value)} {T1 T2:TypeId} {xs ys:Array Value} (h:A7 w g B v n K r1 r2 L T1 T2 xs ys W):A7 w g B v n K r1 r2 L T1 T2 xs ys W.drew:=
 ⟨h.rd.keep (xO _ _).drew,h.hV,h.R,h.Q,h.hn,h.hL⟩
theorem A7.jj {w W:World} {g B n K r1 r2:Nat} {v:Value} {L:List (Nat × TypeId × Array Value)} {T1 T2:TypeId} {u1 u2:Value} {ys:Array Value} (h:A7 w g B v n K r1 r2 L T1 T2 #[u1,u2] ys W) (x y:Value):A7 w g B v n K r1 r2 L T1 T2 #[x,y] ys ((W.setCell ⟨r1,0,none⟩ x).setCell ⟨r1,1,none⟩ y):=by
 have hn:=h.hn
 have hL:∀ y ∈ L,r1<y.1:=fun y hy=>Nat.lt_trans hn.2.1 (h.hL y hy)
 exact ⟨(h.rd.put (by omega) (by omega) (by omega) 0 _).put (by omega) (by omega) (by omega) 1 _,aH.jh (aH.jh h.hV hL) hL,h.R.set2 _ _,(h.Q.other (by omega) _).other (by omega) _,hn,h.hL⟩
theorem A7.ir {w W:World} {g B n K r1 r2:Nat} {v:Value} {L:List (Nat × TypeId × Array Value)} {T1 T2:TypeId} {u1 u2 u3:Value} {xs:Array Value} (h:A7 w g B v n K r1 r2 L T1 T2 xs #[u1,u2,u3] W) (x y z:Value):A7 w g B v n K r1 r2 L T1 T2 xs #[x,y,z] (((W.setCell ⟨r2,0,none⟩ x).setCell ⟨r2,1,none⟩ y).setCell ⟨r2,2,none⟩ z):=by
 have hn:=h.hn;have hL:=h.hL;exact ⟨((h.rd.put (by omega) (by omega) (by omega) 0 _).put (by omega) (by omega) (by omega) 1 _).put (by omega) (by omega) (by omega) 2 _,aH.jh (aH.jh (aH.jh h.hV hL) hL) hL,((h.R.other (by omega) _).other (by omega) _).other (by omega) _,h.Q.pV _ _ _,hn,hL⟩
def ud (w:World) (g B:Nat) (v:Value) (n K:Nat) (e:Ending) (w':World):Prop:=
 ∃ a b X Y E:Int,e=.returned (.tuple #[.agg #[.int .i64 a,.int .i64 b],.agg #[.int .i64 X,.int .i64 Y,.int .i64 E]])∧Hid (M.good a b=true∧M.bB a b X Y E=true)∧cX w' g B v n K∧w.grownBy w' (some g)
def pk (w:World) (g B:Nat) (v:Value) (n K:Nat) (e:Ending) (w':World):Prop:=
 ∃ a b X Y E:Int,e=.returned (.tuple #[.agg #[.int .i64 a,.int .i64 b],.agg #[.int .i64 X,.int .i64 Y,.int .i64 E]])∧cX w' g B v n K∧w.grownBy w' (some g)
def pm (w:World) (g B:Nat) (v:Value) (n K:Nat) (e:Ending) (w':World):Prop:=
 ∃ X Y E:Int,e=.returned (.agg #[.int .i64 X,.int .i64 Y,.int .i64 E])∧cX w' g B v n K∧w.grownBy w' (some g)
def pq (w:World) (g B:Nat) (v:Value) (n K:Nat) (e:Ending) (w':World):Prop:=
 ∃ a b X Y E X2 Y2 E2:Int,e=.returned (.tuple #[.agg #[.int .i64 a,.int .i64 b],.agg #[.int .i64 X,.int .i64 Y,.int .i64 E],.agg #[.int .i64 X2,.int .i64 Y2,.int .i64 E2]])∧cX w' g B v n K∧w.grownBy w' (some g)
theorem cW.keepW {w w':World} {B n:Nat} {v:Value} (h:cW w B v n) (hb:Below B w w'):cW w' B v n:=by
 obtain ⟨A,cap,e,hn,hx⟩:=h;refine ⟨A,cap,e,hn,fun j hj=>?_⟩;obtain ⟨gb,ob,b,e,hgb,hc,h1,h2⟩:=hx j hj;exact ⟨gb,ob,b,e,hgb,(hb.cell (p:=⟨gb,ob+j,none⟩) hgb).trans hc,h1,h2⟩
theorem St.wV {w W:World} {v:Value} {n:Nat} (h:cW w w.heap.size v n) (hb:Below w.heap.size w W) (T:TypeId) :
  St w (W.alloc (.cells #[v,.int .i64 0,.int .u64 0] T)) W.heap.size w.heap.size v n 0:=by
 have hb2:Below w.heap.size w (W.alloc (.cells #[v,.int .i64 0,.int .u64 0] T)):=hb.alloc hb.size _;refine ⟨⟨0,xP _,⟨h.keepW hb2,hb.size,?_,?_,⟨0,?_⟩,by simp [go_sem],by simp [go_sem],by rw [xM];omega⟩⟩,cM hb2 _,hb.size⟩
 all_goals (rw [World.cell?_alloc_at _ _ _ _ rfl];rfl)
theorem St.um {w W:World} {g B n K:Nat} {v:Value} (h:St w W g B v n K) (hg:w.heap.size≤g):Below w.heap.size w W:=cQ h.gr (xP _) fun k hk=>by cases hk;exact hg
theorem A3.below {w W:World} {g B n K:Nat} {v:Value} (h:A3 w g B v n K W) (hg:w.heap.size≤g):Below w.heap.size w W:=cQ h.2 (xP _) fun k hk=>by cases hk;exact hg
theorem M.rU {x y a b:Int} (h1:-200≤x) (h2:x≤200) (hb:b=y*y - x*x*x - a*x):M.bB a b x y 1=true:=
 M.mn (by omega) (by omega) (by rw [hb];unfold M.cv;grind)
theorem qP (g B:Nat) (v:Value) (n K:Nat) (w:World) (h:cX w g B v n K) (hk:K≤700000000) :
  Calls Tryz.prog 152 #[.pointer (some ⟨g,0,none⟩)] w (ud w g B v n (K+20)):=by
 have hl:=h.size;obtain ⟨wc,hw3,R,Q,BB⟩:=iD w #[.int .i64 0,.int .i64 0] 25 #[.int .i64 0,.int .i64 0,.int .i64 0] 27;have st:=(St.start h).keep BB;have hB:=st.lt;have hwc:=BB.size
 have nR:w.heap.size≠g:=by omega
 have nQ:w.heap.size+1≠g:=by omega
 clear h BB;go_enter Tryz.func152,Tryz.ntmps152
 go_wp2_with fail
 refine (cJ g B v n _ 6 _ st.cur (by omega) (by omega) (by omega)).mono ?_;rintro e Cp ⟨x,rfl,⟨JV,JU⟩,xS,p_⟩;replace st:=st.call xS p_;have JF:=p_.size;replace R:=R.aV p_ nR;replace Q:=Q.aV p_ nQ;clear xS p_
 by_cases x0:x=0
 ·subst x0
  have L1:=(aH.new Cp #[.int .i64 0,.int .i64 4,.int .i64 0,.int .i64 1,.int .i64 4,.int .i64 0,.int .i64 (-1),.int .i64 0,.int .i64 (-43),.int .i64 166,.int .i64 0,.int .i64 (-432)] 25).alloc (.cells #[.int .i64 0,.int .i64 2,.int .i64 1,.int .i64 2,.int .i64 3,.int .i64 1,.int .i64 2,.int .i64 4,.int .i64 1,.int .i64 1,.int .i64 0,.int .i64 1,.int .i64 3,.int .i64 8,.int .i64 1,.int .i64 12,.int .i64 36,.int .i64 1] 27);have L2:=aH.new (Cp.alloc (.cells #[.int .i64 0,.int .i64 4,.int .i64 0,.int .i64 1,.int .i64 4,.int .i64 0,.int .i64 (-1),.int .i64 0,.int .i64 (-43),.int .i64 166,.int .i64 0,.int .i64 (-432)] 25)) #[.int .i64 0,.int .i64 2,.int .i64 1,.int .i64 2,.int .i64 3,.int .i64 1,.int .i64 2,.int .i64 4,.int .i64 1,.int .i64 1,.int .i64 0,.int .i64 1,.int .i64 3,.int .i64 8,.int .i64 1,.int .i64 12,.int .i64 36,.int .i64 1] 27;rw [xM] at L2;have zx:=st.size;have zy:=st.le;have zq:=Q.lt;replace st:=st.alloc (.cells #[.int .i64 0,.int .i64 4,.int .i64 0,.int .i64 1,.int .i64 4,.int .i64 0,.int .i64 (-1),.int .i64 0,.int .i64 (-43),.int .i64 166,.int .i64 0,.int .i64 (-432)] 25);replace R:=R.alloc (.cells #[.int .i64 0,.int .i64 4,.int .i64 0,.int .i64 1,.int .i64 4,.int .i64 0,.int .i64 (-1),.int .i64 0,.int .i64 (-43),.int .i64 166,.int .i64 0,.int .i64 (-432)] 25);replace Q:=Q.alloc (.cells #[.int .i64 0,.int .i64 4,.int .i64 0,.int .i64 1,.int .i64 4,.int .i64 0,.int .i64 (-1),.int .i64 0,.int .i64 (-43),.int .i64 166,.int .i64 0,.int .i64 (-432)] 25);replace st:=st.alloc (.cells #[.int .i64 0,.int .i64 2,.int .i64 1,.int .i64 2,.int .i64 3,.int .i64 1,.int .i64 2,.int .i64 4,.int .i64 1,.int .i64 1,.int .i64 0,.int .i64 1,.int .i64 3,.int .i64 8,.int .i64 1,.int .i64 12,.int .i64 36,.int .i64 1] 27);replace R:=R.alloc (.cells #[.int .i64 0,.int .i64 2,.int .i64 1,.int .i64 2,.int .i64 3,.int .i64 1,.int .i64 2,.int .i64 4,.int .i64 1,.int .i64 1,.int .i64 0,.int .i64 1,.int .i64 3,.int .i64 8,.int .i64 1,.int .i64 12,.int .i64 36,.int .i64 1] 27);replace Q:=Q.alloc (.cells #[.int .i64 0,.int .i64 2,.int .i64 1,.int .i64 2,.int .i64 3,.int .i64 1,.int .i64 2,.int .i64 4,.int .i64 1,.int .i64 1,.int .i64 0,.int .i64 1,.int .i64 3,.int .i64 8,.int .i64 1,.int .i64 12,.int .i64 36,.int .i64 1] 27)
  have n1:Cp.heap.size≠g:=by omega
  have n2:Cp.heap.size+1≠g:=by omega
  go_wp2_with fail
  refine (cJ g B v n _ 6 _ st.cur (by omega) (by omega) (by omega)).mono ?_;rintro e w_k ⟨k,rfl,⟨k_lo,k_hi⟩,xS,p_⟩;replace st:=st.call xS p_;have sz_k:=p_.size;replace R:=R.aV p_ nR;replace Q:=Q.aV p_ nQ;replace L1:=L1.aV p_ n1;replace L2:=L2.aV p_ n2;clear xS p_;generalize Cp.heap.size=G at *
  obtain ⟨j,rfl⟩:∃ j:Nat,k=j:=⟨k.toNat,by omega⟩
  obtain ⟨a,b,X,Y,q0,q1,q2,q3,q4,hp⟩:∃ a b X Y:Int,(#[.int .i64 0,.int .i64 4,.int .i64 0,.int .i64 1,.int .i64 4,.int .i64 0,.int .i64 (-1),.int .i64 0,.int .i64 (-43),.int .i64 166,.int .i64 0,.int .i64 (-432)]:Array Value)[j*2]?=some (.int .i64 a)∧(#[.int .i64 0,.int .i64 4,.int .i64 0,.int .i64 1,.int .i64 4,.int .i64 0,.int .i64 (-1),.int .i64 0,.int .i64 (-43),.int .i64 166,.int .i64 0,.int .i64 (-432)]:Array Value)[j*2+1]?=some (.int .i64 b)∧(#[.int .i64 0,.int .i64 2,.int .i64 1,.int .i64 2,.int .i64 3,.int .i64 1,.int .i64 2,.int .i64 4,.int .i64 1,.int .i64 1,.int .i64 0,.int .i64 1,.int .i64 3,.int .i64 8,.int .i64 1,.int .i64 12,.int .i64 36,.int .i64 1]:Array Value)[j*3]?=some (.int .i64 X)∧(#[.int .i64 0,.int .i64 2,.int .i64 1,.int .i64 2,.int .i64 3,.int .i64 1,.int .i64 2,.int .i64 4,.int .i64 1,.int .i64 1,.int .i64 0,.int .i64 1,.int .i64 3,.int .i64 8,.int .i64 1,.int .i64 12,.int .i64 36,.int .i64 1]:Array Value)[j*3+1]?=some (.int .i64 Y)∧(#[.int .i64 0,.int .i64 2,.int .i64 1,.int .i64 2,.int .i64 3,.int .i64 1,.int .i64 2,.int .i64 4,.int .i64 1,.int .i64 1,.int .i64 0,.int .i64 1,.int .i64 3,.int .i64 8,.int .i64 1,.int .i64 12,.int .i64 36,.int .i64 1]:Array Value)[j*3+2]?=some (.int .i64 1)∧Hid (M.good a b=true∧M.bB a b X Y 1=true):=by
   have hj:j<6:=by omega
   clear st R Q
   match j,hj with
   | 0,_=>exact ⟨0,4,0,2,rfl,rfl,rfl,rfl,rfl,xL (by decide)⟩
   | 1,_=>exact ⟨0,1,2,3,rfl,rfl,rfl,rfl,rfl,xL (by decide)⟩
   | 2,_=>exact ⟨4,0,2,4,rfl,rfl,rfl,rfl,rfl,xL (by decide)⟩
   | 3,_=>exact ⟨(-1),0,1,0,rfl,rfl,rfl,rfl,rfl,xL (by decide)⟩
   | 4,_=>exact ⟨(-43),166,3,8,rfl,rfl,rfl,rfl,rfl,xL (by decide)⟩
   | 5,_=>exact ⟨0,(-432),12,36,rfl,rfl,rfl,rfl,rfl,xL (by decide)⟩
  generalize (#[.int .i64 0,.int .i64 4,.int .i64 0,.int .i64 1,.int .i64 4,.int .i64 0,.int .i64 (-1),.int .i64 0,.int .i64 (-43),.int .i64 166,.int .i64 0,.int .i64 (-432)]:Array Value)=xs1 at *;generalize (#[.int .i64 0,.int .i64 2,.int .i64 1,.int .i64 2,.int .i64 3,.int .i64 1,.int .i64 2,.int .i64 4,.int .i64 1,.int .i64 1,.int .i64 0,.int .i64 1,.int .i64 3,.int .i64 8,.int .i64 1,.int .i64 12,.int .i64 36,.int .i64 1]:Array Value)=xs2 at *
  go_upto_region 6 with fail
  have TW:A7 w g B v n _ w.heap.size (w.heap.size+1) [(G,25,xs1),(G+1,27,xs2)] 25 27 _ _ _:=⟨⟨st.cur,st.gr⟩,fun x hx=>(by rcases List.mem_cons.1 hx with rfl | hx;exact L1;rcases List.mem_cons.1 hx with rfl | hx;exact L2;cases hx),R,Q,⟨xP _,by omega,by omega,by omega,by omega⟩,fun x hx=>(by rcases List.mem_cons.1 hx with rfl | hx;(show w.heap.size+1<G;omega);rcases List.mem_cons.1 hx with rfl | hx;(show w.heap.size+1<G+1;omega);cases hx)⟩
  clear st R Q L1 L2;refine Rg.fP (fun l W=>A7 w g B v n (K+2+2) w.heap.size (w.heap.size+1) [(G,25,xs1),(G+1,27,xs2)] 25 27 (bif l 8 then #[.int .i64 a,.int .i64 b] else #[.int .i64 0,.int .i64 0]) (bif l 9 then #[.int .i64 X,.int .i64 Y,.int .i64 1] else #[.int .i64 0,.int .i64 0,.int .i64 0]) W) (fun _ _ _=>True) (fun _ _=>True) [8,9] [.slice (some ⟨G,0,none⟩) 6 6,.int .i64 (j:Int),.pointer (some ⟨G,j*2,none⟩),.agg #[.int .i64 a,.int .i64 b],.slice (some ⟨G+1,0,none⟩) 6 6,.int .i64 (j:Int),.pointer (some ⟨G+1,j*3,none⟩),.agg #[.int .i64 X,.int .i64 Y,.int .i64 1],undef,undef] (by kernel_rfl) (by kernel_rfl) (by decide) (fun l l2 W h q=>by rw [←h 8 (by decide),←h 9 (by decide)];exact q) (fun _ _ _ _ _ _=>trivial) TW.drew ⟨?_,?_,?_,?_,?_,?_,?_,?_,?_,?_,trivial⟩ ?_
  ·unfold Rg.aU
   intro zZ w_ l_ j_ s_ xm xo yB xn xS hr;refine ⟨rfl,?_⟩;rw [if_neg (by decide)];have e4:zZ.tmps[4]?=some (.slice (some ⟨G,0,none⟩) 6 6):=hr 4 (by decide)
   go_simp
  ·unfold Rg.aU
   intro zZ w_ l_ j_ s_ xm xo yB xn xS hr;refine ⟨rfl,?_⟩;rw [if_neg (by decide)];have e6:zZ.tmps[6]?=some (.int .i64 (j:Int)):=hr 6 (by decide)
   go_simp
  ·unfold Rg.aU
   intro zZ w_ l_ j_ s_ xm xo yB xn xS hr;refine ⟨rfl,?_⟩;rw [if_neg (by decide)];have e33:zZ.tmps[33]?=some (.slice (some ⟨G,0,none⟩) 6 6):=hr 33 (by decide);have e34:zZ.tmps[34]?=some (.int .i64 (j:Int)):=hr 34 (by decide)
   have Bb:(j:Int)<6:=by omega
   have BP:j<6:=by omega
   (first | (go_simp;done) | (go_simp;exact Rg.wr (by omega) (by omega)) | (go_simp;omega) | (go_simp;rfl) | (go_simp;exact ⟨rfl,rfl⟩))
  ·unfold Rg.aU
   intro zZ w_ l_ j_ s_ xm xo yB xn xS hr;refine ⟨rfl,?_⟩;rw [if_neg (by decide)];have e35:zZ.tmps[35]?=some (.pointer (some ⟨G,j*2,none⟩)):=hr 35 (by decide);have xj:aH w_ G 25 xs1:=s_.hV (G,25,xs1) (by simp);have k0:=(xj.cell (j*2)).trans q0;have k1:=(xj.cell (j*2+1)).trans q1
   (first | (go_simp;done) | (go_simp;exact Rg.wr (by omega) (by omega)) | (go_simp;omega) | (go_simp;rfl) | (go_simp;exact ⟨rfl,rfl⟩))
  ·unfold Rg.aU
   intro zZ w_ l_ j_ s_ xm xo yB xn xS hr;refine ⟨rfl,?_⟩;rw [if_neg (by decide)];have e5:zZ.tmps[5]?=some (.slice (some ⟨G+1,0,none⟩) 6 6):=hr 5 (by decide)
   go_simp
  ·unfold Rg.aU
   intro zZ w_ l_ j_ s_ xm xo yB xn xS hr;refine ⟨rfl,?_⟩;rw [if_neg (by decide)];have e6:zZ.tmps[6]?=some (.int .i64 (j:Int)):=hr 6 (by decide)
   go_simp
  ·unfold Rg.aU
   intro zZ w_ l_ j_ s_ xm xo yB xn xS hr;refine ⟨rfl,?_⟩;rw [if_neg (by decide)];have e37:zZ.tmps[37]?=some (.slice (some ⟨G+1,0,none⟩) 6 6):=hr 37 (by decide);have e38:zZ.tmps[38]?=some (.int .i64 (j:Int)):=hr 38 (by decide)
   have Bb:(j:Int)<6:=by omega
   have BP:j<6:=by omega
   (first | (go_simp;done) | (go_simp;exact Rg.wr (by omega) (by omega)) | (go_simp;omega) | (go_simp;rfl) | (go_simp;exact ⟨rfl,rfl⟩))
  ·unfold Rg.aU
   intro zZ w_ l_ j_ s_ xm xo yB xn xS hr;refine ⟨rfl,?_⟩;rw [if_neg (by decide)];have e39:zZ.tmps[39]?=some (.pointer (some ⟨G+1,j*3,none⟩)):=hr 39 (by decide);have xj:aH w_ (G+1) 27 xs2:=s_.hV (G+1,27,xs2) (by simp);have k0:=(xj.cell (j*3)).trans q2;have k1:=(xj.cell (j*3+1)).trans q3;have k2:=(xj.cell (j*3+2)).trans q4
   (first | (go_simp;done) | (go_simp;exact Rg.wr (by omega) (by omega)) | (go_simp;omega) | (go_simp;rfl) | (go_simp;exact ⟨rfl,rfl⟩))
  ·unfold Rg.aU
   intro zZ w_ l_ j_ s_ xm xo yB xn xS hr;have e2:zZ.tmps[2]?=some (.pointer (some ⟨w.heap.size,0,none⟩)):=hr 2 (by decide);have e36:zZ.tmps[36]?=some (.agg #[.int .i64 a,.int .i64 b]):=hr 36 (by decide);refine ⟨rfl,?_⟩;rw [if_pos (by decide)];have q_:=s_;simp only [xo,cond_false] at q_;have xR:=And.intro (q_.jj (.int .i64 a) (.int .i64 b)) (And.intro True.intro True.intro)
   skip
   have ⟨Aj,Ak,Al,Am,_⟩:=q_.R.box;unfold Oper.wp
   go_simp
   all_goals first | exact xR | exact xR.1 | exact ⟨undef,xR⟩ | exact ⟨_,rfl,xR⟩
  ·unfold Rg.aU
   intro zZ w_ l_ j_ s_ xm xo yB xn xS hr;have e3:zZ.tmps[3]?=some (.pointer (some ⟨w.heap.size+1,0,none⟩)):=hr 3 (by decide);have e40:zZ.tmps[40]?=some (.agg #[.int .i64 X,.int .i64 Y,.int .i64 1]):=hr 40 (by decide);refine ⟨rfl,?_⟩;rw [if_pos (by decide)];have q_:=s_;simp only [xo,cond_false] at q_;have xR:=And.intro (q_.ir (.int .i64 X) (.int .i64 Y) (.int .i64 1)) (And.intro True.intro True.intro);have ⟨Aj,Ak,C4,Al,Am,CE⟩:=q_.Q.bg;unfold Oper.wp
   go_simp
   all_goals first | exact xR | exact xR.1 | exact ⟨undef,xR⟩ | exact ⟨_,rfl,xR⟩
  intro vals wz s_ hF hv;simp only [Rg.ay,Rg.fill,Act.put,Nat.reduceAdd];clear hv hF;simp only [cond_true] at s_;obtain ⟨⟨xS,p_⟩,-,R,Q,-,-⟩:=s_;have ⟨Ar,As,t_,xQ,At⟩:=R.box;have ⟨CN,CO,CP,AH,AJ,AK⟩:=Q.bg;have CQ:=Q.lt;go_wp2;exact bodyPost_ret (v:=.tuple #[.agg #[.int .i64 a,.int .i64 b],.agg #[.int .i64 X,.int .i64 Y,.int .i64 1]]) (by simp [results,Tryz.results152,go_sem, *]) rfl (⟨a,b,X,Y,1,rfl,hp,xS.mono (by omega),p_⟩)
 by_cases x1:x=1
 ·subst x1
  have ⟨Ar,As,t_,xQ,At⟩:=R.box;have ⟨CN,CO,CP,AH,AJ,AK⟩:=Q.bg;have CQ:=Q.lt;go_wp2;exact bodyPost_ret (v:=.tuple #[.agg #[.int .i64 (-16),.int .i64 16],.agg #[.int .i64 0,.int .i64 4,.int .i64 1]]) (by simp [results,Tryz.results152,go_sem, *]) rfl (⟨(-16),16,0,4,1,rfl,xL (by decide),(((((st.aR (c:=w.heap.size) (o:=0) (by omega) (by omega) (by omega) (.int .i64 (-16))).aR (c:=w.heap.size) (o:=1) (by omega) (by omega) (by omega) (.int .i64 16)).aR (c:=w.heap.size+1) (o:=0) (by omega) (by omega) (by omega) (.int .i64 0)).aR (c:=w.heap.size+1) (o:=1) (by omega) (by omega) (by omega) (.int .i64 4)).aR (c:=w.heap.size+1) (o:=2) (by omega) (by omega) (by omega) (.int .i64 1)).cur.mono (by omega),(((((st.aR (c:=w.heap.size) (o:=0) (by omega) (by omega) (by omega) (.int .i64 (-16))).aR (c:=w.heap.size) (o:=1) (by omega) (by omega) (by omega) (.int .i64 16)).aR (c:=w.heap.size+1) (o:=0) (by omega) (by omega) (by omega) (.int .i64 0)).aR (c:=w.heap.size+1) (o:=1) (by omega) (by omega) (by omega) (.int .i64 4)).aR (c:=w.heap.size+1) (o:=2) (by omega) (by omega) (by omega) (.int .i64 1)).gr⟩)
 by_cases x2:x=2
 ·subst x2
  have ⟨Ar,As,t_,xQ,At⟩:=R.box;have ⟨CN,CO,CP,AH,AJ,AK⟩:=Q.bg;have CQ:=Q.lt;go_wp2;exact bodyPost_ret (v:=.tuple #[.agg #[.int .i64 (-25),.int .i64 0],.agg #[.int .i64 (-4),.int .i64 6,.int .i64 1]]) (by simp [results,Tryz.results152,go_sem, *]) rfl (⟨(-25),0,(-4),6,1,rfl,xL (by decide),(((((st.aR (c:=w.heap.size) (o:=0) (by omega) (by omega) (by omega) (.int .i64 (-25))).aR (c:=w.heap.size) (o:=1) (by omega) (by omega) (by omega) (.int .i64 0)).aR (c:=w.heap.size+1) (o:=0) (by omega) (by omega) (by omega) (.int .i64 (-4))).aR (c:=w.heap.size+1) (o:=1) (by omega) (by omega) (by omega) (.int .i64 6)).aR (c:=w.heap.size+1) (o:=2) (by omega) (by omega) (by omega) (.int .i64 1)).cur.mono (by omega),(((((st.aR (c:=w.heap.size) (o:=0) (by omega) (by omega) (by omega) (.int .i64 (-25))).aR (c:=w.heap.size) (o:=1) (by omega) (by omega) (by omega) (.int .i64 0)).aR (c:=w.heap.size+1) (o:=0) (by omega) (by omega) (by omega) (.int .i64 (-4))).aR (c:=w.heap.size+1) (o:=1) (by omega) (by omega) (by omega) (.int .i64 6)).aR (c:=w.heap.size+1) (o:=2) (by omega) (by omega) (by omega) (.int .i64 1)).gr⟩)
 have b0:(x == 0)=false:=by simpa using x0
 have b1:(x == 1)=false:=by simpa using x1
 have b2:(x == 2)=false:=by simpa using x2
 go_wp2_with fail
 refine (cJ g B v n _ 21 _ st.cur (by omega) (by omega) (by omega)).mono ?_;rintro e Ob ⟨x3,rfl,⟨JT,JS⟩,xS,p_⟩;replace st:=st.call xS p_;have JG:=p_.size;replace R:=R.aV p_ nR;replace Q:=Q.aV p_ nQ;clear xS p_
 go_wp2_with fail
 refine (cJ g B v n _ 31 _ st.cur (by omega) (by omega) (by omega)).mono ?_;rintro e w_y3 ⟨y3,rfl,⟨y3_lo,y3_hi⟩,xS,p_⟩;replace st:=st.call xS p_;have sz_y3:=p_.size;replace R:=R.aV p_ nR;replace Q:=Q.aV p_ nQ;clear xS p_
 go_wp2_with fail
 refine (cJ g B v n _ 31 _ st.cur (by omega) (by omega) (by omega)).mono ?_;rintro e HV ⟨a3,rfl,⟨a3_lo,a3_hi⟩,xS,p_⟩;replace st:=st.call xS p_;have sz_a3:=p_.size;replace R:=R.aV p_ nR;replace Q:=Q.aV p_ nQ;clear xS p_
 go_upto_region 13 with fail
 have hx1:-10≤x3 - 10:=by omega
 have hx2:x3 - 10≤10:=by omega
 have hy1:-15≤y3 - 15:=by omega
 have hy2:y3 - 15≤15:=by omega
 have ha1:-15≤a3 - 15:=by omega
 have ha2:a3 - 15≤15:=by omega
 clear x0 x1 x2 b0 b1 b2;generalize a3 - 15=a,y3 - 15=Y,x3 - 10=X at *;have m1:=M.aL (x:=Y) (y:=Y) (m:=15) (n:=15) (by omega) (by omega) (by omega) (by omega);have m2:=M.aL (x:=X) (y:=X) (m:=10) (n:=10) (by omega) (by omega) (by omega) (by omega);have m3:=M.aL (x:=X*X) (y:=X) (m:=100) (n:=10) (by omega) (by omega) (by omega) (by omega);have m4:=M.aL (x:=a) (y:=X) (m:=15) (n:=10) (by omega) (by omega) (by omega) (by omega)
 have hpt:∀ b,b=Y*Y - X*X*X - a*X→M.bB a b X Y 1=true:=fun b hb=>M.rU (by omega) (by omega) hb
 replace hpt:=xL hpt;have E:=aH.new HV #[.int .i64 a,.int .i64 (Y*Y - X*X*X - a*X)] 25;have zx:=st.size;have zy:=st.le;have zq:=Q.lt;replace st:=st.alloc (.cells #[.int .i64 a,.int .i64 (Y*Y - X*X*X - a*X)] 25);replace R:=R.alloc (.cells #[.int .i64 a,.int .i64 (Y*Y - X*X*X - a*X)] 25);replace Q:=Q.alloc (.cells #[.int .i64 a,.int .i64 (Y*Y - X*X*X - a*X)] 25)
 have nE:HV.heap.size≠g:=by omega
 have HG:=fun w=>eI a (Y*Y - X*X*X - a*X) w
 replace hpt:=xL (hpt.out _ rfl);have ⟨Cu,Cv,AQ,AS,Cw⟩:=E.box
 go_wp2_with fail
 generalize Y*Y - X*X*X - a*X=b,HV.heap.size=G at *;clear m1 m2 m3 m4 hx1 hx2 hy1 hy2 ha1 ha2
 cases hg:M.good a b <;> rw [hg] at HG <;> replace HG:=xL HG <;> replace hg:=xL hg
 all_goals
  refine (HG.out _).mono ?_;rintro e w9 ⟨rfl,xi⟩;clear Cu Cv AQ AS Cw;replace st:=st.keep xi;replace R:=R.keep xi;replace Q:=Q.keep xi;replace E:=E.keep xi;clear xi;have ⟨Ar,As,t_,xQ,At⟩:=R.box;have ⟨CN,CO,CP,AH,AJ,AK⟩:=Q.bg;have CQ:=Q.lt;have ⟨Cu,Cv,AQ,AS,Cw⟩:=E.box;go_wp2
 ·skip
  exact bodyPost_ret (v:=.tuple #[.agg #[.int .i64 (-2),.int .i64 1],.agg #[.int .i64 0,.int .i64 1,.int .i64 1]]) (by simp [results,Tryz.results152,go_sem, *]) rfl (⟨(-2),1,0,1,1,rfl,xL (by decide),(((((st.aR (c:=w.heap.size) (o:=0) (by omega) (by omega) (by omega) (.int .i64 (-2))).aR (c:=w.heap.size) (o:=1) (by omega) (by omega) (by omega) (.int .i64 1)).aR (c:=w.heap.size+1) (o:=0) (by omega) (by omega) (by omega) (.int .i64 0)).aR (c:=w.heap.size+1) (o:=1) (by omega) (by omega) (by omega) (.int .i64 1)).aR (c:=w.heap.size+1) (o:=2) (by omega) (by omega) (by omega) (.int .i64 1)).cur.mono (by omega),(((((st.aR (c:=w.heap.size) (o:=0) (by omega) (by omega) (by omega) (.int .i64 (-2))).aR (c:=w.heap.size) (o:=1) (by omega) (by omega) (by omega) (.int .i64 1)).aR (c:=w.heap.size+1) (o:=0) (by omega) (by omega) (by omega) (.int .i64 0)).aR (c:=w.heap.size+1) (o:=1) (by omega) (by omega) (by omega) (.int .i64 1)).aR (c:=w.heap.size+1) (o:=2) (by omega) (by omega) (by omega) (.int .i64 1)).gr⟩)
 skip
 exact bodyPost_ret (v:=.tuple #[.agg #[.int .i64 a,.int .i64 b],.agg #[.int .i64 X,.int .i64 Y,.int .i64 1]]) (by simp [results,Tryz.results152,go_sem, *]) rfl (⟨a,b,X,Y,1,rfl,xL ⟨hg.out,hpt.out⟩,(((((st.aR (c:=w.heap.size) (o:=0) (by omega) (by omega) (by omega) (.int .i64 a)).aR (c:=w.heap.size) (o:=1) (by omega) (by omega) (by omega) (.int .i64 b)).aR (c:=w.heap.size+1) (o:=0) (by omega) (by omega) (by omega) (.int .i64 X)).aR (c:=w.heap.size+1) (o:=1) (by omega) (by omega) (by omega) (.int .i64 Y)).aR (c:=w.heap.size+1) (o:=2) (by omega) (by omega) (by omega) (.int .i64 1)).cur.mono (by omega),(((((st.aR (c:=w.heap.size) (o:=0) (by omega) (by omega) (by omega) (.int .i64 a)).aR (c:=w.heap.size) (o:=1) (by omega) (by omega) (by omega) (.int .i64 b)).aR (c:=w.heap.size+1) (o:=0) (by omega) (by omega) (by omega) (.int .i64 X)).aR (c:=w.heap.size+1) (o:=1) (by omega) (by omega) (by omega) (.int .i64 Y)).aR (c:=w.heap.size+1) (o:=2) (by omega) (by omega) (by omega) (.int .i64 1)).gr⟩)
end
end Go.Proofs.YtggekfbfechonaaGreat
