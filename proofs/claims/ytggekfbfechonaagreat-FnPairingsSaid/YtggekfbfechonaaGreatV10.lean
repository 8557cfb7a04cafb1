/-
  Joined texts: contracts and plain lemmas.
-/
import Derived.Test.YtggekfbfechonaaGreatV1
import Derived.Test.YtggekfbfechonaaGreatV9
import Derived.Test.YtggekfbfechonaaGreatV2
set_option linter.unusedSimpArgs false
set_option linter.unusedVariables false
set_option maxRecDepth 100000
set_option maxHeartbeats 8000000
namespace Go.Proofs.YtggekfbfechonaaGreat
section
open Go.RowKit
theorem M.ve {a b:Int} (h:(M.yU a 4096).isSome=false∨(M.yU b 4096).isSome=false):M.aM a b=false:=by
 cases hs:M.aM a b with
 | false=>rfl
 | true=>
 obtain ⟨h1,h2,h3⟩:=M.bQ hs;rw [M.bG (by omega) (by omega),M.bG (by omega) (by omega)] at h;simp at h
theorem gq (a b:Int) (w:World) (h1:-4000000000000000000≤a) (h2:a≤4000000000000000000) (h3:-4000000000000000000≤b) (h4:b≤4000000000000000000) :
  Calls Tryz.prog 102 #[.int .i64 a,.int .i64 b] w fun e w'=>e=.returned (.tuple #[.agg #[.int .i64 (M.pick (M.aM (a) (b)) (M.pn (a))),.int .i64 (M.pick (M.aM (a) (b)) (M.pd (a))),.int .i64 (M.pick (M.aM (a) (b)) (M.pn (b))),.int .i64 (M.pick (M.aM (a) (b)) (M.pd (b)))],.bool (M.aM (a) (b))])∧Below w.heap.size w w':=by
 have P1:=fun W=>jU a 4096 W h1 h2 (by omega) (by omega) (by omega)
 have P2:=fun W=>jU b 4096 W h3 h4 (by omega) (by omega) (by omega)
 have PG:=fun W (q1:(M.yU a 4096).isSome=true) (q2:(M.yU b 4096).isSome=true)=>gp a b W q1 q2
 have hno:=@M.ve a b;have e1:=xL (show M.pn a=M.fN (M.yU a 4096) from rfl);have e2:=xL (show M.pd a=M.fD (M.yU a 4096) from rfl);have e3:=xL (show M.pn b=M.fN (M.yU b 4096) from rfl);have e4:=xL (show M.pd b=M.fD (M.yU b 4096) from rfl);rw [e1.out,e2.out,e3.out,e4.out] at PG ⊢;clear e1 e2 e3 e4;generalize M.fD (M.yU b 4096)=p4,M.fN (M.yU b 4096)=p3,M.fD (M.yU a 4096)=p2,M.fN (M.yU a 4096)=p1,(M.yU b 4096).isSome=o2,(M.yU a 4096).isSome=o1 at *;replace P1:=xL P1;replace P2:=xL P2;have R:=aH.new w #[.int .i64 0,.int .i64 0,.int .i64 0,.int .i64 0] 33;have B:=(xO w.heap.size w).alloc (xP _) (.cells #[.int .i64 0,.int .i64 0,.int .i64 0,.int .i64 0] 33);generalize hw3:w.alloc (.cells #[.int .i64 0,.int .i64 0,.int .i64 0,.int .i64 0] 33)=wc at *
 cases o1 with
 | false=>
  rw [hno (Or.inl rfl)];clear hno PG;go_enter Tryz.func102,Tryz.ntmps102
  go_wp2_with (first
   | (go_at_call 79;(with_reducible refine (P1.out _).mono ?_);rintro e w4 ⟨rfl,hb4⟩;replace R:=R.keep hb4;replace B:=d_ B hb4;have F:=aH.new w4 #[.int .i64 p1,.int .i64 p2] 31;have b_:=bA w4 (.cells #[.int .i64 p1,.int .i64 p2] 31);replace R:=R.keep b_;replace B:=d_ B b_;clear b_;(replace ⟨xT,xU,xX,xY,t_,xQ,xW,xe⟩:=R.yF);(replace ⟨A1,A2⟩:=F.b2))
   | (go_at_call 79;(with_reducible refine (P2.out _).mono ?_);rintro e w5 ⟨rfl,hb5⟩;replace R:=R.keep hb5;replace F:=F.keep hb5;replace B:=d_ B hb5;have G:=aH.new w5 #[.int .i64 p3,.int .i64 p4] 31;have b_:=bA w5 (.cells #[.int .i64 p3,.int .i64 p4] 31);replace R:=R.keep b_;replace F:=F.keep b_;replace B:=d_ B b_;clear b_;(replace ⟨xT,xU,xX,xY,t_,xQ,xW,xe⟩:=R.yF);(replace ⟨A1,A2⟩:=F.b2);(replace ⟨DD,DE⟩:=G.b2);have O:=aH.new (w5.alloc (.cells #[.int .i64 p3,.int .i64 p4] 31)) #[.int .i64 p1,.int .i64 p2,.int .i64 p3,.int .i64 p4] 33;have b_:=bA (w5.alloc (.cells #[.int .i64 p3,.int .i64 p4] 31)) (.cells #[.int .i64 p1,.int .i64 p2,.int .i64 p3,.int .i64 p4] 33);replace R:=R.keep b_;replace F:=F.keep b_;replace G:=G.keep b_;replace B:=d_ B b_;clear b_;(rw [xM] at O);have AD:=O.aN.c0;have AE:=O.aN.c1;have AF:=O.aN.c2;have AG:=O.aN.c3;have xT:=R.aN.c0;have xU:=R.aN.c1;have xX:=R.aN.c2;have xY:=R.aN.c3;have t_:=R.aN.f0;have xQ:=R.aN.f1;have xW:=R.aN.f2;have xe:=R.aN.f3))
  exact bodyPost_ret (v:=.tuple #[.agg #[.int .i64 0,.int .i64 0,.int .i64 0,.int .i64 0],.bool false]) (by simp [results,Tryz.results102,go_sem, *]) rfl (⟨rfl,xN (xN (xN (xN B (by simp <;> omega) _) (by simp <;> omega) _) (by simp <;> omega) _) (by simp <;> omega) _⟩)
 | true=>
 cases o2 with
 | false=>
  rw [hno (Or.inr rfl)];clear hno PG;go_enter Tryz.func102,Tryz.ntmps102
  go_wp2_with (first
   | (go_at_call 79;(with_reducible refine (P1.out _).mono ?_);rintro e w4 ⟨rfl,hb4⟩;replace R:=R.keep hb4;replace B:=d_ B hb4;have F:=aH.new w4 #[.int .i64 p1,.int .i64 p2] 31;have b_:=bA w4 (.cells #[.int .i64 p1,.int .i64 p2] 31);replace R:=R.keep b_;replace B:=d_ B b_;clear b_;(replace ⟨xT,xU,xX,xY,t_,xQ,xW,xe⟩:=R.yF);(replace ⟨A1,A2⟩:=F.b2))
   | (go_at_call 79;(with_reducible refine (P2.out _).mono ?_);rintro e w5 ⟨rfl,hb5⟩;replace R:=R.keep hb5;replace F:=F.keep hb5;replace B:=d_ B hb5;have G:=aH.new w5 #[.int .i64 p3,.int .i64 p4] 31;have b_:=bA w5 (.cells #[.int .i64 p3,.int .i64 p4] 31);replace R:=R.keep b_;replace F:=F.keep b_;replace B:=d_ B b_;clear b_;(replace ⟨xT,xU,xX,xY,t_,xQ,xW,xe⟩:=R.yF);(replace ⟨A1,A2⟩:=F.b2);(replace ⟨DD,DE⟩:=G.b2);have O:=aH.new (w5.alloc (.cells #[.int .i64 p3,.int .i64 p4] 31)) #[.int .i64 p1,.int .i64 p2,.int .i64 p3,.int .i64 p4] 33;have b_:=bA (w5.alloc (.cells #[.int .i64 p3,.int .i64 p4] 31)) (.cells #[.int .i64 p1,.int .i64 p2,.int .i64 p3,.int .i64 p4] 33);replace R:=R.keep b_;replace F:=F.keep b_;replace G:=G.keep b_;replace B:=d_ B b_;clear b_;(rw [xM] at O);have AD:=O.aN.c0;have AE:=O.aN.c1;have AF:=O.aN.c2;have AG:=O.aN.c3;have xT:=R.aN.c0;have xU:=R.aN.c1;have xX:=R.aN.c2;have xY:=R.aN.c3;have t_:=R.aN.f0;have xQ:=R.aN.f1;have xW:=R.aN.f2;have xe:=R.aN.f3))
  exact bodyPost_ret (v:=.tuple #[.agg #[.int .i64 0,.int .i64 0,.int .i64 0,.int .i64 0],.bool false]) (by simp [results,Tryz.results102,go_sem, *]) rfl (⟨rfl,xN (xN (xN (xN B (by simp <;> omega) _) (by simp <;> omega) _) (by simp <;> omega) _) (by simp <;> omega) _⟩)
 | true=>
 have FQ:=fun W=>PG W rfl rfl
 clear PG hno
 cases hs:M.aM a b with
 | true=>
  rw [hs] at FQ;replace FQ:=xL FQ;clear hs;go_enter Tryz.func102,Tryz.ntmps102
  go_wp2_with (first
   | (go_at_call 79;(with_reducible refine (P1.out _).mono ?_);rintro e w4 ⟨rfl,hb4⟩;replace R:=R.keep hb4;replace B:=d_ B hb4;have F:=aH.new w4 #[.int .i64 p1,.int .i64 p2] 31;have b_:=bA w4 (.cells #[.int .i64 p1,.int .i64 p2] 31);replace R:=R.keep b_;replace B:=d_ B b_;clear b_;(replace ⟨xT,xU,xX,xY,t_,xQ,xW,xe⟩:=R.yF);(replace ⟨A1,A2⟩:=F.b2))
   | (go_at_call 79;(with_reducible refine (P2.out _).mono ?_);rintro e w5 ⟨rfl,hb5⟩;replace R:=R.keep hb5;replace F:=F.keep hb5;replace B:=d_ B hb5;have G:=aH.new w5 #[.int .i64 p3,.int .i64 p4] 31;have b_:=bA w5 (.cells #[.int .i64 p3,.int .i64 p4] 31);replace R:=R.keep b_;replace F:=F.keep b_;replace B:=d_ B b_;clear b_;(replace ⟨xT,xU,xX,xY,t_,xQ,xW,xe⟩:=R.yF);(replace ⟨A1,A2⟩:=F.b2);(replace ⟨DD,DE⟩:=G.b2);have O:=aH.new (w5.alloc (.cells #[.int .i64 p3,.int .i64 p4] 31)) #[.int .i64 p1,.int .i64 p2,.int .i64 p3,.int .i64 p4] 33;have b_:=bA (w5.alloc (.cells #[.int .i64 p3,.int .i64 p4] 31)) (.cells #[.int .i64 p1,.int .i64 p2,.int .i64 p3,.int .i64 p4] 33);replace R:=R.keep b_;replace F:=F.keep b_;replace G:=G.keep b_;replace B:=d_ B b_;clear b_;(rw [xM] at O);have AD:=O.aN.c0;have AE:=O.aN.c1;have AF:=O.aN.c2;have AG:=O.aN.c3;have xT:=R.aN.c0;have xU:=R.aN.c1;have xX:=R.aN.c2;have xY:=R.aN.c3;have t_:=R.aN.f0;have xQ:=R.aN.f1;have xW:=R.aN.f2;have xe:=R.aN.f3)
   | (go_at_call 136;(with_reducible refine (FQ.out _).mono ?_);rintro e w6 ⟨rfl,hb6⟩;replace R:=R.keep hb6;replace F:=F.keep hb6;replace G:=G.keep hb6;replace O:=O.keep hb6;replace B:=d_ B hb6;(replace ⟨xT,xU,xX,xY,t_,xQ,xW,xe⟩:=R.yF);(replace ⟨A1,A2⟩:=F.b2);(replace ⟨DD,DE⟩:=G.b2);(replace ⟨AD,AE,AF,AG⟩:=O.b4)))
  exact bodyPost_ret (v:=.tuple #[.agg #[.int .i64 p1,.int .i64 p2,.int .i64 p3,.int .i64 p4],.bool true]) (by simp [results,Tryz.results102,go_sem, *]) rfl (⟨rfl,xN (xN (xN (xN B (by simp <;> omega) _) (by simp <;> omega) _) (by simp <;> omega) _) (by simp <;> omega) _⟩)
 | false=>
 rw [hs] at FQ;replace FQ:=xL FQ;clear hs;go_enter Tryz.func102,Tryz.ntmps102
 go_wp2_with (first
  | (go_at_call 79;(with_reducible refine (P1.out _).mono ?_);rintro e w4 ⟨rfl,hb4⟩;replace R:=R.keep hb4;replace B:=d_ B hb4;have F:=aH.new w4 #[.int .i64 p1,.int .i64 p2] 31;have b_:=bA w4 (.cells #[.int .i64 p1,.int .i64 p2] 31);replace R:=R.keep b_;replace B:=d_ B b_;clear b_;(replace ⟨xT,xU,xX,xY,t_,xQ,xW,xe⟩:=R.yF);(replace ⟨A1,A2⟩:=F.b2))
  | (go_at_call 79;(with_reducible refine (P2.out _).mono ?_);rintro e w5 ⟨rfl,hb5⟩;replace R:=R.keep hb5;replace F:=F.keep hb5;replace B:=d_ B hb5;have G:=aH.new w5 #[.int .i64 p3,.int .i64 p4] 31;have b_:=bA w5 (.cells #[.int .i64 p3,.int .i64 p4] 31);replace R:=R.keep b_;replace F:=F.keep b_;replace B:=d_ B b_;clear b_;(replace ⟨xT,xU,xX,xY,t_,xQ,xW,xe⟩:=R.yF);(replace ⟨A1,A2⟩:=F.b2);(replace ⟨DD,DE⟩:=G.b2);have O:=aH.new (w5.alloc (.cells #[.int .i64 p3,.int .i64 p4] 31)) #[.int .i64 p1,.int .i64 p2,.int .i64 p3,.int .i64 p4] 33;have b_:=bA (w5.alloc (.cells #[.int .i64 p3,.int .i64 p4] 31)) (.cells #[.int .i64 p1,.int .i64 p2,.int .i64 p3,.int .i64 p4] 33);replace R:=R.keep b_;replace F:=F.keep b_;replace G:=G.keep b_;replace B:=d_ B b_;clear b_;(rw [xM] at O);have AD:=O.aN.c0;have AE:=O.aN.c1;have AF:=O.aN.c2;have AG:=O.aN.c3;have xT:=R.aN.c0;have xU:=R.aN.c1;have xX:=R.aN.c2;have xY:=R.aN.c3;have t_:=R.aN.f0;have xQ:=R.aN.f1;have xW:=R.aN.f2;have xe:=R.aN.f3)
  | (go_at_call 136;(with_reducible refine (FQ.out _).mono ?_);rintro e w6 ⟨rfl,hb6⟩;replace R:=R.keep hb6;replace F:=F.keep hb6;replace G:=G.keep hb6;replace O:=O.keep hb6;replace B:=d_ B hb6;(replace ⟨xT,xU,xX,xY,t_,xQ,xW,xe⟩:=R.yF);(replace ⟨A1,A2⟩:=F.b2);(replace ⟨DD,DE⟩:=G.b2);(replace ⟨AD,AE,AF,AG⟩:=O.b4)))
 exact bodyPost_ret (v:=.tuple #[.agg #[.int .i64 0,.int .i64 0,.int .i64 0,.int .i64 0],.bool false]) (by simp [results,Tryz.results102,go_sem, *]) rfl (⟨rfl,xN (xN (xN (xN B (by simp <;> omega) _) (by simp <;> omega) _) (by simp <;> omega) _) (by simp <;> omega) _⟩)
theorem th (a b c d:Int) (w:World) (hab:M.aM a b=true) (hcd:M.aM c d=true) :
  Calls Tryz.prog 95 #[.agg #[.int .i64 (M.pn a),.int .i64 (M.pd a),.int .i64 (M.pn b),.int .i64 (M.pd b)],.agg #[.int .i64 (M.pn c),.int .i64 (M.pd c),.int .i64 (M.pn d),.int .i64 (M.pd d)]] w fun e w'=>e=.returned (.tuple #[.agg #[.int .i64 (M.pick (M.aM (a+c) (b+d)) (M.pn (a+c))),.int .i64 (M.pick (M.aM (a+c) (b+d)) (M.pd (a+c))),.int .i64 (M.pick (M.aM (a+c) (b+d)) (M.pn (b+d))),.int .i64 (M.pick (M.aM (a+c) (b+d)) (M.pd (b+d)))],.bool (M.aM (a+c) (b+d))])∧Below w.heap.size w w':=by
 obtain ⟨ab,a1,b1⟩:=M.bQ hab;obtain ⟨cd,c1,d1⟩:=M.bQ hcd
 have E1:=fun W=>eM a b W (M.bG (by omega) (by omega)) (M.bG (by omega) (by omega))
 have E2:=fun W=>eM c d W (M.bG (by omega) (by omega)) (M.bG (by omega) (by omega))
 have PM:=fun W=>gq (a+c) (b+d) W (by omega) (by omega) (by omega) (by omega)
 generalize M.aM (a+c) (b+d)=s,M.pick (M.aM (a+c) (b+d)) (M.pd (b+d))=p4,M.pick (M.aM (a+c) (b+d)) (M.pn (b+d))=p3,M.pick (M.aM (a+c) (b+d)) (M.pd (a+c))=p2,M.pick (M.aM (a+c) (b+d)) (M.pn (a+c))=p1 at *;replace PM:=xL PM;replace E1:=xL E1;replace E2:=xL E2;generalize hn1:M.pn a=n1 at *;generalize hd1:M.pd a=d1 at *;generalize hn2:M.pn b=n2 at *;generalize hd2:M.pd b=d2 at *;generalize E5:M.pn c=n3 at *;generalize hd3:M.pd c=d3 at *;generalize E6:M.pn d=n4 at *;generalize hd4:M.pd d=d4 at *;clear hn1 hn2 E5 E6 hd1 hd2 hd3 hd4;have V:=((aH.new w #[.int .i64 n1,.int .i64 d1,.int .i64 n2,.int .i64 d2] 33).alloc (.cells #[.int .i64 n3,.int .i64 d3,.int .i64 n4,.int .i64 d4] 33)).alloc (.cells #[.int .i64 0,.int .i64 0,.int .i64 0,.int .i64 0] 33);have U:=(aH.new (w.alloc (.cells #[.int .i64 n1,.int .i64 d1,.int .i64 n2,.int .i64 d2] 33)) #[.int .i64 n3,.int .i64 d3,.int .i64 n4,.int .i64 d4] 33).alloc (.cells #[.int .i64 0,.int .i64 0,.int .i64 0,.int .i64 0] 33);rw [xM] at U;have R:=aH.new ((w.alloc (.cells #[.int .i64 n1,.int .i64 d1,.int .i64 n2,.int .i64 d2] 33)).alloc (.cells #[.int .i64 n3,.int .i64 d3,.int .i64 n4,.int .i64 d4] 33)) #[.int .i64 0,.int .i64 0,.int .i64 0,.int .i64 0] 33;rw [xM,xM] at R;have B:=(((xO w.heap.size w).alloc (xP _) (.cells #[.int .i64 n1,.int .i64 d1,.int .i64 n2,.int .i64 d2] 33)).alloc (by rw [xM];omega) (.cells #[.int .i64 n3,.int .i64 d3,.int .i64 n4,.int .i64 d4] 33)).alloc (by rw [xM,xM];omega) (.cells #[.int .i64 0,.int .i64 0,.int .i64 0,.int .i64 0] 33);generalize hw3:((w.alloc (.cells #[.int .i64 n1,.int .i64 d1,.int .i64 n2,.int .i64 d2] 33)).alloc (.cells #[.int .i64 n3,.int .i64 d3,.int .i64 n4,.int .i64 d4] 33)).alloc (.cells #[.int .i64 0,.int .i64 0,.int .i64 0,.int .i64 0] 33)=wc at *;have x8:=V.aN.c0;have x9:=V.aN.c1;have AW:=V.aN.c2;have AX:=V.aN.c3;have xx:=U.aN.c0;have xy:=U.aN.c1;have Ao:=U.aN.c2;have Ap:=U.aN.c3;have xT:=R.aN.c0;have xU:=R.aN.c1;have xX:=R.aN.c2;have xY:=R.aN.c3;go_enter Tryz.func95,Tryz.ntmps95
 go_wp2_with (first
  | (go_at_call 101;(with_reducible refine (E1.out _).mono ?_);rintro e w4 ⟨rfl,hb4⟩;replace V:=V.keep hb4;replace U:=U.keep hb4;replace R:=R.keep hb4;replace B:=d_ B hb4;(replace ⟨x8,x9,AW,AX⟩:=V.b4);(replace ⟨xx,xy,Ao,Ap⟩:=U.b4);(replace ⟨xT,xU,xX,xY,t_,xQ,xW,xe⟩:=R.yF))
  | (go_at_call 101;(with_reducible refine (E2.out _).mono ?_);rintro e w5 ⟨rfl,hb5⟩;replace V:=V.keep hb5;replace U:=U.keep hb5;replace R:=R.keep hb5;replace B:=d_ B hb5;(replace ⟨x8,x9,AW,AX⟩:=V.b4);(replace ⟨xx,xy,Ao,Ap⟩:=U.b4);(replace ⟨xT,xU,xX,xY,t_,xQ,xW,xe⟩:=R.yF))
  | (go_at_call 102;(with_reducible refine (PM.out _).mono ?_);rintro e w6 ⟨rfl,hb6⟩;replace V:=V.keep hb6;replace U:=U.keep hb6;replace R:=R.keep hb6;replace B:=d_ B hb6;(replace ⟨x8,x9,AW,AX⟩:=V.b4);(replace ⟨xx,xy,Ao,Ap⟩:=U.b4);(replace ⟨xT,xU,xX,xY,t_,xQ,xW,xe⟩:=R.yF)))
 exact bodyPost_ret (v:=.tuple #[.agg #[.int .i64 p1,.int .i64 p2,.int .i64 p3,.int .i64 p4],.bool s]) (by simp [results,Tryz.results95,go_sem, *]) rfl (⟨rfl,xN (xN (xN (xN B (by simp <;> omega) _) (by simp <;> omega) _) (by simp <;> omega) _) (by simp <;> omega) _⟩)
theorem ti (a b c d:Int) (w:World) (hab:M.aM a b=true) (hcd:M.aM c d=true) :
  Calls Tryz.prog 151 #[.agg #[.int .i64 (M.pn a),.int .i64 (M.pd a),.int .i64 (M.pn b),.int .i64 (M.pd b)],.agg #[.int .i64 (M.pn c),.int .i64 (M.pd c),.int .i64 (M.pn d),.int .i64 (M.pd d)]] w fun e w'=>e=.returned (.tuple #[.agg #[.int .i64 (M.pick (M.aM (a - d) (b - c)) (M.pn (a - d))),.int .i64 (M.pick (M.aM (a - d) (b - c)) (M.pd (a - d))),.int .i64 (M.pick (M.aM (a - d) (b - c)) (M.pn (b - c))),.int .i64 (M.pick (M.aM (a - d) (b - c)) (M.pd (b - c)))],.bool (M.aM (a - d) (b - c))])∧Below w.heap.size w w':=by
 obtain ⟨ab,a1,b1⟩:=M.bQ hab;obtain ⟨cd,c1,d1⟩:=M.bQ hcd
 have E1:=fun W=>eM a b W (M.bG (by omega) (by omega)) (M.bG (by omega) (by omega))
 have E2:=fun W=>eM c d W (M.bG (by omega) (by omega)) (M.bG (by omega) (by omega))
 have PM:=fun W=>gq (a - d) (b - c) W (by omega) (by omega) (by omega) (by omega)
 generalize M.aM (a - d) (b - c)=s,M.pick (M.aM (a - d) (b - c)) (M.pd (b - c))=p4,M.pick (M.aM (a - d) (b - c)) (M.pn (b - c))=p3,M.pick (M.aM (a - d) (b - c)) (M.pd (a - d))=p2,M.pick (M.aM (a - d) (b - c)) (M.pn (a - d))=p1 at *;replace PM:=xL PM;replace E1:=xL E1;replace E2:=xL E2;generalize hn1:M.pn a=n1 at *;generalize hd1:M.pd a=d1 at *;generalize hn2:M.pn b=n2 at *;generalize hd2:M.pd b=d2 at *;generalize E5:M.pn c=n3 at *;generalize hd3:M.pd c=d3 at *;generalize E6:M.pn d=n4 at *;generalize hd4:M.pd d=d4 at *;clear hn1 hn2 E5 E6 hd1 hd2 hd3 hd4;have V:=((aH.new w #[.int .i64 n1,.int .i64 d1,.int .i64 n2,.int .i64 d2] 33).alloc (.cells #[.int .i64 n3,.int .i64 d3,.int .i64 n4,.int .i64 d4] 33)).alloc (.cells #[.int .i64 0,.int .i64 0,.int .i64 0,.int .i64 0] 33);have U:=(aH.new (w.alloc (.cells #[.int .i64 n1,.int .i64 d1,.int .i64 n2,.int .i64 d2] 33)) #[.int .i64 n3,.int .i64 d3,.int .i64 n4,.int .i64 d4] 33).alloc (.cells #[.int .i64 0,.int .i64 0,.int .i64 0,.int .i64 0] 33);rw [xM] at U;have R:=aH.new ((w.alloc (.cells #[.int .i64 n1,.int .i64 d1,.int .i64 n2,.int .i64 d2] 33)).alloc (.cells #[.int .i64 n3,.int .i64 d3,.int .i64 n4,.int .i64 d4] 33)) #[.int .i64 0,.int .i64 0,.int .i64 0,.int .i64 0] 33;rw [xM,xM] at R;have B:=(((xO w.heap.size w).alloc (xP _) (.cells #[.int .i64 n1,.int .i64 d1,.int .i64 n2,.int .i64 d2] 33)).alloc (by rw [xM];omega) (.cells #[.int .i64 n3,.int .i64 d3,.int .i64 n4,.int .i64 d4] 33)).alloc (by rw [xM,xM];omega) (.cells #[.int .i64 0,.int .i64 0,.int .i64 0,.int .i64 0] 33);generalize hw3:((w.alloc (.cells #[.int .i64 n1,.int .i64 d1,.int .i64 n2,.int .i64 d2] 33)).alloc (.cells #[.int .i64 n3,.int .i64 d3,.int .i64 n4,.int .i64 d4] 33)).alloc (.cells #[.int .i64 0,.int .i64 0,.int .i64 0,.int .i64 0] 33)=wc at *;have x8:=V.aN.c0;have x9:=V.aN.c1;have AW:=V.aN.c2;have AX:=V.aN.c3;have xx:=U.aN.c0;have xy:=U.aN.c1;have Ao:=U.aN.c2;have Ap:=U.aN.c3;have xT:=R.aN.c0;have xU:=R.aN.c1;have xX:=R.aN.c2;have xY:=R.aN.c3;go_enter Tryz.func151,Tryz.ntmps151
 go_wp2_with (first
  | (go_at_call 101;(with_reducible refine (E1.out _).mono ?_);rintro e w4 ⟨rfl,hb4⟩;replace V:=V.keep hb4;replace U:=U.keep hb4;replace R:=R.keep hb4;replace B:=d_ B hb4;(replace ⟨x8,x9,AW,AX⟩:=V.b4);(replace ⟨xx,xy,Ao,Ap⟩:=U.b4);(replace ⟨xT,xU,xX,xY,t_,xQ,xW,xe⟩:=R.yF))
  | (go_at_call 101;(with_reducible refine (E2.out _).mono ?_);rintro e w5 ⟨rfl,hb5⟩;replace V:=V.keep hb5;replace U:=U.keep hb5;replace R:=R.keep hb5;replace B:=d_ B hb5;(replace ⟨x8,x9,AW,AX⟩:=V.b4);(replace ⟨xx,xy,Ao,Ap⟩:=U.b4);(replace ⟨xT,xU,xX,xY,t_,xQ,xW,xe⟩:=R.yF))
  | (go_at_call 102;(with_reducible refine (PM.out _).mono ?_);rintro e w6 ⟨rfl,hb6⟩;replace V:=V.keep hb6;replace U:=U.keep hb6;replace R:=R.keep hb6;replace B:=d_ B hb6;(replace ⟨x8,x9,AW,AX⟩:=V.b4);(replace ⟨xx,xy,Ao,Ap⟩:=U.b4);(replace ⟨xT,xU,xX,xY,t_,xQ,xW,xe⟩:=R.yF)))
 exact bodyPost_ret (v:=.tuple #[.agg #[.int .i64 p1,.int .i64 p2,.int .i64 p3,.int .i64 p4],.bool s]) (by simp [results,Tryz.results151,go_sem, *]) rfl (⟨rfl,xN (xN (xN (xN B (by simp <;> omega) _) (by simp <;> omega) _) (by simp <;> omega) _) (by simp <;> omega) _⟩)
theorem tj (a b c d:Int) (w:World) (hab:M.aM a b=true) (hcd:M.aM c d=true) :
  Calls Tryz.prog 164 #[.agg #[.int .i64 (M.pn a),.int .i64 (M.pd a),.int .i64 (M.pn b),.int .i64 (M.pd b)],.agg #[.int .i64 (M.pn c),.int .i64 (M.pd c),.int .i64 (M.pn d),.int .i64 (M.pd d)]] w fun e w'=>e=.returned (.bool true)∧Below w.heap.size w w':=by
 obtain ⟨ab,a1,b1⟩:=M.bQ hab;obtain ⟨cd,c1,d1⟩:=M.bQ hcd
 have E1:=fun W=>gp a b W (M.bG (by omega) (by omega)) (M.bG (by omega) (by omega))
 have E2:=fun W=>gp c d W (M.bG (by omega) (by omega)) (M.bG (by omega) (by omega))
 rw [hab] at E1;rw [hcd] at E2;generalize M.pd d=d4,M.pn d=n4,M.pd c=d3,M.pn c=n3,M.pd b=d2,M.pn b=n2,M.pd a=d1,M.pn a=n1 at *;replace E1:=xL E1;replace E2:=xL E2;clear hab hcd;have U:=aH.new (w.alloc (.cells #[.int .i64 n1,.int .i64 d1,.int .i64 n2,.int .i64 d2] 33)) #[.int .i64 n3,.int .i64 d3,.int .i64 n4,.int .i64 d4] 33;rw [xM] at U;have B:=((xO w.heap.size w).alloc (xP _) (.cells #[.int .i64 n1,.int .i64 d1,.int .i64 n2,.int .i64 d2] 33)).alloc (by rw [xM];omega) (.cells #[.int .i64 n3,.int .i64 d3,.int .i64 n4,.int .i64 d4] 33);go_enter Tryz.func164,Tryz.ntmps164
 go_wp2_with (go_at_call 136;first | ((with_reducible refine (E1.out _).mono ?_);rintro e w4 ⟨rfl,hb4⟩;have U4:=U.keep hb4;have B4:=d_ B hb4;have y0:=U4.aN.c0;have y1:=U4.aN.c1;have y2:=U4.aN.c2;have y3:=U4.aN.c3) | ((with_reducible refine (E2.out _).mono ?_);rintro e w5 ⟨rfl,hb5⟩;have B5:=d_ B4 hb5))
 go_ret;exact ⟨rfl,B5⟩
theorem kZ (a b c d:Int) (w:World) (hab:M.aM a b=true) (hcd:M.aM c d=true) :
  Calls Tryz.prog 120 #[.agg #[.int .i64 (M.pn a),.int .i64 (M.pd a),.int .i64 (M.pn b),.int .i64 (M.pd b)],.agg #[.int .i64 (M.pn c),.int .i64 (M.pd c),.int .i64 (M.pn d),.int .i64 (M.pd d)]] w fun e w'=>e=.returned (.tuple #[.agg #[.int .i64 (M.pick (M.aM (max a c) (min b d)) (M.pn (max a c))),.int .i64 (M.pick (M.aM (max a c) (min b d)) (M.pd (max a c))),.int .i64 (M.pick (M.aM (max a c) (min b d)) (M.pn (min b d))),.int .i64 (M.pick (M.aM (max a c) (min b d)) (M.pd (min b d)))],.bool (M.aM (max a c) (min b d))])∧Below w.heap.size w w':=by
 obtain ⟨ab,a1,b1⟩:=M.bQ hab;obtain ⟨cd,c1,d1⟩:=M.bQ hcd
 have E1:=fun W=>eM a b W (M.bG (by omega) (by omega)) (M.bG (by omega) (by omega))
 have E2:=fun W=>eM c d W (M.bG (by omega) (by omega)) (M.bG (by omega) (by omega))
 have PT:=xL fun W=>tj a b c d W hab hcd
 have PX:=xL fun W=>eN a c W
 have PY:=xL fun W=>qH b d W
 have PM:=fun W=>gq (max a c) (min b d) W (by omega) (by omega) (by omega) (by omega)
 generalize M.aM (max a c) (min b d)=s,M.pick (M.aM (max a c) (min b d)) (M.pd (min b d))=p4,M.pick (M.aM (max a c) (min b d)) (M.pn (min b d))=p3,M.pick (M.aM (max a c) (min b d)) (M.pd (max a c))=p2,M.pick (M.aM (max a c) (min b d)) (M.pn (max a c))=p1 at *;replace PM:=xL PM;replace E1:=xL E1;replace E2:=xL E2;generalize hn1:M.pn a=n1 at *;generalize hd1:M.pd a=d1 at *;generalize hn2:M.pn b=n2 at *;generalize hd2:M.pd b=d2 at *;generalize E5:M.pn c=n3 at *;generalize hd3:M.pd c=d3 at *;generalize E6:M.pn d=n4 at *;generalize hd4:M.pd d=d4 at *;clear hn1 hn2 E5 E6 hd1 hd2 hd3 hd4;have V:=((aH.new w #[.int .i64 n1,.int .i64 d1,.int .i64 n2,.int .i64 d2] 33).alloc (.cells #[.int .i64 n3,.int .i64 d3,.int .i64 n4,.int .i64 d4] 33)).alloc (.cells #[.int .i64 0,.int .i64 0,.int .i64 0,.int .i64 0] 33);have U:=(aH.new (w.alloc (.cells #[.int .i64 n1,.int .i64 d1,.int .i64 n2,.int .i64 d2] 33)) #[.int .i64 n3,.int .i64 d3,.int .i64 n4,.int .i64 d4] 33).alloc (.cells #[.int .i64 0,.int .i64 0,.int .i64 0,.int .i64 0] 33);rw [xM] at U;have R:=aH.new ((w.alloc (.cells #[.int .i64 n1,.int .i64 d1,.int .i64 n2,.int .i64 d2] 33)).alloc (.cells #[.int .i64 n3,.int .i64 d3,.int .i64 n4,.int .i64 d4] 33)) #[.int .i64 0,.int .i64 0,.int .i64 0,.int .i64 0] 33;rw [xM,xM] at R;have B:=(((xO w.heap.size w).alloc (xP _) (.cells #[.int .i64 n1,.int .i64 d1,.int .i64 n2,.int .i64 d2] 33)).alloc (by rw [xM];omega) (.cells #[.int .i64 n3,.int .i64 d3,.int .i64 n4,.int .i64 d4] 33)).alloc (by rw [xM,xM];omega) (.cells #[.int .i64 0,.int .i64 0,.int .i64 0,.int .i64 0] 33);generalize hw3:((w.alloc (.cells #[.int .i64 n1,.int .i64 d1,.int .i64 n2,.int .i64 d2] 33)).alloc (.cells #[.int .i64 n3,.int .i64 d3,.int .i64 n4,.int .i64 d4] 33)).alloc (.cells #[.int .i64 0,.int .i64 0,.int .i64 0,.int .i64 0] 33)=wc at *;have x8:=V.aN.c0;have x9:=V.aN.c1;have AW:=V.aN.c2;have AX:=V.aN.c3;have xx:=U.aN.c0;have xy:=U.aN.c1;have Ao:=U.aN.c2;have Ap:=U.aN.c3;have xT:=R.aN.c0;have xU:=R.aN.c1;have xX:=R.aN.c2;have xY:=R.aN.c3;go_enter Tryz.func120,Tryz.ntmps120
 go_wp2_with (first
  | (go_at_call 164;(with_reducible refine (PT.out _).mono ?_);rintro e w4 ⟨rfl,hb4⟩;replace V:=V.keep hb4;replace U:=U.keep hb4;replace R:=R.keep hb4;replace B:=d_ B hb4;(replace ⟨x8,x9,AW,AX⟩:=V.b4);(replace ⟨xx,xy,Ao,Ap⟩:=U.b4);(replace ⟨xT,xU,xX,xY,t_,xQ,xW,xe⟩:=R.yF))
  | (go_at_call 101;(with_reducible refine (E1.out _).mono ?_);rintro e w5 ⟨rfl,hb5⟩;replace V:=V.keep hb5;replace U:=U.keep hb5;replace R:=R.keep hb5;replace B:=d_ B hb5;(replace ⟨x8,x9,AW,AX⟩:=V.b4);(replace ⟨xx,xy,Ao,Ap⟩:=U.b4);(replace ⟨xT,xU,xX,xY,t_,xQ,xW,xe⟩:=R.yF))
  | (go_at_call 101;(with_reducible refine (E2.out _).mono ?_);rintro e w6 ⟨rfl,hb6⟩;replace V:=V.keep hb6;replace U:=U.keep hb6;replace R:=R.keep hb6;replace B:=d_ B hb6;(replace ⟨x8,x9,AW,AX⟩:=V.b4);(replace ⟨xx,xy,Ao,Ap⟩:=U.b4);(replace ⟨xT,xU,xX,xY,t_,xQ,xW,xe⟩:=R.yF))
  | (go_at_call 119;(with_reducible refine (PX.out _).mono ?_);rintro e w7 ⟨rfl,rfl⟩)
  | (go_at_call 165;(with_reducible refine (PY.out _).mono ?_);rintro e w8 ⟨rfl,rfl⟩)
  | (go_at_call 102;(with_reducible refine (PM.out _).mono ?_);rintro e w9 ⟨rfl,xi⟩;replace V:=V.keep xi;replace U:=U.keep xi;replace R:=R.keep xi;replace B:=d_ B xi;(replace ⟨x8,x9,AW,AX⟩:=V.b4);(replace ⟨xx,xy,Ao,Ap⟩:=U.b4);(replace ⟨xT,xU,xX,xY,t_,xQ,xW,xe⟩:=R.yF)))
 exact bodyPost_ret (v:=.tuple #[.agg #[.int .i64 p1,.int .i64 p2,.int .i64 p3,.int .i64 p4],.bool s]) (by simp [results,Tryz.results120,go_sem, *]) rfl (⟨rfl,xN (xN (xN (xN B (by simp <;> omega) _) (by simp <;> omega) _) (by simp <;> omega) _) (by simp <;> omega) _⟩)
namespace M
def hL (C:Nat) (n:Nat) (o:Out):Int:=match o with
 | .val x z=>max 0 (3*(df (.val x z) - 1) - C)*4096 / p4 n
 | _=>0
def hH (C:Nat) (n:Nat) (o:Out):Int:=match o with
 | .val x z=>-(-((3*df (.val x z)+C)*4096) / p4 n)
 | _=>0
theorem wW {a b x z:Int} {o:Out} (h:nx a b o=.val x z):Wh.sz x 1000∧Wh.sz z 1000:=by
 cases o with
 | inf=>cases h
 | bad=>cases h
 | val u v=>
 unfold nx at h
 dsimp only at h
 split at h
 ·cases h
 split at h
 ·rename_i hok
  injection h with h1 h2
  subst h1 h2;exact Wh.jl (Wh.jR hok)
 cases h
theorem ji {a b X E x z:Int} (hX1:-10000≤X) (hX2:X≤10000) (hE1:0≤E) (hE2:E≤20) {n:Nat} (h:ai a b X E n=.val x z):Wh.sz x 1000∧Wh.sz z 1000:=by
 unfold ai at h
 split at h
 ·cases h
 cases n with
 | zero=>
  have Id:0≤E*E∧E*E≤400:=⟨Int.mul_nonneg hE1 hE1,by have:=Int.mul_le_mul hE2 hE2 hE1 (by omega);omega⟩
  injection h with h1 h2
  subst h1 h2;exact ⟨Wh.aQ (Wh.bc (by omega) (by omega)) (by omega),Wh.aQ (Wh.bc (by omega) (by omega)) (by omega)⟩
 | succ n=>exact wW h
theorem ki {x z:Int} (h:Wh.sz x 1000∧Wh.sz z 1000):0≤df (.val x z)∧df (.val x z)≤14000:=by
 have h1:=Wh.jp h.1;have h2:=Wh.jp h.2
 show 0≤max ((Wh.bl x.natAbs:Nat):Int) ((Wh.bl z.natAbs:Nat):Int)∧max ((Wh.bl x.natAbs:Nat):Int) ((Wh.bl z.natAbs:Nat):Int)≤14000
 omega
theorem rh {C n:Nat} {B:Int} (hC:C≤60) (hn:n≤5) (h1:0≤B) (h2:B≤14000):aM (max 0 (3*(B - 1) - C)*4096 / p4 n) (-(-((3*B+C)*4096) / p4 n))=true:=by
 have hp:=pO n hn;generalize p4 n=d at *;have q1:=ek (a:=max 0 (3*(B - 1) - C)*4096) (b:=d) (k:=300000000) (by omega) (by omega) (by omega) (by omega);have q2:=ek (a:=-((3*B+C)*4096)) (b:=d) (k:=300000000) (by omega) (by omega) (by omega) (by omega);have q3:max 0 (3*(B - 1) - C)*4096 / d≤(3*B+C)*4096 / d:=Int.ediv_le_ediv (by omega) (by omega)
 have q4:(3*B+C)*4096 / d≤-(-((3*B+C)*4096) / d):=by
  have e1:=Int.mul_ediv_add_emod ((3*B+C)*4096) d;have e2:=Int.emod_nonneg ((3*B+C)*4096) (by omega:d≠0);have e3:=Int.mul_ediv_add_emod (-((3*B+C)*4096)) d;have e4:=Int.emod_nonneg (-((3*B+C)*4096)) (by omega:d≠0);generalize -((3*B+C)*4096) / d=v,(3*B+C)*4096 / d=u at *
  rcases Int.lt_or_le (-v) u with h | h
  ·have:d*(u+v)≥d*1:=Int.mul_le_mul_of_nonneg_left (by omega) (by omega)
   rw [Int.mul_add] at this;omega
  exact h
 unfold aM;simp only [Bool.and_eq_true,decide_eq_true_eq];omega
theorem wQ {a b X E:Int} {C n:Nat} (hC:C≤60) (hn:n≤5) (hX1:-10000≤X) (hX2:X≤10000) (hE1:0≤E) (hE2:E≤20):aM (hL C n (ai a b X E n)) (hH C n (ai a b X E n))=true:=by
 cases h:ai a b X E n with
 | inf=>show aM 0 0=true;decide
 | bad=>show aM 0 0=true;decide
 | val x z=>
 have hb:=ki (ji hX1 hX2 hE1 hE2 h);exact rh hC hn hb.1 hb.2
end M
theorem mI (a b d:Int) (w:World) (h1:-100000000000≤a) (h2:a≤100000000000) (h3:-100000000000≤b) (h4:b≤100000000000) (h5:1≤d) (h6:d≤100000) :
  Calls Tryz.prog 118 #[.int .i64 a,.int .i64 b,.int .i64 d] w fun e w'=>e=.returned (.tuple #[.agg #[.int .i64 (M.pick (M.aM (a*4096 / d) (-(-(b*4096) / d))) (M.pn (a*4096 / d))),.int .i64 (M.pick (M.aM (a*4096 / d) (-(-(b*4096) / d))) (M.pd (a*4096 / d))),.int .i64 (M.pick (M.aM (a*4096 / d) (-(-(b*4096) / d))) (M.pn (-(-(b*4096) / d)))),.int .i64 (M.pick (M.aM (a*4096 / d) (-(-(b*4096) / d))) (M.pd (-(-(b*4096) / d))))],.bool (M.aM (a*4096 / d) (-(-(b*4096) / d)))])∧Below w.heap.size w w':=by
 have P1:=fun W=>mQ (a*4096) d W (by omega) (by omega) (by omega) (by omega)
 have P2:=fun W=>vE (b*4096) d W (by omega) (by omega) (by omega) (by omega)
 have f1:=ek (a:=a*4096) (b:=d) (k:=1000000000000000) (by omega) (by omega) (by omega) (by omega);have f2:=ek (a:=-(b*4096)) (b:=d) (k:=1000000000000000) (by omega) (by omega) (by omega) (by omega)
 have PM:=fun W=>gq (a*4096 / d) (-(-(b*4096) / d)) W (by omega) (by omega) (by omega) (by omega)
 generalize -(-(b*4096) / d)=hi,a*4096 / d=lo,M.aM (a*4096 / d) (-(-(b*4096) / d))=s,M.pick (M.aM (a*4096 / d) (-(-(b*4096) / d))) (M.pd (-(-(b*4096) / d)))=p4,M.pick (M.aM (a*4096 / d) (-(-(b*4096) / d))) (M.pn (-(-(b*4096) / d)))=p3,M.pick (M.aM (a*4096 / d) (-(-(b*4096) / d))) (M.pd (a*4096 / d))=p2,M.pick (M.aM (a*4096 / d) (-(-(b*4096) / d))) (M.pn (a*4096 / d))=p1 at *;replace P1:=xL P1;replace P2:=xL P2;replace PM:=xL PM;clear f1 f2;have R:=aH.new w #[.int .i64 0,.int .i64 0,.int .i64 0,.int .i64 0] 33;have B:=(xO w.heap.size w).alloc (xP _) (.cells #[.int .i64 0,.int .i64 0,.int .i64 0,.int .i64 0] 33);go_enter Tryz.func118,Tryz.ntmps118
 go_wp2_with (first
  | (go_at_call 162;(with_reducible refine (P1.out _).mono ?_);rintro e w4 ⟨rfl,rfl⟩)
  | (go_at_call 163;(with_reducible refine (P2.out _).mono ?_);rintro e w5 ⟨rfl,rfl⟩)
  | (go_at_call 102;(with_reducible refine (PM.out _).mono ?_);rintro e w6 ⟨rfl,hb6⟩;replace R:=R.keep hb6;replace B:=d_ B hb6;(replace ⟨xT,xU,xX,xY,t_,xQ,xW,xe⟩:=R.yF)))
 exact bodyPost_ret (v:=.tuple #[.agg #[.int .i64 p1,.int .i64 p2,.int .i64 p3,.int .i64 p4],.bool s]) (by simp [results,Tryz.results118,go_sem, *]) rfl (⟨rfl,xN (xN (xN (xN B (by simp <;> omega) _) (by simp <;> omega) _) (by simp <;> omega) _) (by simp <;> omega) _⟩)
theorem jY (a b X Y E:Int) (n:Nat) (w:World) (hg:M.good a b=true) (hX1:-10000≤X) (hX2:X≤10000) (hE1:0≤E) (hE2:E≤20) (hn:n≤5) :
  Calls Tryz.prog 57 #[.agg #[.int .i64 a,.int .i64 b],.agg #[.int .i64 X,.int .i64 Y,.int .i64 E],.int .i64 (n:Int)] w fun e w'=>e=.returned (.tuple #[.agg #[.int .i64 (M.hL (M.hC a b) n (M.ai a b X E n)),.int .i64 (M.hH (M.hC a b) n (M.ai a b X E n))],.bool (M.isOk (M.ai a b X E n))])∧Below w.heap.size w w':=by
 have hin:=M.am hg
 have PB:=fun W=>rE a b X Y E n W hg hX1 hX2 hE1 hE2 hn
 have PC:=xL fun W=>gI a b W hin
 have hC:=M.kA hin
 have hsz:=fun x z (h:M.ai a b X E n=.val x z)=>M.ki (M.ji hX1 hX2 hE1 hE2 h)
 have hp:=M.pO n hn
 have Il:M.p4 n=3*M.el 4 n:=by
  match n,hn with
  | 0,_=>decide
  | 1,_=>decide
  | 2,_=>decide
  | 3,_=>decide
  | 4,_=>decide
  | 5,_=>decide
 have PP:=xL fun W=>mW 4 n W (by omega) (by omega) (by omega)
 generalize M.hC a b=k,M.el 4 n=ip at *;clear hg hin;have C:=((aH.new w #[.int .i64 a,.int .i64 b] 25).alloc (.cells #[.int .i64 X,.int .i64 Y,.int .i64 E] 27)).alloc (.cells #[.int .i64 0,.int .i64 0] 74);have Q:=(aH.new (w.alloc (.cells #[.int .i64 a,.int .i64 b] 25)) #[.int .i64 X,.int .i64 Y,.int .i64 E] 27).alloc (.cells #[.int .i64 0,.int .i64 0] 74);rw [xM] at Q;have R:=aH.new ((w.alloc (.cells #[.int .i64 a,.int .i64 b] 25)).alloc (.cells #[.int .i64 X,.int .i64 Y,.int .i64 E] 27)) #[.int .i64 0,.int .i64 0] 74;rw [xM,xM] at R;have B:=(((xO w.heap.size w).alloc (xP _) (.cells #[.int .i64 a,.int .i64 b] 25)).alloc (by rw [xM];omega) (.cells #[.int .i64 X,.int .i64 Y,.int .i64 E] 27)).alloc (by rw [xM,xM];omega) (.cells #[.int .i64 0,.int .i64 0] 74);generalize hw3:((w.alloc (.cells #[.int .i64 a,.int .i64 b] 25)).alloc (.cells #[.int .i64 X,.int .i64 Y,.int .i64 E] 27)).alloc (.cells #[.int .i64 0,.int .i64 0] 74)=wc at *;have ⟨q0,q1,q2⟩:=Q.aK;have f_:=C.box.c0;have i_:=C.box.c1
 cases ho:M.ai a b X E n with
 | inf=>
  rw [ho] at PB;replace PB:=xL PB;clear hsz hp Il;go_enter Tryz.func57,Tryz.ntmps57
  go_wp2_with (go_at_call 105;(with_reducible refine (PB.out _).mono ?_);rintro e w4 ⟨rfl,hb4⟩;replace C:=C.keep hb4;replace R:=R.keep hb4;replace B:=d_ B hb4;(replace ⟨f_,i_⟩:=C.b2);(replace ⟨xT,xU,t_,xQ⟩:=R.yk))
  exact bodyPost_ret (v:=.tuple #[.agg #[.int .i64 0,.int .i64 0],.bool true]) (by simp [results,Tryz.results57,go_sem, *]) rfl (⟨rfl,xN (xN B (by simp <;> omega) _) (by simp <;> omega) _⟩)
 | bad=>
  rw [ho] at PB;replace PB:=xL PB;clear hsz hp Il;go_enter Tryz.func57,Tryz.ntmps57
  go_wp2_with (go_at_call 105;(with_reducible refine (PB.out _).mono ?_);rintro e w4 ⟨rfl,hb4⟩;replace C:=C.keep hb4;replace R:=R.keep hb4;replace B:=d_ B hb4;(replace ⟨f_,i_⟩:=C.b2);(replace ⟨xT,xU,t_,xQ⟩:=R.yk))
  exact bodyPost_ret (v:=.tuple #[.agg #[.int .i64 0,.int .i64 0],.bool false]) (by simp [results,Tryz.results57,go_sem, *]) rfl (⟨rfl,xN (xN B (by simp <;> omega) _) (by simp <;> omega) _⟩)
 | val x z=>
 rw [ho] at PB;have hb:=hsz x z ho;have e1:M.hL k n (.val x z)=max 0 (3*(M.df (.val x z) - 1) - k)*4096 / M.p4 n:=rfl;have e2:M.hH k n (.val x z)=-(-((3*M.df (.val x z)+k)*4096) / M.p4 n):=rfl;rw [e1,e2];clear e1 e2 hsz ho;rw [show M.isInf (.val x z)=false from rfl,show M.isOk (.val x z)=true from rfl] at PB;rw [show M.isOk (.val x z)=true from rfl];generalize M.df (.val x z)=bt at *;rw [Il];rw [Il] at hp
 have hm:max 0 (3*(bt - 1) - (k:Int))=max (3*(bt - 1) - (k:Int)) 0:=by omega
 rw [hm]
 have F1:=fun W=>iL (max (3*(bt - 1) - (k:Int)) 0*4096) (3*ip) W (by omega) (by omega) (by omega) (by omega)
 have F2:=fun W=>iL (-((3*bt+(k:Int))*4096)) (3*ip) W (by omega) (by omega) (by omega) (by omega)
 have F2:=fun x W (h:x=-((3*bt+(k:Int))*4096))=>(by subst h;exact F2 W:Calls Tryz.prog 116 #[.int .i64 x,.int .i64 (3*ip)] W fun e w'=>e=.returned (.int .i64 (-((3*bt+(k:Int))*4096) / (3*ip)))∧W=w')
 have F1:=fun x W (h:x=max (3*(bt - 1) - (k:Int)) 0*4096)=>(by subst h;exact F1 W:Calls Tryz.prog 116 #[.int .i64 x,.int .i64 (3*ip)] W fun e w'=>e=.returned (.int .i64 (max (3*(bt - 1) - (k:Int)) 0*4096 / (3*ip)))∧W=w')
 have g2:=ek (a:=-((3*bt+(k:Int))*4096)) (b:=3*ip) (k:=1000000000000000) (by omega) (by omega) (by omega) (by omega);generalize max (3*(bt - 1) - (k:Int)) 0*4096 / (3*ip)=lo at *;generalize -((3*bt+(k:Int))*4096) / (3*ip)=hi at *;obtain ⟨g2,g3⟩:=g2;obtain ⟨hb1,hb2⟩:=hb;obtain ⟨hp1,hp2⟩:=hp
 have hk2:(k:Int)≤60:=by omega
 clear hm Il hC;replace F1:=xL F1;replace F2:=xL F2;replace PB:=xL PB;go_enter Tryz.func57,Tryz.ntmps57
 go_wp2_with (first
  | (go_at_call 105;(with_reducible refine (PB.out _).mono ?_);rintro e w4 ⟨rfl,hb4⟩;replace C:=C.keep hb4;replace R:=R.keep hb4;replace B:=d_ B hb4;(replace ⟨f_,i_⟩:=C.b2);(replace ⟨xT,xU,t_,xQ⟩:=R.yk))
  | (go_at_call 75;(with_reducible refine (PC.out _).mono ?_);rintro e w5 ⟨rfl,hb5⟩;replace C:=C.keep hb5;replace R:=R.keep hb5;replace B:=d_ B hb5;(replace ⟨f_,i_⟩:=C.b2);(replace ⟨xT,xU,t_,xQ⟩:=R.yk))
  | (go_at_call 76;(with_reducible refine (PP.out _).mono ?_);rintro e w6 ⟨rfl,rfl⟩)
  | (go_at_call 116;first | ((with_reducible refine (F1.out _ _ (by omega)).mono ?_);rintro e w7 ⟨rfl,rfl⟩) | ((with_reducible refine (F2.out _ _ (by omega)).mono ?_);rintro e w8 ⟨rfl,rfl⟩)))
 exact bodyPost_ret (v:=.tuple #[.agg #[.int .i64 lo,.int .i64 (-hi)],.bool true]) (by simp [results,Tryz.results57,go_sem, *]) rfl (⟨rfl,xN (xN B (by simp <;> omega) _) (by simp <;> omega) _⟩)
theorem jQ (a b X Y E:Int) (n:Nat) (w:World) (hg:M.good a b=true) (hX1:-10000≤X) (hX2:X≤10000) (hE1:0≤E) (hE2:E≤20) (hn:n≤5) :
  Calls Tryz.prog 60 #[.agg #[.int .i64 a,.int .i64 b],.agg #[.int .i64 X,.int .i64 Y,.int .i64 E],.int .i64 (n:Int)] w fun e w'=>e=.returned (.tuple #[.agg #[.int .i64 (M.pick (M.isOk (M.ai a b X E n)) (M.pn (M.hL (M.hC a b) n (M.ai a b X E n)))),.int .i64 (M.pick (M.isOk (M.ai a b X E n)) (M.pd (M.hL (M.hC a b) n (M.ai a b X E n)))),.int .i64 (M.pick (M.isOk (M.ai a b X E n)) (M.pn (M.hH (M.hC a b) n (M.ai a b X E n)))),.int .i64 (M.pick (M.isOk (M.ai a b X E n)) (M.pd (M.hH (M.hC a b) n (M.ai a b X E n))))],.bool (M.isOk (M.ai a b X E n))])∧Below w.heap.size w w':=by
 have hin:=M.am hg
 have PB:=fun W=>nk a b X Y E n W hg hX1 hX2 hE1 hE2 hn
 have PC:=xL fun W=>k9 a b W hin
 have hC:=M.kA hin;have hp:=M.pO n hn
 have PP:=xL fun W=>pw n W hn
 have PX:=xL fun x y W=>eN x y W
 have hsp:=fun B h1 h2=>M.rh (B:=B) hC hn h1 h2
 generalize M.hC a b=k at *;clear hg hin;have C:=((aH.new w #[.int .i64 a,.int .i64 b] 25).alloc (.cells #[.int .i64 X,.int .i64 Y,.int .i64 E] 27)).alloc (.cells #[.int .i64 0,.int .i64 0,.int .i64 0,.int .i64 0] 33);have Q:=(aH.new (w.alloc (.cells #[.int .i64 a,.int .i64 b] 25)) #[.int .i64 X,.int .i64 Y,.int .i64 E] 27).alloc (.cells #[.int .i64 0,.int .i64 0,.int .i64 0,.int .i64 0] 33);rw [xM] at Q;have R:=aH.new ((w.alloc (.cells #[.int .i64 a,.int .i64 b] 25)).alloc (.cells #[.int .i64 X,.int .i64 Y,.int .i64 E] 27)) #[.int .i64 0,.int .i64 0,.int .i64 0,.int .i64 0] 33;rw [xM,xM] at R;have B:=(((xO w.heap.size w).alloc (xP _) (.cells #[.int .i64 a,.int .i64 b] 25)).alloc (by rw [xM];omega) (.cells #[.int .i64 X,.int .i64 Y,.int .i64 E] 27)).alloc (by rw [xM,xM];omega) (.cells #[.int .i64 0,.int .i64 0,.int .i64 0,.int .i64 0] 33);generalize hw3:((w.alloc (.cells #[.int .i64 a,.int .i64 b] 25)).alloc (.cells #[.int .i64 X,.int .i64 Y,.int .i64 E] 27)).alloc (.cells #[.int .i64 0,.int .i64 0,.int .i64 0,.int .i64 0] 33)=wc at *;have ⟨q0,q1,q2⟩:=Q.aK;have f_:=C.box.c0;have i_:=C.box.c1
 cases ho:M.ai a b X E n with
 | inf=>
  rw [ho] at PB
  have PM:=fun W=>mI 0 0 1 W (by omega) (by omega) (by omega) (by omega) (by omega) (by omega)
  rw [show (0:Int)*4096 / 1=0 by decide,show -(-((0:Int)*4096) / 1)=0 by decide,show M.aM 0 0=true by decide] at PM;rw [show M.hL k n .inf=0 from rfl,show M.hH k n .inf=0 from rfl,show M.isOk .inf=true from rfl];generalize M.pick true (M.pd 0)=p2,M.pick true (M.pn 0)=p1 at *;replace PB:=xL PB;replace PM:=xL PM;clear hsp hp;go_enter Tryz.func60,Tryz.ntmps60
  go_wp2_with (first
   | (go_at_call 106;(with_reducible refine (PB.out _).mono ?_);rintro e w4 ⟨v4,en,rfl,yD,hb4⟩;obtain ⟨rfl,A4,l4,c4,rfl⟩:=yD;replace C:=C.keep hb4;replace R:=R.keep hb4;replace B:=d_ B hb4;(replace ⟨f_,i_⟩:=C.b2);(replace ⟨xT,xU,xX,xY,t_,xQ,xW,xe⟩:=R.yF))
   | (go_at_call 118;(with_reducible refine (PM.out _).mono ?_);rintro e w5 ⟨rfl,hb5⟩;replace C:=C.keep hb5;replace R:=R.keep hb5;replace B:=d_ B hb5;(replace ⟨f_,i_⟩:=C.b2);(replace ⟨xT,xU,xX,xY,t_,xQ,xW,xe⟩:=R.yF)))
  exact bodyPost_ret (v:=.tuple #[.agg #[.int .i64 p1,.int .i64 p2,.int .i64 p1,.int .i64 p2],.bool true]) (by simp [results,Tryz.results60,go_sem, *]) rfl (⟨rfl,xN (xN (xN (xN B (by simp <;> omega) _) (by simp <;> omega) _) (by simp <;> omega) _) (by simp <;> omega) _⟩)
 | bad=>
  rw [ho] at PB;rw [show M.isOk .bad=false from rfl];replace PB:=xL PB;clear hsp hp;go_enter Tryz.func60,Tryz.ntmps60
  go_wp2_with (go_at_call 106;(with_reducible refine (PB.out _).mono ?_);rintro e w4 ⟨v4,en,rfl,yD,hb4⟩;obtain ⟨rfl,A4,l4,c4,rfl,hl4⟩:=yD;(have hl5:(l4:Int)≤n:=by omega);replace C:=C.keep hb4;replace R:=R.keep hb4;replace B:=d_ B hb4;(replace ⟨f_,i_⟩:=C.b2);(replace ⟨xT,xU,xX,xY,t_,xQ,xW,xe⟩:=R.yF))
  exact bodyPost_ret (v:=.tuple #[.agg #[.int .i64 0,.int .i64 0,.int .i64 0,.int .i64 0],.bool false]) (by simp [results,Tryz.results60,go_sem, *]) rfl (⟨rfl,xN (xN (xN (xN B (by simp <;> omega) _) (by simp <;> omega) _) (by simp <;> omega) _) (by simp <;> omega) _⟩)
 | val x z=>
 rw [ho] at PB;have hb:=M.ki (M.ji hX1 hX2 hE1 hE2 ho);have e1:M.hL k n (.val x z)=max 0 (3*(M.df (.val x z) - 1) - k)*4096 / M.p4 n:=rfl;have e2:M.hH k n (.val x z)=-(-((3*M.df (.val x z)+k)*4096) / M.p4 n):=rfl;rw [e1,e2,show M.isOk (.val x z)=true from rfl];have hs:=hsp _ hb.1 hb.2;clear e1 e2 ho hsp
 have PD:=xL fun (s r:Bool) v v' W i j (h1:aF W i v (Wh.a_ x.natAbs)) (h2:aF W j v' (Wh.a_ z.natAbs)) (hx:Wh.sz x 1000) (hz:Wh.sz z 1000) (hs:s=decide (x<0)) (hr:r=decide (z<0))=>(hs ▸ hr ▸ tG x z v v' W i j h1 h2 (Wh.aY.2 (Wh.aQ hx (by omega))) (Wh.aY.2 (Wh.aQ hz (by omega))) (Nat.le_trans (Wh.jp hx) (by omega)) (Nat.le_trans (Wh.jp hz) (by omega)):Calls Tryz.prog 107 #[.agg #[.bool s,v,.bool r,v']] W fun e w'=>e=.returned (.int .i64 (M.df (.val x z)))∧Below W.heap.size W w')
 generalize M.df (.val x z)=bt at *
 have PM:=fun W=>mI (max 0 (3*(bt - 1) - (k:Int))) (3*bt+(k:Int)) (M.p4 n) W (by omega) (by omega) (by omega) (by omega) (by omega) (by omega)
 rw [hs] at PM;generalize M.pick true (M.pn (max 0 (3*(bt - 1) - (k:Int))*4096 / M.p4 n))=p1 at *;generalize M.pick true (M.pd (max 0 (3*(bt - 1) - (k:Int))*4096 / M.p4 n))=p2 at *;generalize M.pick true (M.pn (-(-((3*bt+(k:Int))*4096) / M.p4 n)))=p3 at *;generalize M.pick true (M.pd (-(-((3*bt+(k:Int))*4096) / M.p4 n)))=p4 at *;obtain ⟨hb1,hb2⟩:=hb
 have hk2:(k:Int)≤60:=by omega
 have PM:=xL fun x W (h:x=max 0 (3*(bt - 1) - (k:Int)))=>(by subst h;exact PM W:Calls Tryz.prog 118 #[.int .i64 x,.int .i64 (3*bt+(k:Int)),.int .i64 (M.p4 n)] W fun e w'=>e=.returned (.tuple #[.agg #[.int .i64 p1,.int .i64 p2,.int .i64 p3,.int .i64 p4],.bool true])∧Below W.heap.size W w')
 clear hs hC hp;generalize M.p4 n=pp at *;replace PB:=xL PB;go_enter Tryz.func60,Tryz.ntmps60
 go_upto_region 6 with (go_at_call 106;(with_reducible refine (PB.out _).mono ?_);rintro e w4 ⟨v4,en,rfl,yD,hb4⟩;obtain ⟨rfl,zx,zz,g,cap,s,av,lv,cv,r,bv,mv,dv,rfl,GJ,GK,GL,GM,hss,hrr,ox,oz⟩:=yD;have ox:=xL ox;have oz:=xL oz;have zx:=xL zx;have zz:=xL zz;replace C:=C.keep hb4;replace R:=R.keep hb4;replace B:=d_ B hb4;(replace ⟨f_,i_⟩:=C.b2);(replace ⟨xT,xU,xX,xY,t_,xQ,xW,xe⟩:=R.yF))
 refine Rg.bS 9 [.is (.slice (some ⟨g,0,none⟩) (n+1) cap),.is (.int .i64 (n:Int)),.is (.pointer (some ⟨g,n*4,none⟩)),.is (.agg #[.bool s,.slice av lv cv,.bool r,.slice bv mv dv]),.is (.int .i64 bt),.is (.agg #[.int .i64 a,.int .i64 b]),.is (.int .i64 (k:Int)),.is (.int .i64 bt),.is (.int .i64 (k:Int))] (by kernel_rfl) (by kernel_rfl) (by kernel_rfl) ⟨?_,?_,?_,?_,?_,?_,?_,?_,?_,trivial⟩ ?_
 ·intro _ zZ w_ hB hr
  have e8:zZ.tmps[8]?=some (.slice (some ⟨g,0,none⟩) (n+1) cap):=hr 8 (by decide);exact Rg.aG rfl (by go_simp)
 ·intro _ zZ w_ hB hr
  have e2:zZ.tmps[2]?=some (.int .i64 (n:Int)):=hr 2 (by decide);exact Rg.aG rfl (by go_simp)
 ·intro _ zZ w_ hB hr
  have e28:=Rg.c_ (hr 28 (by decide));have e29:=Rg.c_ (hr 29 (by decide))
  have hlt_:(n:Int)<((n+1:Nat):Int):=by omega
  have hlt2_:n<n+1:=by omega
  exact Rg.aG rfl (by first | (go_simp;done) | (go_simp;omega))
 ·intro _ zZ w_ hB hr
  have e30:=Rg.c_ (hr 30 (by decide));have k0:=aE hB GJ;have k1:=aE hB GK;have k2:=aE hB GL;have k3:=aE hB GM;exact Rg.aG rfl (by first | (go_simp;done))
 ·intro _ zZ w_ hB hr
  have e31:=Rg.c_ (hr 31 (by decide));have ef:=Rg.ef zZ;exact Rg.bX rfl (by go_simp) (PD.out s r _ _ _ _ _ (aF.below ox.out hB) (aF.below oz.out hB) zx.out zz.out hss.out hrr.out)
 ·intro _ zZ w_ hB hr
  have e3:zZ.tmps[3]?=some (.pointer (some ⟨w.heap.size,0,none⟩)):=hr 3 (by decide);have k0:=aE hB C.box.c0;have k1:=aE hB C.box.c1;exact Rg.aG rfl (by go_simp)
 ·intro _ zZ w_ hB hr
  have e33:=Rg.c_ (hr 33 (by decide));have ef:=Rg.ef zZ;exact Rg.bX rfl (by go_simp) (PC.out _)
 ·intro _ zZ w_ hB hr
  have e32:=Rg.c_ (hr 32 (by decide));exact Rg.aG rfl (by go_simp)
 ·intro _ zZ w_ hB hr
  have e34:=Rg.c_ (hr 34 (by decide));exact Rg.aG rfl (by go_simp)
 intro vals wz hB hv hne;have Af:vals 7=.int .i64 bt:=hv 7 (by decide);have Ay:vals 8=.int .i64 (k:Int):=hv 8 (by decide);simp only [Rg.ay,Rg.fill,Act.put,Nat.reduceAdd];clear hv;simp only [Af,Ay];clear Af Ay;have C2:=C.keep hB;have R2:=R.keep hB;have B2:=d_ B hB;clear C R B f_ i_ xT xU xX xY t_ xQ xW xe;unfold Rg.aX;have ⟨y0,y1,y2,y3,x0,x1,x2,x3,_⟩:=R2.aN
 go_wp2_with (first
  | (go_at_call 119;(with_reducible refine (PX.out _ _ _).mono ?_);rintro e w5 ⟨rfl,rfl⟩)
  | (go_at_call 81;(with_reducible refine (PP.out _).mono ?_);rintro e w6 ⟨rfl,rfl⟩)
  | (go_at_call 118;(with_reducible refine (PM.out _ _ (by omega)).mono ?_);rintro e w7 ⟨rfl,yC⟩;replace R2:=R2.keep yC;replace B2:=d_ B2 yC;(replace ⟨R2_c0,R2_c1,R2_c2,R2_c3,R2_f0,R2_f1,R2_f2,R2_f3⟩:=R2.yF)))
 exact bodyPost_ret (v:=.tuple #[.agg #[.int .i64 p1,.int .i64 p2,.int .i64 p3,.int .i64 p4],.bool true]) (by simp [results,Tryz.results60,go_sem, *]) rfl (⟨rfl,xN (xN (xN (xN B2 (by simp <;> omega) _) (by simp <;> omega) _) (by simp <;> omega) _) (by simp <;> omega) _⟩)
namespace M
def bL (a b X E:Int):Nat→Int
 | 0=>hL (hC a b) 0 (ai a b X E 0)
 | k+1=>max (bL a b X E k) (hL (hC a b) (k+1) (ai a b X E (k+1)))
def bH (a b X E:Int):Nat→Int
 | 0=>hH (hC a b) 0 (ai a b X E 0)
 | k+1=>min (bH a b X E k) (hH (hC a b) (k+1) (ai a b X E (k+1)))
def C1 (a b X E:Int):Nat→Nat→Nat
 | 0,k=>k
 | f+1,k=>if isOk (ai a b X E (k+1))=true then C1 a b X E f (k+1) else k
def bN (a b X E:Int):Nat:=C1 a b X E 5 0
def zR (a b X E:Int):Bool:=aM (bL a b X E (bN a b X E)) (bH a b X E (bN a b X E))
theorem rA {a b X E:Int}:∀ f k:Nat,k≤C1 a b X E f k
 | 0,_=>xP _
 | f+1,k=>by
  unfold C1
  split
  ·exact Nat.le_of_succ_le (rA f (k+1))
  exact xP _
theorem rB {a b X E:Int}:∀ f k:Nat,C1 a b X E f k≤k+f
 | 0,_=>xP _
 | f+1,k=>by
  unfold C1
  split
  ·have:=rB (a:=a) (b:=b) (X:=X) (E:=E) f (k+1);omega
  omega
theorem wG {a b X E:Int}:bN a b X E≤5:=rB 5 0
theorem uU {a b X E:Int}:isOk (ai a b X E 0)=true:=by
 unfold ai
 split <;> rfl
theorem rg {a b X E:Int} {n:Nat} (hin:M.bM a b=true) (hn:n≤5) (hX1:-10000≤X) (hX2:X≤10000) (hE1:0≤E) (hE2:E≤20):-409600000≤hL (hC a b) n (ai a b X E n)∧hL (hC a b) n (ai a b X E n)≤409600000∧-409600000≤hH (hC a b) n (ai a b X E n)∧hH (hC a b) n (ai a b X E n)≤409600000:=by
 have:=bQ (wQ (a:=a) (b:=b) (C:=hC a b) (kA hin) hn hX1 hX2 hE1 hE2);omega
theorem ul {a b X E:Int} (hin:M.bM a b=true) (hX1:-10000≤X) (hX2:X≤10000) (hE1:0≤E) (hE2:E≤20):∀ k:Nat,k≤5→-409600000≤bL a b X E k∧bL a b X E k≤409600000∧-409600000≤bH a b X E k∧bH a b X E k≤409600000
 | 0,h=>rg hin h hX1 hX2 hE1 hE2
 | k+1,h=>by
  have h1:=ul hin hX1 hX2 hE1 hE2 k (by omega);have h2:=rg (n:=k+1) hin h hX1 hX2 hE1 hE2;unfold bL bH;omega
theorem nh {a b X E:Int} {k:Nat}:∀ n:Nat,k≤n→bL a b X E k≤bL a b X E n∧bH a b X E n≤bH a b X E k
 | 0,h=>by
        obtain rfl:k=0:=by omega
        exact ⟨Int.le_refl _,Int.le_refl _⟩
 | n+1,h=>by
  by_cases e:k=n+1
  ·subst e;exact ⟨Int.le_refl _,Int.le_refl _⟩
  have:=nh (a:=a) (b:=b) (X:=X) (E:=E) (k:=k) n (by omega);have e1:bL a b X E (n+1)=max (bL a b X E n) (hL (hC a b) (n+1) (ai a b X E (n+1))):=rfl;have e2:bH a b X E (n+1)=min (bH a b X E n) (hH (hC a b) (n+1) (ai a b X E (n+1))):=rfl;omega
theorem wI {a b X E:Int} (hin:M.bM a b=true) (hX1:-10000≤X) (hX2:X≤10000) (hE1:0≤E) (hE2:E≤20) {k:Nat} (hk:k≤bN a b X E) (h:aM (bL a b X E k) (bH a b X E k)=false):zR a b X E=false:=by
 cases hb:zR a b X E with
 | false=>rfl
 | true=>
 have hN:=wG (a:=a) (b:=b) (X:=X) (E:=E);have h1:=bQ hb;have h2:=nh (a:=a) (b:=b) (X:=X) (E:=E) _ hk;have h3:=ul hin hX1 hX2 hE1 hE2 k (by omega)
 exfalso
 have:aM (bL a b X E k) (bH a b X E k)=true:=by
  unfold aM;simp only [Bool.and_eq_true,decide_eq_true_eq];omega
 rw [this] at h;cases h
end M
theorem gV (a b X Y E:Int) (w:World) (hg:M.good a b=true) (hX1:-10000≤X) (hX2:X≤10000) (hE1:0≤E) (hE2:E≤20) :
  Calls Tryz.prog 61 #[.agg #[.int .i64 a,.int .i64 b],.agg #[.int .i64 X,.int .i64 Y,.int .i64 E]] w fun e w'=>e=.returned (.tuple #[.agg #[.int .i64 (M.bL a b X E (M.bN a b X E)),.int .i64 (M.bH a b X E (M.bN a b X E))],.int .i64 ((M.bN a b X E:Nat):Int),.bool (M.zR a b X E)])∧Below w.heap.size w w':=by
 have P0:=fun W=>jY a b X Y E 0 W hg hX1 hX2 hE1 hE2 (by omega)
 rw [M.uU,show ((0:Nat):Int)=0 from rfl] at P0
 have PK:=xL fun (k:Nat) W (hk:k≤5)=>jY a b X Y E k W hg hX1 hX2 hE1 hE2 hk
 have P0:=xL P0;have hL0:=xL (show M.hL (M.hC a b) 0 (M.ai a b X E 0)=M.bL a b X E 0 from rfl);have hH0:=xL (show M.hH (M.hC a b) 0 (M.ai a b X E 0)=M.bH a b X E 0 from rfl);have hin:=M.am hg
 have hbd:=xL fun k hk=>M.rg (a:=a) (b:=b) (X:=X) (E:=E) (n:=k) hin hk hX1 hX2 hE1 hE2
 have hbb:=xL fun k hk=>M.ul (a:=a) (b:=b) (X:=X) (E:=E) hin hX1 hX2 hE1 hE2 k hk
 clear hg hin;have C:=((aH.new w #[.int .i64 a,.int .i64 b] 25).alloc (.cells #[.int .i64 X,.int .i64 Y,.int .i64 E] 27)).alloc (.cells #[.int .i64 0,.int .i64 0] 74);have Q:=(aH.new (w.alloc (.cells #[.int .i64 a,.int .i64 b] 25)) #[.int .i64 X,.int .i64 Y,.int .i64 E] 27).alloc (.cells #[.int .i64 0,.int .i64 0] 74);rw [xM] at Q;have R:=aH.new ((w.alloc (.cells #[.int .i64 a,.int .i64 b] 25)).alloc (.cells #[.int .i64 X,.int .i64 Y,.int .i64 E] 27)) #[.int .i64 0,.int .i64 0] 74;rw [xM,xM] at R;have B:=(((xO w.heap.size w).alloc (xP _) (.cells #[.int .i64 a,.int .i64 b] 25)).alloc (by rw [xM];omega) (.cells #[.int .i64 X,.int .i64 Y,.int .i64 E] 27)).alloc (by rw [xM,xM];omega) (.cells #[.int .i64 0,.int .i64 0] 74);generalize hw3:((w.alloc (.cells #[.int .i64 a,.int .i64 b] 25)).alloc (.cells #[.int .i64 X,.int .i64 Y,.int .i64 E] 27)).alloc (.cells #[.int .i64 0,.int .i64 0] 74)=wc at *;have ⟨q0,q1,q2⟩:=Q.aK;have f_:=C.box.c0;have i_:=C.box.c1;generalize hu0:M.hL (M.hC a b) 0 (M.ai a b X E 0)=u0 at *;generalize hv0:M.hH (M.hC a b) 0 (M.ai a b X E 0)=v0 at *;clear hu0 hv0;go_enter Tryz.func61,Tryz.ntmps61
 go_wp2_with (go_at_call 57;(with_reducible refine (P0.out _).mono ?_);rintro e w4 ⟨rfl,hb4⟩;replace C:=C.keep hb4;replace R:=R.keep hb4;replace B:=d_ B hb4;replace Q:=Q.keep hb4;have Eu:=xL R.lt;replace Q:=Q.alloc (.cells #[.int .i64 u0,.int .i64 v0] 74);have T:=aH.new w4 #[.int .i64 u0,.int .i64 v0] 74;have b_:=bA w4 (.cells #[.int .i64 u0,.int .i64 v0] 74);replace C:=C.keep b_;replace R:=R.keep b_;replace B:=d_ B b_;clear b_;(replace ⟨f_,i_⟩:=C.b2);(replace ⟨xT,xU,t_,xQ⟩:=R.yk);(replace ⟨yJ,yK⟩:=T.b2))
 go_loopw [9] (fun vi wr=>∃ k:Nat,k≤5∧vi=.int .i64 k∧Hid (M.C1 a b X E (5 - k) k=M.bN a b X E)∧aH wr w4.heap.size 74 #[.int .i64 (M.bL a b X E k),.int .i64 (M.bH a b X E k)]∧aH wr w.heap.size 25 #[.int .i64 a,.int .i64 b]∧aH wr (w.heap.size+1) 27 #[.int .i64 X,.int .i64 Y,.int .i64 E]∧aH wr (w.heap.size+1+1) 74 #[.int .i64 0,.int .i64 0]∧Below w.heap.size w wr) (fun vi _=>5 - (intOf vi).toNat)
 case atStart=>exact ⟨0,by omega,rfl,xL rfl,by rw [←hL0.out,←hH0.out];exact T,C,Q,R,B⟩
 case round=>
 clear C Q R B T P0 hL0 hH0 f_ i_ xT xU t_ xQ yJ yK q0 q1 q2;have hR9:=Eu.out;obtain ⟨k,hk,rfl,hN,T,C,Q,R,B⟩:=hrel;have yJ:=T.box.c0;have yK:=T.box.c1;have CR:=T.box.f0;have CS:=T.box.f1;have f_:=C.box.c0;have i_:=C.box.c1;have xT:=R.box.c0;have xU:=R.box.c1;have t_:=R.box.f0;have xQ:=R.box.f1;have ⟨q0,q1,q2⟩:=Q.aK
 by_cases hlt:k<5
 ·have P1:=fun W=>PK.out (k+1) W (by omega)
  have hNs:M.C1 a b X E (5 - k) k=if M.isOk (M.ai a b X E (k+1))=true then M.C1 a b X E (5 - (k+1)) (k+1) else k:=by
   rw [show 5 - k=(5 - (k+1))+1 by omega];rfl
  have eL:M.bL a b X E (k+1)=max (M.bL a b X E k) (M.hL (M.hC a b) (k+1) (M.ai a b X E (k+1))):=rfl;have eH:M.bH a b X E (k+1)=min (M.bH a b X E k) (M.hH (M.hC a b) (k+1) (M.ai a b X E (k+1))):=rfl;generalize M.hH (M.hC a b) (k+1) (M.ai a b X E (k+1))=hh,M.hL (M.hC a b) (k+1) (M.ai a b X E (k+1))=hl at *
  have PC:=xL fun W=>rN (M.bL a b X E k) (M.bH a b X E k) hl hh W
  cases hok:M.isOk (M.ai a b X E (k+1)) with
  | false=>
   rw [hok,if_neg (by decide)] at hNs;have DH:=xL (show M.bN a b X E=k by rw [←hN.out,hNs]);rw [hok] at P1
   have PV:=xL fun W=>iC (M.bL a b X E k) (M.bH a b X E k) W
   have EV:=xL (show M.zR a b X E=M.aM (M.bL a b X E k) (M.bH a b X E k) by unfold M.zR;rw [DH.out]);clear hNs eL eH hok hN PC;have P1:=xL P1;have hk1:=xL (show ((k+1:Nat):Int)=(k:Int)+1 by omega);have P1:=P1.out;rw [hk1.out] at P1;have P1:=xL P1
   go_upto_region 8 with (go_at_call 57;(with_reducible refine (P1.out _).mono ?_);rintro e w5 ⟨rfl,hb5⟩;replace C:=C.keep hb5;replace R:=R.keep hb5;replace T:=T.keep hb5;replace B:=d_ B hb5;replace Q:=Q.keep hb5;replace Q:=Q.alloc (.cells #[.int .i64 hl,.int .i64 hh] 74);have S:=aH.new w5 #[.int .i64 hl,.int .i64 hh] 74;have b_:=bA w5 (.cells #[.int .i64 hl,.int .i64 hh] 74);replace C:=C.keep b_;replace R:=R.keep b_;replace T:=T.keep b_;replace B:=d_ B b_;clear b_;(replace ⟨f_,i_⟩:=C.b2);(replace ⟨xT,xU,t_,xQ⟩:=R.yk);(replace ⟨yJ,yK⟩:=T.b2);(replace ⟨A5,A6⟩:=S.b2))
   generalize w5.alloc (.cells #[.int .i64 hl,.int .i64 hh] 74)=wd at *;generalize hbk:M.bL a b X E k=bl at *;generalize Bv:M.bH a b X E k=bh at *;replace hbk:=xL hbk;replace Bv:=xL Bv;refine Rg.uY 7 [.is (.agg #[.int .i64 bl,.int .i64 bh]),.is (.int .i64 (k:Int)),.is (.bool true),.is (.bool true),.is (.agg #[.int .i64 bl,.int .i64 bh]),.is (.bool (M.aM bl bh)),.is (.bool (M.aM bl bh)),.at (fun _ W=>aH W (w.heap.size+1+1) 74 #[.int .i64 bl,.int .i64 bh]),.is (.int .i64 (k:Int)),.is (.bool (M.aM bl bh))] (fun W=>aH W w4.heap.size 74 #[.int .i64 bl,.int .i64 bh]∧(∃ u v,aH W (w.heap.size+1+1) 74 #[u,v])∧Below w.heap.size w W) (by kernel_rfl) (by kernel_rfl) ?_ (fun j hj=>match j,hj with | 0,hj=>rfl | 1,hj=>rfl | 2,hj=>rfl | 3,hj=>rfl | 4,hj=>rfl | 5,hj=>rfl | 6,hj=>rfl | 7,hj=>absurd rfl hj | 8,hj=>rfl | 9,hj=>rfl | n+10,_=>rfl) ?_ ⟨?_,?_,?_,?_,?_,?_,?_,?_,?_,?_,trivial⟩ ?_
   ·exact fun W W_ h hb=>⟨h.1.keep hb,⟨_,_,h.2.1.choose_spec.choose_spec.keep hb⟩,h.2.2.trans (hb.mono h.2.2.size)⟩
   ·exact ⟨T,⟨_,_,R⟩,B⟩
   ·intro zZ w_ hJ hr
    rw [if_neg (by decide)];have e7:zZ.tmps[7]?=some (.pointer (some ⟨w4.heap.size,0,none⟩)):=hr 7 (by decide);have k0:=hJ.1.box.c0;have k1:=hJ.1.box.c1;exact Rg.aG rfl (by go_simp)
   ·intro zZ w_ hJ hr
    rw [if_neg (by decide)];have e9:zZ.tmps[9]?=some (.int .i64 (k:Int)):=hr 9 (by decide);exact Rg.aG rfl (by go_simp)
   ·intro zZ w_ hJ hr
    rw [if_neg (by decide)];have e8:zZ.tmps[8]?=some (.bool true):=hr 8 (by decide);exact Rg.aG rfl (by go_simp)
   ·intro zZ w_ hJ hr
    rw [if_neg (by decide)];have e37:=Rg.c_ (hr 37 (by decide));exact Rg.aG rfl (by go_simp)
   ·intro zZ w_ hJ hr
    rw [if_neg (by decide)];have e7:zZ.tmps[7]?=some (.pointer (some ⟨w4.heap.size,0,none⟩)):=hr 7 (by decide);have e38:=Rg.c_ (hr 38 (by decide));have k0:=hJ.1.box.c0;have k1:=hJ.1.box.c1;exact Rg.aG (Rg.ag (j:=3) (b:=true) rfl (Rg.yI rfl e38)) (by go_simp)
   ·intro zZ w_ hJ hr
    rw [if_neg (by decide)];have e38:=Rg.c_ (hr 38 (by decide));have e39:=Rg.c_ (hr 39 (by decide));have ef:=Rg.ef zZ;exact Rg.bX (Rg.ag (j:=3) (b:=true) rfl (Rg.yI rfl e38)) (by go_simp) (PV.out _)
   ·intro zZ w_ hJ hr
    rw [if_neg (by decide)];have e38:=Rg.c_ (hr 38 (by decide));have e40:=Rg.c_ (hr 40 (by decide));have ec:=Rg.ec zZ;exact Rg.aG rfl (by first | (go_simp;done))
   ·intro zZ w_ hJ hr
    rw [if_pos rfl];have e4:zZ.tmps[4]?=some (.pointer (some ⟨w.heap.size+1+1,0,none⟩)):=hr 4 (by decide);have e35:=Rg.c_ (hr 35 (by decide));obtain ⟨Mm,⟨u_,v_,hJ2⟩,hJ3⟩:=hJ;have e35:zZ.tmps[35]?=some (.agg #[.int .i64 bl,.int .i64 bh]):=Rg.c_ (hr 35 (by decide));have e4:zZ.tmps[4]?=some (.pointer (some ⟨w.heap.size+1+1,0,none⟩)):=hr 4 (by decide);have ⟨y0,y1,x0,x1,_⟩:=hJ2.box;refine ⟨rfl,?_⟩;unfold Oper.wp
    go_simp
    exact ⟨⟨Mm.bI (show w4.heap.size≠w.heap.size+1+1 by omega) _ _,⟨_,_,aH.set2 hJ2 _ _⟩,dI hJ3 (by omega) _ _⟩,fun _ _ hb=>(aH.set2 hJ2 _ _).keep hb⟩
   ·intro zZ w_ hJ hr
    rw [if_neg (by decide)];have e36:=Rg.c_ (hr 36 (by decide));exact Rg.aG rfl (by go_simp)
   ·intro zZ w_ hJ hr
    rw [if_neg (by decide)];have e41:=Rg.c_ (hr 41 (by decide));exact Rg.aG rfl (by go_simp)
   intro vals wz hJ2 hv;have Ay:vals 8=.int .i64 (k:Int):=hv 8 (by decide);have zV:vals 9=.bool (M.aM bl bh):=hv 9 (by decide);have hst:=hv 7 (by decide);simp only [Rg.ay,Rg.fill,Act.put,Nat.reduceAdd];clear hv;simp only [Ay,zV];clear Ay zV;have ⟨y0,y1,x0,x1,_⟩:=aH.box (Rg.ah hst);have B2:=hJ2.2.2;clear hst hJ2;go_wp2;exact bodyPost_ret (v:=.tuple #[.agg #[.int .i64 bl,.int .i64 bh],.int .i64 (k:Int),.bool (M.aM bl bh)]) (by simp [results,Tryz.results61,go_sem, *]) rfl (⟨by rw [DH.out,EV.out,hbk.out,Bv.out],B2⟩)
  | true=>
  rw [hok,if_pos rfl] at hNs;have Jf:=xL (hNs.symm.trans hN.out);rw [hok] at P1;have eL:=xL eL;have eH:=xL eH;clear hNs hok hN;have hk1:=xL (show ((k+1:Nat):Int)=(k:Int)+1 by omega);rw [hk1.out] at P1;have P1:=xL P1;generalize hbk:M.bL a b X E k=bl at *;generalize Bv:M.bH a b X E k=bh at *;clear hbk Bv
  go_wp2_with (first
   | (go_at_call 57;(with_reducible refine (P1.out _).mono ?_);rintro e w5 ⟨rfl,hb5⟩;replace C:=C.keep hb5;replace R:=R.keep hb5;replace T:=T.keep hb5;replace B:=d_ B hb5;replace Q:=Q.keep hb5;replace Q:=Q.alloc (.cells #[.int .i64 hl,.int .i64 hh] 74);have S:=aH.new w5 #[.int .i64 hl,.int .i64 hh] 74;have b_:=bA w5 (.cells #[.int .i64 hl,.int .i64 hh] 74);replace C:=C.keep b_;replace R:=R.keep b_;replace T:=T.keep b_;replace B:=d_ B b_;clear b_;(replace ⟨f_,i_⟩:=C.b2);(replace ⟨xT,xU,t_,xQ⟩:=R.yk);(replace ⟨yJ,yK,CR,CS⟩:=T.yk);(replace ⟨A5,A6⟩:=S.b2))
   | (go_at_call 65;(with_reducible refine (PC.out _).mono ?_);rintro e w6 ⟨rfl,hb6⟩;replace C:=C.keep hb6;replace R:=R.keep hb6;replace T:=T.keep hb6;replace S:=S.keep hb6;replace B:=d_ B hb6;replace Q:=Q.keep hb6;(replace ⟨f_,i_⟩:=C.b2);(replace ⟨xT,xU,t_,xQ⟩:=R.yk);(replace ⟨yJ,yK,CR,CS⟩:=T.yk);(replace ⟨A5,A6⟩:=S.b2)))
  go_roundw
  case rel=>exact ⟨k+1,by omega,by go_num,Jf,by rw [eL.out,eH.out];exact aH.set2 T _ _,(C.other (show w.heap.size≠w4.heap.size by omega) _).other (show w.heap.size≠w4.heap.size by omega) _,(Q.other (show w.heap.size+1≠w4.heap.size by omega) _).other (show w.heap.size+1≠w4.heap.size by omega) _,(R.other (show w.heap.size+1+1≠w4.heap.size by omega) _).other (show w.heap.size+1+1≠w4.heap.size by omega) _,xN (xN B (by simp <;> omega) _) (by simp <;> omega) _⟩
  case measure=>simp [intOf] <;> omega
 obtain rfl:k=5:=by omega
 have DH:=xL (show M.bN a b X E=5 by rw [←hN.out];rfl)
 have PV:=xL fun W=>iC (M.bL a b X E 5) (M.bH a b X E 5) W
 have EV:=xL (show M.zR a b X E=M.aM (M.bL a b X E 5) (M.bH a b X E 5) by unfold M.zR;rw [DH.out]);clear hN PK
 obtain ⟨k,hk5⟩:∃ k:Nat,k=5:=⟨5,rfl⟩
 rw [←hk5] at DH PV EV T ⊢;rw [←hk5] at yJ yK
 have hlt5:¬ (k:Int)<5:=by omega
 go_upto_region 8 with fail
 generalize hbk:M.bL a b X E k=bl at *;generalize Bv:M.bH a b X E k=bh at *;replace hbk:=xL hbk;replace Bv:=xL Bv;refine Rg.uY 7 [.is (.agg #[.int .i64 bl,.int .i64 bh]),.is (.int .i64 (k:Int)),.is (.bool true),.is (.bool true),.is (.agg #[.int .i64 bl,.int .i64 bh]),.is (.bool (M.aM bl bh)),.is (.bool (M.aM bl bh)),.at (fun _ W=>aH W (w.heap.size+1+1) 74 #[.int .i64 bl,.int .i64 bh]),.is (.int .i64 (k:Int)),.is (.bool (M.aM bl bh))] (fun W=>aH W w4.heap.size 74 #[.int .i64 bl,.int .i64 bh]∧(∃ u v,aH W (w.heap.size+1+1) 74 #[u,v])∧Below w.heap.size w W) (by kernel_rfl) (by kernel_rfl) ?_ (fun j hj=>match j,hj with | 0,hj=>rfl | 1,hj=>rfl | 2,hj=>rfl | 3,hj=>rfl | 4,hj=>rfl | 5,hj=>rfl | 6,hj=>rfl | 7,hj=>absurd rfl hj | 8,hj=>rfl | 9,hj=>rfl | n+10,_=>rfl) ?_ ⟨?_,?_,?_,?_,?_,?_,?_,?_,?_,?_,trivial⟩ ?_
 ·exact fun W W_ h hb=>⟨h.1.keep hb,⟨_,_,h.2.1.choose_spec.choose_spec.keep hb⟩,h.2.2.trans (hb.mono h.2.2.size)⟩
 ·exact ⟨T,⟨_,_,R⟩,B⟩
 ·intro zZ w_ hJ hr
  rw [if_neg (by decide)];have e7:zZ.tmps[7]?=some (.pointer (some ⟨w4.heap.size,0,none⟩)):=hr 7 (by decide);have k0:=hJ.1.box.c0;have k1:=hJ.1.box.c1;exact Rg.aG rfl (by go_simp)
 ·intro zZ w_ hJ hr
  rw [if_neg (by decide)];have e9:zZ.tmps[9]?=some (.int .i64 (k:Int)):=hr 9 (by decide);exact Rg.aG rfl (by go_simp)
 ·intro zZ w_ hJ hr
  rw [if_neg (by decide)];have e8:zZ.tmps[8]?=some (.bool true):=hr 8 (by decide);exact Rg.aG rfl (by go_simp)
 ·intro zZ w_ hJ hr
  rw [if_neg (by decide)];have e37:=Rg.c_ (hr 37 (by decide));exact Rg.aG rfl (by go_simp)
 ·intro zZ w_ hJ hr
  rw [if_neg (by decide)];have e7:zZ.tmps[7]?=some (.pointer (some ⟨w4.heap.size,0,none⟩)):=hr 7 (by decide);have e38:=Rg.c_ (hr 38 (by decide));have k0:=hJ.1.box.c0;have k1:=hJ.1.box.c1;exact Rg.aG (Rg.ag (j:=3) (b:=true) rfl (Rg.yI rfl e38)) (by go_simp)
 ·intro zZ w_ hJ hr
  rw [if_neg (by decide)];have e38:=Rg.c_ (hr 38 (by decide));have e39:=Rg.c_ (hr 39 (by decide));have ef:=Rg.ef zZ;exact Rg.bX (Rg.ag (j:=3) (b:=true) rfl (Rg.yI rfl e38)) (by go_simp) (PV.out _)
 ·intro zZ w_ hJ hr
  rw [if_neg (by decide)];have e38:=Rg.c_ (hr 38 (by decide));have e40:=Rg.c_ (hr 40 (by decide));have ec:=Rg.ec zZ;exact Rg.aG rfl (by first | (go_simp;done))
 ·intro zZ w_ hJ hr
  rw [if_pos rfl];have e4:zZ.tmps[4]?=some (.pointer (some ⟨w.heap.size+1+1,0,none⟩)):=hr 4 (by decide);have e35:=Rg.c_ (hr 35 (by decide));obtain ⟨Mm,⟨u_,v_,hJ2⟩,hJ3⟩:=hJ;have e35:zZ.tmps[35]?=some (.agg #[.int .i64 bl,.int .i64 bh]):=Rg.c_ (hr 35 (by decide));have e4:zZ.tmps[4]?=some (.pointer (some ⟨w.heap.size+1+1,0,none⟩)):=hr 4 (by decide);have ⟨y0,y1,x0,x1,_⟩:=hJ2.box;refine ⟨rfl,?_⟩;unfold Oper.wp
  go_simp
  exact ⟨⟨Mm.bI (show w4.heap.size≠w.heap.size+1+1 by omega) _ _,⟨_,_,aH.set2 hJ2 _ _⟩,dI hJ3 (by omega) _ _⟩,fun _ _ hb=>(aH.set2 hJ2 _ _).keep hb⟩
 ·intro zZ w_ hJ hr
  rw [if_neg (by decide)];have e36:=Rg.c_ (hr 36 (by decide));exact Rg.aG rfl (by go_simp)
 ·intro zZ w_ hJ hr
  rw [if_neg (by decide)];have e41:=Rg.c_ (hr 41 (by decide));exact Rg.aG rfl (by go_simp)
 intro vals wz hJ2 hv;have Ay:vals 8=.int .i64 (k:Int):=hv 8 (by decide);have zV:vals 9=.bool (M.aM bl bh):=hv 9 (by decide);have hst:=hv 7 (by decide);simp only [Rg.ay,Rg.fill,Act.put,Nat.reduceAdd];clear hv;simp only [Ay,zV];clear Ay zV;have ⟨y0,y1,x0,x1,_⟩:=aH.box (Rg.ah hst);have B2:=hJ2.2.2;clear hst hJ2;go_wp2;exact bodyPost_ret (v:=.tuple #[.agg #[.int .i64 bl,.int .i64 bh],.int .i64 (k:Int),.bool (M.aM bl bh)]) (by simp [results,Tryz.results61,go_sem, *]) rfl (⟨by rw [DH.out,EV.out,hbk.out,Bv.out],B2⟩)
theorem mH (a b X Y E:Int) (w:World) (hg:M.good a b=true) (hX1:-10000≤X) (hX2:X≤10000) (hE1:0≤E) (hE2:E≤20) :
  Calls Tryz.prog 63 #[.agg #[.int .i64 a,.int .i64 b],.agg #[.int .i64 X,.int .i64 Y,.int .i64 E]] w fun e w'=>e=.returned (.tuple #[.agg #[.int .i64 (M.pick (M.zR a b X E) (M.pn (M.bL a b X E (M.bN a b X E)))),.int .i64 (M.pick (M.zR a b X E) (M.pd (M.bL a b X E (M.bN a b X E)))),.int .i64 (M.pick (M.zR a b X E) (M.pn (M.bH a b X E (M.bN a b X E)))),.int .i64 (M.pick (M.zR a b X E) (M.pd (M.bH a b X E (M.bN a b X E))))],.int .i64 (M.pick (M.zR a b X E) ((M.bN a b X E:Nat):Int)),.bool (M.zR a b X E)])∧Below w.heap.size w w':=by
 have P0:=fun W=>jQ a b X Y E 0 W hg hX1 hX2 hE1 hE2 (by omega)
 rw [M.uU,show ((0:Nat):Int)=0 from rfl] at P0;simp only [M.dS] at P0
 have PK:=xL fun (k:Nat) W (hk:k≤5)=>jQ a b X Y E k W hg hX1 hX2 hE1 hE2 hk
 have hL0:=xL (show M.hL (M.hC a b) 0 (M.ai a b X E 0)=M.bL a b X E 0 from rfl);have hH0:=xL (show M.hH (M.hC a b) 0 (M.ai a b X E 0)=M.bH a b X E 0 from rfl);have hin:=M.am hg
 have hno:=xL fun k hk hs=>M.wI (a:=a) (b:=b) (X:=X) (E:=E) (k:=k) hin hX1 hX2 hE1 hE2 hk hs
 have hss:=xL fun n hn=>M.wQ (a:=a) (b:=b) (X:=X) (E:=E) (C:=M.hC a b) (n:=n) (M.kA hin) hn hX1 hX2 hE1 hE2
 have hs0:=xL (show M.aM (M.bL a b X E 0) (M.bH a b X E 0)=true from hss.out 0 (by omega));clear hg hin;rw [hL0.out,hH0.out] at P0;clear hL0 hH0;have P0:=xL P0;have C:=((aH.new w #[.int .i64 a,.int .i64 b] 25).alloc (.cells #[.int .i64 X,.int .i64 Y,.int .i64 E] 27)).alloc (.cells #[.int .i64 0,.int .i64 0,.int .i64 0,.int .i64 0] 33);have Q:=(aH.new (w.alloc (.cells #[.int .i64 a,.int .i64 b] 25)) #[.int .i64 X,.int .i64 Y,.int .i64 E] 27).alloc (.cells #[.int .i64 0,.int .i64 0,.int .i64 0,.int .i64 0] 33);rw [xM] at Q;have R:=aH.new ((w.alloc (.cells #[.int .i64 a,.int .i64 b] 25)).alloc (.cells #[.int .i64 X,.int .i64 Y,.int .i64 E] 27)) #[.int .i64 0,.int .i64 0,.int .i64 0,.int .i64 0] 33;rw [xM,xM] at R;have B:=(((xO w.heap.size w).alloc (xP _) (.cells #[.int .i64 a,.int .i64 b] 25)).alloc (by rw [xM];omega) (.cells #[.int .i64 X,.int .i64 Y,.int .i64 E] 27)).alloc (by rw [xM,xM];omega) (.cells #[.int .i64 0,.int .i64 0,.int .i64 0,.int .i64 0] 33);generalize hw3:((w.alloc (.cells #[.int .i64 a,.int .i64 b] 25)).alloc (.cells #[.int .i64 X,.int .i64 Y,.int .i64 E] 27)).alloc (.cells #[.int .i64 0,.int .i64 0,.int .i64 0,.int .i64 0] 33)=wc at *;have ⟨q0,q1,q2⟩:=Q.aK;have f_:=C.box.c0;have i_:=C.box.c1;have xT:=R.aN.c0;have t_:=R.aN.f0;have xU:=R.aN.c1;have xQ:=R.aN.f1;have xX:=R.aN.c2;have xW:=R.aN.f2;have xY:=R.aN.c3;have xe:=R.aN.f3;generalize hu1:M.pn (M.bL a b X E 0)=u1 at *;generalize hu2:M.pd (M.bL a b X E 0)=u2 at *;generalize hu3:M.pn (M.bH a b X E 0)=u3 at *;generalize Jp:M.pd (M.bH a b X E 0)=u4 at *;replace hu1:=xL hu1;replace hu2:=xL hu2;replace hu3:=xL hu3;replace Jp:=xL Jp;go_enter Tryz.func63,Tryz.ntmps63
 go_wp2_with (go_at_call 60;(with_reducible refine (P0.out _).mono ?_);rintro e w4 ⟨rfl,hb4⟩;replace C:=C.keep hb4;replace R:=R.keep hb4;replace B:=d_ B hb4;replace Q:=Q.keep hb4;have Eu:=xL R.lt;replace Q:=Q.alloc (.cells #[.int .i64 u1,.int .i64 u2,.int .i64 u3,.int .i64 u4] 33);have T:=aH.new w4 #[.int .i64 u1,.int .i64 u2,.int .i64 u3,.int .i64 u4] 33;have b_:=bA w4 (.cells #[.int .i64 u1,.int .i64 u2,.int .i64 u3,.int .i64 u4] 33);replace C:=C.keep b_;replace R:=R.keep b_;replace B:=d_ B b_;clear b_;(replace ⟨f_,i_⟩:=C.b2);(replace ⟨xT,xU,xX,xY,t_,xQ,xW,xe⟩:=R.yF);(replace ⟨yJ,yK,Bl,Bo⟩:=T.b4))
 go_loopw [9] (fun vi wr=>∃ k:Nat,k≤5∧vi=.int .i64 k∧Hid (M.C1 a b X E (5 - k) k=M.bN a b X E)∧Hid (M.aM (M.bL a b X E k) (M.bH a b X E k)=true)∧aH wr w4.heap.size 33 #[.int .i64 (M.pn (M.bL a b X E k)),.int .i64 (M.pd (M.bL a b X E k)),.int .i64 (M.pn (M.bH a b X E k)),.int .i64 (M.pd (M.bH a b X E k))]∧aH wr w.heap.size 25 #[.int .i64 a,.int .i64 b]∧aH wr (w.heap.size+1) 27 #[.int .i64 X,.int .i64 Y,.int .i64 E]∧aH wr (w.heap.size+1+1) 33 #[.int .i64 0,.int .i64 0,.int .i64 0,.int .i64 0]∧Below w.heap.size w wr) (fun vi _=>5 - (intOf vi).toNat)
 case atStart=>exact ⟨0,by omega,rfl,xL rfl,hs0,by rw [hu1.out,hu2.out,hu3.out,Jp.out];exact T,C,Q,R,B⟩
 case round=>
 clear C Q R B T P0 f_ i_ xT xU xX xY t_ xQ xW xe yJ yK Bl Bo q0 q1 q2 hu1 hu2 hu3 Jp hs0;have hR9:=Eu.out;obtain ⟨k,hk,rfl,hN,hsk,T,C,Q,R,B⟩:=hrel;have eL:M.bL a b X E (k+1)=max (M.bL a b X E k) (M.hL (M.hC a b) (k+1) (M.ai a b X E (k+1))):=rfl;have eH:M.bH a b X E (k+1)=min (M.bH a b X E k) (M.hH (M.hC a b) (k+1) (M.ai a b X E (k+1))):=rfl;have eL:=xL eL;have eH:=xL eH;generalize hbk:M.bL a b X E k=bl at *;generalize Bv:M.bH a b X E k=bh at *;replace hbk:=xL hbk;replace Bv:=xL Bv;have f_:=C.box.c0;have i_:=C.box.c1;have ⟨q0,q1,q2⟩:=Q.aK;have yJ:=T.aN.c0;have yK:=T.aN.c1;have Bl:=T.aN.c2;have Bo:=T.aN.c3;have CR:=T.aN.f0;have CS:=T.aN.f1;have Ef:=T.aN.f2;have Eg:=T.aN.f3;have xT:=R.aN.c0;have xU:=R.aN.c1;have xX:=R.aN.c2;have xY:=R.aN.c3;have t_:=R.aN.f0;have xQ:=R.aN.f1;have xW:=R.aN.f2;have xe:=R.aN.f3
 by_cases hlt:k<5
 ·have P1:=fun W=>PK.out (k+1) W (by omega)
  have hNs:M.C1 a b X E (5 - k) k=if M.isOk (M.ai a b X E (k+1))=true then M.C1 a b X E (5 - (k+1)) (k+1) else k:=by
   rw [show 5 - k=(5 - (k+1))+1 by omega];rfl
  have hsn:=hss.out (k+1) (by omega);generalize M.hH (M.hC a b) (k+1) (M.ai a b X E (k+1))=hh,M.hL (M.hC a b) (k+1) (M.ai a b X E (k+1))=hl at *;have hk1:=xL (show ((k+1:Nat):Int)=(k:Int)+1 by omega);rw [hk1.out] at P1
  cases hok:M.isOk (M.ai a b X E (k+1)) with
  | false=>
   rw [hok,if_neg (by decide)] at hNs;have DH:=xL (show M.bN a b X E=k by rw [←hN.out,hNs]);rw [hok] at P1;simp only [M.fc] at P1;have EV:=xL (show M.zR a b X E=true by unfold M.zR;rw [DH.out,hbk.out,Bv.out];exact hsk.out);clear hNs hok hN eL eH hsn;have P1:=xL P1;generalize DQ:M.pn (bl)=t1 at *;replace DQ:=xL DQ;generalize DR:M.pd (bl)=t2 at *;replace DR:=xL DR;generalize DS:M.pn (bh)=t3 at *;replace DS:=xL DS;generalize DT:M.pd (bh)=t4 at *;replace DT:=xL DT
   go_wp2_with (go_at_call 60;(with_reducible refine (P1.out _).mono ?_);rintro e w5 ⟨rfl,hb5⟩;replace C:=C.keep hb5;replace R:=R.keep hb5;replace T:=T.keep hb5;replace B:=d_ B hb5;replace Q:=Q.keep hb5;replace Q:=Q.alloc (.cells #[.int .i64 0,.int .i64 0,.int .i64 0,.int .i64 0] 33);have S:=aH.new w5 #[.int .i64 0,.int .i64 0,.int .i64 0,.int .i64 0] 33;have b_:=bA w5 (.cells #[.int .i64 0,.int .i64 0,.int .i64 0,.int .i64 0] 33);replace C:=C.keep b_;replace R:=R.keep b_;replace T:=T.keep b_;replace B:=d_ B b_;clear b_;(replace ⟨f_,i_⟩:=C.b2);(replace ⟨xT,xU,xX,xY,t_,xQ,xW,xe⟩:=R.yF);(replace ⟨yJ,yK,Bl,Bo⟩:=T.b4);(replace ⟨A5,A6,Ed,Ee⟩:=S.b4))
   exact bodyPost_ret (v:=.tuple #[.agg #[.int .i64 t1,.int .i64 t2,.int .i64 t3,.int .i64 t4],.int .i64 (k:Int),.bool true]) (by simp [results,Tryz.results63,go_sem, *]) rfl (⟨by rw [DH.out,EV.out,hbk.out,Bv.out,DQ.out,DR.out,DS.out,DT.out];simp only [M.dS],xN (xN (xN (xN B (by simp <;> omega) _) (by simp <;> omega) _) (by simp <;> omega) _) (by simp <;> omega) _⟩)
  | true=>
  rw [hok,if_pos rfl] at hNs;have Jf:=xL (hNs.symm.trans hN.out);rw [hok] at P1;simp only [M.dS] at P1
  have PC:=fun W=>kZ bl bh hl hh W hsk.out hsn
  clear hNs hok hN;have P1:=xL P1;have hse:=xL (show M.aM (M.bL a b X E (k+1)) (M.bH a b X E (k+1))=M.aM (max bl hl) (min bh hh) by rw [eL.out,eH.out])
  cases hs:M.aM (max bl hl) (min bh hh) with
  | false=>
   have EV:=xL (show M.zR a b X E=false from hno.out (k+1) (by have:=M.rA (a:=a) (b:=b) (X:=X) (E:=E) (5 - (k+1)) (k+1);rw [Jf.out] at this;exact this) (by rw [hse.out];exact hs));rw [hs] at PC;simp only [M.fc] at PC;clear hs hse;have PC:=xL PC;generalize DQ:M.pn (bl)=t1 at *;replace DQ:=xL DQ;generalize DR:M.pd (bl)=t2 at *;replace DR:=xL DR;generalize DS:M.pn (bh)=t3 at *;replace DS:=xL DS;generalize DT:M.pd (bh)=t4 at *;replace DT:=xL DT;generalize JW:M.pn (hl)=y1 at *;replace JW:=xL JW;generalize JX:M.pd (hl)=y2 at *;replace JX:=xL JX;generalize JY:M.pn (hh)=y3 at *;replace JY:=xL JY;generalize JZ:M.pd (hh)=y4 at *;replace JZ:=xL JZ
   go_wp2_with (first
    | (go_at_call 60;(with_reducible refine (P1.out _).mono ?_);rintro e w5 ⟨rfl,hb5⟩;replace C:=C.keep hb5;replace R:=R.keep hb5;replace T:=T.keep hb5;replace B:=d_ B hb5;replace Q:=Q.keep hb5;replace Q:=Q.alloc (.cells #[.int .i64 y1,.int .i64 y2,.int .i64 y3,.int .i64 y4] 33);have S:=aH.new w5 #[.int .i64 y1,.int .i64 y2,.int .i64 y3,.int .i64 y4] 33;have b_:=bA w5 (.cells #[.int .i64 y1,.int .i64 y2,.int .i64 y3,.int .i64 y4] 33);replace C:=C.keep b_;replace R:=R.keep b_;replace T:=T.keep b_;replace B:=d_ B b_;clear b_;(replace ⟨f_,i_⟩:=C.b2);(replace ⟨xT,xU,xX,xY,t_,xQ,xW,xe⟩:=R.yF);(replace ⟨yJ,yK,Bl,Bo,CR,CS,Ef,Eg⟩:=T.yF);(replace ⟨A5,A6,Ed,Ee⟩:=S.b4))
    | (go_at_call 120;(with_reducible refine (PC.out _).mono ?_);rintro e w6 ⟨rfl,hb6⟩;replace C:=C.keep hb6;replace R:=R.keep hb6;replace T:=T.keep hb6;replace S:=S.keep hb6;replace B:=d_ B hb6;replace Q:=Q.keep hb6;replace Q:=Q.alloc (.cells #[.int .i64 0,.int .i64 0,.int .i64 0,.int .i64 0] 33);have O:=aH.new w6 #[.int .i64 0,.int .i64 0,.int .i64 0,.int .i64 0] 33;have b_:=bA w6 (.cells #[.int .i64 0,.int .i64 0,.int .i64 0,.int .i64 0] 33);replace C:=C.keep b_;replace R:=R.keep b_;replace T:=T.keep b_;replace S:=S.keep b_;replace B:=d_ B b_;clear b_;(replace ⟨f_,i_⟩:=C.b2);(replace ⟨xT,xU,xX,xY,t_,xQ,xW,xe⟩:=R.yF);(replace ⟨yJ,yK,Bl,Bo,CR,CS,Ef,Eg⟩:=T.yF);(replace ⟨A5,A6,Ed,Ee⟩:=S.b4);(replace ⟨AD,AE,AF,AG⟩:=O.b4)))
   exact bodyPost_ret (v:=.tuple #[.agg #[.int .i64 0,.int .i64 0,.int .i64 0,.int .i64 0],.int .i64 0,.bool false]) (by simp [results,Tryz.results63,go_sem, *]) rfl (⟨by rw [EV.out];simp only [M.fc],xN (xN (xN (xN B (by simp <;> omega) _) (by simp <;> omega) _) (by simp <;> omega) _) (by simp <;> omega) _⟩)
  | true=>
  have hs2:=xL (hse.out.trans hs);rw [hs] at PC;simp only [M.dS] at PC;clear hs hse;have PC:=xL PC;generalize DQ:M.pn (bl)=t1 at *;replace DQ:=xL DQ;generalize DR:M.pd (bl)=t2 at *;replace DR:=xL DR;generalize DS:M.pn (bh)=t3 at *;replace DS:=xL DS;generalize DT:M.pd (bh)=t4 at *;replace DT:=xL DT;generalize JW:M.pn (hl)=y1 at *;replace JW:=xL JW;generalize JX:M.pd (hl)=y2 at *;replace JX:=xL JX;generalize JY:M.pn (hh)=y3 at *;replace JY:=xL JY;generalize JZ:M.pd (hh)=y4 at *;replace JZ:=xL JZ;generalize Oe:M.pn (max bl hl)=z1 at *;replace Oe:=xL Oe;generalize Of:M.pd (max bl hl)=z2 at *;replace Of:=xL Of;generalize Og:M.pn (min bh hh)=z3 at *;replace Og:=xL Og;generalize Oh:M.pd (min bh hh)=z4 at *;replace Oh:=xL Oh
  go_wp2_with (first
   | (go_at_call 60;(with_reducible refine (P1.out _).mono ?_);rintro e w5 ⟨rfl,hb5⟩;replace C:=C.keep hb5;replace R:=R.keep hb5;replace T:=T.keep hb5;replace B:=d_ B hb5;replace Q:=Q.keep hb5;replace Q:=Q.alloc (.cells #[.int .i64 y1,.int .i64 y2,.int .i64 y3,.int .i64 y4] 33);have S:=aH.new w5 #[.int .i64 y1,.int .i64 y2,.int .i64 y3,.int .i64 y4] 33;have b_:=bA w5 (.cells #[.int .i64 y1,.int .i64 y2,.int .i64 y3,.int .i64 y4] 33);replace C:=C.keep b_;replace R:=R.keep b_;replace T:=T.keep b_;replace B:=d_ B b_;clear b_;(replace ⟨f_,i_⟩:=C.b2);(replace ⟨xT,xU,xX,xY,t_,xQ,xW,xe⟩:=R.yF);(replace ⟨yJ,yK,Bl,Bo,CR,CS,Ef,Eg⟩:=T.yF);(replace ⟨A5,A6,Ed,Ee⟩:=S.b4))
   | (go_at_call 120;(with_reducible refine (PC.out _).mono ?_);rintro e w6 ⟨rfl,hb6⟩;replace C:=C.keep hb6;replace R:=R.keep hb6;replace T:=T.keep hb6;replace S:=S.keep hb6;replace B:=d_ B hb6;replace Q:=Q.keep hb6;replace Q:=Q.alloc (.cells #[.int .i64 z1,.int .i64 z2,.int .i64 z3,.int .i64 z4] 33);have O:=aH.new w6 #[.int .i64 z1,.int .i64 z2,.int .i64 z3,.int .i64 z4] 33;have b_:=bA w6 (.cells #[.int .i64 z1,.int .i64 z2,.int .i64 z3,.int .i64 z4] 33);replace C:=C.keep b_;replace R:=R.keep b_;replace T:=T.keep b_;replace S:=S.keep b_;replace B:=d_ B b_;clear b_;(replace ⟨f_,i_⟩:=C.b2);(replace ⟨xT,xU,xX,xY,t_,xQ,xW,xe⟩:=R.yF);(replace ⟨yJ,yK,Bl,Bo,CR,CS,Ef,Eg⟩:=T.yF);(replace ⟨A5,A6,Ed,Ee⟩:=S.b4);(replace ⟨AD,AE,AF,AG⟩:=O.b4)))
  go_roundw
  case rel=>exact ⟨k+1,by omega,by go_num,Jf,hs2,by rw [eL.out,eH.out,Oe.out,Of.out,Og.out,Oh.out];exact aH.uG T _ _ _ _,(((C.other (show w.heap.size≠w4.heap.size by omega) _).other (show w.heap.size≠w4.heap.size by omega) _).other (show w.heap.size≠w4.heap.size by omega) _).other (show w.heap.size≠w4.heap.size by omega) _,(((Q.other (show w.heap.size+1≠w4.heap.size by omega) _).other (show w.heap.size+1≠w4.heap.size by omega) _).other (show w.heap.size+1≠w4.heap.size by omega) _).other (show w.heap.size+1≠w4.heap.size by omega) _,(((R.other (show w.heap.size+1+1≠w4.heap.size by omega) _).other (show w.heap.size+1+1≠w4.heap.size by omega) _).other (show w.heap.size+1+1≠w4.heap.size by omega) _).other (show w.heap.size+1+1≠w4.heap.size by omega) _,xN (xN (xN (xN B (by simp <;> omega) _) (by simp <;> omega) _) (by simp <;> omega) _) (by simp <;> omega) _⟩
  case measure=>simp [intOf] <;> omega
 obtain rfl:k=5:=by omega
 have DH:=xL (show M.bN a b X E=5 by rw [←hN.out];rfl);have EV:=xL (show M.zR a b X E=true by unfold M.zR;rw [DH.out,hbk.out,Bv.out];exact hsk.out);clear hN PK eL eH
 obtain ⟨k,hk5⟩:∃ k:Nat,k=5:=⟨5,rfl⟩
 rw [←hk5] at DH hbk Bv;have GT:=xL (show (k:Int)=5 by omega);clear hk5;generalize DQ:M.pn (bl)=t1 at *;replace DQ:=xL DQ;generalize DR:M.pd (bl)=t2 at *;replace DR:=xL DR;generalize DS:M.pn (bh)=t3 at *;replace DS:=xL DS;generalize DT:M.pd (bh)=t4 at *;replace DT:=xL DT;go_wp2;exact bodyPost_ret (v:=.tuple #[.agg #[.int .i64 t1,.int .i64 t2,.int .i64 t3,.int .i64 t4],.int .i64 5,.bool true]) (by simp [results,Tryz.results63,go_sem, *]) rfl (⟨by rw [DH.out,EV.out,GT.out,hbk.out,Bv.out,DQ.out,DR.out,DS.out,DT.out];simp only [M.dS],xN (xN (xN (xN B (by simp <;> omega) _) (by simp <;> omega) _) (by simp <;> omega) _) (by simp <;> omega) _⟩)
theorem nu (a b X Y E:Int) (w:World) (hg:M.good a b=true) (hX1:-10000≤X) (hX2:X≤10000) (hE1:0≤E) (hE2:E≤20) :
  Calls Tryz.prog 94 #[.agg #[.int .i64 a,.int .i64 b],.agg #[.int .i64 X,.int .i64 Y,.int .i64 E]] w fun e w'=>e=.returned (.tuple #[.agg #[.int .i64 (M.pick (M.zR a b X E) (M.pn (M.bL a b X E (M.bN a b X E)))),.int .i64 (M.pick (M.zR a b X E) (M.pd (M.bL a b X E (M.bN a b X E)))),.int .i64 (M.pick (M.zR a b X E) (M.pn (M.bH a b X E (M.bN a b X E)))),.int .i64 (M.pick (M.zR a b X E) (M.pd (M.bH a b X E (M.bN a b X E))))],.bool (M.zR a b X E)])∧Below w.heap.size w w':=by
 have P1:=fun W=>mH a b X Y E W hg hX1 hX2 hE1 hE2
 generalize M.pick (M.zR a b X E) (M.pd (M.bH a b X E (M.bN a b X E)))=p4,M.pick (M.zR a b X E) (M.pn (M.bH a b X E (M.bN a b X E)))=p3,M.pick (M.zR a b X E) (M.pd (M.bL a b X E (M.bN a b X E)))=p2,M.pick (M.zR a b X E) (M.pn (M.bL a b X E (M.bN a b X E)))=p1 at *;generalize M.pick (M.zR a b X E) ((M.bN a b X E:Nat):Int)=nn at *;generalize M.zR a b X E=s at *;have P1:=xL P1;have C:=((aH.new w #[.int .i64 a,.int .i64 b] 25).alloc (.cells #[.int .i64 X,.int .i64 Y,.int .i64 E] 27)).alloc (.cells #[.int .i64 0,.int .i64 0,.int .i64 0,.int .i64 0] 33);have Q:=(aH.new (w.alloc (.cells #[.int .i64 a,.int .i64 b] 25)) #[.int .i64 X,.int .i64 Y,.int .i64 E] 27).alloc (.cells #[.int .i64 0,.int .i64 0,.int .i64 0,.int .i64 0] 33);rw [xM] at Q;have R:=aH.new ((w.alloc (.cells #[.int .i64 a,.int .i64 b] 25)).alloc (.cells #[.int .i64 X,.int .i64 Y,.int .i64 E] 27)) #[.int .i64 0,.int .i64 0,.int .i64 0,.int .i64 0] 33;rw [xM,xM] at R;have B:=(((xO w.heap.size w).alloc (xP _) (.cells #[.int .i64 a,.int .i64 b] 25)).alloc (by rw [xM];omega) (.cells #[.int .i64 X,.int .i64 Y,.int .i64 E] 27)).alloc (by rw [xM,xM];omega) (.cells #[.int .i64 0,.int .i64 0,.int .i64 0,.int .i64 0] 33);generalize hw3:((w.alloc (.cells #[.int .i64 a,.int .i64 b] 25)).alloc (.cells #[.int .i64 X,.int .i64 Y,.int .i64 E] 27)).alloc (.cells #[.int .i64 0,.int .i64 0,.int .i64 0,.int .i64 0] 33)=wc at *;have ⟨q0,q1,q2⟩:=Q.aK;have f_:=C.box.c0;have i_:=C.box.c1;go_enter Tryz.func94,Tryz.ntmps94
 go_wp2_with (go_at_call 63;(with_reducible refine (P1.out _).mono ?_);rintro e w4 ⟨rfl,hb4⟩;replace C:=C.keep hb4;replace R:=R.keep hb4;replace B:=d_ B hb4;have T:=aH.new w4 #[.int .i64 p1,.int .i64 p2,.int .i64 p3,.int .i64 p4] 33;have b_:=bA w4 (.cells #[.int .i64 p1,.int .i64 p2,.int .i64 p3,.int .i64 p4] 33);replace C:=C.keep b_;replace R:=R.keep b_;replace B:=d_ B b_;clear b_;(replace ⟨f_,i_⟩:=C.b2);(replace ⟨xT,xU,xX,xY,t_,xQ,xW,xe⟩:=R.yF);(replace ⟨yJ,yK,Bl,Bo⟩:=T.b4))
 exact bodyPost_ret (v:=.tuple #[.agg #[.int .i64 p1,.int .i64 p2,.int .i64 p3,.int .i64 p4],.bool s]) (by simp [results,Tryz.results94,go_sem, *]) rfl (⟨rfl,xN (xN (xN (xN B (by simp <;> omega) _) (by simp <;> omega) _) (by simp <;> omega) _) (by simp <;> omega) _⟩)
end
end Go.Proofs.YtggekfbfechonaaGreat
