/-
  Joined texts: contracts and plain lemmas.
-/
import Derived.Test.YtgfkcoablfjbcaaGreatU1
import Derived.Test.YtgfkcoablfjbcaaGreatU8
import Derived.Test.YtgfkcoablfjbcaaGreatU5
set_option linter.unusedSimpArgs false
set_option linter.unusedVariables false
set_option maxRecDepth 100000
set_option maxHeartbeats 8000000
namespace Go.Proofs.YtgfkcoablfjbcaaGreat
section
open Go.RowKit
theorem M.xI {a b:Int} (h:(M.zp a 4096).isSome=false∨(M.zp b 4096).isSome=false):M.aN a b=false:=by
 cases hs:M.aN a b with
 | false=>rfl
 | true=>
 obtain ⟨h1,h2,h3⟩:=M.bw hs;rw [M.bM (by omega) (by omega),M.bM (by omega) (by omega)] at h;simp at h
theorem fw (a b:Int) (w:World) (h1:-4000000000000000000≤a) (h2:a≤4000000000000000000) (h3:-4000000000000000000≤b) (h4:b≤4000000000000000000) :
  Calls Tryz.prog 92 #[.int .i64 a,.int .i64 b] w fun e w'=>e=.returned (.tuple #[.agg #[.int .i64 (M.pick (M.aN (a) (b)) (M.pn (a))),.int .i64 (M.pick (M.aN (a) (b)) (M.pd (a))),.int .i64 (M.pick (M.aN (a) (b)) (M.pn (b))),.int .i64 (M.pick (M.aN (a) (b)) (M.pd (b)))],.bool (M.aN (a) (b))])∧Below w.heap.size w w':=by
 have P1:=fun W=>nZ a 4096 W h1 h2 (by omega) (by omega) (by omega)
 have P2:=fun W=>nZ b 4096 W h3 h4 (by omega) (by omega) (by omega)
 have PG:=fun W (q1:(M.zp a 4096).isSome=true) (q2:(M.zp b 4096).isSome=true)=>kI a b W q1 q2
 have hno:=@M.xI a b;have e1:=yI (show M.pn a=M.fN (M.zp a 4096) from rfl);have e2:=yI (show M.pd a=M.fD (M.zp a 4096) from rfl);have e3:=yI (show M.pn b=M.fN (M.zp b 4096) from rfl);have e4:=yI (show M.pd b=M.fD (M.zp b 4096) from rfl);rw [e1.out,e2.out,e3.out,e4.out] at PG ⊢;clear e1 e2 e3 e4;generalize M.fD (M.zp b 4096)=p4,M.fN (M.zp b 4096)=p3,M.fD (M.zp a 4096)=p2,M.fN (M.zp a 4096)=p1,(M.zp b 4096).isSome=o2,(M.zp a 4096).isSome=o1 at *;replace P1:=yI P1;replace P2:=yI P2;have R:=aH.new w #[.int .i64 0,.int .i64 0,.int .i64 0,.int .i64 0] 64;have B:=(yL w.heap.size w).alloc (yM _) (.cells #[.int .i64 0,.int .i64 0,.int .i64 0,.int .i64 0] 64);generalize hw3:w.alloc (.cells #[.int .i64 0,.int .i64 0,.int .i64 0,.int .i64 0] 64)=wc at *
 cases o1 with
 | false=>
  rw [hno (Or.inl rfl)];clear hno PG;go_enter Tryz.func92,Tryz.ntmps92
  go_wp2_with (first
   | (go_at_call 107;(with_reducible refine (P1.out _).mono ?_);rintro e w4 ⟨rfl,hb4⟩;replace R:=R.keep hb4;replace B:=f_ B hb4;have F:=aH.new w4 #[.int .i64 p1,.int .i64 p2] 45;have b_:=bA w4 (.cells #[.int .i64 p1,.int .i64 p2] 45);replace R:=R.keep b_;replace B:=f_ B b_;clear b_;(replace ⟨p_,r_,yO,yP,t_,x_,yQ,yR⟩:=R.yk);(replace ⟨BN,BO⟩:=F.b2))
   | (go_at_call 107;(with_reducible refine (P2.out _).mono ?_);rintro e w5 ⟨rfl,hb5⟩;replace R:=R.keep hb5;replace F:=F.keep hb5;replace B:=f_ B hb5;have G:=aH.new w5 #[.int .i64 p3,.int .i64 p4] 45;have b_:=bA w5 (.cells #[.int .i64 p3,.int .i64 p4] 45);replace R:=R.keep b_;replace F:=F.keep b_;replace B:=f_ B b_;clear b_;(replace ⟨p_,r_,yO,yP,t_,x_,yQ,yR⟩:=R.yk);(replace ⟨BN,BO⟩:=F.b2);(replace ⟨DM,DN⟩:=G.b2);have O:=aH.new (w5.alloc (.cells #[.int .i64 p3,.int .i64 p4] 45)) #[.int .i64 p1,.int .i64 p2,.int .i64 p3,.int .i64 p4] 64;have b_:=bA (w5.alloc (.cells #[.int .i64 p3,.int .i64 p4] 45)) (.cells #[.int .i64 p1,.int .i64 p2,.int .i64 p3,.int .i64 p4] 64);replace R:=R.keep b_;replace F:=F.keep b_;replace G:=G.keep b_;replace B:=f_ B b_;clear b_;(rw [yJ] at O);have AU:=O.aM.c0;have AV:=O.aM.c1;have AW:=O.aM.c2;have AX:=O.aM.c3;have p_:=R.aM.c0;have r_:=R.aM.c1;have yO:=R.aM.c2;have yP:=R.aM.c3;have t_:=R.aM.f0;have x_:=R.aM.f1;have yQ:=R.aM.f2;have yR:=R.aM.f3))
  exact bodyPost_ret (v:=.tuple #[.agg #[.int .i64 0,.int .i64 0,.int .i64 0,.int .i64 0],.bool false]) (by simp [results,Tryz.results92,go_sem, *]) rfl (⟨rfl,yK (yK (yK (yK B (by simp <;> omega) _) (by simp <;> omega) _) (by simp <;> omega) _) (by simp <;> omega) _⟩)
 | true=>
 cases o2 with
 | false=>
  rw [hno (Or.inr rfl)];clear hno PG;go_enter Tryz.func92,Tryz.ntmps92
  go_wp2_with (first
   | (go_at_call 107;(with_reducible refine (P1.out _).mono ?_);rintro e w4 ⟨rfl,hb4⟩;replace R:=R.keep hb4;replace B:=f_ B hb4;have F:=aH.new w4 #[.int .i64 p1,.int .i64 p2] 45;have b_:=bA w4 (.cells #[.int .i64 p1,.int .i64 p2] 45);replace R:=R.keep b_;replace B:=f_ B b_;clear b_;(replace ⟨p_,r_,yO,yP,t_,x_,yQ,yR⟩:=R.yk);(replace ⟨BN,BO⟩:=F.b2))
   | (go_at_call 107;(with_reducible refine (P2.out _).mono ?_);rintro e w5 ⟨rfl,hb5⟩;replace R:=R.keep hb5;replace F:=F.keep hb5;replace B:=f_ B hb5;have G:=aH.new w5 #[.int .i64 p3,.int .i64 p4] 45;have b_:=bA w5 (.cells #[.int .i64 p3,.int .i64 p4] 45);replace R:=R.keep b_;replace F:=F.keep b_;replace B:=f_ B b_;clear b_;(replace ⟨p_,r_,yO,yP,t_,x_,yQ,yR⟩:=R.yk);(replace ⟨BN,BO⟩:=F.b2);(replace ⟨DM,DN⟩:=G.b2);have O:=aH.new (w5.alloc (.cells #[.int .i64 p3,.int .i64 p4] 45)) #[.int .i64 p1,.int .i64 p2,.int .i64 p3,.int .i64 p4] 64;have b_:=bA (w5.alloc (.cells #[.int .i64 p3,.int .i64 p4] 45)) (.cells #[.int .i64 p1,.int .i64 p2,.int .i64 p3,.int .i64 p4] 64);replace R:=R.keep b_;replace F:=F.keep b_;replace G:=G.keep b_;replace B:=f_ B b_;clear b_;(rw [yJ] at O);have AU:=O.aM.c0;have AV:=O.aM.c1;have AW:=O.aM.c2;have AX:=O.aM.c3;have p_:=R.aM.c0;have r_:=R.aM.c1;have yO:=R.aM.c2;have yP:=R.aM.c3;have t_:=R.aM.f0;have x_:=R.aM.f1;have yQ:=R.aM.f2;have yR:=R.aM.f3))
  exact bodyPost_ret (v:=.tuple #[.agg #[.int .i64 0,.int .i64 0,.int .i64 0,.int .i64 0],.bool false]) (by simp [results,Tryz.results92,go_sem, *]) rfl (⟨rfl,yK (yK (yK (yK B (by simp <;> omega) _) (by simp <;> omega) _) (by simp <;> omega) _) (by simp <;> omega) _⟩)
 | true=>
 have E7:=fun W=>PG W rfl rfl
 clear PG hno
 cases hs:M.aN a b with
 | true=>
  rw [hs] at E7;replace E7:=yI E7;clear hs;go_enter Tryz.func92,Tryz.ntmps92
  go_wp2_with (first
   | (go_at_call 107;(with_reducible refine (P1.out _).mono ?_);rintro e w4 ⟨rfl,hb4⟩;replace R:=R.keep hb4;replace B:=f_ B hb4;have F:=aH.new w4 #[.int .i64 p1,.int .i64 p2] 45;have b_:=bA w4 (.cells #[.int .i64 p1,.int .i64 p2] 45);replace R:=R.keep b_;replace B:=f_ B b_;clear b_;(replace ⟨p_,r_,yO,yP,t_,x_,yQ,yR⟩:=R.yk);(replace ⟨BN,BO⟩:=F.b2))
   | (go_at_call 107;(with_reducible refine (P2.out _).mono ?_);rintro e w5 ⟨rfl,hb5⟩;replace R:=R.keep hb5;replace F:=F.keep hb5;replace B:=f_ B hb5;have G:=aH.new w5 #[.int .i64 p3,.int .i64 p4] 45;have b_:=bA w5 (.cells #[.int .i64 p3,.int .i64 p4] 45);replace R:=R.keep b_;replace F:=F.keep b_;replace B:=f_ B b_;clear b_;(replace ⟨p_,r_,yO,yP,t_,x_,yQ,yR⟩:=R.yk);(replace ⟨BN,BO⟩:=F.b2);(replace ⟨DM,DN⟩:=G.b2);have O:=aH.new (w5.alloc (.cells #[.int .i64 p3,.int .i64 p4] 45)) #[.int .i64 p1,.int .i64 p2,.int .i64 p3,.int .i64 p4] 64;have b_:=bA (w5.alloc (.cells #[.int .i64 p3,.int .i64 p4] 45)) (.cells #[.int .i64 p1,.int .i64 p2,.int .i64 p3,.int .i64 p4] 64);replace R:=R.keep b_;replace F:=F.keep b_;replace G:=G.keep b_;replace B:=f_ B b_;clear b_;(rw [yJ] at O);have AU:=O.aM.c0;have AV:=O.aM.c1;have AW:=O.aM.c2;have AX:=O.aM.c3;have p_:=R.aM.c0;have r_:=R.aM.c1;have yO:=R.aM.c2;have yP:=R.aM.c3;have t_:=R.aM.f0;have x_:=R.aM.f1;have yQ:=R.aM.f2;have yR:=R.aM.f3)
   | (go_at_call 108;(with_reducible refine (E7.out _).mono ?_);rintro e w6 ⟨rfl,hb6⟩;replace R:=R.keep hb6;replace F:=F.keep hb6;replace G:=G.keep hb6;replace O:=O.keep hb6;replace B:=f_ B hb6;(replace ⟨p_,r_,yO,yP,t_,x_,yQ,yR⟩:=R.yk);(replace ⟨BN,BO⟩:=F.b2);(replace ⟨DM,DN⟩:=G.b2);(replace ⟨AU,AV,AW,AX⟩:=O.b4)))
  exact bodyPost_ret (v:=.tuple #[.agg #[.int .i64 p1,.int .i64 p2,.int .i64 p3,.int .i64 p4],.bool true]) (by simp [results,Tryz.results92,go_sem, *]) rfl (⟨rfl,yK (yK (yK (yK B (by simp <;> omega) _) (by simp <;> omega) _) (by simp <;> omega) _) (by simp <;> omega) _⟩)
 | false=>
 rw [hs] at E7;replace E7:=yI E7;clear hs;go_enter Tryz.func92,Tryz.ntmps92
 go_wp2_with (first
  | (go_at_call 107;(with_reducible refine (P1.out _).mono ?_);rintro e w4 ⟨rfl,hb4⟩;replace R:=R.keep hb4;replace B:=f_ B hb4;have F:=aH.new w4 #[.int .i64 p1,.int .i64 p2] 45;have b_:=bA w4 (.cells #[.int .i64 p1,.int .i64 p2] 45);replace R:=R.keep b_;replace B:=f_ B b_;clear b_;(replace ⟨p_,r_,yO,yP,t_,x_,yQ,yR⟩:=R.yk);(replace ⟨BN,BO⟩:=F.b2))
  | (go_at_call 107;(with_reducible refine (P2.out _).mono ?_);rintro e w5 ⟨rfl,hb5⟩;replace R:=R.keep hb5;replace F:=F.keep hb5;replace B:=f_ B hb5;have G:=aH.new w5 #[.int .i64 p3,.int .i64 p4] 45;have b_:=bA w5 (.cells #[.int .i64 p3,.int .i64 p4] 45);replace R:=R.keep b_;replace F:=F.keep b_;replace B:=f_ B b_;clear b_;(replace ⟨p_,r_,yO,yP,t_,x_,yQ,yR⟩:=R.yk);(replace ⟨BN,BO⟩:=F.b2);(replace ⟨DM,DN⟩:=G.b2);have O:=aH.new (w5.alloc (.cells #[.int .i64 p3,.int .i64 p4] 45)) #[.int .i64 p1,.int .i64 p2,.int .i64 p3,.int .i64 p4] 64;have b_:=bA (w5.alloc (.cells #[.int .i64 p3,.int .i64 p4] 45)) (.cells #[.int .i64 p1,.int .i64 p2,.int .i64 p3,.int .i64 p4] 64);replace R:=R.keep b_;replace F:=F.keep b_;replace G:=G.keep b_;replace B:=f_ B b_;clear b_;(rw [yJ] at O);have AU:=O.aM.c0;have AV:=O.aM.c1;have AW:=O.aM.c2;have AX:=O.aM.c3;have p_:=R.aM.c0;have r_:=R.aM.c1;have yO:=R.aM.c2;have yP:=R.aM.c3;have t_:=R.aM.f0;have x_:=R.aM.f1;have yQ:=R.aM.f2;have yR:=R.aM.f3)
  | (go_at_call 108;(with_reducible refine (E7.out _).mono ?_);rintro e w6 ⟨rfl,hb6⟩;replace R:=R.keep hb6;replace F:=F.keep hb6;replace G:=G.keep hb6;replace O:=O.keep hb6;replace B:=f_ B hb6;(replace ⟨p_,r_,yO,yP,t_,x_,yQ,yR⟩:=R.yk);(replace ⟨BN,BO⟩:=F.b2);(replace ⟨DM,DN⟩:=G.b2);(replace ⟨AU,AV,AW,AX⟩:=O.b4)))
 exact bodyPost_ret (v:=.tuple #[.agg #[.int .i64 0,.int .i64 0,.int .i64 0,.int .i64 0],.bool false]) (by simp [results,Tryz.results92,go_sem, *]) rfl (⟨rfl,yK (yK (yK (yK B (by simp <;> omega) _) (by simp <;> omega) _) (by simp <;> omega) _) (by simp <;> omega) _⟩)
theorem uz (a b c d:Int) (w:World) (hab:M.aN a b=true) (hcd:M.aN c d=true) :
  Calls Tryz.prog 71 #[.agg #[.int .i64 (M.pn a),.int .i64 (M.pd a),.int .i64 (M.pn b),.int .i64 (M.pd b)],.agg #[.int .i64 (M.pn c),.int .i64 (M.pd c),.int .i64 (M.pn d),.int .i64 (M.pd d)]] w fun e w'=>e=.returned (.tuple #[.agg #[.int .i64 (M.pick (M.aN (a+c) (b+d)) (M.pn (a+c))),.int .i64 (M.pick (M.aN (a+c) (b+d)) (M.pd (a+c))),.int .i64 (M.pick (M.aN (a+c) (b+d)) (M.pn (b+d))),.int .i64 (M.pick (M.aN (a+c) (b+d)) (M.pd (b+d)))],.bool (M.aN (a+c) (b+d))])∧Below w.heap.size w w':=by
 obtain ⟨ab,a1,b1⟩:=M.bw hab;obtain ⟨cd,c1,d1⟩:=M.bw hcd
 have E1:=fun W=>dm a b W (M.bM (by omega) (by omega)) (M.bM (by omega) (by omega))
 have E2:=fun W=>dm c d W (M.bM (by omega) (by omega)) (M.bM (by omega) (by omega))
 have PM:=fun W=>fw (a+c) (b+d) W (by omega) (by omega) (by omega) (by omega)
 generalize M.aN (a+c) (b+d)=s,M.pick (M.aN (a+c) (b+d)) (M.pd (b+d))=p4,M.pick (M.aN (a+c) (b+d)) (M.pn (b+d))=p3,M.pick (M.aN (a+c) (b+d)) (M.pd (a+c))=p2,M.pick (M.aN (a+c) (b+d)) (M.pn (a+c))=p1 at *;replace PM:=yI PM;replace E1:=yI E1;replace E2:=yI E2;generalize hn1:M.pn a=n1 at *;generalize hd1:M.pd a=d1 at *;generalize hn2:M.pn b=n2 at *;generalize hd2:M.pd b=d2 at *;generalize GA:M.pn c=n3 at *;generalize hd3:M.pd c=d3 at *;generalize C0:M.pn d=n4 at *;generalize hd4:M.pd d=d4 at *;clear hn1 hn2 GA C0 hd1 hd2 hd3 hd4;have V:=((aH.new w #[.int .i64 n1,.int .i64 d1,.int .i64 n2,.int .i64 d2] 64).alloc (.cells #[.int .i64 n3,.int .i64 d3,.int .i64 n4,.int .i64 d4] 64)).alloc (.cells #[.int .i64 0,.int .i64 0,.int .i64 0,.int .i64 0] 64);have U:=(aH.new (w.alloc (.cells #[.int .i64 n1,.int .i64 d1,.int .i64 n2,.int .i64 d2] 64)) #[.int .i64 n3,.int .i64 d3,.int .i64 n4,.int .i64 d4] 64).alloc (.cells #[.int .i64 0,.int .i64 0,.int .i64 0,.int .i64 0] 64);rw [yJ] at U;have R:=aH.new ((w.alloc (.cells #[.int .i64 n1,.int .i64 d1,.int .i64 n2,.int .i64 d2] 64)).alloc (.cells #[.int .i64 n3,.int .i64 d3,.int .i64 n4,.int .i64 d4] 64)) #[.int .i64 0,.int .i64 0,.int .i64 0,.int .i64 0] 64;rw [yJ,yJ] at R;have B:=(((yL w.heap.size w).alloc (yM _) (.cells #[.int .i64 n1,.int .i64 d1,.int .i64 n2,.int .i64 d2] 64)).alloc (by rw [yJ];omega) (.cells #[.int .i64 n3,.int .i64 d3,.int .i64 n4,.int .i64 d4] 64)).alloc (by rw [yJ,yJ];omega) (.cells #[.int .i64 0,.int .i64 0,.int .i64 0,.int .i64 0] 64);generalize hw3:((w.alloc (.cells #[.int .i64 n1,.int .i64 d1,.int .i64 n2,.int .i64 d2] 64)).alloc (.cells #[.int .i64 n3,.int .i64 d3,.int .i64 n4,.int .i64 d4] 64)).alloc (.cells #[.int .i64 0,.int .i64 0,.int .i64 0,.int .i64 0] 64)=wc at *;have yd:=V.aM.c0;have ye:=V.aM.c1;have AA:=V.aM.c2;have AB:=V.aM.c3;have ya:=U.aM.c0;have yc:=U.aM.c1;have AN:=U.aM.c2;have AO:=U.aM.c3;have p_:=R.aM.c0;have r_:=R.aM.c1;have yO:=R.aM.c2;have yP:=R.aM.c3;go_enter Tryz.func71,Tryz.ntmps71
 go_wp2_with (first
  | (go_at_call 89;(with_reducible refine (E1.out _).mono ?_);rintro e w4 ⟨rfl,hb4⟩;replace V:=V.keep hb4;replace U:=U.keep hb4;replace R:=R.keep hb4;replace B:=f_ B hb4;(replace ⟨yd,ye,AA,AB⟩:=V.b4);(replace ⟨ya,yc,AN,AO⟩:=U.b4);(replace ⟨p_,r_,yO,yP,t_,x_,yQ,yR⟩:=R.yk))
  | (go_at_call 89;(with_reducible refine (E2.out _).mono ?_);rintro e w5 ⟨rfl,hb5⟩;replace V:=V.keep hb5;replace U:=U.keep hb5;replace R:=R.keep hb5;replace B:=f_ B hb5;(replace ⟨yd,ye,AA,AB⟩:=V.b4);(replace ⟨ya,yc,AN,AO⟩:=U.b4);(replace ⟨p_,r_,yO,yP,t_,x_,yQ,yR⟩:=R.yk))
  | (go_at_call 92;(with_reducible refine (PM.out _).mono ?_);rintro e w6 ⟨rfl,hb6⟩;replace V:=V.keep hb6;replace U:=U.keep hb6;replace R:=R.keep hb6;replace B:=f_ B hb6;(replace ⟨yd,ye,AA,AB⟩:=V.b4);(replace ⟨ya,yc,AN,AO⟩:=U.b4);(replace ⟨p_,r_,yO,yP,t_,x_,yQ,yR⟩:=R.yk)))
 exact bodyPost_ret (v:=.tuple #[.agg #[.int .i64 p1,.int .i64 p2,.int .i64 p3,.int .i64 p4],.bool s]) (by simp [results,Tryz.results71,go_sem, *]) rfl (⟨rfl,yK (yK (yK (yK B (by simp <;> omega) _) (by simp <;> omega) _) (by simp <;> omega) _) (by simp <;> omega) _⟩)
theorem vB (a b c d:Int) (w:World) (hab:M.aN a b=true) (hcd:M.aN c d=true) :
  Calls Tryz.prog 72 #[.agg #[.int .i64 (M.pn a),.int .i64 (M.pd a),.int .i64 (M.pn b),.int .i64 (M.pd b)],.agg #[.int .i64 (M.pn c),.int .i64 (M.pd c),.int .i64 (M.pn d),.int .i64 (M.pd d)]] w fun e w'=>e=.returned (.tuple #[.agg #[.int .i64 (M.pick (M.aN (a - d) (b - c)) (M.pn (a - d))),.int .i64 (M.pick (M.aN (a - d) (b - c)) (M.pd (a - d))),.int .i64 (M.pick (M.aN (a - d) (b - c)) (M.pn (b - c))),.int .i64 (M.pick (M.aN (a - d) (b - c)) (M.pd (b - c)))],.bool (M.aN (a - d) (b - c))])∧Below w.heap.size w w':=by
 obtain ⟨ab,a1,b1⟩:=M.bw hab;obtain ⟨cd,c1,d1⟩:=M.bw hcd
 have E1:=fun W=>dm a b W (M.bM (by omega) (by omega)) (M.bM (by omega) (by omega))
 have E2:=fun W=>dm c d W (M.bM (by omega) (by omega)) (M.bM (by omega) (by omega))
 have PM:=fun W=>fw (a - d) (b - c) W (by omega) (by omega) (by omega) (by omega)
 generalize M.aN (a - d) (b - c)=s,M.pick (M.aN (a - d) (b - c)) (M.pd (b - c))=p4,M.pick (M.aN (a - d) (b - c)) (M.pn (b - c))=p3,M.pick (M.aN (a - d) (b - c)) (M.pd (a - d))=p2,M.pick (M.aN (a - d) (b - c)) (M.pn (a - d))=p1 at *;replace PM:=yI PM;replace E1:=yI E1;replace E2:=yI E2;generalize hn1:M.pn a=n1 at *;generalize hd1:M.pd a=d1 at *;generalize hn2:M.pn b=n2 at *;generalize hd2:M.pd b=d2 at *;generalize GA:M.pn c=n3 at *;generalize hd3:M.pd c=d3 at *;generalize C0:M.pn d=n4 at *;generalize hd4:M.pd d=d4 at *;clear hn1 hn2 GA C0 hd1 hd2 hd3 hd4;have V:=((aH.new w #[.int .i64 n1,.int .i64 d1,.int .i64 n2,.int .i64 d2] 64).alloc (.cells #[.int .i64 n3,.int .i64 d3,.int .i64 n4,.int .i64 d4] 64)).alloc (.cells #[.int .i64 0,.int .i64 0,.int .i64 0,.int .i64 0] 64);have U:=(aH.new (w.alloc (.cells #[.int .i64 n1,.int .i64 d1,.int .i64 n2,.int .i64 d2] 64)) #[.int .i64 n3,.int .i64 d3,.int .i64 n4,.int .i64 d4] 64).alloc (.cells #[.int .i64 0,.int .i64 0,.int .i64 0,.int .i64 0] 64);rw [yJ] at U;have R:=aH.new ((w.alloc (.cells #[.int .i64 n1,.int .i64 d1,.int .i64 n2,.int .i64 d2] 64)).alloc (.cells #[.int .i64 n3,.int .i64 d3,.int .i64 n4,.int .i64 d4] 64)) #[.int .i64 0,.int .i64 0,.int .i64 0,.int .i64 0] 64;rw [yJ,yJ] at R;have B:=(((yL w.heap.size w).alloc (yM _) (.cells #[.int .i64 n1,.int .i64 d1,.int .i64 n2,.int .i64 d2] 64)).alloc (by rw [yJ];omega) (.cells #[.int .i64 n3,.int .i64 d3,.int .i64 n4,.int .i64 d4] 64)).alloc (by rw [yJ,yJ];omega) (.cells #[.int .i64 0,.int .i64 0,.int .i64 0,.int .i64 0] 64);generalize hw3:((w.alloc (.cells #[.int .i64 n1,.int .i64 d1,.int .i64 n2,.int .i64 d2] 64)).alloc (.cells #[.int .i64 n3,.int .i64 d3,.int .i64 n4,.int .i64 d4] 64)).alloc (.cells #[.int .i64 0,.int .i64 0,.int .i64 0,.int .i64 0] 64)=wc at *;have yd:=V.aM.c0;have ye:=V.aM.c1;have AA:=V.aM.c2;have AB:=V.aM.c3;have ya:=U.aM.c0;have yc:=U.aM.c1;have AN:=U.aM.c2;have AO:=U.aM.c3;have p_:=R.aM.c0;have r_:=R.aM.c1;have yO:=R.aM.c2;have yP:=R.aM.c3;go_enter Tryz.func72,Tryz.ntmps72
 go_wp2_with (first
  | (go_at_call 89;(with_reducible refine (E1.out _).mono ?_);rintro e w4 ⟨rfl,hb4⟩;replace V:=V.keep hb4;replace U:=U.keep hb4;replace R:=R.keep hb4;replace B:=f_ B hb4;(replace ⟨yd,ye,AA,AB⟩:=V.b4);(replace ⟨ya,yc,AN,AO⟩:=U.b4);(replace ⟨p_,r_,yO,yP,t_,x_,yQ,yR⟩:=R.yk))
  | (go_at_call 89;(with_reducible refine (E2.out _).mono ?_);rintro e w5 ⟨rfl,hb5⟩;replace V:=V.keep hb5;replace U:=U.keep hb5;replace R:=R.keep hb5;replace B:=f_ B hb5;(replace ⟨yd,ye,AA,AB⟩:=V.b4);(replace ⟨ya,yc,AN,AO⟩:=U.b4);(replace ⟨p_,r_,yO,yP,t_,x_,yQ,yR⟩:=R.yk))
  | (go_at_call 92;(with_reducible refine (PM.out _).mono ?_);rintro e w6 ⟨rfl,hb6⟩;replace V:=V.keep hb6;replace U:=U.keep hb6;replace R:=R.keep hb6;replace B:=f_ B hb6;(replace ⟨yd,ye,AA,AB⟩:=V.b4);(replace ⟨ya,yc,AN,AO⟩:=U.b4);(replace ⟨p_,r_,yO,yP,t_,x_,yQ,yR⟩:=R.yk)))
 exact bodyPost_ret (v:=.tuple #[.agg #[.int .i64 p1,.int .i64 p2,.int .i64 p3,.int .i64 p4],.bool s]) (by simp [results,Tryz.results72,go_sem, *]) rfl (⟨rfl,yK (yK (yK (yK B (by simp <;> omega) _) (by simp <;> omega) _) (by simp <;> omega) _) (by simp <;> omega) _⟩)
theorem vC (a b c d:Int) (w:World) (hab:M.aN a b=true) (hcd:M.aN c d=true) :
  Calls Tryz.prog 135 #[.agg #[.int .i64 (M.pn a),.int .i64 (M.pd a),.int .i64 (M.pn b),.int .i64 (M.pd b)],.agg #[.int .i64 (M.pn c),.int .i64 (M.pd c),.int .i64 (M.pn d),.int .i64 (M.pd d)]] w fun e w'=>e=.returned (.bool true)∧Below w.heap.size w w':=by
 obtain ⟨ab,a1,b1⟩:=M.bw hab;obtain ⟨cd,c1,d1⟩:=M.bw hcd
 have E1:=fun W=>kI a b W (M.bM (by omega) (by omega)) (M.bM (by omega) (by omega))
 have E2:=fun W=>kI c d W (M.bM (by omega) (by omega)) (M.bM (by omega) (by omega))
 rw [hab] at E1;rw [hcd] at E2;generalize M.pd d=d4,M.pn d=n4,M.pd c=d3,M.pn c=n3,M.pd b=d2,M.pn b=n2,M.pd a=d1,M.pn a=n1 at *;replace E1:=yI E1;replace E2:=yI E2;clear hab hcd;have U:=aH.new (w.alloc (.cells #[.int .i64 n1,.int .i64 d1,.int .i64 n2,.int .i64 d2] 64)) #[.int .i64 n3,.int .i64 d3,.int .i64 n4,.int .i64 d4] 64;rw [yJ] at U;have B:=((yL w.heap.size w).alloc (yM _) (.cells #[.int .i64 n1,.int .i64 d1,.int .i64 n2,.int .i64 d2] 64)).alloc (by rw [yJ];omega) (.cells #[.int .i64 n3,.int .i64 d3,.int .i64 n4,.int .i64 d4] 64);go_enter Tryz.func135,Tryz.ntmps135
 go_wp2_with (go_at_call 108;first | ((with_reducible refine (E1.out _).mono ?_);rintro e w4 ⟨rfl,hb4⟩;have U4:=U.keep hb4;have B4:=f_ B hb4;have y0:=U4.aM.c0;have y1:=U4.aM.c1;have y2:=U4.aM.c2;have y3:=U4.aM.c3) | ((with_reducible refine (E2.out _).mono ?_);rintro e w5 ⟨rfl,hb5⟩;have B5:=f_ B4 hb5))
 go_ret;exact ⟨rfl,B5⟩
theorem lj (a b c d:Int) (w:World) (hab:M.aN a b=true) (hcd:M.aN c d=true) :
  Calls Tryz.prog 122 #[.agg #[.int .i64 (M.pn a),.int .i64 (M.pd a),.int .i64 (M.pn b),.int .i64 (M.pd b)],.agg #[.int .i64 (M.pn c),.int .i64 (M.pd c),.int .i64 (M.pn d),.int .i64 (M.pd d)]] w fun e w'=>e=.returned (.tuple #[.agg #[.int .i64 (M.pick (M.aN (max a c) (min b d)) (M.pn (max a c))),.int .i64 (M.pick (M.aN (max a c) (min b d)) (M.pd (max a c))),.int .i64 (M.pick (M.aN (max a c) (min b d)) (M.pn (min b d))),.int .i64 (M.pick (M.aN (max a c) (min b d)) (M.pd (min b d)))],.bool (M.aN (max a c) (min b d))])∧Below w.heap.size w w':=by
 obtain ⟨ab,a1,b1⟩:=M.bw hab;obtain ⟨cd,c1,d1⟩:=M.bw hcd
 have E1:=fun W=>dm a b W (M.bM (by omega) (by omega)) (M.bM (by omega) (by omega))
 have E2:=fun W=>dm c d W (M.bM (by omega) (by omega)) (M.bM (by omega) (by omega))
 have PT:=yI fun W=>vC a b c d W hab hcd
 have PX:=yI fun W=>dn a c W
 have PY:=yI fun W=>lM b d W
 have PM:=fun W=>fw (max a c) (min b d) W (by omega) (by omega) (by omega) (by omega)
 generalize M.aN (max a c) (min b d)=s,M.pick (M.aN (max a c) (min b d)) (M.pd (min b d))=p4,M.pick (M.aN (max a c) (min b d)) (M.pn (min b d))=p3,M.pick (M.aN (max a c) (min b d)) (M.pd (max a c))=p2,M.pick (M.aN (max a c) (min b d)) (M.pn (max a c))=p1 at *;replace PM:=yI PM;replace E1:=yI E1;replace E2:=yI E2;generalize hn1:M.pn a=n1 at *;generalize hd1:M.pd a=d1 at *;generalize hn2:M.pn b=n2 at *;generalize hd2:M.pd b=d2 at *;generalize GA:M.pn c=n3 at *;generalize hd3:M.pd c=d3 at *;generalize C0:M.pn d=n4 at *;generalize hd4:M.pd d=d4 at *;clear hn1 hn2 GA C0 hd1 hd2 hd3 hd4;have V:=((aH.new w #[.int .i64 n1,.int .i64 d1,.int .i64 n2,.int .i64 d2] 64).alloc (.cells #[.int .i64 n3,.int .i64 d3,.int .i64 n4,.int .i64 d4] 64)).alloc (.cells #[.int .i64 0,.int .i64 0,.int .i64 0,.int .i64 0] 64);have U:=(aH.new (w.alloc (.cells #[.int .i64 n1,.int .i64 d1,.int .i64 n2,.int .i64 d2] 64)) #[.int .i64 n3,.int .i64 d3,.int .i64 n4,.int .i64 d4] 64).alloc (.cells #[.int .i64 0,.int .i64 0,.int .i64 0,.int .i64 0] 64);rw [yJ] at U;have R:=aH.new ((w.alloc (.cells #[.int .i64 n1,.int .i64 d1,.int .i64 n2,.int .i64 d2] 64)).alloc (.cells #[.int .i64 n3,.int .i64 d3,.int .i64 n4,.int .i64 d4] 64)) #[.int .i64 0,.int .i64 0,.int .i64 0,.int .i64 0] 64;rw [yJ,yJ] at R;have B:=(((yL w.heap.size w).alloc (yM _) (.cells #[.int .i64 n1,.int .i64 d1,.int .i64 n2,.int .i64 d2] 64)).alloc (by rw [yJ];omega) (.cells #[.int .i64 n3,.int .i64 d3,.int .i64 n4,.int .i64 d4] 64)).alloc (by rw [yJ,yJ];omega) (.cells #[.int .i64 0,.int .i64 0,.int .i64 0,.int .i64 0] 64);generalize hw3:((w.alloc (.cells #[.int .i64 n1,.int .i64 d1,.int .i64 n2,.int .i64 d2] 64)).alloc (.cells #[.int .i64 n3,.int .i64 d3,.int .i64 n4,.int .i64 d4] 64)).alloc (.cells #[.int .i64 0,.int .i64 0,.int .i64 0,.int .i64 0] 64)=wc at *;have yd:=V.aM.c0;have ye:=V.aM.c1;have AA:=V.aM.c2;have AB:=V.aM.c3;have ya:=U.aM.c0;have yc:=U.aM.c1;have AN:=U.aM.c2;have AO:=U.aM.c3;have p_:=R.aM.c0;have r_:=R.aM.c1;have yO:=R.aM.c2;have yP:=R.aM.c3;go_enter Tryz.func122,Tryz.ntmps122
 go_wp2_with (first
  | (go_at_call 135;(with_reducible refine (PT.out _).mono ?_);rintro e w4 ⟨rfl,hb4⟩;replace V:=V.keep hb4;replace U:=U.keep hb4;replace R:=R.keep hb4;replace B:=f_ B hb4;(replace ⟨yd,ye,AA,AB⟩:=V.b4);(replace ⟨ya,yc,AN,AO⟩:=U.b4);(replace ⟨p_,r_,yO,yP,t_,x_,yQ,yR⟩:=R.yk))
  | (go_at_call 89;(with_reducible refine (E1.out _).mono ?_);rintro e w5 ⟨rfl,hb5⟩;replace V:=V.keep hb5;replace U:=U.keep hb5;replace R:=R.keep hb5;replace B:=f_ B hb5;(replace ⟨yd,ye,AA,AB⟩:=V.b4);(replace ⟨ya,yc,AN,AO⟩:=U.b4);(replace ⟨p_,r_,yO,yP,t_,x_,yQ,yR⟩:=R.yk))
  | (go_at_call 89;(with_reducible refine (E2.out _).mono ?_);rintro e w6 ⟨rfl,hb6⟩;replace V:=V.keep hb6;replace U:=U.keep hb6;replace R:=R.keep hb6;replace B:=f_ B hb6;(replace ⟨yd,ye,AA,AB⟩:=V.b4);(replace ⟨ya,yc,AN,AO⟩:=U.b4);(replace ⟨p_,r_,yO,yP,t_,x_,yQ,yR⟩:=R.yk))
  | (go_at_call 91;(with_reducible refine (PX.out _).mono ?_);rintro e w7 ⟨rfl,rfl⟩)
  | (go_at_call 90;(with_reducible refine (PY.out _).mono ?_);rintro e w8 ⟨rfl,rfl⟩)
  | (go_at_call 92;(with_reducible refine (PM.out _).mono ?_);rintro e w9 ⟨rfl,yZ⟩;replace V:=V.keep yZ;replace U:=U.keep yZ;replace R:=R.keep yZ;replace B:=f_ B yZ;(replace ⟨yd,ye,AA,AB⟩:=V.b4);(replace ⟨ya,yc,AN,AO⟩:=U.b4);(replace ⟨p_,r_,yO,yP,t_,x_,yQ,yR⟩:=R.yk)))
 exact bodyPost_ret (v:=.tuple #[.agg #[.int .i64 p1,.int .i64 p2,.int .i64 p3,.int .i64 p4],.bool s]) (by simp [results,Tryz.results122,go_sem, *]) rfl (⟨rfl,yK (yK (yK (yK B (by simp <;> omega) _) (by simp <;> omega) _) (by simp <;> omega) _) (by simp <;> omega) _⟩)
theorem vA (a b c d:Int) (w:World) (hab:M.aN a b=true) (hcd:M.aN c d=true) :
  Calls Tryz.prog 70 #[.agg #[.int .i64 (M.pn a),.int .i64 (M.pd a),.int .i64 (M.pn b),.int .i64 (M.pd b)],.agg #[.int .i64 (M.pn c),.int .i64 (M.pd c),.int .i64 (M.pn d),.int .i64 (M.pd d)]] w fun e w'=>e=.returned (.tuple #[.agg #[.int .i64 (M.pick (M.aN (M.ch a b c d / 4096) (-(-M.cZ a b c d / 4096))) (M.pn (M.ch a b c d / 4096))),.int .i64 (M.pick (M.aN (M.ch a b c d / 4096) (-(-M.cZ a b c d / 4096))) (M.pd (M.ch a b c d / 4096))),.int .i64 (M.pick (M.aN (M.ch a b c d / 4096) (-(-M.cZ a b c d / 4096))) (M.pn (-(-M.cZ a b c d / 4096)))),.int .i64 (M.pick (M.aN (M.ch a b c d / 4096) (-(-M.cZ a b c d / 4096))) (M.pd (-(-M.cZ a b c d / 4096))))],.bool (M.aN (M.ch a b c d / 4096) (-(-M.cZ a b c d / 4096)))])∧Below w.heap.size w w':=by
 obtain ⟨ab,a1,b1⟩:=M.bw hab;obtain ⟨cd,c1,d1⟩:=M.bw hcd
 have E1:=fun W=>dm a b W (M.bM (by omega) (by omega)) (M.bM (by omega) (by omega))
 have E2:=fun W=>dm c d W (M.bM (by omega) (by omega)) (M.bM (by omega) (by omega))
 have q1:=M.aK (x:=a) (y:=c) (m:=1000000000) (n:=1000000000) (by omega) (by omega) (by omega) (by omega);have q2:=M.aK (x:=a) (y:=d) (m:=1000000000) (n:=1000000000) (by omega) (by omega) (by omega) (by omega);have q3:=M.aK (x:=b) (y:=c) (m:=1000000000) (n:=1000000000) (by omega) (by omega) (by omega) (by omega);have q4:=M.aK (x:=b) (y:=d) (m:=1000000000) (n:=1000000000) (by omega) (by omega) (by omega) (by omega);obtain ⟨t1,t2,t3,t4⟩:=M.wH (a:=a) (b:=b) (c:=c) (d:=d) (by omega) (by omega) (by omega) (by omega) (by omega) (by omega) (by omega) (by omega)
 have Aa:min (min (a*c) (a*d)) (min (b*c) (b*d))=M.ch a b c d:=by unfold M.ch;omega
 have hma:max (max (a*c) (a*d)) (max (b*c) (b*d))=M.cZ a b c d:=by unfold M.cZ;omega
 have f1:=dR (a:=M.ch a b c d) (b:=4096) (k:=1000000000000000000) (by omega) (by omega) (by omega) (by omega);have f2:=dR (a:=-M.cZ a b c d) (b:=4096) (k:=1000000000000000000) (by omega) (by omega) (by omega) (by omega)
 have PX:=yI fun x y W=>dn x y W
 have PY:=yI fun x y W=>lM x y W
 have PD:=fun W=>j8 (M.ch a b c d) 4096 W (by omega) (by omega) (by omega) (by omega)
 have PU:=fun W=>th (M.cZ a b c d) 4096 W (by omega) (by omega) (by omega) (by omega)
 have PM:=fun W=>fw (M.ch a b c d / 4096) (-(-M.cZ a b c d / 4096)) W (by omega) (by omega) (by omega) (by omega)
 generalize M.aN (M.ch a b c d / 4096) (-(-M.cZ a b c d / 4096))=s,M.pick (M.aN (M.ch a b c d / 4096) (-(-M.cZ a b c d / 4096))) (M.pd (-(-M.cZ a b c d / 4096)))=p4,M.pick (M.aN (M.ch a b c d / 4096) (-(-M.cZ a b c d / 4096))) (M.pn (-(-M.cZ a b c d / 4096)))=p3,M.pick (M.aN (M.ch a b c d / 4096) (-(-M.cZ a b c d / 4096))) (M.pd (M.ch a b c d / 4096))=p2,M.pick (M.aN (M.ch a b c d / 4096) (-(-M.cZ a b c d / 4096))) (M.pn (M.ch a b c d / 4096))=p1 at *;replace PM:=yI PM;replace E1:=yI E1;replace E2:=yI E2;generalize M.cZ a b c d=ma,M.ch a b c d=mi,-(-M.cZ a b c d / 4096)=hi,M.ch a b c d / 4096=lo at *
 have PD:=yI fun x W (h:x=mi)=>(h ▸ PD W:Calls Tryz.prog 93 #[.int .i64 x,.int .i64 4096] W fun e w'=>e=.returned (.int .i64 lo)∧W=w')
 have PU:=yI fun x W (h:x=ma)=>(h ▸ PU W:Calls Tryz.prog 94 #[.int .i64 x,.int .i64 4096] W fun e w'=>e=.returned (.int .i64 hi)∧W=w')
 replace Aa:=yI Aa;replace hma:=yI hma;clear t1 t2 t3 t4 f1 f2;generalize hn1:M.pn a=n1 at *;generalize hd1:M.pd a=d1 at *;generalize hn2:M.pn b=n2 at *;generalize hd2:M.pd b=d2 at *;generalize GA:M.pn c=n3 at *;generalize hd3:M.pd c=d3 at *;generalize C0:M.pn d=n4 at *;generalize hd4:M.pd d=d4 at *;clear hn1 hn2 GA C0 hd1 hd2 hd3 hd4;have V:=((aH.new w #[.int .i64 n1,.int .i64 d1,.int .i64 n2,.int .i64 d2] 64).alloc (.cells #[.int .i64 n3,.int .i64 d3,.int .i64 n4,.int .i64 d4] 64)).alloc (.cells #[.int .i64 0,.int .i64 0,.int .i64 0,.int .i64 0] 64);have U:=(aH.new (w.alloc (.cells #[.int .i64 n1,.int .i64 d1,.int .i64 n2,.int .i64 d2] 64)) #[.int .i64 n3,.int .i64 d3,.int .i64 n4,.int .i64 d4] 64).alloc (.cells #[.int .i64 0,.int .i64 0,.int .i64 0,.int .i64 0] 64);rw [yJ] at U;have R:=aH.new ((w.alloc (.cells #[.int .i64 n1,.int .i64 d1,.int .i64 n2,.int .i64 d2] 64)).alloc (.cells #[.int .i64 n3,.int .i64 d3,.int .i64 n4,.int .i64 d4] 64)) #[.int .i64 0,.int .i64 0,.int .i64 0,.int .i64 0] 64;rw [yJ,yJ] at R;have B:=(((yL w.heap.size w).alloc (yM _) (.cells #[.int .i64 n1,.int .i64 d1,.int .i64 n2,.int .i64 d2] 64)).alloc (by rw [yJ];omega) (.cells #[.int .i64 n3,.int .i64 d3,.int .i64 n4,.int .i64 d4] 64)).alloc (by rw [yJ,yJ];omega) (.cells #[.int .i64 0,.int .i64 0,.int .i64 0,.int .i64 0] 64);generalize hw3:((w.alloc (.cells #[.int .i64 n1,.int .i64 d1,.int .i64 n2,.int .i64 d2] 64)).alloc (.cells #[.int .i64 n3,.int .i64 d3,.int .i64 n4,.int .i64 d4] 64)).alloc (.cells #[.int .i64 0,.int .i64 0,.int .i64 0,.int .i64 0] 64)=wc at *;have yd:=V.aM.c0;have ye:=V.aM.c1;have AA:=V.aM.c2;have AB:=V.aM.c3;have ya:=U.aM.c0;have yc:=U.aM.c1;have AN:=U.aM.c2;have AO:=U.aM.c3;have p_:=R.aM.c0;have r_:=R.aM.c1;have yO:=R.aM.c2;have yP:=R.aM.c3;go_enter Tryz.func70,Tryz.ntmps70
 go_wp2_with (first
  | (go_at_call 89;(with_reducible refine (E1.out _).mono ?_);rintro e w4 ⟨rfl,hb4⟩;replace V:=V.keep hb4;replace U:=U.keep hb4;replace R:=R.keep hb4;replace B:=f_ B hb4;(replace ⟨yd,ye,AA,AB⟩:=V.b4);(replace ⟨ya,yc,AN,AO⟩:=U.b4);(replace ⟨p_,r_,yO,yP,t_,x_,yQ,yR⟩:=R.yk))
  | (go_at_call 89;(with_reducible refine (E2.out _).mono ?_);rintro e w5 ⟨rfl,hb5⟩;replace V:=V.keep hb5;replace U:=U.keep hb5;replace R:=R.keep hb5;replace B:=f_ B hb5;(replace ⟨yd,ye,AA,AB⟩:=V.b4);(replace ⟨ya,yc,AN,AO⟩:=U.b4);(replace ⟨p_,r_,yO,yP,t_,x_,yQ,yR⟩:=R.yk))
  | (go_at_call 91;(with_reducible refine (PX.out _ _ _).mono ?_);rintro e w6 ⟨rfl,rfl⟩)
  | (go_at_call 90;(with_reducible refine (PY.out _ _ _).mono ?_);rintro e w7 ⟨rfl,rfl⟩)
  | (go_at_call 93;(with_reducible refine (PD.out _ _ (by have:=Aa.out;omega)).mono ?_);rintro e w8 ⟨rfl,rfl⟩)
  | (go_at_call 94;(with_reducible refine (PU.out _ _ (by have:=hma.out;omega)).mono ?_);rintro e w9 ⟨rfl,rfl⟩)
  | (go_at_call 92;(with_reducible refine (PM.out _).mono ?_);rintro e EJ ⟨rfl,yN⟩;replace V:=V.keep yN;replace U:=U.keep yN;replace R:=R.keep yN;replace B:=f_ B yN;(replace ⟨yd,ye,AA,AB⟩:=V.b4);(replace ⟨ya,yc,AN,AO⟩:=U.b4);(replace ⟨p_,r_,yO,yP,t_,x_,yQ,yR⟩:=R.yk)))
 exact bodyPost_ret (v:=.tuple #[.agg #[.int .i64 p1,.int .i64 p2,.int .i64 p3,.int .i64 p4],.bool s]) (by simp [results,Tryz.results70,go_sem, *]) rfl (⟨rfl,yK (yK (yK (yK B (by simp <;> omega) _) (by simp <;> omega) _) (by simp <;> omega) _) (by simp <;> omega) _⟩)
namespace M
def hL (C:Nat) (n:Nat) (o:Out):Int:=match o with
 | .val x z=>max 0 (3*(et (.val x z) - 1) - C)*4096 / p4 n
 | _=>0
def hH (C:Nat) (n:Nat) (o:Out):Int:=match o with
 | .val x z=>-(-((3*et (.val x z)+C)*4096) / p4 n)
 | _=>0
theorem xp {a b x z:Int} {o:Out} (h:nx a b o=.val x z):Wh.sz x 1000∧Wh.sz z 1000:=by
 cases o with
 | inf=>cases h
 | bad=>cases h
 | val u v=>
 unfold nx at h
 dsimp only at h
 split at h
 ·cases h
 split at h
 ·rename_i hok
  injection h with h1 h2
  subst h1 h2;exact Wh.kS (Wh.jw hok)
 cases h
theorem kP {a b X E x z:Int} (hX1:-10000≤X) (hX2:X≤10000) (hE1:0≤E) (hE2:E≤20) {n:Nat} (h:ar a b X E n=.val x z):Wh.sz x 1000∧Wh.sz z 1000:=by
 unfold ar at h
 split at h
 ·cases h
 cases n with
 | zero=>
  have I8:0≤E*E∧E*E≤400:=⟨Int.mul_nonneg hE1 hE1,by have:=Int.mul_le_mul hE2 hE2 hE1 (by omega);omega⟩
  injection h with h1 h2
  subst h1 h2;exact ⟨Wh.aP (Wh.bV (by omega) (by omega)) (by omega),Wh.aP (Wh.bV (by omega) (by omega)) (by omega)⟩
 | succ n=>exact xp h
theorem l8 {x z:Int} (h:Wh.sz x 1000∧Wh.sz z 1000):0≤et (.val x z)∧et (.val x z)≤14000:=by
 have h1:=Wh.kX h.1;have h2:=Wh.kX h.2
 show 0≤max ((Wh.bl x.natAbs:Nat):Int) ((Wh.bl z.natAbs:Nat):Int)∧max ((Wh.bl x.natAbs:Nat):Int) ((Wh.bl z.natAbs:Nat):Int)≤14000
 omega
theorem tR {C n:Nat} {B:Int} (hC:C≤60) (hn:n≤5) (h1:0≤B) (h2:B≤14000):aN (max 0 (3*(B - 1) - C)*4096 / p4 n) (-(-((3*B+C)*4096) / p4 n))=true:=by
 have hp:=qW n hn;generalize p4 n=d at *;have q1:=dR (a:=max 0 (3*(B - 1) - C)*4096) (b:=d) (k:=300000000) (by omega) (by omega) (by omega) (by omega);have q2:=dR (a:=-((3*B+C)*4096)) (b:=d) (k:=300000000) (by omega) (by omega) (by omega) (by omega);have q3:max 0 (3*(B - 1) - C)*4096 / d≤(3*B+C)*4096 / d:=Int.ediv_le_ediv (by omega) (by omega)
 have q4:(3*B+C)*4096 / d≤-(-((3*B+C)*4096) / d):=by
  have e1:=Int.mul_ediv_add_emod ((3*B+C)*4096) d;have e2:=Int.emod_nonneg ((3*B+C)*4096) (by omega:d≠0);have e3:=Int.mul_ediv_add_emod (-((3*B+C)*4096)) d;have e4:=Int.emod_nonneg (-((3*B+C)*4096)) (by omega:d≠0);generalize -((3*B+C)*4096) / d=v,(3*B+C)*4096 / d=u at *
  rcases Int.lt_or_le (-v) u with h | h
  ·have:d*(u+v)≥d*1:=Int.mul_le_mul_of_nonneg_left (by omega) (by omega)
   rw [Int.mul_add] at this;omega
  exact h
 unfold aN;simp only [Bool.and_eq_true,decide_eq_true_eq];omega
theorem xk {a b X E:Int} {C n:Nat} (hC:C≤60) (hn:n≤5) (hX1:-10000≤X) (hX2:X≤10000) (hE1:0≤E) (hE2:E≤20):aN (hL C n (ar a b X E n)) (hH C n (ar a b X E n))=true:=by
 cases h:ar a b X E n with
 | inf=>show aN 0 0=true;decide
 | bad=>show aN 0 0=true;decide
 | val x z=>
 have hb:=l8 (kP hX1 hX2 hE1 hE2 h);exact tR hC hn hb.1 hb.2
end M
theorem nK (a b d:Int) (w:World) (h1:-100000000000≤a) (h2:a≤100000000000) (h3:-100000000000≤b) (h4:b≤100000000000) (h5:1≤d) (h6:d≤100000) :
  Calls Tryz.prog 131 #[.int .i64 a,.int .i64 b,.int .i64 d] w fun e w'=>e=.returned (.tuple #[.agg #[.int .i64 (M.pick (M.aN (a*4096 / d) (-(-(b*4096) / d))) (M.pn (a*4096 / d))),.int .i64 (M.pick (M.aN (a*4096 / d) (-(-(b*4096) / d))) (M.pd (a*4096 / d))),.int .i64 (M.pick (M.aN (a*4096 / d) (-(-(b*4096) / d))) (M.pn (-(-(b*4096) / d)))),.int .i64 (M.pick (M.aN (a*4096 / d) (-(-(b*4096) / d))) (M.pd (-(-(b*4096) / d))))],.bool (M.aN (a*4096 / d) (-(-(b*4096) / d)))])∧Below w.heap.size w w':=by
 have P1:=fun W=>j8 (a*4096) d W (by omega) (by omega) (by omega) (by omega)
 have P2:=fun W=>th (b*4096) d W (by omega) (by omega) (by omega) (by omega)
 have f1:=dR (a:=a*4096) (b:=d) (k:=1000000000000000) (by omega) (by omega) (by omega) (by omega);have f2:=dR (a:=-(b*4096)) (b:=d) (k:=1000000000000000) (by omega) (by omega) (by omega) (by omega)
 have PM:=fun W=>fw (a*4096 / d) (-(-(b*4096) / d)) W (by omega) (by omega) (by omega) (by omega)
 generalize -(-(b*4096) / d)=hi,a*4096 / d=lo,M.aN (a*4096 / d) (-(-(b*4096) / d))=s,M.pick (M.aN (a*4096 / d) (-(-(b*4096) / d))) (M.pd (-(-(b*4096) / d)))=p4,M.pick (M.aN (a*4096 / d) (-(-(b*4096) / d))) (M.pn (-(-(b*4096) / d)))=p3,M.pick (M.aN (a*4096 / d) (-(-(b*4096) / d))) (M.pd (a*4096 / d))=p2,M.pick (M.aN (a*4096 / d) (-(-(b*4096) / d))) (M.pn (a*4096 / d))=p1 at *;replace P1:=yI P1;replace P2:=yI P2;replace PM:=yI PM;clear f1 f2;have R:=aH.new w #[.int .i64 0,.int .i64 0,.int .i64 0,.int .i64 0] 64;have B:=(yL w.heap.size w).alloc (yM _) (.cells #[.int .i64 0,.int .i64 0,.int .i64 0,.int .i64 0] 64);go_enter Tryz.func131,Tryz.ntmps131
 go_wp2_with (first
  | (go_at_call 93;(with_reducible refine (P1.out _).mono ?_);rintro e w4 ⟨rfl,rfl⟩)
  | (go_at_call 94;(with_reducible refine (P2.out _).mono ?_);rintro e w5 ⟨rfl,rfl⟩)
  | (go_at_call 92;(with_reducible refine (PM.out _).mono ?_);rintro e w6 ⟨rfl,hb6⟩;replace R:=R.keep hb6;replace B:=f_ B hb6;(replace ⟨p_,r_,yO,yP,t_,x_,yQ,yR⟩:=R.yk)))
 exact bodyPost_ret (v:=.tuple #[.agg #[.int .i64 p1,.int .i64 p2,.int .i64 p3,.int .i64 p4],.bool s]) (by simp [results,Tryz.results131,go_sem, *]) rfl (⟨rfl,yK (yK (yK (yK B (by simp <;> omega) _) (by simp <;> omega) _) (by simp <;> omega) _) (by simp <;> omega) _⟩)
theorem kD (a b X Y E:Int) (n:Nat) (w:World) (hg:M.good a b=true) (hX1:-10000≤X) (hX2:X≤10000) (hE1:0≤E) (hE2:E≤20) (hn:n≤5) :
  Calls Tryz.prog 123 #[.agg #[.int .i64 a,.int .i64 b],.agg #[.int .i64 X,.int .i64 Y,.int .i64 E],.int .i64 (n:Int)] w fun e w'=>e=.returned (.tuple #[.agg #[.int .i64 (M.hL (M.hC a b) n (M.ar a b X E n)),.int .i64 (M.hH (M.hC a b) n (M.ar a b X E n))],.bool (M.isOk (M.ar a b X E n))])∧Below w.heap.size w w':=by
 have hin:=M.bK hg
 have PB:=fun W=>sj a b X Y E n W hg hX1 hX2 hE1 hE2 hn
 have PC:=yI fun W=>gh a b W hin
 have hC:=M.ng hin
 have hsz:=fun x z (h:M.ar a b X E n=.val x z)=>M.l8 (M.kP hX1 hX2 hE1 hE2 h)
 have hp:=M.qW n hn
 have Hr:M.p4 n=3*M.fC 4 n:=by
  match n,hn with
  | 0,_=>decide
  | 1,_=>decide
  | 2,_=>decide
  | 3,_=>decide
  | 4,_=>decide
  | 5,_=>decide
 have PP:=yI fun W=>nj 4 n W (by omega) (by omega) (by omega)
 generalize M.hC a b=k,M.fC 4 n=ip at *;clear hg hin;have C:=((aH.new w #[.int .i64 a,.int .i64 b] 29).alloc (.cells #[.int .i64 X,.int .i64 Y,.int .i64 E] 57)).alloc (.cells #[.int .i64 0,.int .i64 0] 68);have Q:=(aH.new (w.alloc (.cells #[.int .i64 a,.int .i64 b] 29)) #[.int .i64 X,.int .i64 Y,.int .i64 E] 57).alloc (.cells #[.int .i64 0,.int .i64 0] 68);rw [yJ] at Q;have R:=aH.new ((w.alloc (.cells #[.int .i64 a,.int .i64 b] 29)).alloc (.cells #[.int .i64 X,.int .i64 Y,.int .i64 E] 57)) #[.int .i64 0,.int .i64 0] 68;rw [yJ,yJ] at R;have B:=(((yL w.heap.size w).alloc (yM _) (.cells #[.int .i64 a,.int .i64 b] 29)).alloc (by rw [yJ];omega) (.cells #[.int .i64 X,.int .i64 Y,.int .i64 E] 57)).alloc (by rw [yJ,yJ];omega) (.cells #[.int .i64 0,.int .i64 0] 68);generalize hw3:((w.alloc (.cells #[.int .i64 a,.int .i64 b] 29)).alloc (.cells #[.int .i64 X,.int .i64 Y,.int .i64 E] 57)).alloc (.cells #[.int .i64 0,.int .i64 0] 68)=wc at *;have ⟨q0,q1,q2⟩:=Q.aR;have j_:=C.box.c0;have l_:=C.box.c1
 cases ho:M.ar a b X E n with
 | inf=>
  rw [ho] at PB;replace PB:=yI PB;clear hsz hp Hr;go_enter Tryz.func123,Tryz.ntmps123
  go_wp2_with (go_at_call 136;(with_reducible refine (PB.out _).mono ?_);rintro e w4 ⟨rfl,hb4⟩;replace C:=C.keep hb4;replace R:=R.keep hb4;replace B:=f_ B hb4;(replace ⟨j_,l_⟩:=C.b2);(replace ⟨p_,r_,t_,x_⟩:=R.zT))
  exact bodyPost_ret (v:=.tuple #[.agg #[.int .i64 0,.int .i64 0],.bool true]) (by simp [results,Tryz.results123,go_sem, *]) rfl (⟨rfl,yK (yK B (by simp <;> omega) _) (by simp <;> omega) _⟩)
 | bad=>
  rw [ho] at PB;replace PB:=yI PB;clear hsz hp Hr;go_enter Tryz.func123,Tryz.ntmps123
  go_wp2_with (go_at_call 136;(with_reducible refine (PB.out _).mono ?_);rintro e w4 ⟨rfl,hb4⟩;replace C:=C.keep hb4;replace R:=R.keep hb4;replace B:=f_ B hb4;(replace ⟨j_,l_⟩:=C.b2);(replace ⟨p_,r_,t_,x_⟩:=R.zT))
  exact bodyPost_ret (v:=.tuple #[.agg #[.int .i64 0,.int .i64 0],.bool false]) (by simp [results,Tryz.results123,go_sem, *]) rfl (⟨rfl,yK (yK B (by simp <;> omega) _) (by simp <;> omega) _⟩)
 | val x z=>
 rw [ho] at PB;have hb:=hsz x z ho;have e1:M.hL k n (.val x z)=max 0 (3*(M.et (.val x z) - 1) - k)*4096 / M.p4 n:=rfl;have e2:M.hH k n (.val x z)=-(-((3*M.et (.val x z)+k)*4096) / M.p4 n):=rfl;rw [e1,e2];clear e1 e2 hsz ho;rw [show M.isInf (.val x z)=false from rfl,show M.isOk (.val x z)=true from rfl] at PB;rw [show M.isOk (.val x z)=true from rfl];generalize M.et (.val x z)=bt at *;rw [Hr];rw [Hr] at hp
 have hm:max 0 (3*(bt - 1) - (k:Int))=max (3*(bt - 1) - (k:Int)) 0:=by omega
 rw [hm]
 have F1:=fun W=>fA (max (3*(bt - 1) - (k:Int)) 0*4096) (3*ip) W (by omega) (by omega) (by omega) (by omega)
 have F2:=fun W=>fA (-((3*bt+(k:Int))*4096)) (3*ip) W (by omega) (by omega) (by omega) (by omega)
 have F2:=fun x W (h:x=-((3*bt+(k:Int))*4096))=>(by subst h;exact F2 W:Calls Tryz.prog 120 #[.int .i64 x,.int .i64 (3*ip)] W fun e w'=>e=.returned (.int .i64 (-((3*bt+(k:Int))*4096) / (3*ip)))∧W=w')
 have F1:=fun x W (h:x=max (3*(bt - 1) - (k:Int)) 0*4096)=>(by subst h;exact F1 W:Calls Tryz.prog 120 #[.int .i64 x,.int .i64 (3*ip)] W fun e w'=>e=.returned (.int .i64 (max (3*(bt - 1) - (k:Int)) 0*4096 / (3*ip)))∧W=w')
 have g2:=dR (a:=-((3*bt+(k:Int))*4096)) (b:=3*ip) (k:=1000000000000000) (by omega) (by omega) (by omega) (by omega);generalize max (3*(bt - 1) - (k:Int)) 0*4096 / (3*ip)=lo at *;generalize -((3*bt+(k:Int))*4096) / (3*ip)=hi at *;obtain ⟨g2,g3⟩:=g2;obtain ⟨hb1,hb2⟩:=hb;obtain ⟨hp1,hp2⟩:=hp
 have hk2:(k:Int)≤60:=by omega
 clear hm Hr hC;replace F1:=yI F1;replace F2:=yI F2;replace PB:=yI PB;go_enter Tryz.func123,Tryz.ntmps123
 go_wp2_with (first
  | (go_at_call 136;(with_reducible refine (PB.out _).mono ?_);rintro e w4 ⟨rfl,hb4⟩;replace C:=C.keep hb4;replace R:=R.keep hb4;replace B:=f_ B hb4;(replace ⟨j_,l_⟩:=C.b2);(replace ⟨p_,r_,t_,x_⟩:=R.zT))
  | (go_at_call 137;(with_reducible refine (PC.out _).mono ?_);rintro e w5 ⟨rfl,hb5⟩;replace C:=C.keep hb5;replace R:=R.keep hb5;replace B:=f_ B hb5;(replace ⟨j_,l_⟩:=C.b2);(replace ⟨p_,r_,t_,x_⟩:=R.zT))
  | (go_at_call 138;(with_reducible refine (PP.out _).mono ?_);rintro e w6 ⟨rfl,rfl⟩)
  | (go_at_call 120;first | ((with_reducible refine (F1.out _ _ (by omega)).mono ?_);rintro e w7 ⟨rfl,rfl⟩) | ((with_reducible refine (F2.out _ _ (by omega)).mono ?_);rintro e w8 ⟨rfl,rfl⟩)))
 exact bodyPost_ret (v:=.tuple #[.agg #[.int .i64 lo,.int .i64 (-hi)],.bool true]) (by simp [results,Tryz.results123,go_sem, *]) rfl (⟨rfl,yK (yK B (by simp <;> omega) _) (by simp <;> omega) _⟩)
theorem jq (a b X Y E:Int) (n:Nat) (w:World) (hg:M.good a b=true) (hX1:-10000≤X) (hX2:X≤10000) (hE1:0≤E) (hE2:E≤20) (hn:n≤5) :
  Calls Tryz.prog 121 #[.agg #[.int .i64 a,.int .i64 b],.agg #[.int .i64 X,.int .i64 Y,.int .i64 E],.int .i64 (n:Int)] w fun e w'=>e=.returned (.tuple #[.agg #[.int .i64 (M.pick (M.isOk (M.ar a b X E n)) (M.pn (M.hL (M.hC a b) n (M.ar a b X E n)))),.int .i64 (M.pick (M.isOk (M.ar a b X E n)) (M.pd (M.hL (M.hC a b) n (M.ar a b X E n)))),.int .i64 (M.pick (M.isOk (M.ar a b X E n)) (M.pn (M.hH (M.hC a b) n (M.ar a b X E n)))),.int .i64 (M.pick (M.isOk (M.ar a b X E n)) (M.pd (M.hH (M.hC a b) n (M.ar a b X E n))))],.bool (M.isOk (M.ar a b X E n))])∧Below w.heap.size w w':=by
 have hin:=M.bK hg
 have PB:=fun W=>pE a b X Y E n W hg hX1 hX2 hE1 hE2 hn
 have PC:=yI fun W=>mJ a b W hin
 have hC:=M.ng hin;have hp:=M.qW n hn
 have PP:=yI fun W=>qx n W hn
 have PX:=yI fun x y W=>dn x y W
 have hsp:=fun B h1 h2=>M.tR (B:=B) hC hn h1 h2
 generalize M.hC a b=k at *;clear hg hin;have C:=((aH.new w #[.int .i64 a,.int .i64 b] 29).alloc (.cells #[.int .i64 X,.int .i64 Y,.int .i64 E] 57)).alloc (.cells #[.int .i64 0,.int .i64 0,.int .i64 0,.int .i64 0] 64);have Q:=(aH.new (w.alloc (.cells #[.int .i64 a,.int .i64 b] 29)) #[.int .i64 X,.int .i64 Y,.int .i64 E] 57).alloc (.cells #[.int .i64 0,.int .i64 0,.int .i64 0,.int .i64 0] 64);rw [yJ] at Q;have R:=aH.new ((w.alloc (.cells #[.int .i64 a,.int .i64 b] 29)).alloc (.cells #[.int .i64 X,.int .i64 Y,.int .i64 E] 57)) #[.int .i64 0,.int .i64 0,.int .i64 0,.int .i64 0] 64;rw [yJ,yJ] at R;have B:=(((yL w.heap.size w).alloc (yM _) (.cells #[.int .i64 a,.int .i64 b] 29)).alloc (by rw [yJ];omega) (.cells #[.int .i64 X,.int .i64 Y,.int .i64 E] 57)).alloc (by rw [yJ,yJ];omega) (.cells #[.int .i64 0,.int .i64 0,.int .i64 0,.int .i64 0] 64);generalize hw3:((w.alloc (.cells #[.int .i64 a,.int .i64 b] 29)).alloc (.cells #[.int .i64 X,.int .i64 Y,.int .i64 E] 57)).alloc (.cells #[.int .i64 0,.int .i64 0,.int .i64 0,.int .i64 0] 64)=wc at *;have ⟨q0,q1,q2⟩:=Q.aR;have j_:=C.box.c0;have l_:=C.box.c1
 cases ho:M.ar a b X E n with
 | inf=>
  rw [ho] at PB
  have PM:=fun W=>nK 0 0 1 W (by omega) (by omega) (by omega) (by omega) (by omega) (by omega)
  rw [show (0:Int)*4096 / 1=0 by decide,show -(-((0:Int)*4096) / 1)=0 by decide,show M.aN 0 0=true by decide] at PM;rw [show M.hL k n .inf=0 from rfl,show M.hH k n .inf=0 from rfl,show M.isOk .inf=true from rfl];generalize M.pick true (M.pd 0)=p2,M.pick true (M.pn 0)=p1 at *;replace PB:=yI PB;replace PM:=yI PM;clear hsp hp;go_enter Tryz.func121,Tryz.ntmps121
  go_wp2_with (first
   | (go_at_call 130;(with_reducible refine (PB.out _).mono ?_);rintro e w4 ⟨v4,en,rfl,yh,hb4⟩;obtain ⟨rfl,A4,l4,c4,rfl⟩:=yh;replace C:=C.keep hb4;replace R:=R.keep hb4;replace B:=f_ B hb4;(replace ⟨j_,l_⟩:=C.b2);(replace ⟨p_,r_,yO,yP,t_,x_,yQ,yR⟩:=R.yk))
   | (go_at_call 131;(with_reducible refine (PM.out _).mono ?_);rintro e w5 ⟨rfl,hb5⟩;replace C:=C.keep hb5;replace R:=R.keep hb5;replace B:=f_ B hb5;(replace ⟨j_,l_⟩:=C.b2);(replace ⟨p_,r_,yO,yP,t_,x_,yQ,yR⟩:=R.yk)))
  exact bodyPost_ret (v:=.tuple #[.agg #[.int .i64 p1,.int .i64 p2,.int .i64 p1,.int .i64 p2],.bool true]) (by simp [results,Tryz.results121,go_sem, *]) rfl (⟨rfl,yK (yK (yK (yK B (by simp <;> omega) _) (by simp <;> omega) _) (by simp <;> omega) _) (by simp <;> omega) _⟩)
 | bad=>
  rw [ho] at PB;rw [show M.isOk .bad=false from rfl];replace PB:=yI PB;clear hsp hp;go_enter Tryz.func121,Tryz.ntmps121
  go_wp2_with (go_at_call 130;(with_reducible refine (PB.out _).mono ?_);rintro e w4 ⟨v4,en,rfl,yh,hb4⟩;obtain ⟨rfl,A4,l4,c4,rfl,hl4⟩:=yh;(have hl5:(l4:Int)≤n:=by omega);replace C:=C.keep hb4;replace R:=R.keep hb4;replace B:=f_ B hb4;(replace ⟨j_,l_⟩:=C.b2);(replace ⟨p_,r_,yO,yP,t_,x_,yQ,yR⟩:=R.yk))
  exact bodyPost_ret (v:=.tuple #[.agg #[.int .i64 0,.int .i64 0,.int .i64 0,.int .i64 0],.bool false]) (by simp [results,Tryz.results121,go_sem, *]) rfl (⟨rfl,yK (yK (yK (yK B (by simp <;> omega) _) (by simp <;> omega) _) (by simp <;> omega) _) (by simp <;> omega) _⟩)
 | val x z=>
 rw [ho] at PB;have hb:=M.l8 (M.kP hX1 hX2 hE1 hE2 ho);have e1:M.hL k n (.val x z)=max 0 (3*(M.et (.val x z) - 1) - k)*4096 / M.p4 n:=rfl;have e2:M.hH k n (.val x z)=-(-((3*M.et (.val x z)+k)*4096) / M.p4 n):=rfl;rw [e1,e2,show M.isOk (.val x z)=true from rfl];have hs:=hsp _ hb.1 hb.2;clear e1 e2 ho hsp
 have PD:=yI fun (s r:Bool) v v' W i j (h1:aF W i v (Wh.d_ x.natAbs)) (h2:aF W j v' (Wh.d_ z.natAbs)) (hx:Wh.sz x 1000) (hz:Wh.sz z 1000) (hs:s=decide (x<0)) (hr:r=decide (z<0))=>(hs ▸ hr ▸ uc x z v v' W i j h1 h2 (Wh.aW.2 (Wh.aP hx (by omega))) (Wh.aW.2 (Wh.aP hz (by omega))) (Nat.le_trans (Wh.kX hx) (by omega)) (Nat.le_trans (Wh.kX hz) (by omega)):Calls Tryz.prog 132 #[.agg #[.bool s,v,.bool r,v']] W fun e w'=>e=.returned (.int .i64 (M.et (.val x z)))∧Below W.heap.size W w')
 generalize M.et (.val x z)=bt at *
 have PM:=fun W=>nK (max 0 (3*(bt - 1) - (k:Int))) (3*bt+(k:Int)) (M.p4 n) W (by omega) (by omega) (by omega) (by omega) (by omega) (by omega)
 rw [hs] at PM;generalize M.pick true (M.pn (max 0 (3*(bt - 1) - (k:Int))*4096 / M.p4 n))=p1 at *;generalize M.pick true (M.pd (max 0 (3*(bt - 1) - (k:Int))*4096 / M.p4 n))=p2 at *;generalize M.pick true (M.pn (-(-((3*bt+(k:Int))*4096) / M.p4 n)))=p3 at *;generalize M.pick true (M.pd (-(-((3*bt+(k:Int))*4096) / M.p4 n)))=p4 at *;obtain ⟨hb1,hb2⟩:=hb
 have hk2:(k:Int)≤60:=by omega
 have PM:=yI fun x W (h:x=max 0 (3*(bt - 1) - (k:Int)))=>(by subst h;exact PM W:Calls Tryz.prog 131 #[.int .i64 x,.int .i64 (3*bt+(k:Int)),.int .i64 (M.p4 n)] W fun e w'=>e=.returned (.tuple #[.agg #[.int .i64 p1,.int .i64 p2,.int .i64 p3,.int .i64 p4],.bool true])∧Below W.heap.size W w')
 clear hs hC hp;generalize M.p4 n=pp at *;replace PB:=yI PB;go_enter Tryz.func121,Tryz.ntmps121
 go_upto_region 6 with (go_at_call 130;(with_reducible refine (PB.out _).mono ?_);rintro e w4 ⟨v4,en,rfl,yh,hb4⟩;obtain ⟨rfl,zx,zz,g,cap,s,av,lv,cv,r,bv,mv,dv,rfl,Fr,Fs,Ft,Fu,hss,hrr,ox,oz⟩:=yh;have ox:=yI ox;have oz:=yI oz;have zx:=yI zx;have zz:=yI zz;replace C:=C.keep hb4;replace R:=R.keep hb4;replace B:=f_ B hb4;(replace ⟨j_,l_⟩:=C.b2);(replace ⟨p_,r_,yO,yP,t_,x_,yQ,yR⟩:=R.yk))
 refine Rg.bJ 9 [.is (.slice (some ⟨g,0,none⟩) (n+1) cap),.is (.int .i64 (n:Int)),.is (.pointer (some ⟨g,n*4,none⟩)),.is (.agg #[.bool s,.slice av lv cv,.bool r,.slice bv mv dv]),.is (.int .i64 bt),.is (.agg #[.int .i64 a,.int .i64 b]),.is (.int .i64 (k:Int)),.is (.int .i64 bt),.is (.int .i64 (k:Int))] (by kernel_rfl) (by kernel_rfl) (by kernel_rfl) ⟨?_,?_,?_,?_,?_,?_,?_,?_,?_,trivial⟩ ?_
 ·intro _ zZ w_ hB hr
  have e8:zZ.tmps[8]?=some (.slice (some ⟨g,0,none⟩) (n+1) cap):=hr 8 (by decide);exact Rg.aG rfl (by go_simp)
 ·intro _ zZ w_ hB hr
  have e2:zZ.tmps[2]?=some (.int .i64 (n:Int)):=hr 2 (by decide);exact Rg.aG rfl (by go_simp)
 ·intro _ zZ w_ hB hr
  have e28:=Rg.a_ (hr 28 (by decide));have e29:=Rg.a_ (hr 29 (by decide))
  have BR:(n:Int)<((n+1:Nat):Int):=by omega
  have hlt2_:n<n+1:=by omega
  exact Rg.aG rfl (by first | (go_simp;done) | (go_simp;omega))
 ·intro _ zZ w_ hB hr
  have e30:=Rg.a_ (hr 30 (by decide));have k0:=aE hB Fr;have k1:=aE hB Fs;have k2:=aE hB Ft;have k3:=aE hB Fu;exact Rg.aG rfl (by first | (go_simp;done))
 ·intro _ zZ w_ hB hr
  have e31:=Rg.a_ (hr 31 (by decide));have ef:=Rg.ef zZ;exact Rg.bU rfl (by go_simp) (PD.out s r _ _ _ _ _ (aF.below ox.out hB) (aF.below oz.out hB) zx.out zz.out hss.out hrr.out)
 ·intro _ zZ w_ hB hr
  have e3:zZ.tmps[3]?=some (.pointer (some ⟨w.heap.size,0,none⟩)):=hr 3 (by decide);have k0:=aE hB C.box.c0;have k1:=aE hB C.box.c1;exact Rg.aG rfl (by go_simp)
 ·intro _ zZ w_ hB hr
  have e33:=Rg.a_ (hr 33 (by decide));have ef:=Rg.ef zZ;exact Rg.bU rfl (by go_simp) (PC.out _)
 ·intro _ zZ w_ hB hr
  have e32:=Rg.a_ (hr 32 (by decide));exact Rg.aG rfl (by go_simp)
 ·intro _ zZ w_ hB hr
  have e34:=Rg.a_ (hr 34 (by decide));exact Rg.aG rfl (by go_simp)
 intro vals wz hB hv hne;have BI:vals 7=.int .i64 bt:=hv 7 (by decide);have CG:vals 8=.int .i64 (k:Int):=hv 8 (by decide);simp only [Rg.ak,Rg.fill,Act.put,Nat.reduceAdd];clear hv;simp only [BI,CG];clear BI CG;have C2:=C.keep hB;have R2:=R.keep hB;have B2:=f_ B hB;clear C R B j_ l_ p_ r_ yO yP t_ x_ yQ yR;unfold Rg.aX;have ⟨y0,y1,y2,y3,x0,x1,x2,x3,_⟩:=R2.aM
 go_wp2_with (first
  | (go_at_call 91;(with_reducible refine (PX.out _ _ _).mono ?_);rintro e w5 ⟨rfl,rfl⟩)
  | (go_at_call 134;(with_reducible refine (PP.out _).mono ?_);rintro e w6 ⟨rfl,rfl⟩)
  | (go_at_call 131;(with_reducible refine (PM.out _ _ (by omega)).mono ?_);rintro e w7 ⟨rfl,yi⟩;replace R2:=R2.keep yi;replace B2:=f_ B2 yi;(replace ⟨R2_c0,R2_c1,R2_c2,R2_c3,R2_f0,R2_f1,R2_f2,R2_f3⟩:=R2.yk)))
 exact bodyPost_ret (v:=.tuple #[.agg #[.int .i64 p1,.int .i64 p2,.int .i64 p3,.int .i64 p4],.bool true]) (by simp [results,Tryz.results121,go_sem, *]) rfl (⟨rfl,yK (yK (yK (yK B2 (by simp <;> omega) _) (by simp <;> omega) _) (by simp <;> omega) _) (by simp <;> omega) _⟩)
end
section
open Go Go.RowKit
namespace Rg
variable {P:Program} {Q:Exit→Act→World→Prop}
def Val.pure:Val→Bool
 | .is _=>true
 | .num _=>true
 | .such _=>true
 | _=>false
theorem Val.df {V:Val} (h:V.pure=true) {u:Value} {w w':World} (hu:V.ok u w):V.ok u w':=by
 cases V with
 | is _=>exact hu
 | num _=>exact hu
 | such _=>exact hu
 | _=>cases h
def sL (P:Program) (ops:Array Oper) (Q:Exit→Act→World→Prop) (a0:Act) (T:List Val) (J:World→Prop) (k0:Nat):List Oper→Nat→Prop
 | [],_=>True
 | o
   :: os,k=>(∀ (a:Act) (w:World),J w→(∀ t ∈ o.looksAt ops,qm ops a0 T o a w t)→
   if k=k0 then Region.wanted o (yielded ops a.tmps)=true∧o.wp P a w (fun a' w'=>(∃ v,a'=a.put o.dst v)∧J w'∧∀ v,(AE T k).ok v w') Q else Does P ops Q (AE T k) o a w)∧sL P ops Q a0 T J k0 os (k+1)
theorem uH {ops:Array Oper} {a0:Act} {T:List Val} {J:World→Prop} {k0:Nat} (hJ:∀ w w',J w→Below w.heap.size w w'→J w') (hp:∀ j,j≠k0→(AE T j).pure=true):∀ (os:List Oper) (k:Nat),sL P ops Q a0 T J k0 os k→pB P Q .any ops J (fun i v w=>(AE T i).ok v w) a0 os k
 | [],_,_=>trivial
 | o :: os,k,h=>by
  refine ⟨fun a w vals hS hv hr=>?_,uH hJ hp os (k+1) h.2⟩
  have h1:=h.1 a w hS (fun t ht=>by
   have:=hr t ht;unfold rd at this;unfold qm
   split
   ·rename_i e he
    rw [he] at this;have h2:=List.find?_some he;rw [Bool.and_eq_true] at h2;exact ⟨_,this,hv e (Array.mem_toList_iff.1 (List.mem_of_find?_eq_some he)) h2.1⟩
   rename_i he
   rw [he] at this
   exact this)
  unfold wS
  split at h1
  ·rename_i hk
   rw [if_pos h1.1];refine Oper.wp_mono ?_ h1.2;rintro a' w' ⟨⟨v,e⟩,h2,h3⟩;refine ⟨v,e,h3 v,h2,fun j u hu=>?_⟩
   by_cases hj:j=k0
   ·subst hj
    subst hk;exact h3 u
   exact Val.df (hp j hj) hu
  unfold Does at h1
  split
  ·rename_i hw
   rw [if_pos hw] at h1;refine Oper.wp_mono ?_ h1;rintro a' w' ⟨v,e1,e2,e3⟩;exact ⟨v,e1,e2,hJ _ _ hS e3,fun j u hu=>Val.keep e3 _ _ hu⟩
  rename_i hw
  rw [if_neg hw] at h1;exact h1
theorem wI {id:Nat} {ops:Array Oper} {a0:Act} {w:World} (k0:Nat) (T:List Val) (J:World→Prop) (hm:P.follows .mixedOrders=true) (hok:eN .any ops a0.tmps.size=true)
  (hJ:∀ w w',J w→Below w.heap.size w w'→J w') (hp:∀ j,j≠k0→(AE T j).pure=true) (h0:J w)
  (hR:sL P ops Q a0 T J k0 ops.toList 0)
  (hF:∀ (vals:Nat→Value) (w':World),J w'→(∀ i,i<ops.size→(AE T i).ok (vals i) w')→Q .normal (fill (fun _=>true) vals ops.toList 0 a0) w'):(Code.region id ops true).wp P Q a0 w:=
 region J (fun i v w'=>(AE T i).ok v w') hm hok (hJ _ _ h0 ((yL _ w).drew)) (uH hJ hp _ _ hR) hF
end Rg
end
section
open Go.RowKit
namespace M
def bL (a b X E:Int):Nat→Int
 | 0=>hL (hC a b) 0 (ar a b X E 0)
 | k+1=>max (bL a b X E k) (hL (hC a b) (k+1) (ar a b X E (k+1)))
def bH (a b X E:Int):Nat→Int
 | 0=>hH (hC a b) 0 (ar a b X E 0)
 | k+1=>min (bH a b X E k) (hH (hC a b) (k+1) (ar a b X E (k+1)))
def DG (a b X E:Int):Nat→Nat→Nat
 | 0,k=>k
 | f+1,k=>if isOk (ar a b X E (k+1))=true then DG a b X E f (k+1) else k
def bN (a b X E:Int):Nat:=DG a b X E 5 0
def AJ (a b X E:Int):Bool:=aN (bL a b X E (bN a b X E)) (bH a b X E (bN a b X E))
theorem sd {a b X E:Int}:∀ f k:Nat,k≤DG a b X E f k
 | 0,_=>yM _
 | f+1,k=>by
  unfold DG
  split
  ·exact Nat.le_of_succ_le (sd f (k+1))
  exact yM _
theorem se {a b X E:Int}:∀ f k:Nat,DG a b X E f k≤k+f
 | 0,_=>yM _
 | f+1,k=>by
  unfold DG
  split
  ·have:=se (a:=a) (b:=b) (X:=X) (E:=E) f (k+1);omega
  omega
theorem xW {a b X E:Int}:bN a b X E≤5:=se 5 0
theorem wB {a b X E:Int}:isOk (ar a b X E 0)=true:=by
 unfold ar
 split <;> rfl
theorem tQ {a b X E:Int} {n:Nat} (hin:M.bD a b=true) (hn:n≤5) (hX1:-10000≤X) (hX2:X≤10000) (hE1:0≤E) (hE2:E≤20):-409600000≤hL (hC a b) n (ar a b X E n)∧hL (hC a b) n (ar a b X E n)≤409600000∧-409600000≤hH (hC a b) n (ar a b X E n)∧hH (hC a b) n (ar a b X E n)≤409600000:=by
 have:=bw (xk (a:=a) (b:=b) (C:=hC a b) (ng hin) hn hX1 hX2 hE1 hE2);omega
theorem wX {a b X E:Int} (hin:M.bD a b=true) (hX1:-10000≤X) (hX2:X≤10000) (hE1:0≤E) (hE2:E≤20):∀ k:Nat,k≤5→-409600000≤bL a b X E k∧bL a b X E k≤409600000∧-409600000≤bH a b X E k∧bH a b X E k≤409600000
 | 0,h=>tQ hin h hX1 hX2 hE1 hE2
 | k+1,h=>by
  have h1:=wX hin hX1 hX2 hE1 hE2 k (by omega);have h2:=tQ (n:=k+1) hin h hX1 hX2 hE1 hE2;unfold bL bH;omega
theorem sf {a b X E:Int} {k:Nat}:∀ n:Nat,k≤n→bL a b X E k≤bL a b X E n∧bH a b X E n≤bH a b X E k
 | 0,h=>by
        obtain rfl:k=0:=by omega
        exact ⟨Int.le_refl _,Int.le_refl _⟩
 | n+1,h=>by
  by_cases e:k=n+1
  ·subst e;exact ⟨Int.le_refl _,Int.le_refl _⟩
  have:=sf (a:=a) (b:=b) (X:=X) (E:=E) (k:=k) n (by omega);have e1:bL a b X E (n+1)=max (bL a b X E n) (hL (hC a b) (n+1) (ar a b X E (n+1))):=rfl;have e2:bH a b X E (n+1)=min (bH a b X E n) (hH (hC a b) (n+1) (ar a b X E (n+1))):=rfl;omega
theorem xX {a b X E:Int} (hin:M.bD a b=true) (hX1:-10000≤X) (hX2:X≤10000) (hE1:0≤E) (hE2:E≤20) {k:Nat} (hk:k≤bN a b X E) (h:aN (bL a b X E k) (bH a b X E k)=false):AJ a b X E=false:=by
 cases hb:AJ a b X E with
 | false=>rfl
 | true=>
 have hN:=xW (a:=a) (b:=b) (X:=X) (E:=E);have h1:=bw hb;have h2:=sf (a:=a) (b:=b) (X:=X) (E:=E) _ hk;have h3:=wX hin hX1 hX2 hE1 hE2 k (by omega)
 exfalso
 have:aN (bL a b X E k) (bH a b X E k)=true:=by
  unfold aN;simp only [Bool.and_eq_true,decide_eq_true_eq];omega
 rw [this] at h;cases h
end M
theorem lw (a b X Y E:Int) (w:World) (hg:M.good a b=true) (hX1:-10000≤X) (hX2:X≤10000) (hE1:0≤E) (hE2:E≤20) :
  Calls Tryz.prog 109 #[.agg #[.int .i64 a,.int .i64 b],.agg #[.int .i64 X,.int .i64 Y,.int .i64 E]] w fun e w'=>e=.returned (.tuple #[.agg #[.int .i64 (M.bL a b X E (M.bN a b X E)),.int .i64 (M.bH a b X E (M.bN a b X E))],.int .i64 ((M.bN a b X E:Nat):Int),.bool (M.AJ a b X E)])∧Below w.heap.size w w':=by
 have P0:=fun W=>kD a b X Y E 0 W hg hX1 hX2 hE1 hE2 (by omega)
 rw [M.wB,show ((0:Nat):Int)=0 from rfl] at P0
 have PK:=yI fun (k:Nat) W (hk:k≤5)=>kD a b X Y E k W hg hX1 hX2 hE1 hE2 hk
 have P0:=yI P0;have hL0:=yI (show M.hL (M.hC a b) 0 (M.ar a b X E 0)=M.bL a b X E 0 from rfl);have hH0:=yI (show M.hH (M.hC a b) 0 (M.ar a b X E 0)=M.bH a b X E 0 from rfl);have hin:=M.bK hg
 have hbd:=yI fun k hk=>M.tQ (a:=a) (b:=b) (X:=X) (E:=E) (n:=k) hin hk hX1 hX2 hE1 hE2
 have hbb:=yI fun k hk=>M.wX (a:=a) (b:=b) (X:=X) (E:=E) hin hX1 hX2 hE1 hE2 k hk
 clear hg hin;have C:=((aH.new w #[.int .i64 a,.int .i64 b] 29).alloc (.cells #[.int .i64 X,.int .i64 Y,.int .i64 E] 57)).alloc (.cells #[.int .i64 0,.int .i64 0] 68);have Q:=(aH.new (w.alloc (.cells #[.int .i64 a,.int .i64 b] 29)) #[.int .i64 X,.int .i64 Y,.int .i64 E] 57).alloc (.cells #[.int .i64 0,.int .i64 0] 68);rw [yJ] at Q;have R:=aH.new ((w.alloc (.cells #[.int .i64 a,.int .i64 b] 29)).alloc (.cells #[.int .i64 X,.int .i64 Y,.int .i64 E] 57)) #[.int .i64 0,.int .i64 0] 68;rw [yJ,yJ] at R;have B:=(((yL w.heap.size w).alloc (yM _) (.cells #[.int .i64 a,.int .i64 b] 29)).alloc (by rw [yJ];omega) (.cells #[.int .i64 X,.int .i64 Y,.int .i64 E] 57)).alloc (by rw [yJ,yJ];omega) (.cells #[.int .i64 0,.int .i64 0] 68);generalize hw3:((w.alloc (.cells #[.int .i64 a,.int .i64 b] 29)).alloc (.cells #[.int .i64 X,.int .i64 Y,.int .i64 E] 57)).alloc (.cells #[.int .i64 0,.int .i64 0] 68)=wc at *;have ⟨q0,q1,q2⟩:=Q.aR;have j_:=C.box.c0;have l_:=C.box.c1;generalize hu0:M.hL (M.hC a b) 0 (M.ar a b X E 0)=u0 at *;generalize hv0:M.hH (M.hC a b) 0 (M.ar a b X E 0)=v0 at *;clear hu0 hv0;go_enter Tryz.func109,Tryz.ntmps109
 go_wp2_with (go_at_call 123;(with_reducible refine (P0.out _).mono ?_);rintro e w4 ⟨rfl,hb4⟩;replace C:=C.keep hb4;replace R:=R.keep hb4;replace B:=f_ B hb4;replace Q:=Q.keep hb4;have Eh:=yI R.lt;replace Q:=Q.alloc (.cells #[.int .i64 u0,.int .i64 v0] 68);have T:=aH.new w4 #[.int .i64 u0,.int .i64 v0] 68;have b_:=bA w4 (.cells #[.int .i64 u0,.int .i64 v0] 68);replace C:=C.keep b_;replace R:=R.keep b_;replace B:=f_ B b_;clear b_;(replace ⟨j_,l_⟩:=C.b2);(replace ⟨p_,r_,t_,x_⟩:=R.zT);(replace ⟨yn,yo⟩:=T.b2))
 go_loopw [9] (fun vi wr=>∃ k:Nat,k≤5∧vi=.int .i64 k∧Hid (M.DG a b X E (5 - k) k=M.bN a b X E)∧aH wr w4.heap.size 68 #[.int .i64 (M.bL a b X E k),.int .i64 (M.bH a b X E k)]∧aH wr w.heap.size 29 #[.int .i64 a,.int .i64 b]∧aH wr (w.heap.size+1) 57 #[.int .i64 X,.int .i64 Y,.int .i64 E]∧aH wr (w.heap.size+1+1) 68 #[.int .i64 0,.int .i64 0]∧Below w.heap.size w wr) (fun vi _=>5 - (intOf vi).toNat)
 case atStart=>exact ⟨0,by omega,rfl,yI rfl,by rw [←hL0.out,←hH0.out];exact T,C,Q,R,B⟩
 case round=>
 clear C Q R B T P0 hL0 hH0 j_ l_ p_ r_ t_ x_ yn yo q0 q1 q2;have hR9:=Eh.out;obtain ⟨k,hk,rfl,hN,T,C,Q,R,B⟩:=hrel;have yn:=T.box.c0;have yo:=T.box.c1;have CW:=T.box.f0;have CX:=T.box.f1;have j_:=C.box.c0;have l_:=C.box.c1;have p_:=R.box.c0;have r_:=R.box.c1;have t_:=R.box.f0;have x_:=R.box.f1;have ⟨q0,q1,q2⟩:=Q.aR
 by_cases hlt:k<5
 ·have P1:=fun W=>PK.out (k+1) W (by omega)
  have hNs:M.DG a b X E (5 - k) k=if M.isOk (M.ar a b X E (k+1))=true then M.DG a b X E (5 - (k+1)) (k+1) else k:=by
   rw [show 5 - k=(5 - (k+1))+1 by omega];rfl
  have eL:M.bL a b X E (k+1)=max (M.bL a b X E k) (M.hL (M.hC a b) (k+1) (M.ar a b X E (k+1))):=rfl;have eH:M.bH a b X E (k+1)=min (M.bH a b X E k) (M.hH (M.hC a b) (k+1) (M.ar a b X E (k+1))):=rfl;generalize M.hH (M.hC a b) (k+1) (M.ar a b X E (k+1))=hh,M.hL (M.hC a b) (k+1) (M.ar a b X E (k+1))=hl at *
  have PC:=yI fun W=>sw (M.bL a b X E k) (M.bH a b X E k) hl hh W
  cases hok:M.isOk (M.ar a b X E (k+1)) with
  | false=>
   rw [hok,if_neg (by decide)] at hNs;have Cy:=yI (show M.bN a b X E=k by rw [←hN.out,hNs]);rw [hok] at P1
   have PV:=yI fun W=>mr (M.bL a b X E k) (M.bH a b X E k) W
   have EC:=yI (show M.AJ a b X E=M.aN (M.bL a b X E k) (M.bH a b X E k) by unfold M.AJ;rw [Cy.out]);clear hNs eL eH hok hN PC;have P1:=yI P1;have hk1:=yI (show ((k+1:Nat):Int)=(k:Int)+1 by omega);have P1:=P1.out;rw [hk1.out] at P1;have P1:=yI P1
   go_upto_region 8 with (go_at_call 123;(with_reducible refine (P1.out _).mono ?_);rintro e w5 ⟨rfl,hb5⟩;replace C:=C.keep hb5;replace R:=R.keep hb5;replace T:=T.keep hb5;replace B:=f_ B hb5;replace Q:=Q.keep hb5;replace Q:=Q.alloc (.cells #[.int .i64 hl,.int .i64 hh] 68);have S:=aH.new w5 #[.int .i64 hl,.int .i64 hh] 68;have b_:=bA w5 (.cells #[.int .i64 hl,.int .i64 hh] 68);replace C:=C.keep b_;replace R:=R.keep b_;replace T:=T.keep b_;replace B:=f_ B b_;clear b_;(replace ⟨j_,l_⟩:=C.b2);(replace ⟨p_,r_,t_,x_⟩:=R.zT);(replace ⟨yn,yo⟩:=T.b2);(replace ⟨CU,CV⟩:=S.b2))
   generalize w5.alloc (.cells #[.int .i64 hl,.int .i64 hh] 68)=wd at *;generalize hbk:M.bL a b X E k=bl at *;generalize Bu:M.bH a b X E k=bh at *;replace hbk:=yI hbk;replace Bu:=yI Bu;refine Rg.wI 7 [.is (.agg #[.int .i64 bl,.int .i64 bh]),.is (.int .i64 (k:Int)),.is (.bool true),.is (.bool true),.is (.agg #[.int .i64 bl,.int .i64 bh]),.is (.bool (M.aN bl bh)),.is (.bool (M.aN bl bh)),.at (fun _ W=>aH W (w.heap.size+1+1) 68 #[.int .i64 bl,.int .i64 bh]),.is (.int .i64 (k:Int)),.is (.bool (M.aN bl bh))] (fun W=>aH W w4.heap.size 68 #[.int .i64 bl,.int .i64 bh]∧(∃ u v,aH W (w.heap.size+1+1) 68 #[u,v])∧Below w.heap.size w W) (by kernel_rfl) (by kernel_rfl) ?_ (fun j hj=>match j,hj with | 0,hj=>rfl | 1,hj=>rfl | 2,hj=>rfl | 3,hj=>rfl | 4,hj=>rfl | 5,hj=>rfl | 6,hj=>rfl | 7,hj=>absurd rfl hj | 8,hj=>rfl | 9,hj=>rfl | n+10,_=>rfl) ?_ ⟨?_,?_,?_,?_,?_,?_,?_,?_,?_,?_,trivial⟩ ?_
   ·exact fun W W_ h hb=>⟨h.1.keep hb,⟨_,_,h.2.1.choose_spec.choose_spec.keep hb⟩,h.2.2.trans (hb.mono h.2.2.size)⟩
   ·exact ⟨T,⟨_,_,R⟩,B⟩
   ·intro zZ w_ hJ hr
    rw [if_neg (by decide)];have e7:zZ.tmps[7]?=some (.pointer (some ⟨w4.heap.size,0,none⟩)):=hr 7 (by decide);have k0:=hJ.1.box.c0;have k1:=hJ.1.box.c1;exact Rg.aG rfl (by go_simp)
   ·intro zZ w_ hJ hr
    rw [if_neg (by decide)];have e9:zZ.tmps[9]?=some (.int .i64 (k:Int)):=hr 9 (by decide);exact Rg.aG rfl (by go_simp)
   ·intro zZ w_ hJ hr
    rw [if_neg (by decide)];have e8:zZ.tmps[8]?=some (.bool true):=hr 8 (by decide);exact Rg.aG rfl (by go_simp)
   ·intro zZ w_ hJ hr
    rw [if_neg (by decide)];have e37:=Rg.a_ (hr 37 (by decide));exact Rg.aG rfl (by go_simp)
   ·intro zZ w_ hJ hr
    rw [if_neg (by decide)];have e7:zZ.tmps[7]?=some (.pointer (some ⟨w4.heap.size,0,none⟩)):=hr 7 (by decide);have e38:=Rg.a_ (hr 38 (by decide));have k0:=hJ.1.box.c0;have k1:=hJ.1.box.c1;exact Rg.aG (Rg.aU (j:=3) (b:=true) rfl (Rg.yX rfl e38)) (by go_simp)
   ·intro zZ w_ hJ hr
    rw [if_neg (by decide)];have e38:=Rg.a_ (hr 38 (by decide));have e39:=Rg.a_ (hr 39 (by decide));have ef:=Rg.ef zZ;exact Rg.bU (Rg.aU (j:=3) (b:=true) rfl (Rg.yX rfl e38)) (by go_simp) (PV.out _)
   ·intro zZ w_ hJ hr
    rw [if_neg (by decide)];have e38:=Rg.a_ (hr 38 (by decide));have e40:=Rg.a_ (hr 40 (by decide));have ec:=Rg.ec zZ;exact Rg.aG rfl (by first | (go_simp;done))
   ·intro zZ w_ hJ hr
    rw [if_pos rfl];have e4:zZ.tmps[4]?=some (.pointer (some ⟨w.heap.size+1+1,0,none⟩)):=hr 4 (by decide);have e35:=Rg.a_ (hr 35 (by decide));obtain ⟨L1,⟨u_,v_,hJ2⟩,hJ3⟩:=hJ;have e35:zZ.tmps[35]?=some (.agg #[.int .i64 bl,.int .i64 bh]):=Rg.a_ (hr 35 (by decide));have e4:zZ.tmps[4]?=some (.pointer (some ⟨w.heap.size+1+1,0,none⟩)):=hr 4 (by decide);have ⟨y0,y1,x0,x1,_⟩:=hJ2.box;refine ⟨rfl,?_⟩;unfold Oper.wp
    go_simp
    exact ⟨⟨L1.bg (show w4.heap.size≠w.heap.size+1+1 by omega) _ _,⟨_,_,aH.set2 hJ2 _ _⟩,dL hJ3 (by omega) _ _⟩,fun _ _ hb=>(aH.set2 hJ2 _ _).keep hb⟩
   ·intro zZ w_ hJ hr
    rw [if_neg (by decide)];have e36:=Rg.a_ (hr 36 (by decide));exact Rg.aG rfl (by go_simp)
   ·intro zZ w_ hJ hr
    rw [if_neg (by decide)];have e41:=Rg.a_ (hr 41 (by decide));exact Rg.aG rfl (by go_simp)
   intro vals wz hJ2 hv;have CG:vals 8=.int .i64 (k:Int):=hv 8 (by decide);have Ad:vals 9=.bool (M.aN bl bh):=hv 9 (by decide);have hst:=hv 7 (by decide);simp only [Rg.ak,Rg.fill,Act.put,Nat.reduceAdd];clear hv;simp only [CG,Ad];clear CG Ad;have ⟨y0,y1,x0,x1,_⟩:=aH.box (Rg.ag hst);have B2:=hJ2.2.2;clear hst hJ2;go_wp2;exact bodyPost_ret (v:=.tuple #[.agg #[.int .i64 bl,.int .i64 bh],.int .i64 (k:Int),.bool (M.aN bl bh)]) (by simp [results,Tryz.results109,go_sem, *]) rfl (⟨by rw [Cy.out,EC.out,hbk.out,Bu.out],B2⟩)
  | true=>
  rw [hok,if_pos rfl] at hNs;have I_:=yI (hNs.symm.trans hN.out);rw [hok] at P1;have eL:=yI eL;have eH:=yI eH;clear hNs hok hN;have hk1:=yI (show ((k+1:Nat):Int)=(k:Int)+1 by omega);rw [hk1.out] at P1;have P1:=yI P1;generalize hbk:M.bL a b X E k=bl at *;generalize Bu:M.bH a b X E k=bh at *;clear hbk Bu
  go_wp2_with (first
   | (go_at_call 123;(with_reducible refine (P1.out _).mono ?_);rintro e w5 ⟨rfl,hb5⟩;replace C:=C.keep hb5;replace R:=R.keep hb5;replace T:=T.keep hb5;replace B:=f_ B hb5;replace Q:=Q.keep hb5;replace Q:=Q.alloc (.cells #[.int .i64 hl,.int .i64 hh] 68);have S:=aH.new w5 #[.int .i64 hl,.int .i64 hh] 68;have b_:=bA w5 (.cells #[.int .i64 hl,.int .i64 hh] 68);replace C:=C.keep b_;replace R:=R.keep b_;replace T:=T.keep b_;replace B:=f_ B b_;clear b_;(replace ⟨j_,l_⟩:=C.b2);(replace ⟨p_,r_,t_,x_⟩:=R.zT);(replace ⟨yn,yo,CW,CX⟩:=T.zT);(replace ⟨CU,CV⟩:=S.b2))
   | (go_at_call 124;(with_reducible refine (PC.out _).mono ?_);rintro e w6 ⟨rfl,hb6⟩;replace C:=C.keep hb6;replace R:=R.keep hb6;replace T:=T.keep hb6;replace S:=S.keep hb6;replace B:=f_ B hb6;replace Q:=Q.keep hb6;(replace ⟨j_,l_⟩:=C.b2);(replace ⟨p_,r_,t_,x_⟩:=R.zT);(replace ⟨yn,yo,CW,CX⟩:=T.zT);(replace ⟨CU,CV⟩:=S.b2)))
  go_roundw
  case rel=>exact ⟨k+1,by omega,by go_num,I_,by rw [eL.out,eH.out];exact aH.set2 T _ _,(C.other (show w.heap.size≠w4.heap.size by omega) _).other (show w.heap.size≠w4.heap.size by omega) _,(Q.other (show w.heap.size+1≠w4.heap.size by omega) _).other (show w.heap.size+1≠w4.heap.size by omega) _,(R.other (show w.heap.size+1+1≠w4.heap.size by omega) _).other (show w.heap.size+1+1≠w4.heap.size by omega) _,yK (yK B (by simp <;> omega) _) (by simp <;> omega) _⟩
  case measure=>simp [intOf] <;> omega
 obtain rfl:k=5:=by omega
 have Cy:=yI (show M.bN a b X E=5 by rw [←hN.out];rfl)
 have PV:=yI fun W=>mr (M.bL a b X E 5) (M.bH a b X E 5) W
 have EC:=yI (show M.AJ a b X E=M.aN (M.bL a b X E 5) (M.bH a b X E 5) by unfold M.AJ;rw [Cy.out]);clear hN PK
 obtain ⟨k,hk5⟩:∃ k:Nat,k=5:=⟨5,rfl⟩
 rw [←hk5] at Cy PV EC T ⊢;rw [←hk5] at yn yo
 have hlt5:¬ (k:Int)<5:=by omega
 go_upto_region 8 with fail
 generalize hbk:M.bL a b X E k=bl at *;generalize Bu:M.bH a b X E k=bh at *;replace hbk:=yI hbk;replace Bu:=yI Bu;refine Rg.wI 7 [.is (.agg #[.int .i64 bl,.int .i64 bh]),.is (.int .i64 (k:Int)),.is (.bool true),.is (.bool true),.is (.agg #[.int .i64 bl,.int .i64 bh]),.is (.bool (M.aN bl bh)),.is (.bool (M.aN bl bh)),.at (fun _ W=>aH W (w.heap.size+1+1) 68 #[.int .i64 bl,.int .i64 bh]),.is (.int .i64 (k:Int)),.is (.bool (M.aN bl bh))] (fun W=>aH W w4.heap.size 68 #[.int .i64 bl,.int .i64 bh]∧(∃ u v,aH W (w.heap.size+1+1) 68 #[u,v])∧Below w.heap.size w W) (by kernel_rfl) (by kernel_rfl) ?_ (fun j hj=>match j,hj with | 0,hj=>rfl | 1,hj=>rfl | 2,hj=>rfl | 3,hj=>rfl | 4,hj=>rfl | 5,hj=>rfl | 6,hj=>rfl | 7,hj=>absurd rfl hj | 8,hj=>rfl | 9,hj=>rfl | n+10,_=>rfl) ?_ ⟨?_,?_,?_,?_,?_,?_,?_,?_,?_,?_,trivial⟩ ?_
 ·exact fun W W_ h hb=>⟨h.1.keep hb,⟨_,_,h.2.1.choose_spec.choose_spec.keep hb⟩,h.2.2.trans (hb.mono h.2.2.size)⟩
 ·exact ⟨T,⟨_,_,R⟩,B⟩
 ·intro zZ w_ hJ hr
  rw [if_neg (by decide)];have e7:zZ.tmps[7]?=some (.pointer (some ⟨w4.heap.size,0,none⟩)):=hr 7 (by decide);have k0:=hJ.1.box.c0;have k1:=hJ.1.box.c1;exact Rg.aG rfl (by go_simp)
 ·intro zZ w_ hJ hr
  rw [if_neg (by decide)];have e9:zZ.tmps[9]?=some (.int .i64 (k:Int)):=hr 9 (by decide);exact Rg.aG rfl (by go_simp)
 ·intro zZ w_ hJ hr
  rw [if_neg (by decide)];have e8:zZ.tmps[8]?=some (.bool true):=hr 8 (by decide);exact Rg.aG rfl (by go_simp)
 ·intro zZ w_ hJ hr
  rw [if_neg (by decide)];have e37:=Rg.a_ (hr 37 (by decide));exact Rg.aG rfl (by go_simp)
 ·intro zZ w_ hJ hr
  rw [if_neg (by decide)];have e7:zZ.tmps[7]?=some (.pointer (some ⟨w4.heap.size,0,none⟩)):=hr 7 (by decide);have e38:=Rg.a_ (hr 38 (by decide));have k0:=hJ.1.box.c0;have k1:=hJ.1.box.c1;exact Rg.aG (Rg.aU (j:=3) (b:=true) rfl (Rg.yX rfl e38)) (by go_simp)
 ·intro zZ w_ hJ hr
  rw [if_neg (by decide)];have e38:=Rg.a_ (hr 38 (by decide));have e39:=Rg.a_ (hr 39 (by decide));have ef:=Rg.ef zZ;exact Rg.bU (Rg.aU (j:=3) (b:=true) rfl (Rg.yX rfl e38)) (by go_simp) (PV.out _)
 ·intro zZ w_ hJ hr
  rw [if_neg (by decide)];have e38:=Rg.a_ (hr 38 (by decide));have e40:=Rg.a_ (hr 40 (by decide));have ec:=Rg.ec zZ;exact Rg.aG rfl (by first | (go_simp;done))
 ·intro zZ w_ hJ hr
  rw [if_pos rfl];have e4:zZ.tmps[4]?=some (.pointer (some ⟨w.heap.size+1+1,0,none⟩)):=hr 4 (by decide);have e35:=Rg.a_ (hr 35 (by decide));obtain ⟨L1,⟨u_,v_,hJ2⟩,hJ3⟩:=hJ;have e35:zZ.tmps[35]?=some (.agg #[.int .i64 bl,.int .i64 bh]):=Rg.a_ (hr 35 (by decide));have e4:zZ.tmps[4]?=some (.pointer (some ⟨w.heap.size+1+1,0,none⟩)):=hr 4 (by decide);have ⟨y0,y1,x0,x1,_⟩:=hJ2.box;refine ⟨rfl,?_⟩;unfold Oper.wp
  go_simp
  exact ⟨⟨L1.bg (show w4.heap.size≠w.heap.size+1+1 by omega) _ _,⟨_,_,aH.set2 hJ2 _ _⟩,dL hJ3 (by omega) _ _⟩,fun _ _ hb=>(aH.set2 hJ2 _ _).keep hb⟩
 ·intro zZ w_ hJ hr
  rw [if_neg (by decide)];have e36:=Rg.a_ (hr 36 (by decide));exact Rg.aG rfl (by go_simp)
 ·intro zZ w_ hJ hr
  rw [if_neg (by decide)];have e41:=Rg.a_ (hr 41 (by decide));exact Rg.aG rfl (by go_simp)
 intro vals wz hJ2 hv;have CG:vals 8=.int .i64 (k:Int):=hv 8 (by decide);have Ad:vals 9=.bool (M.aN bl bh):=hv 9 (by decide);have hst:=hv 7 (by decide);simp only [Rg.ak,Rg.fill,Act.put,Nat.reduceAdd];clear hv;simp only [CG,Ad];clear CG Ad;have ⟨y0,y1,x0,x1,_⟩:=aH.box (Rg.ag hst);have B2:=hJ2.2.2;clear hst hJ2;go_wp2;exact bodyPost_ret (v:=.tuple #[.agg #[.int .i64 bl,.int .i64 bh],.int .i64 (k:Int),.bool (M.aN bl bh)]) (by simp [results,Tryz.results109,go_sem, *]) rfl (⟨by rw [Cy.out,EC.out,hbk.out,Bu.out],B2⟩)
theorem sn (a b X Y E:Int) (w:World) (hg:M.good a b=true) (hX1:-10000≤X) (hX2:X≤10000) (hE1:0≤E) (hE2:E≤20) :
  Calls Tryz.prog 105 #[.agg #[.int .i64 a,.int .i64 b],.agg #[.int .i64 X,.int .i64 Y,.int .i64 E]] w fun e w'=>e=.returned (.tuple #[.agg #[.int .i64 (M.pick (M.AJ a b X E) (M.pn (M.bL a b X E (M.bN a b X E)))),.int .i64 (M.pick (M.AJ a b X E) (M.pd (M.bL a b X E (M.bN a b X E)))),.int .i64 (M.pick (M.AJ a b X E) (M.pn (M.bH a b X E (M.bN a b X E)))),.int .i64 (M.pick (M.AJ a b X E) (M.pd (M.bH a b X E (M.bN a b X E))))],.int .i64 (M.pick (M.AJ a b X E) ((M.bN a b X E:Nat):Int)),.bool (M.AJ a b X E)])∧Below w.heap.size w w':=by
 have P0:=fun W=>jq a b X Y E 0 W hg hX1 hX2 hE1 hE2 (by omega)
 rw [M.wB,show ((0:Nat):Int)=0 from rfl] at P0;simp only [M.ek] at P0
 have PK:=yI fun (k:Nat) W (hk:k≤5)=>jq a b X Y E k W hg hX1 hX2 hE1 hE2 hk
 have hL0:=yI (show M.hL (M.hC a b) 0 (M.ar a b X E 0)=M.bL a b X E 0 from rfl);have hH0:=yI (show M.hH (M.hC a b) 0 (M.ar a b X E 0)=M.bH a b X E 0 from rfl);have hin:=M.bK hg
 have hno:=yI fun k hk hs=>M.xX (a:=a) (b:=b) (X:=X) (E:=E) (k:=k) hin hX1 hX2 hE1 hE2 hk hs
 have hss:=yI fun n hn=>M.xk (a:=a) (b:=b) (X:=X) (E:=E) (C:=M.hC a b) (n:=n) (M.ng hin) hn hX1 hX2 hE1 hE2
 have hs0:=yI (show M.aN (M.bL a b X E 0) (M.bH a b X E 0)=true from hss.out 0 (by omega));clear hg hin;rw [hL0.out,hH0.out] at P0;clear hL0 hH0;have P0:=yI P0;have C:=((aH.new w #[.int .i64 a,.int .i64 b] 29).alloc (.cells #[.int .i64 X,.int .i64 Y,.int .i64 E] 57)).alloc (.cells #[.int .i64 0,.int .i64 0,.int .i64 0,.int .i64 0] 64);have Q:=(aH.new (w.alloc (.cells #[.int .i64 a,.int .i64 b] 29)) #[.int .i64 X,.int .i64 Y,.int .i64 E] 57).alloc (.cells #[.int .i64 0,.int .i64 0,.int .i64 0,.int .i64 0] 64);rw [yJ] at Q;have R:=aH.new ((w.alloc (.cells #[.int .i64 a,.int .i64 b] 29)).alloc (.cells #[.int .i64 X,.int .i64 Y,.int .i64 E] 57)) #[.int .i64 0,.int .i64 0,.int .i64 0,.int .i64 0] 64;rw [yJ,yJ] at R;have B:=(((yL w.heap.size w).alloc (yM _) (.cells #[.int .i64 a,.int .i64 b] 29)).alloc (by rw [yJ];omega) (.cells #[.int .i64 X,.int .i64 Y,.int .i64 E] 57)).alloc (by rw [yJ,yJ];omega) (.cells #[.int .i64 0,.int .i64 0,.int .i64 0,.int .i64 0] 64);generalize hw3:((w.alloc (.cells #[.int .i64 a,.int .i64 b] 29)).alloc (.cells #[.int .i64 X,.int .i64 Y,.int .i64 E] 57)).alloc (.cells #[.int .i64 0,.int .i64 0,.int .i64 0,.int .i64 0] 64)=wc at *;have ⟨q0,q1,q2⟩:=Q.aR;have j_:=C.box.c0;have l_:=C.box.c1;have p_:=R.aM.c0;have t_:=R.aM.f0;have r_:=R.aM.c1;have x_:=R.aM.f1;have yO:=R.aM.c2;have yQ:=R.aM.f2;have yP:=R.aM.c3;have yR:=R.aM.f3;generalize hu1:M.pn (M.bL a b X E 0)=u1 at *;generalize hu2:M.pd (M.bL a b X E 0)=u2 at *;generalize hu3:M.pn (M.bH a b X E 0)=u3 at *;generalize JH:M.pd (M.bH a b X E 0)=u4 at *;replace hu1:=yI hu1;replace hu2:=yI hu2;replace hu3:=yI hu3;replace JH:=yI JH;go_enter Tryz.func105,Tryz.ntmps105
 go_wp2_with (go_at_call 121;(with_reducible refine (P0.out _).mono ?_);rintro e w4 ⟨rfl,hb4⟩;replace C:=C.keep hb4;replace R:=R.keep hb4;replace B:=f_ B hb4;replace Q:=Q.keep hb4;have Eh:=yI R.lt;replace Q:=Q.alloc (.cells #[.int .i64 u1,.int .i64 u2,.int .i64 u3,.int .i64 u4] 64);have T:=aH.new w4 #[.int .i64 u1,.int .i64 u2,.int .i64 u3,.int .i64 u4] 64;have b_:=bA w4 (.cells #[.int .i64 u1,.int .i64 u2,.int .i64 u3,.int .i64 u4] 64);replace C:=C.keep b_;replace R:=R.keep b_;replace B:=f_ B b_;clear b_;(replace ⟨j_,l_⟩:=C.b2);(replace ⟨p_,r_,yO,yP,t_,x_,yQ,yR⟩:=R.yk);(replace ⟨yn,yo,Bg,Bh⟩:=T.b4))
 go_loopw [9] (fun vi wr=>∃ k:Nat,k≤5∧vi=.int .i64 k∧Hid (M.DG a b X E (5 - k) k=M.bN a b X E)∧Hid (M.aN (M.bL a b X E k) (M.bH a b X E k)=true)∧aH wr w4.heap.size 64 #[.int .i64 (M.pn (M.bL a b X E k)),.int .i64 (M.pd (M.bL a b X E k)),.int .i64 (M.pn (M.bH a b X E k)),.int .i64 (M.pd (M.bH a b X E k))]∧aH wr w.heap.size 29 #[.int .i64 a,.int .i64 b]∧aH wr (w.heap.size+1) 57 #[.int .i64 X,.int .i64 Y,.int .i64 E]∧aH wr (w.heap.size+1+1) 64 #[.int .i64 0,.int .i64 0,.int .i64 0,.int .i64 0]∧Below w.heap.size w wr) (fun vi _=>5 - (intOf vi).toNat)
 case atStart=>exact ⟨0,by omega,rfl,yI rfl,hs0,by rw [hu1.out,hu2.out,hu3.out,JH.out];exact T,C,Q,R,B⟩
 case round=>
 clear C Q R B T P0 j_ l_ p_ r_ yO yP t_ x_ yQ yR yn yo Bg Bh q0 q1 q2 hu1 hu2 hu3 JH hs0;have hR9:=Eh.out;obtain ⟨k,hk,rfl,hN,hsk,T,C,Q,R,B⟩:=hrel;have eL:M.bL a b X E (k+1)=max (M.bL a b X E k) (M.hL (M.hC a b) (k+1) (M.ar a b X E (k+1))):=rfl;have eH:M.bH a b X E (k+1)=min (M.bH a b X E k) (M.hH (M.hC a b) (k+1) (M.ar a b X E (k+1))):=rfl;have eL:=yI eL;have eH:=yI eH;generalize hbk:M.bL a b X E k=bl at *;generalize Bu:M.bH a b X E k=bh at *;replace hbk:=yI hbk;replace Bu:=yI Bu;have j_:=C.box.c0;have l_:=C.box.c1;have ⟨q0,q1,q2⟩:=Q.aR;have yn:=T.aM.c0;have yo:=T.aM.c1;have Bg:=T.aM.c2;have Bh:=T.aM.c3;have CW:=T.aM.f0;have CX:=T.aM.f1;have ES:=T.aM.f2;have ET:=T.aM.f3;have p_:=R.aM.c0;have r_:=R.aM.c1;have yO:=R.aM.c2;have yP:=R.aM.c3;have t_:=R.aM.f0;have x_:=R.aM.f1;have yQ:=R.aM.f2;have yR:=R.aM.f3
 by_cases hlt:k<5
 ·have P1:=fun W=>PK.out (k+1) W (by omega)
  have hNs:M.DG a b X E (5 - k) k=if M.isOk (M.ar a b X E (k+1))=true then M.DG a b X E (5 - (k+1)) (k+1) else k:=by
   rw [show 5 - k=(5 - (k+1))+1 by omega];rfl
  have hsn:=hss.out (k+1) (by omega);generalize M.hH (M.hC a b) (k+1) (M.ar a b X E (k+1))=hh,M.hL (M.hC a b) (k+1) (M.ar a b X E (k+1))=hl at *;have hk1:=yI (show ((k+1:Nat):Int)=(k:Int)+1 by omega);rw [hk1.out] at P1
  cases hok:M.isOk (M.ar a b X E (k+1)) with
  | false=>
   rw [hok,if_neg (by decide)] at hNs;have Cy:=yI (show M.bN a b X E=k by rw [←hN.out,hNs]);rw [hok] at P1;simp only [M.f8] at P1;have EC:=yI (show M.AJ a b X E=true by unfold M.AJ;rw [Cy.out,hbk.out,Bu.out];exact hsk.out);clear hNs hok hN eL eH hsn;have P1:=yI P1;generalize DA:M.pn (bl)=t1 at *;replace DA:=yI DA;generalize DB:M.pd (bl)=t2 at *;replace DB:=yI DB;generalize DC:M.pn (bh)=t3 at *;replace DC:=yI DC;generalize DD:M.pd (bh)=t4 at *;replace DD:=yI DD
   go_wp2_with (go_at_call 121;(with_reducible refine (P1.out _).mono ?_);rintro e w5 ⟨rfl,hb5⟩;replace C:=C.keep hb5;replace R:=R.keep hb5;replace T:=T.keep hb5;replace B:=f_ B hb5;replace Q:=Q.keep hb5;replace Q:=Q.alloc (.cells #[.int .i64 0,.int .i64 0,.int .i64 0,.int .i64 0] 64);have S:=aH.new w5 #[.int .i64 0,.int .i64 0,.int .i64 0,.int .i64 0] 64;have b_:=bA w5 (.cells #[.int .i64 0,.int .i64 0,.int .i64 0,.int .i64 0] 64);replace C:=C.keep b_;replace R:=R.keep b_;replace T:=T.keep b_;replace B:=f_ B b_;clear b_;(replace ⟨j_,l_⟩:=C.b2);(replace ⟨p_,r_,yO,yP,t_,x_,yQ,yR⟩:=R.yk);(replace ⟨yn,yo,Bg,Bh⟩:=T.b4);(replace ⟨CU,CV,EM,EO⟩:=S.b4))
   exact bodyPost_ret (v:=.tuple #[.agg #[.int .i64 t1,.int .i64 t2,.int .i64 t3,.int .i64 t4],.int .i64 (k:Int),.bool true]) (by simp [results,Tryz.results105,go_sem, *]) rfl (⟨by rw [Cy.out,EC.out,hbk.out,Bu.out,DA.out,DB.out,DC.out,DD.out];simp only [M.ek],yK (yK (yK (yK B (by simp <;> omega) _) (by simp <;> omega) _) (by simp <;> omega) _) (by simp <;> omega) _⟩)
  | true=>
  rw [hok,if_pos rfl] at hNs;have I_:=yI (hNs.symm.trans hN.out);rw [hok] at P1;simp only [M.ek] at P1
  have PC:=fun W=>lj bl bh hl hh W hsk.out hsn
  clear hNs hok hN;have P1:=yI P1;have hse:=yI (show M.aN (M.bL a b X E (k+1)) (M.bH a b X E (k+1))=M.aN (max bl hl) (min bh hh) by rw [eL.out,eH.out])
  cases hs:M.aN (max bl hl) (min bh hh) with
  | false=>
   have EC:=yI (show M.AJ a b X E=false from hno.out (k+1) (by have:=M.sd (a:=a) (b:=b) (X:=X) (E:=E) (5 - (k+1)) (k+1);rw [I_.out] at this;exact this) (by rw [hse.out];exact hs));rw [hs] at PC;simp only [M.f8] at PC;clear hs hse;have PC:=yI PC;generalize DA:M.pn (bl)=t1 at *;replace DA:=yI DA;generalize DB:M.pd (bl)=t2 at *;replace DB:=yI DB;generalize DC:M.pn (bh)=t3 at *;replace DC:=yI DC;generalize DD:M.pd (bh)=t4 at *;replace DD:=yI DD;generalize Iy:M.pn (hl)=y1 at *;replace Iy:=yI Iy;generalize Iz:M.pd (hl)=y2 at *;replace Iz:=yI Iz;generalize I0:M.pn (hh)=y3 at *;replace I0:=yI I0;generalize I1:M.pd (hh)=y4 at *;replace I1:=yI I1
   go_wp2_with (first
    | (go_at_call 121;(with_reducible refine (P1.out _).mono ?_);rintro e w5 ⟨rfl,hb5⟩;replace C:=C.keep hb5;replace R:=R.keep hb5;replace T:=T.keep hb5;replace B:=f_ B hb5;replace Q:=Q.keep hb5;replace Q:=Q.alloc (.cells #[.int .i64 y1,.int .i64 y2,.int .i64 y3,.int .i64 y4] 64);have S:=aH.new w5 #[.int .i64 y1,.int .i64 y2,.int .i64 y3,.int .i64 y4] 64;have b_:=bA w5 (.cells #[.int .i64 y1,.int .i64 y2,.int .i64 y3,.int .i64 y4] 64);replace C:=C.keep b_;replace R:=R.keep b_;replace T:=T.keep b_;replace B:=f_ B b_;clear b_;(replace ⟨j_,l_⟩:=C.b2);(replace ⟨p_,r_,yO,yP,t_,x_,yQ,yR⟩:=R.yk);(replace ⟨yn,yo,Bg,Bh,CW,CX,ES,ET⟩:=T.yk);(replace ⟨CU,CV,EM,EO⟩:=S.b4))
    | (go_at_call 122;(with_reducible refine (PC.out _).mono ?_);rintro e w6 ⟨rfl,hb6⟩;replace C:=C.keep hb6;replace R:=R.keep hb6;replace T:=T.keep hb6;replace S:=S.keep hb6;replace B:=f_ B hb6;replace Q:=Q.keep hb6;replace Q:=Q.alloc (.cells #[.int .i64 0,.int .i64 0,.int .i64 0,.int .i64 0] 64);have O:=aH.new w6 #[.int .i64 0,.int .i64 0,.int .i64 0,.int .i64 0] 64;have b_:=bA w6 (.cells #[.int .i64 0,.int .i64 0,.int .i64 0,.int .i64 0] 64);replace C:=C.keep b_;replace R:=R.keep b_;replace T:=T.keep b_;replace S:=S.keep b_;replace B:=f_ B b_;clear b_;(replace ⟨j_,l_⟩:=C.b2);(replace ⟨p_,r_,yO,yP,t_,x_,yQ,yR⟩:=R.yk);(replace ⟨yn,yo,Bg,Bh,CW,CX,ES,ET⟩:=T.yk);(replace ⟨CU,CV,EM,EO⟩:=S.b4);(replace ⟨AU,AV,AW,AX⟩:=O.b4)))
   exact bodyPost_ret (v:=.tuple #[.agg #[.int .i64 0,.int .i64 0,.int .i64 0,.int .i64 0],.int .i64 0,.bool false]) (by simp [results,Tryz.results105,go_sem, *]) rfl (⟨by rw [EC.out];simp only [M.f8],yK (yK (yK (yK B (by simp <;> omega) _) (by simp <;> omega) _) (by simp <;> omega) _) (by simp <;> omega) _⟩)
  | true=>
  have hs2:=yI (hse.out.trans hs);rw [hs] at PC;simp only [M.ek] at PC;clear hs hse;have PC:=yI PC;generalize DA:M.pn (bl)=t1 at *;replace DA:=yI DA;generalize DB:M.pd (bl)=t2 at *;replace DB:=yI DB;generalize DC:M.pn (bh)=t3 at *;replace DC:=yI DC;generalize DD:M.pd (bh)=t4 at *;replace DD:=yI DD;generalize Iy:M.pn (hl)=y1 at *;replace Iy:=yI Iy;generalize Iz:M.pd (hl)=y2 at *;replace Iz:=yI Iz;generalize I0:M.pn (hh)=y3 at *;replace I0:=yI I0;generalize I1:M.pd (hh)=y4 at *;replace I1:=yI I1;generalize Nb:M.pn (max bl hl)=z1 at *;replace Nb:=yI Nb;generalize Nc:M.pd (max bl hl)=z2 at *;replace Nc:=yI Nc;generalize Nd:M.pn (min bh hh)=z3 at *;replace Nd:=yI Nd;generalize Nf:M.pd (min bh hh)=z4 at *;replace Nf:=yI Nf
  go_wp2_with (first
   | (go_at_call 121;(with_reducible refine (P1.out _).mono ?_);rintro e w5 ⟨rfl,hb5⟩;replace C:=C.keep hb5;replace R:=R.keep hb5;replace T:=T.keep hb5;replace B:=f_ B hb5;replace Q:=Q.keep hb5;replace Q:=Q.alloc (.cells #[.int .i64 y1,.int .i64 y2,.int .i64 y3,.int .i64 y4] 64);have S:=aH.new w5 #[.int .i64 y1,.int .i64 y2,.int .i64 y3,.int .i64 y4] 64;have b_:=bA w5 (.cells #[.int .i64 y1,.int .i64 y2,.int .i64 y3,.int .i64 y4] 64);replace C:=C.keep b_;replace R:=R.keep b_;replace T:=T.keep b_;replace B:=f_ B b_;clear b_;(replace ⟨j_,l_⟩:=C.b2);(replace ⟨p_,r_,yO,yP,t_,x_,yQ,yR⟩:=R.yk);(replace ⟨yn,yo,Bg,Bh,CW,CX,ES,ET⟩:=T.yk);(replace ⟨CU,CV,EM,EO⟩:=S.b4))
   | (go_at_call 122;(with_reducible refine (PC.out _).mono ?_);rintro e w6 ⟨rfl,hb6⟩;replace C:=C.keep hb6;replace R:=R.keep hb6;replace T:=T.keep hb6;replace S:=S.keep hb6;replace B:=f_ B hb6;replace Q:=Q.keep hb6;replace Q:=Q.alloc (.cells #[.int .i64 z1,.int .i64 z2,.int .i64 z3,.int .i64 z4] 64);have O:=aH.new w6 #[.int .i64 z1,.int .i64 z2,.int .i64 z3,.int .i64 z4] 64;have b_:=bA w6 (.cells #[.int .i64 z1,.int .i64 z2,.int .i64 z3,.int .i64 z4] 64);replace C:=C.keep b_;replace R:=R.keep b_;replace T:=T.keep b_;replace S:=S.keep b_;replace B:=f_ B b_;clear b_;(replace ⟨j_,l_⟩:=C.b2);(replace ⟨p_,r_,yO,yP,t_,x_,yQ,yR⟩:=R.yk);(replace ⟨yn,yo,Bg,Bh,CW,CX,ES,ET⟩:=T.yk);(replace ⟨CU,CV,EM,EO⟩:=S.b4);(replace ⟨AU,AV,AW,AX⟩:=O.b4)))
  go_roundw
  case rel=>exact ⟨k+1,by omega,by go_num,I_,hs2,by rw [eL.out,eH.out,Nb.out,Nc.out,Nd.out,Nf.out];exact aH.kz T _ _ _ _,(((C.other (show w.heap.size≠w4.heap.size by omega) _).other (show w.heap.size≠w4.heap.size by omega) _).other (show w.heap.size≠w4.heap.size by omega) _).other (show w.heap.size≠w4.heap.size by omega) _,(((Q.other (show w.heap.size+1≠w4.heap.size by omega) _).other (show w.heap.size+1≠w4.heap.size by omega) _).other (show w.heap.size+1≠w4.heap.size by omega) _).other (show w.heap.size+1≠w4.heap.size by omega) _,(((R.other (show w.heap.size+1+1≠w4.heap.size by omega) _).other (show w.heap.size+1+1≠w4.heap.size by omega) _).other (show w.heap.size+1+1≠w4.heap.size by omega) _).other (show w.heap.size+1+1≠w4.heap.size by omega) _,yK (yK (yK (yK B (by simp <;> omega) _) (by simp <;> omega) _) (by simp <;> omega) _) (by simp <;> omega) _⟩
  case measure=>simp [intOf] <;> omega
 obtain rfl:k=5:=by omega
 have Cy:=yI (show M.bN a b X E=5 by rw [←hN.out];rfl);have EC:=yI (show M.AJ a b X E=true by unfold M.AJ;rw [Cy.out,hbk.out,Bu.out];exact hsk.out);clear hN PK eL eH
 obtain ⟨k,hk5⟩:∃ k:Nat,k=5:=⟨5,rfl⟩
 rw [←hk5] at Cy hbk Bu;have F6:=yI (show (k:Int)=5 by omega);clear hk5;generalize DA:M.pn (bl)=t1 at *;replace DA:=yI DA;generalize DB:M.pd (bl)=t2 at *;replace DB:=yI DB;generalize DC:M.pn (bh)=t3 at *;replace DC:=yI DC;generalize DD:M.pd (bh)=t4 at *;replace DD:=yI DD;go_wp2;exact bodyPost_ret (v:=.tuple #[.agg #[.int .i64 t1,.int .i64 t2,.int .i64 t3,.int .i64 t4],.int .i64 5,.bool true]) (by simp [results,Tryz.results105,go_sem, *]) rfl (⟨by rw [Cy.out,EC.out,F6.out,hbk.out,Bu.out,DA.out,DB.out,DC.out,DD.out];simp only [M.ek],yK (yK (yK (yK B (by simp <;> omega) _) (by simp <;> omega) _) (by simp <;> omega) _) (by simp <;> omega) _⟩)
theorem pM (a b X Y E:Int) (w:World) (hg:M.good a b=true) (hX1:-10000≤X) (hX2:X≤10000) (hE1:0≤E) (hE2:E≤20) :
  Calls Tryz.prog 87 #[.agg #[.int .i64 a,.int .i64 b],.agg #[.int .i64 X,.int .i64 Y,.int .i64 E]] w fun e w'=>e=.returned (.tuple #[.agg #[.int .i64 (M.pick (M.AJ a b X E) (M.pn (M.bL a b X E (M.bN a b X E)))),.int .i64 (M.pick (M.AJ a b X E) (M.pd (M.bL a b X E (M.bN a b X E)))),.int .i64 (M.pick (M.AJ a b X E) (M.pn (M.bH a b X E (M.bN a b X E)))),.int .i64 (M.pick (M.AJ a b X E) (M.pd (M.bH a b X E (M.bN a b X E))))],.bool (M.AJ a b X E)])∧Below w.heap.size w w':=by
 have P1:=fun W=>sn a b X Y E W hg hX1 hX2 hE1 hE2
 generalize M.pick (M.AJ a b X E) (M.pd (M.bH a b X E (M.bN a b X E)))=p4,M.pick (M.AJ a b X E) (M.pn (M.bH a b X E (M.bN a b X E)))=p3,M.pick (M.AJ a b X E) (M.pd (M.bL a b X E (M.bN a b X E)))=p2,M.pick (M.AJ a b X E) (M.pn (M.bL a b X E (M.bN a b X E)))=p1 at *;generalize M.pick (M.AJ a b X E) ((M.bN a b X E:Nat):Int)=nn at *;generalize M.AJ a b X E=s at *;have P1:=yI P1;have C:=((aH.new w #[.int .i64 a,.int .i64 b] 29).alloc (.cells #[.int .i64 X,.int .i64 Y,.int .i64 E] 57)).alloc (.cells #[.int .i64 0,.int .i64 0,.int .i64 0,.int .i64 0] 64);have Q:=(aH.new (w.alloc (.cells #[.int .i64 a,.int .i64 b] 29)) #[.int .i64 X,.int .i64 Y,.int .i64 E] 57).alloc (.cells #[.int .i64 0,.int .i64 0,.int .i64 0,.int .i64 0] 64);rw [yJ] at Q;have R:=aH.new ((w.alloc (.cells #[.int .i64 a,.int .i64 b] 29)).alloc (.cells #[.int .i64 X,.int .i64 Y,.int .i64 E] 57)) #[.int .i64 0,.int .i64 0,.int .i64 0,.int .i64 0] 64;rw [yJ,yJ] at R;have B:=(((yL w.heap.size w).alloc (yM _) (.cells #[.int .i64 a,.int .i64 b] 29)).alloc (by rw [yJ];omega) (.cells #[.int .i64 X,.int .i64 Y,.int .i64 E] 57)).alloc (by rw [yJ,yJ];omega) (.cells #[.int .i64 0,.int .i64 0,.int .i64 0,.int .i64 0] 64);generalize hw3:((w.alloc (.cells #[.int .i64 a,.int .i64 b] 29)).alloc (.cells #[.int .i64 X,.int .i64 Y,.int .i64 E] 57)).alloc (.cells #[.int .i64 0,.int .i64 0,.int .i64 0,.int .i64 0] 64)=wc at *;have ⟨q0,q1,q2⟩:=Q.aR;have j_:=C.box.c0;have l_:=C.box.c1;go_enter Tryz.func87,Tryz.ntmps87
 go_wp2_with (go_at_call 105;(with_reducible refine (P1.out _).mono ?_);rintro e w4 ⟨rfl,hb4⟩;replace C:=C.keep hb4;replace R:=R.keep hb4;replace B:=f_ B hb4;have T:=aH.new w4 #[.int .i64 p1,.int .i64 p2,.int .i64 p3,.int .i64 p4] 64;have b_:=bA w4 (.cells #[.int .i64 p1,.int .i64 p2,.int .i64 p3,.int .i64 p4] 64);replace C:=C.keep b_;replace R:=R.keep b_;replace B:=f_ B b_;clear b_;(replace ⟨j_,l_⟩:=C.b2);(replace ⟨p_,r_,yO,yP,t_,x_,yQ,yR⟩:=R.yk);(replace ⟨yn,yo,Bg,Bh⟩:=T.b4))
 exact bodyPost_ret (v:=.tuple #[.agg #[.int .i64 p1,.int .i64 p2,.int .i64 p3,.int .i64 p4],.bool s]) (by simp [results,Tryz.results87,go_sem, *]) rfl (⟨rfl,yK (yK (yK (yK B (by simp <;> omega) _) (by simp <;> omega) _) (by simp <;> omega) _) (by simp <;> omega) _⟩)
end
end Go.Proofs.YtgfkcoablfjbcaaGreat
