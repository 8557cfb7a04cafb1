/-
  Joined texts: contracts and plain lemmas.
-/
import Derived.Test.YtgfkcoablfjbcaaGreatV1
import Derived.Test.YtgfkcoablfjbcaaGreatV8
import Derived.Test.YtgfkcoablfjbcaaGreatV5
set_option linter.unusedSimpArgs false
set_option linter.unusedVariables false
set_option maxRecDepth 100000
set_option maxHeartbeats 8000000
namespace Go.Proofs.YtgfkcoablfjbcaaGreat
section
open Go.RowKit
theorem M.xO {a b:Int} (h:(M.AB a 4096).isSome=false∨(M.AB b 4096).isSome=false):M.aN a b=false:=by
 cases hs:M.aN a b with
 | false=>rfl
 | true=>
 obtain ⟨h1,h2,h3⟩:=M.bw hs;rw [M.bO (by omega) (by omega),M.bO (by omega) (by omega)] at h;simp at h
theorem fy (a b:Int) (w:World) (h1:-4000000000000000000≤a) (h2:a≤4000000000000000000) (h3:-4000000000000000000≤b) (h4:b≤4000000000000000000) :
  Calls Tryz.prog 92 #[.int .i64 a,.int .i64 b] w fun e w'=>e=.returned (.tuple #[.agg #[.int .i64 (M.pick (M.aN (a) (b)) (M.pn (a))),.int .i64 (M.pick (M.aN (a) (b)) (M.pd (a))),.int .i64 (M.pick (M.aN (a) (b)) (M.pn (b))),.int .i64 (M.pick (M.aN (a) (b)) (M.pd (b)))],.bool (M.aN (a) (b))])∧Below w.heap.size w w':=by
 have P1:=fun W=>nc a 4096 W h1 h2 (by omega) (by omega) (by omega)
 have P2:=fun W=>nc b 4096 W h3 h4 (by omega) (by omega) (by omega)
 have PG:=fun W (q1:(M.AB a 4096).isSome=true) (q2:(M.AB b 4096).isSome=true)=>kJ a b W q1 q2
 have hno:=@M.xO a b;have e1:=yJ (show M.pn a=M.fN (M.AB a 4096) from rfl);have e2:=yJ (show M.pd a=M.fD (M.AB a 4096) from rfl);have e3:=yJ (show M.pn b=M.fN (M.AB b 4096) from rfl);have e4:=yJ (show M.pd b=M.fD (M.AB b 4096) from rfl);rw [e1.out,e2.out,e3.out,e4.out] at PG ⊢;clear e1 e2 e3 e4;generalize M.fD (M.AB b 4096)=p4,M.fN (M.AB b 4096)=p3,M.fD (M.AB a 4096)=p2,M.fN (M.AB a 4096)=p1,(M.AB b 4096).isSome=o2,(M.AB a 4096).isSome=o1 at *;replace P1:=yJ P1;replace P2:=yJ P2;have R:=aH.new w #[.int .i64 0,.int .i64 0,.int .i64 0,.int .i64 0] 64;have B:=(yM w.heap.size w).alloc (yN _) (.cells #[.int .i64 0,.int .i64 0,.int .i64 0,.int .i64 0] 64);generalize hw3:w.alloc (.cells #[.int .i64 0,.int .i64 0,.int .i64 0,.int .i64 0] 64)=wc at *
 cases o1 with
 | false=>
  rw [hno (Or.inl rfl)];clear hno PG;go_enter Tryz.func92,Tryz.ntmps92
  go_wp2_with (first
   | (go_at_call 107;(with_reducible refine (P1.out _).mono ?_);rintro e w4 ⟨rfl,hb4⟩;replace R:=R.keep hb4;replace B:=i_ B hb4;have F:=aH.new w4 #[.int .i64 p1,.int .i64 p2] 45;have b_:=bA w4 (.cells #[.int .i64 p1,.int .i64 p2] 45);replace R:=R.keep b_;replace B:=i_ B b_;clear b_;(replace ⟨r_,s_,yQ,yR,x_,yO,yS,yT⟩:=R.ym);(replace ⟨BX,BZ⟩:=F.b2))
   | (go_at_call 107;(with_reducible refine (P2.out _).mono ?_);rintro e w5 ⟨rfl,hb5⟩;replace R:=R.keep hb5;replace F:=F.keep hb5;replace B:=i_ B hb5;have G:=aH.new w5 #[.int .i64 p3,.int .i64 p4] 45;have b_:=bA w5 (.cells #[.int .i64 p3,.int .i64 p4] 45);replace R:=R.keep b_;replace F:=F.keep b_;replace B:=i_ B b_;clear b_;(replace ⟨r_,s_,yQ,yR,x_,yO,yS,yT⟩:=R.ym);(replace ⟨BX,BZ⟩:=F.b2);(replace ⟨DX,DY⟩:=G.b2);have O:=aH.new (w5.alloc (.cells #[.int .i64 p3,.int .i64 p4] 45)) #[.int .i64 p1,.int .i64 p2,.int .i64 p3,.int .i64 p4] 64;have b_:=bA (w5.alloc (.cells #[.int .i64 p3,.int .i64 p4] 45)) (.cells #[.int .i64 p1,.int .i64 p2,.int .i64 p3,.int .i64 p4] 64);replace R:=R.keep b_;replace F:=F.keep b_;replace G:=G.keep b_;replace B:=i_ B b_;clear b_;(rw [yK] at O);have AY:=O.aM.c0;have AZ:=O.aM.c1;have Aa:=O.aM.c2;have Ab:=O.aM.c3;have r_:=R.aM.c0;have s_:=R.aM.c1;have yQ:=R.aM.c2;have yR:=R.aM.c3;have x_:=R.aM.f0;have yO:=R.aM.f1;have yS:=R.aM.f2;have yT:=R.aM.f3))
  exact bodyPost_ret (v:=.tuple #[.agg #[.int .i64 0,.int .i64 0,.int .i64 0,.int .i64 0],.bool false]) (by simp [results,Tryz.results92,go_sem, *]) rfl (⟨rfl,yL (yL (yL (yL B (by simp <;> omega) _) (by simp <;> omega) _) (by simp <;> omega) _) (by simp <;> omega) _⟩)
 | true=>
 cases o2 with
 | false=>
  rw [hno (Or.inr rfl)];clear hno PG;go_enter Tryz.func92,Tryz.ntmps92
  go_wp2_with (first
   | (go_at_call 107;(with_reducible refine (P1.out _).mono ?_);rintro e w4 ⟨rfl,hb4⟩;replace R:=R.keep hb4;replace B:=i_ B hb4;have F:=aH.new w4 #[.int .i64 p1,.int .i64 p2] 45;have b_:=bA w4 (.cells #[.int .i64 p1,.int .i64 p2] 45);replace R:=R.keep b_;replace B:=i_ B b_;clear b_;(replace ⟨r_,s_,yQ,yR,x_,yO,yS,yT⟩:=R.ym);(replace ⟨BX,BZ⟩:=F.b2))
   | (go_at_call 107;(with_reducible refine (P2.out _).mono ?_);rintro e w5 ⟨rfl,hb5⟩;replace R:=R.keep hb5;replace F:=F.keep hb5;replace B:=i_ B hb5;have G:=aH.new w5 #[.int .i64 p3,.int .i64 p4] 45;have b_:=bA w5 (.cells #[.int .i64 p3,.int .i64 p4] 45);replace R:=R.keep b_;replace F:=F.keep b_;replace B:=i_ B b_;clear b_;(replace ⟨r_,s_,yQ,yR,x_,yO,yS,yT⟩:=R.ym);(replace ⟨BX,BZ⟩:=F.b2);(replace ⟨DX,DY⟩:=G.b2);have O:=aH.new (w5.alloc (.cells #[.int .i64 p3,.int .i64 p4] 45)) #[.int .i64 p1,.int .i64 p2,.int .i64 p3,.int .i64 p4] 64;have b_:=bA (w5.alloc (.cells #[.int .i64 p3,.int .i64 p4] 45)) (.cells #[.int .i64 p1,.int .i64 p2,.int .i64 p3,.int .i64 p4] 64);replace R:=R.keep b_;replace F:=F.keep b_;replace G:=G.keep b_;replace B:=i_ B b_;clear b_;(rw [yK] at O);have AY:=O.aM.c0;have AZ:=O.aM.c1;have Aa:=O.aM.c2;have Ab:=O.aM.c3;have r_:=R.aM.c0;have s_:=R.aM.c1;have yQ:=R.aM.c2;have yR:=R.aM.c3;have x_:=R.aM.f0;have yO:=R.aM.f1;have yS:=R.aM.f2;have yT:=R.aM.f3))
  exact bodyPost_ret (v:=.tuple #[.agg #[.int .i64 0,.int .i64 0,.int .i64 0,.int .i64 0],.bool false]) (by simp [results,Tryz.results92,go_sem, *]) rfl (⟨rfl,yL (yL (yL (yL B (by simp <;> omega) _) (by simp <;> omega) _) (by simp <;> omega) _) (by simp <;> omega) _⟩)
 | true=>
 have FH:=fun W=>PG W rfl rfl
 clear PG hno
 cases hs:M.aN a b with
 | true=>
  rw [hs] at FH;replace FH:=yJ FH;clear hs;go_enter Tryz.func92,Tryz.ntmps92
  go_wp2_with (first
   | (go_at_call 107;(with_reducible refine (P1.out _).mono ?_);rintro e w4 ⟨rfl,hb4⟩;replace R:=R.keep hb4;replace B:=i_ B hb4;have F:=aH.new w4 #[.int .i64 p1,.int .i64 p2] 45;have b_:=bA w4 (.cells #[.int .i64 p1,.int .i64 p2] 45);replace R:=R.keep b_;replace B:=i_ B b_;clear b_;(replace ⟨r_,s_,yQ,yR,x_,yO,yS,yT⟩:=R.ym);(replace ⟨BX,BZ⟩:=F.b2))
   | (go_at_call 107;(with_reducible refine (P2.out _).mono ?_);rintro e w5 ⟨rfl,hb5⟩;replace R:=R.keep hb5;replace F:=F.keep hb5;replace B:=i_ B hb5;have G:=aH.new w5 #[.int .i64 p3,.int .i64 p4] 45;have b_:=bA w5 (.cells #[.int .i64 p3,.int .i64 p4] 45);replace R:=R.keep b_;replace F:=F.keep b_;replace B:=i_ B b_;clear b_;(replace ⟨r_,s_,yQ,yR,x_,yO,yS,yT⟩:=R.ym);(replace ⟨BX,BZ⟩:=F.b2);(replace ⟨DX,DY⟩:=G.b2);have O:=aH.new (w5.alloc (.cells #[.int .i64 p3,.int .i64 p4] 45)) #[.int .i64 p1,.int .i64 p2,.int .i64 p3,.int .i64 p4] 64;have b_:=bA (w5.alloc (.cells #[.int .i64 p3,.int .i64 p4] 45)) (.cells #[.int .i64 p1,.int .i64 p2,.int .i64 p3,.int .i64 p4] 64);replace R:=R.keep b_;replace F:=F.keep b_;replace G:=G.keep b_;replace B:=i_ B b_;clear b_;(rw [yK] at O);have AY:=O.aM.c0;have AZ:=O.aM.c1;have Aa:=O.aM.c2;have Ab:=O.aM.c3;have r_:=R.aM.c0;have s_:=R.aM.c1;have yQ:=R.aM.c2;have yR:=R.aM.c3;have x_:=R.aM.f0;have yO:=R.aM.f1;have yS:=R.aM.f2;have yT:=R.aM.f3)
   | (go_at_call 108;(with_reducible refine (FH.out _).mono ?_);rintro e w6 ⟨rfl,hb6⟩;replace R:=R.keep hb6;replace F:=F.keep hb6;replace G:=G.keep hb6;replace O:=O.keep hb6;replace B:=i_ B hb6;(replace ⟨r_,s_,yQ,yR,x_,yO,yS,yT⟩:=R.ym);(replace ⟨BX,BZ⟩:=F.b2);(replace ⟨DX,DY⟩:=G.b2);(replace ⟨AY,AZ,Aa,Ab⟩:=O.b4)))
  exact bodyPost_ret (v:=.tuple #[.agg #[.int .i64 p1,.int .i64 p2,.int .i64 p3,.int .i64 p4],.bool true]) (by simp [results,Tryz.results92,go_sem, *]) rfl (⟨rfl,yL (yL (yL (yL B (by simp <;> omega) _) (by simp <;> omega) _) (by simp <;> omega) _) (by simp <;> omega) _⟩)
 | false=>
 rw [hs] at FH;replace FH:=yJ FH;clear hs;go_enter Tryz.func92,Tryz.ntmps92
 go_wp2_with (first
  | (go_at_call 107;(with_reducible refine (P1.out _).mono ?_);rintro e w4 ⟨rfl,hb4⟩;replace R:=R.keep hb4;replace B:=i_ B hb4;have F:=aH.new w4 #[.int .i64 p1,.int .i64 p2] 45;have b_:=bA w4 (.cells #[.int .i64 p1,.int .i64 p2] 45);replace R:=R.keep b_;replace B:=i_ B b_;clear b_;(replace ⟨r_,s_,yQ,yR,x_,yO,yS,yT⟩:=R.ym);(replace ⟨BX,BZ⟩:=F.b2))
  | (go_at_call 107;(with_reducible refine (P2.out _).mono ?_);rintro e w5 ⟨rfl,hb5⟩;replace R:=R.keep hb5;replace F:=F.keep hb5;replace B:=i_ B hb5;have G:=aH.new w5 #[.int .i64 p3,.int .i64 p4] 45;have b_:=bA w5 (.cells #[.int .i64 p3,.int .i64 p4] 45);replace R:=R.keep b_;replace F:=F.keep b_;replace B:=i_ B b_;clear b_;(replace ⟨r_,s_,yQ,yR,x_,yO,yS,yT⟩:=R.ym);(replace ⟨BX,BZ⟩:=F.b2);(replace ⟨DX,DY⟩:=G.b2);have O:=aH.new (w5.alloc (.cells #[.int .i64 p3,.int .i64 p4] 45)) #[.int .i64 p1,.int .i64 p2,.int .i64 p3,.int .i64 p4] 64;have b_:=bA (w5.alloc (.cells #[.int .i64 p3,.int .i64 p4] 45)) (.cells #[.int .i64 p1,.int .i64 p2,.int .i64 p3,.int .i64 p4] 64);replace R:=R.keep b_;replace F:=F.keep b_;replace G:=G.keep b_;replace B:=i_ B b_;clear b_;(rw [yK] at O);have AY:=O.aM.c0;have AZ:=O.aM.c1;have Aa:=O.aM.c2;have Ab:=O.aM.c3;have r_:=R.aM.c0;have s_:=R.aM.c1;have yQ:=R.aM.c2;have yR:=R.aM.c3;have x_:=R.aM.f0;have yO:=R.aM.f1;have yS:=R.aM.f2;have yT:=R.aM.f3)
  | (go_at_call 108;(with_reducible refine (FH.out _).mono ?_);rintro e w6 ⟨rfl,hb6⟩;replace R:=R.keep hb6;replace F:=F.keep hb6;replace G:=G.keep hb6;replace O:=O.keep hb6;replace B:=i_ B hb6;(replace ⟨r_,s_,yQ,yR,x_,yO,yS,yT⟩:=R.ym);(replace ⟨BX,BZ⟩:=F.b2);(replace ⟨DX,DY⟩:=G.b2);(replace ⟨AY,AZ,Aa,Ab⟩:=O.b4)))
 exact bodyPost_ret (v:=.tuple #[.agg #[.int .i64 0,.int .i64 0,.int .i64 0,.int .i64 0],.bool false]) (by simp [results,Tryz.results92,go_sem, *]) rfl (⟨rfl,yL (yL (yL (yL B (by simp <;> omega) _) (by simp <;> omega) _) (by simp <;> omega) _) (by simp <;> omega) _⟩)
theorem vC (a b c d:Int) (w:World) (hab:M.aN a b=true) (hcd:M.aN c d=true) :
  Calls Tryz.prog 71 #[.agg #[.int .i64 (M.pn a),.int .i64 (M.pd a),.int .i64 (M.pn b),.int .i64 (M.pd b)],.agg #[.int .i64 (M.pn c),.int .i64 (M.pd c),.int .i64 (M.pn d),.int .i64 (M.pd d)]] w fun e w'=>e=.returned (.tuple #[.agg #[.int .i64 (M.pick (M.aN (a+c) (b+d)) (M.pn (a+c))),.int .i64 (M.pick (M.aN (a+c) (b+d)) (M.pd (a+c))),.int .i64 (M.pick (M.aN (a+c) (b+d)) (M.pn (b+d))),.int .i64 (M.pick (M.aN (a+c) (b+d)) (M.pd (b+d)))],.bool (M.aN (a+c) (b+d))])∧Below w.heap.size w w':=by
 obtain ⟨ab,a1,b1⟩:=M.bw hab;obtain ⟨cd,c1,d1⟩:=M.bw hcd
 have E1:=fun W=>dn a b W (M.bO (by omega) (by omega)) (M.bO (by omega) (by omega))
 have E2:=fun W=>dn c d W (M.bO (by omega) (by omega)) (M.bO (by omega) (by omega))
 have PM:=fun W=>fy (a+c) (b+d) W (by omega) (by omega) (by omega) (by omega)
 generalize M.aN (a+c) (b+d)=s,M.pick (M.aN (a+c) (b+d)) (M.pd (b+d))=p4,M.pick (M.aN (a+c) (b+d)) (M.pn (b+d))=p3,M.pick (M.aN (a+c) (b+d)) (M.pd (a+c))=p2,M.pick (M.aN (a+c) (b+d)) (M.pn (a+c))=p1 at *;replace PM:=yJ PM;replace E1:=yJ E1;replace E2:=yJ E2;generalize hn1:M.pn a=n1 at *;generalize hd1:M.pd a=d1 at *;generalize hn2:M.pn b=n2 at *;generalize hd2:M.pd b=d2 at *;generalize GN:M.pn c=n3 at *;generalize hd3:M.pd c=d3 at *;generalize DH:M.pn d=n4 at *;generalize hd4:M.pd d=d4 at *;clear hn1 hn2 GN DH hd1 hd2 hd3 hd4;have V:=((aH.new w #[.int .i64 n1,.int .i64 d1,.int .i64 n2,.int .i64 d2] 64).alloc (.cells #[.int .i64 n3,.int .i64 d3,.int .i64 n4,.int .i64 d4] 64)).alloc (.cells #[.int .i64 0,.int .i64 0,.int .i64 0,.int .i64 0] 64);have U:=(aH.new (w.alloc (.cells #[.int .i64 n1,.int .i64 d1,.int .i64 n2,.int .i64 d2] 64)) #[.int .i64 n3,.int .i64 d3,.int .i64 n4,.int .i64 d4] 64).alloc (.cells #[.int .i64 0,.int .i64 0,.int .i64 0,.int .i64 0] 64);rw [yK] at U;have R:=aH.new ((w.alloc (.cells #[.int .i64 n1,.int .i64 d1,.int .i64 n2,.int .i64 d2] 64)).alloc (.cells #[.int .i64 n3,.int .i64 d3,.int .i64 n4,.int .i64 d4] 64)) #[.int .i64 0,.int .i64 0,.int .i64 0,.int .i64 0] 64;rw [yK,yK] at R;have B:=(((yM w.heap.size w).alloc (yN _) (.cells #[.int .i64 n1,.int .i64 d1,.int .i64 n2,.int .i64 d2] 64)).alloc (by rw [yK];omega) (.cells #[.int .i64 n3,.int .i64 d3,.int .i64 n4,.int .i64 d4] 64)).alloc (by rw [yK,yK];omega) (.cells #[.int .i64 0,.int .i64 0,.int .i64 0,.int .i64 0] 64);generalize hw3:((w.alloc (.cells #[.int .i64 n1,.int .i64 d1,.int .i64 n2,.int .i64 d2] 64)).alloc (.cells #[.int .i64 n3,.int .i64 d3,.int .i64 n4,.int .i64 d4] 64)).alloc (.cells #[.int .i64 0,.int .i64 0,.int .i64 0,.int .i64 0] 64)=wc at *;have yf:=V.aM.c0;have yg:=V.aM.c1;have AE:=V.aM.c2;have AF:=V.aM.c3;have yd:=U.aM.c0;have ye:=U.aM.c1;have AQ:=U.aM.c2;have AS:=U.aM.c3;have r_:=R.aM.c0;have s_:=R.aM.c1;have yQ:=R.aM.c2;have yR:=R.aM.c3;go_enter Tryz.func71,Tryz.ntmps71
 go_wp2_with (first
  | (go_at_call 89;(with_reducible refine (E1.out _).mono ?_);rintro e w4 ⟨rfl,hb4⟩;replace V:=V.keep hb4;replace U:=U.keep hb4;replace R:=R.keep hb4;replace B:=i_ B hb4;(replace ⟨yf,yg,AE,AF⟩:=V.b4);(replace ⟨yd,ye,AQ,AS⟩:=U.b4);(replace ⟨r_,s_,yQ,yR,x_,yO,yS,yT⟩:=R.ym))
  | (go_at_call 89;(with_reducible refine (E2.out _).mono ?_);rintro e w5 ⟨rfl,hb5⟩;replace V:=V.keep hb5;replace U:=U.keep hb5;replace R:=R.keep hb5;replace B:=i_ B hb5;(replace ⟨yf,yg,AE,AF⟩:=V.b4);(replace ⟨yd,ye,AQ,AS⟩:=U.b4);(replace ⟨r_,s_,yQ,yR,x_,yO,yS,yT⟩:=R.ym))
  | (go_at_call 92;(with_reducible refine (PM.out _).mono ?_);rintro e w6 ⟨rfl,hb6⟩;replace V:=V.keep hb6;replace U:=U.keep hb6;replace R:=R.keep hb6;replace B:=i_ B hb6;(replace ⟨yf,yg,AE,AF⟩:=V.b4);(replace ⟨yd,ye,AQ,AS⟩:=U.b4);(replace ⟨r_,s_,yQ,yR,x_,yO,yS,yT⟩:=R.ym)))
 exact bodyPost_ret (v:=.tuple #[.agg #[.int .i64 p1,.int .i64 p2,.int .i64 p3,.int .i64 p4],.bool s]) (by simp [results,Tryz.results71,go_sem, *]) rfl (⟨rfl,yL (yL (yL (yL B (by simp <;> omega) _) (by simp <;> omega) _) (by simp <;> omega) _) (by simp <;> omega) _⟩)
theorem vG (a b c d:Int) (w:World) (hab:M.aN a b=true) (hcd:M.aN c d=true) :
  Calls Tryz.prog 72 #[.agg #[.int .i64 (M.pn a),.int .i64 (M.pd a),.int .i64 (M.pn b),.int .i64 (M.pd b)],.agg #[.int .i64 (M.pn c),.int .i64 (M.pd c),.int .i64 (M.pn d),.int .i64 (M.pd d)]] w fun e w'=>e=.returned (.tuple #[.agg #[.int .i64 (M.pick (M.aN (a - d) (b - c)) (M.pn (a - d))),.int .i64 (M.pick (M.aN (a - d) (b - c)) (M.pd (a - d))),.int .i64 (M.pick (M.aN (a - d) (b - c)) (M.pn (b - c))),.int .i64 (M.pick (M.aN (a - d) (b - c)) (M.pd (b - c)))],.bool (M.aN (a - d) (b - c))])∧Below w.heap.size w w':=by
 obtain ⟨ab,a1,b1⟩:=M.bw hab;obtain ⟨cd,c1,d1⟩:=M.bw hcd
 have E1:=fun W=>dn a b W (M.bO (by omega) (by omega)) (M.bO (by omega) (by omega))
 have E2:=fun W=>dn c d W (M.bO (by omega) (by omega)) (M.bO (by omega) (by omega))
 have PM:=fun W=>fy (a - d) (b - c) W (by omega) (by omega) (by omega) (by omega)
 generalize M.aN (a - d) (b - c)=s,M.pick (M.aN (a - d) (b - c)) (M.pd (b - c))=p4,M.pick (M.aN (a - d) (b - c)) (M.pn (b - c))=p3,M.pick (M.aN (a - d) (b - c)) (M.pd (a - d))=p2,M.pick (M.aN (a - d) (b - c)) (M.pn (a - d))=p1 at *;replace PM:=yJ PM;replace E1:=yJ E1;replace E2:=yJ E2;generalize hn1:M.pn a=n1 at *;generalize hd1:M.pd a=d1 at *;generalize hn2:M.pn b=n2 at *;generalize hd2:M.pd b=d2 at *;generalize GN:M.pn c=n3 at *;generalize hd3:M.pd c=d3 at *;generalize DH:M.pn d=n4 at *;generalize hd4:M.pd d=d4 at *;clear hn1 hn2 GN DH hd1 hd2 hd3 hd4;have V:=((aH.new w #[.int .i64 n1,.int .i64 d1,.int .i64 n2,.int .i64 d2] 64).alloc (.cells #[.int .i64 n3,.int .i64 d3,.int .i64 n4,.int .i64 d4] 64)).alloc (.cells #[.int .i64 0,.int .i64 0,.int .i64 0,.int .i64 0] 64);have U:=(aH.new (w.alloc (.cells #[.int .i64 n1,.int .i64 d1,.int .i64 n2,.int .i64 d2] 64)) #[.int .i64 n3,.int .i64 d3,.int .i64 n4,.int .i64 d4] 64).alloc (.cells #[.int .i64 0,.int .i64 0,.int .i64 0,.int .i64 0] 64);rw [yK] at U;have R:=aH.new ((w.alloc (.cells #[.int .i64 n1,.int .i64 d1,.int .i64 n2,.int .i64 d2] 64)).alloc (.cells #[.int .i64 n3,.int .i64 d3,.int .i64 n4,.int .i64 d4] 64)) #[.int .i64 0,.int .i64 0,.int .i64 0,.int .i64 0] 64;rw [yK,yK] at R;have B:=(((yM w.heap.size w).alloc (yN _) (.cells #[.int .i64 n1,.int .i64 d1,.int .i64 n2,.int .i64 d2] 64)).alloc (by rw [yK];omega) (.cells #[.int .i64 n3,.int .i64 d3,.int .i64 n4,.int .i64 d4] 64)).alloc (by rw [yK,yK];omega) (.cells #[.int .i64 0,.int .i64 0,.int .i64 0,.int .i64 0] 64);generalize hw3:((w.alloc (.cells #[.int .i64 n1,.int .i64 d1,.int .i64 n2,.int .i64 d2] 64)).alloc (.cells #[.int .i64 n3,.int .i64 d3,.int .i64 n4,.int .i64 d4] 64)).alloc (.cells #[.int .i64 0,.int .i64 0,.int .i64 0,.int .i64 0] 64)=wc at *;have yf:=V.aM.c0;have yg:=V.aM.c1;have AE:=V.aM.c2;have AF:=V.aM.c3;have yd:=U.aM.c0;have ye:=U.aM.c1;have AQ:=U.aM.c2;have AS:=U.aM.c3;have r_:=R.aM.c0;have s_:=R.aM.c1;have yQ:=R.aM.c2;have yR:=R.aM.c3;go_enter Tryz.func72,Tryz.ntmps72
 go_wp2_with (first
  | (go_at_call 89;(with_reducible refine (E1.out _).mono ?_);rintro e w4 ⟨rfl,hb4⟩;replace V:=V.keep hb4;replace U:=U.keep hb4;replace R:=R.keep hb4;replace B:=i_ B hb4;(replace ⟨yf,yg,AE,AF⟩:=V.b4);(replace ⟨yd,ye,AQ,AS⟩:=U.b4);(replace ⟨r_,s_,yQ,yR,x_,yO,yS,yT⟩:=R.ym))
  | (go_at_call 89;(with_reducible refine (E2.out _).mono ?_);rintro e w5 ⟨rfl,hb5⟩;replace V:=V.keep hb5;replace U:=U.keep hb5;replace R:=R.keep hb5;replace B:=i_ B hb5;(replace ⟨yf,yg,AE,AF⟩:=V.b4);(replace ⟨yd,ye,AQ,AS⟩:=U.b4);(replace ⟨r_,s_,yQ,yR,x_,yO,yS,yT⟩:=R.ym))
  | (go_at_call 92;(with_reducible refine (PM.out _).mono ?_);rintro e w6 ⟨rfl,hb6⟩;replace V:=V.keep hb6;replace U:=U.keep hb6;replace R:=R.keep hb6;replace B:=i_ B hb6;(replace ⟨yf,yg,AE,AF⟩:=V.b4);(replace ⟨yd,ye,AQ,AS⟩:=U.b4);(replace ⟨r_,s_,yQ,yR,x_,yO,yS,yT⟩:=R.ym)))
 exact bodyPost_ret (v:=.tuple #[.agg #[.int .i64 p1,.int .i64 p2,.int .i64 p3,.int .i64 p4],.bool s]) (by simp [results,Tryz.results72,go_sem, *]) rfl (⟨rfl,yL (yL (yL (yL B (by simp <;> omega) _) (by simp <;> omega) _) (by simp <;> omega) _) (by simp <;> omega) _⟩)
theorem vH (a b c d:Int) (w:World) (hab:M.aN a b=true) (hcd:M.aN c d=true) :
  Calls Tryz.prog 135 #[.agg #[.int .i64 (M.pn a),.int .i64 (M.pd a),.int .i64 (M.pn b),.int .i64 (M.pd b)],.agg #[.int .i64 (M.pn c),.int .i64 (M.pd c),.int .i64 (M.pn d),.int .i64 (M.pd d)]] w fun e w'=>e=.returned (.bool true)∧Below w.heap.size w w':=by
 obtain ⟨ab,a1,b1⟩:=M.bw hab;obtain ⟨cd,c1,d1⟩:=M.bw hcd
 have E1:=fun W=>kJ a b W (M.bO (by omega) (by omega)) (M.bO (by omega) (by omega))
 have E2:=fun W=>kJ c d W (M.bO (by omega) (by omega)) (M.bO (by omega) (by omega))
 rw [hab] at E1;rw [hcd] at E2;generalize M.pd d=d4,M.pn d=n4,M.pd c=d3,M.pn c=n3,M.pd b=d2,M.pn b=n2,M.pd a=d1,M.pn a=n1 at *;replace E1:=yJ E1;replace E2:=yJ E2;clear hab hcd;have U:=aH.new (w.alloc (.cells #[.int .i64 n1,.int .i64 d1,.int .i64 n2,.int .i64 d2] 64)) #[.int .i64 n3,.int .i64 d3,.int .i64 n4,.int .i64 d4] 64;rw [yK] at U;have B:=((yM w.heap.size w).alloc (yN _) (.cells #[.int .i64 n1,.int .i64 d1,.int .i64 n2,.int .i64 d2] 64)).alloc (by rw [yK];omega) (.cells #[.int .i64 n3,.int .i64 d3,.int .i64 n4,.int .i64 d4] 64);go_enter Tryz.func135,Tryz.ntmps135
 go_wp2_with (go_at_call 108;first | ((with_reducible refine (E1.out _).mono ?_);rintro e w4 ⟨rfl,hb4⟩;have U4:=U.keep hb4;have B4:=i_ B hb4;have y0:=U4.aM.c0;have y1:=U4.aM.c1;have y2:=U4.aM.c2;have y3:=U4.aM.c3) | ((with_reducible refine (E2.out _).mono ?_);rintro e w5 ⟨rfl,hb5⟩;have B5:=i_ B4 hb5))
 go_ret;exact ⟨rfl,B5⟩
theorem lk (a b c d:Int) (w:World) (hab:M.aN a b=true) (hcd:M.aN c d=true) :
  Calls Tryz.prog 122 #[.agg #[.int .i64 (M.pn a),.int .i64 (M.pd a),.int .i64 (M.pn b),.int .i64 (M.pd b)],.agg #[.int .i64 (M.pn c),.int .i64 (M.pd c),.int .i64 (M.pn d),.int .i64 (M.pd d)]] w fun e w'=>e=.returned (.tuple #[.agg #[.int .i64 (M.pick (M.aN (max a c) (min b d)) (M.pn (max a c))),.int .i64 (M.pick (M.aN (max a c) (min b d)) (M.pd (max a c))),.int .i64 (M.pick (M.aN (max a c) (min b d)) (M.pn (min b d))),.int .i64 (M.pick (M.aN (max a c) (min b d)) (M.pd (min b d)))],.bool (M.aN (max a c) (min b d))])∧Below w.heap.size w w':=by
 obtain ⟨ab,a1,b1⟩:=M.bw hab;obtain ⟨cd,c1,d1⟩:=M.bw hcd
 have E1:=fun W=>dn a b W (M.bO (by omega) (by omega)) (M.bO (by omega) (by omega))
 have E2:=fun W=>dn c d W (M.bO (by omega) (by omega)) (M.bO (by omega) (by omega))
 have PT:=yJ fun W=>vH a b c d W hab hcd
 have PX:=yJ fun W=>dp a c W
 have PY:=yJ fun W=>lL b d W
 have PM:=fun W=>fy (max a c) (min b d) W (by omega) (by omega) (by omega) (by omega)
 generalize M.aN (max a c) (min b d)=s,M.pick (M.aN (max a c) (min b d)) (M.pd (min b d))=p4,M.pick (M.aN (max a c) (min b d)) (M.pn (min b d))=p3,M.pick (M.aN (max a c) (min b d)) (M.pd (max a c))=p2,M.pick (M.aN (max a c) (min b d)) (M.pn (max a c))=p1 at *;replace PM:=yJ PM;replace E1:=yJ E1;replace E2:=yJ E2;generalize hn1:M.pn a=n1 at *;generalize hd1:M.pd a=d1 at *;generalize hn2:M.pn b=n2 at *;generalize hd2:M.pd b=d2 at *;generalize GN:M.pn c=n3 at *;generalize hd3:M.pd c=d3 at *;generalize DH:M.pn d=n4 at *;generalize hd4:M.pd d=d4 at *;clear hn1 hn2 GN DH hd1 hd2 hd3 hd4;have V:=((aH.new w #[.int .i64 n1,.int .i64 d1,.int .i64 n2,.int .i64 d2] 64).alloc (.cells #[.int .i64 n3,.int .i64 d3,.int .i64 n4,.int .i64 d4] 64)).alloc (.cells #[.int .i64 0,.int .i64 0,.int .i64 0,.int .i64 0] 64);have U:=(aH.new (w.alloc (.cells #[.int .i64 n1,.int .i64 d1,.int .i64 n2,.int .i64 d2] 64)) #[.int .i64 n3,.int .i64 d3,.int .i64 n4,.int .i64 d4] 64).alloc (.cells #[.int .i64 0,.int .i64 0,.int .i64 0,.int .i64 0] 64);rw [yK] at U;have R:=aH.new ((w.alloc (.cells #[.int .i64 n1,.int .i64 d1,.int .i64 n2,.int .i64 d2] 64)).alloc (.cells #[.int .i64 n3,.int .i64 d3,.int .i64 n4,.int .i64 d4] 64)) #[.int .i64 0,.int .i64 0,.int .i64 0,.int .i64 0] 64;rw [yK,yK] at R;have B:=(((yM w.heap.size w).alloc (yN _) (.cells #[.int .i64 n1,.int .i64 d1,.int .i64 n2,.int .i64 d2] 64)).alloc (by rw [yK];omega) (.cells #[.int .i64 n3,.int .i64 d3,.int .i64 n4,.int .i64 d4] 64)).alloc (by rw [yK,yK];omega) (.cells #[.int .i64 0,.int .i64 0,.int .i64 0,.int .i64 0] 64);generalize hw3:((w.alloc (.cells #[.int .i64 n1,.int .i64 d1,.int .i64 n2,.int .i64 d2] 64)).alloc (.cells #[.int .i64 n3,.int .i64 d3,.int .i64 n4,.int .i64 d4] 64)).alloc (.cells #[.int .i64 0,.int .i64 0,.int .i64 0,.int .i64 0] 64)=wc at *;have yf:=V.aM.c0;have yg:=V.aM.c1;have AE:=V.aM.c2;have AF:=V.aM.c3;have yd:=U.aM.c0;have ye:=U.aM.c1;have AQ:=U.aM.c2;have AS:=U.aM.c3;have r_:=R.aM.c0;have s_:=R.aM.c1;have yQ:=R.aM.c2;have yR:=R.aM.c3;go_enter Tryz.func122,Tryz.ntmps122
 go_wp2_with (first
  | (go_at_call 135;(with_reducible refine (PT.out _).mono ?_);rintro e w4 ⟨rfl,hb4⟩;replace V:=V.keep hb4;replace U:=U.keep hb4;replace R:=R.keep hb4;replace B:=i_ B hb4;(replace ⟨yf,yg,AE,AF⟩:=V.b4);(replace ⟨yd,ye,AQ,AS⟩:=U.b4);(replace ⟨r_,s_,yQ,yR,x_,yO,yS,yT⟩:=R.ym))
  | (go_at_call 89;(with_reducible refine (E1.out _).mono ?_);rintro e w5 ⟨rfl,hb5⟩;replace V:=V.keep hb5;replace U:=U.keep hb5;replace R:=R.keep hb5;replace B:=i_ B hb5;(replace ⟨yf,yg,AE,AF⟩:=V.b4);(replace ⟨yd,ye,AQ,AS⟩:=U.b4);(replace ⟨r_,s_,yQ,yR,x_,yO,yS,yT⟩:=R.ym))
  | (go_at_call 89;(with_reducible refine (E2.out _).mono ?_);rintro e w6 ⟨rfl,hb6⟩;replace V:=V.keep hb6;replace U:=U.keep hb6;replace R:=R.keep hb6;replace B:=i_ B hb6;(replace ⟨yf,yg,AE,AF⟩:=V.b4);(replace ⟨yd,ye,AQ,AS⟩:=U.b4);(replace ⟨r_,s_,yQ,yR,x_,yO,yS,yT⟩:=R.ym))
  | (go_at_call 91;(with_reducible refine (PX.out _).mono ?_);rintro e w7 ⟨rfl,rfl⟩)
  | (go_at_call 90;(with_reducible refine (PY.out _).mono ?_);rintro e w8 ⟨rfl,rfl⟩)
  | (go_at_call 92;(with_reducible refine (PM.out _).mono ?_);rintro e w9 ⟨rfl,yc⟩;replace V:=V.keep yc;replace U:=U.keep yc;replace R:=R.keep yc;replace B:=i_ B yc;(replace ⟨yf,yg,AE,AF⟩:=V.b4);(replace ⟨yd,ye,AQ,AS⟩:=U.b4);(replace ⟨r_,s_,yQ,yR,x_,yO,yS,yT⟩:=R.ym)))
 exact bodyPost_ret (v:=.tuple #[.agg #[.int .i64 p1,.int .i64 p2,.int .i64 p3,.int .i64 p4],.bool s]) (by simp [results,Tryz.results122,go_sem, *]) rfl (⟨rfl,yL (yL (yL (yL B (by simp <;> omega) _) (by simp <;> omega) _) (by simp <;> omega) _) (by simp <;> omega) _⟩)
theorem vF (a b c d:Int) (w:World) (hab:M.aN a b=true) (hcd:M.aN c d=true) :
  Calls Tryz.prog 70 #[.agg #[.int .i64 (M.pn a),.int .i64 (M.pd a),.int .i64 (M.pn b),.int .i64 (M.pd b)],.agg #[.int .i64 (M.pn c),.int .i64 (M.pd c),.int .i64 (M.pn d),.int .i64 (M.pd d)]] w fun e w'=>e=.returned (.tuple #[.agg #[.int .i64 (M.pick (M.aN (M.cZ a b c d / 4096) (-(-M.cX a b c d / 4096))) (M.pn (M.cZ a b c d / 4096))),.int .i64 (M.pick (M.aN (M.cZ a b c d / 4096) (-(-M.cX a b c d / 4096))) (M.pd (M.cZ a b c d / 4096))),.int .i64 (M.pick (M.aN (M.cZ a b c d / 4096) (-(-M.cX a b c d / 4096))) (M.pn (-(-M.cX a b c d / 4096)))),.int .i64 (M.pick (M.aN (M.cZ a b c d / 4096) (-(-M.cX a b c d / 4096))) (M.pd (-(-M.cX a b c d / 4096))))],.bool (M.aN (M.cZ a b c d / 4096) (-(-M.cX a b c d / 4096)))])∧Below w.heap.size w w':=by
 obtain ⟨ab,a1,b1⟩:=M.bw hab;obtain ⟨cd,c1,d1⟩:=M.bw hcd
 have E1:=fun W=>dn a b W (M.bO (by omega) (by omega)) (M.bO (by omega) (by omega))
 have E2:=fun W=>dn c d W (M.bO (by omega) (by omega)) (M.bO (by omega) (by omega))
 have q1:=M.aK (x:=a) (y:=c) (m:=1000000000) (n:=1000000000) (by omega) (by omega) (by omega) (by omega);have q2:=M.aK (x:=a) (y:=d) (m:=1000000000) (n:=1000000000) (by omega) (by omega) (by omega) (by omega);have q3:=M.aK (x:=b) (y:=c) (m:=1000000000) (n:=1000000000) (by omega) (by omega) (by omega) (by omega);have q4:=M.aK (x:=b) (y:=d) (m:=1000000000) (n:=1000000000) (by omega) (by omega) (by omega) (by omega);obtain ⟨t1,t2,t3,t4⟩:=M.wM (a:=a) (b:=b) (c:=c) (d:=d) (by omega) (by omega) (by omega) (by omega) (by omega) (by omega) (by omega) (by omega)
 have Ae:min (min (a*c) (a*d)) (min (b*c) (b*d))=M.cZ a b c d:=by unfold M.cZ;omega
 have hma:max (max (a*c) (a*d)) (max (b*c) (b*d))=M.cX a b c d:=by unfold M.cX;omega
 have f1:=dT (a:=M.cZ a b c d) (b:=4096) (k:=1000000000000000000) (by omega) (by omega) (by omega) (by omega);have f2:=dT (a:=-M.cX a b c d) (b:=4096) (k:=1000000000000000000) (by omega) (by omega) (by omega) (by omega)
 have PX:=yJ fun x y W=>dp x y W
 have PY:=yJ fun x y W=>lL x y W
 have PD:=fun W=>kA (M.cZ a b c d) 4096 W (by omega) (by omega) (by omega) (by omega)
 have PU:=fun W=>tj (M.cX a b c d) 4096 W (by omega) (by omega) (by omega) (by omega)
 have PM:=fun W=>fy (M.cZ a b c d / 4096) (-(-M.cX a b c d / 4096)) W (by omega) (by omega) (by omega) (by omega)
 generalize M.aN (M.cZ a b c d / 4096) (-(-M.cX a b c d / 4096))=s,M.pick (M.aN (M.cZ a b c d / 4096) (-(-M.cX a b c d / 4096))) (M.pd (-(-M.cX a b c d / 4096)))=p4,M.pick (M.aN (M.cZ a b c d / 4096) (-(-M.cX a b c d / 4096))) (M.pn (-(-M.cX a b c d / 4096)))=p3,M.pick (M.aN (M.cZ a b c d / 4096) (-(-M.cX a b c d / 4096))) (M.pd (M.cZ a b c d / 4096))=p2,M.pick (M.aN (M.cZ a b c d / 4096) (-(-M.cX a b c d / 4096))) (M.pn (M.cZ a b c d / 4096))=p1 at *;replace PM:=yJ PM;replace E1:=yJ E1;replace E2:=yJ E2;generalize M.cX a b c d=ma,M.cZ a b c d=mi,-(-M.cX a b c d / 4096)=hi,M.cZ a b c d / 4096=lo at *
 have PD:=yJ fun x W (h:x=mi)=>(h ▸ PD W:Calls Tryz.prog 93 #[.int .i64 x,.int .i64 4096] W fun e w'=>e=.returned (.int .i64 lo)∧W=w')
 have PU:=yJ fun x W (h:x=ma)=>(h ▸ PU W:Calls Tryz.prog 94 #[.int .i64 x,.int .i64 4096] W fun e w'=>e=.returned (.int .i64 hi)∧W=w')
 replace Ae:=yJ Ae;replace hma:=yJ hma;clear t1 t2 t3 t4 f1 f2;generalize hn1:M.pn a=n1 at *;generalize hd1:M.pd a=d1 at *;generalize hn2:M.pn b=n2 at *;generalize hd2:M.pd b=d2 at *;generalize GN:M.pn c=n3 at *;generalize hd3:M.pd c=d3 at *;generalize DH:M.pn d=n4 at *;generalize hd4:M.pd d=d4 at *;clear hn1 hn2 GN DH hd1 hd2 hd3 hd4;have V:=((aH.new w #[.int .i64 n1,.int .i64 d1,.int .i64 n2,.int .i64 d2] 64).alloc (.cells #[.int .i64 n3,.int .i64 d3,.int .i64 n4,.int .i64 d4] 64)).alloc (.cells #[.int .i64 0,.int .i64 0,.int .i64 0,.int .i64 0] 64);have U:=(aH.new (w.alloc (.cells #[.int .i64 n1,.int .i64 d1,.int .i64 n2,.int .i64 d2] 64)) #[.int .i64 n3,.int .i64 d3,.int .i64 n4,.int .i64 d4] 64).alloc (.cells #[.int .i64 0,.int .i64 0,.int .i64 0,.int .i64 0] 64);rw [yK] at U;have R:=aH.new ((w.alloc (.cells #[.int .i64 n1,.int .i64 d1,.int .i64 n2,.int .i64 d2] 64)).alloc (.cells #[.int .i64 n3,.int .i64 d3,.int .i64 n4,.int .i64 d4] 64)) #[.int .i64 0,.int .i64 0,.int .i64 0,.int .i64 0] 64;rw [yK,yK] at R;have B:=(((yM w.heap.size w).alloc (yN _) (.cells #[.int .i64 n1,.int .i64 d1,.int .i64 n2,.int .i64 d2] 64)).alloc (by rw [yK];omega) (.cells #[.int .i64 n3,.int .i64 d3,.int .i64 n4,.int .i64 d4] 64)).alloc (by rw [yK,yK];omega) (.cells #[.int .i64 0,.int .i64 0,.int .i64 0,.int .i64 0] 64);generalize hw3:((w.alloc (.cells #[.int .i64 n1,.int .i64 d1,.int .i64 n2,.int .i64 d2] 64)).alloc (.cells #[.int .i64 n3,.int .i64 d3,.int .i64 n4,.int .i64 d4] 64)).alloc (.cells #[.int .i64 0,.int .i64 0,.int .i64 0,.int .i64 0] 64)=wc at *;have yf:=V.aM.c0;have yg:=V.aM.c1;have AE:=V.aM.c2;have AF:=V.aM.c3;have yd:=U.aM.c0;have ye:=U.aM.c1;have AQ:=U.aM.c2;have AS:=U.aM.c3;have r_:=R.aM.c0;have s_:=R.aM.c1;have yQ:=R.aM.c2;have yR:=R.aM.c3;go_enter Tryz.func70,Tryz.ntmps70
 go_wp2_with (first
  | (go_at_call 89;(with_reducible refine (E1.out _).mono ?_);rintro e w4 ⟨rfl,hb4⟩;replace V:=V.keep hb4;replace U:=U.keep hb4;replace R:=R.keep hb4;replace B:=i_ B hb4;(replace ⟨yf,yg,AE,AF⟩:=V.b4);(replace ⟨yd,ye,AQ,AS⟩:=U.b4);(replace ⟨r_,s_,yQ,yR,x_,yO,yS,yT⟩:=R.ym))
  | (go_at_call 89;(with_reducible refine (E2.out _).mono ?_);rintro e w5 ⟨rfl,hb5⟩;replace V:=V.keep hb5;replace U:=U.keep hb5;replace R:=R.keep hb5;replace B:=i_ B hb5;(replace ⟨yf,yg,AE,AF⟩:=V.b4);(replace ⟨yd,ye,AQ,AS⟩:=U.b4);(replace ⟨r_,s_,yQ,yR,x_,yO,yS,yT⟩:=R.ym))
  | (go_at_call 91;(with_reducible refine (PX.out _ _ _).mono ?_);rintro e w6 ⟨rfl,rfl⟩)
  | (go_at_call 90;(with_reducible refine (PY.out _ _ _).mono ?_);rintro e w7 ⟨rfl,rfl⟩)
  | (go_at_call 93;(with_reducible refine (PD.out _ _ (by have:=Ae.out;omega)).mono ?_);rintro e w8 ⟨rfl,rfl⟩)
  | (go_at_call 94;(with_reducible refine (PU.out _ _ (by have:=hma.out;omega)).mono ?_);rintro e w9 ⟨rfl,rfl⟩)
  | (go_at_call 92;(with_reducible refine (PM.out _).mono ?_);rintro e EU ⟨rfl,yP⟩;replace V:=V.keep yP;replace U:=U.keep yP;replace R:=R.keep yP;replace B:=i_ B yP;(replace ⟨yf,yg,AE,AF⟩:=V.b4);(replace ⟨yd,ye,AQ,AS⟩:=U.b4);(replace ⟨r_,s_,yQ,yR,x_,yO,yS,yT⟩:=R.ym)))
 exact bodyPost_ret (v:=.tuple #[.agg #[.int .i64 p1,.int .i64 p2,.int .i64 p3,.int .i64 p4],.bool s]) (by simp [results,Tryz.results70,go_sem, *]) rfl (⟨rfl,yL (yL (yL (yL B (by simp <;> omega) _) (by simp <;> omega) _) (by simp <;> omega) _) (by simp <;> omega) _⟩)
namespace M
def hL (C:Nat) (n:Nat) (o:Out):Int:=match o with
 | .val x z=>max 0 (3*(ew (.val x z) - 1) - C)*4096 / p4 n
 | _=>0
def hH (C:Nat) (n:Nat) (o:Out):Int:=match o with
 | .val x z=>-(-((3*ew (.val x z)+C)*4096) / p4 n)
 | _=>0
theorem yA {a b x z:Int} {o:Out} (h:nx a b o=.val x z):Wh.sz x 1000∧Wh.sz z 1000:=by
 cases o with
 | inf=>cases h
 | bad=>cases h
 | val u v=>
 unfold nx at h
 dsimp only at h
 split at h
 ·cases h
 split at h
 ·rename_i hok
  injection h with h1 h2
  subst h1 h2;exact Wh.kU (Wh.jz hok)
 cases h
theorem kR {a b X E x z:Int} (hX1:-10000≤X) (hX2:X≤10000) (hE1:0≤E) (hE2:E≤20) {n:Nat} (h:aw a b X E n=.val x z):Wh.sz x 1000∧Wh.sz z 1000:=by
 unfold aw at h
 split at h
 ·cases h
 cases n with
 | zero=>
  have JP:0≤E*E∧E*E≤400:=⟨Int.mul_nonneg hE1 hE1,by have:=Int.mul_le_mul hE2 hE2 hE1 (by omega);omega⟩
  injection h with h1 h2
  subst h1 h2;exact ⟨Wh.aP (Wh.bW (by omega) (by omega)) (by omega),Wh.aP (Wh.bW (by omega) (by omega)) (by omega)⟩
 | succ n=>exact yA h
theorem l9 {x z:Int} (h:Wh.sz x 1000∧Wh.sz z 1000):0≤ew (.val x z)∧ew (.val x z)≤14000:=by
 have h1:=Wh.kZ h.1;have h2:=Wh.kZ h.2
 show 0≤max ((Wh.bl x.natAbs:Nat):Int) ((Wh.bl z.natAbs:Nat):Int)∧max ((Wh.bl x.natAbs:Nat):Int) ((Wh.bl z.natAbs:Nat):Int)≤14000
 omega
theorem tQ {C n:Nat} {B:Int} (hC:C≤60) (hn:n≤5) (h1:0≤B) (h2:B≤14000):aN (max 0 (3*(B - 1) - C)*4096 / p4 n) (-(-((3*B+C)*4096) / p4 n))=true:=by
 have hp:=qW n hn;generalize p4 n=d at *;have q1:=dT (a:=max 0 (3*(B - 1) - C)*4096) (b:=d) (k:=300000000) (by omega) (by omega) (by omega) (by omega);have q2:=dT (a:=-((3*B+C)*4096)) (b:=d) (k:=300000000) (by omega) (by omega) (by omega) (by omega);have q3:max 0 (3*(B - 1) - C)*4096 / d≤(3*B+C)*4096 / d:=Int.ediv_le_ediv (by omega) (by omega)
 have q4:(3*B+C)*4096 / d≤-(-((3*B+C)*4096) / d):=by
  have e1:=Int.mul_ediv_add_emod ((3*B+C)*4096) d;have e2:=Int.emod_nonneg ((3*B+C)*4096) (by omega:d≠0);have e3:=Int.mul_ediv_add_emod (-((3*B+C)*4096)) d;have e4:=Int.emod_nonneg (-((3*B+C)*4096)) (by omega:d≠0);generalize -((3*B+C)*4096) / d=v,(3*B+C)*4096 / d=u at *
  rcases Int.lt_or_le (-v) u with h | h
  ·have:d*(u+v)≥d*1:=Int.mul_le_mul_of_nonneg_left (by omega) (by omega)
   rw [Int.mul_add] at this;omega
  exact h
 unfold aN;simp only [Bool.and_eq_true,decide_eq_true_eq];omega
theorem xu {a b X E:Int} {C n:Nat} (hC:C≤60) (hn:n≤5) (hX1:-10000≤X) (hX2:X≤10000) (hE1:0≤E) (hE2:E≤20):aN (hL C n (aw a b X E n)) (hH C n (aw a b X E n))=true:=by
 cases h:aw a b X E n with
 | inf=>show aN 0 0=true;decide
 | bad=>show aN 0 0=true;decide
 | val x z=>
 have hb:=l9 (kR hX1 hX2 hE1 hE2 h);exact tQ hC hn hb.1 hb.2
end M
theorem nL (a b d:Int) (w:World) (h1:-100000000000≤a) (h2:a≤100000000000) (h3:-100000000000≤b) (h4:b≤100000000000) (h5:1≤d) (h6:d≤100000) :
  Calls Tryz.prog 131 #[.int .i64 a,.int .i64 b,.int .i64 d] w fun e w'=>e=.returned (.tuple #[.agg #[.int .i64 (M.pick (M.aN (a*4096 / d) (-(-(b*4096) / d))) (M.pn (a*4096 / d))),.int .i64 (M.pick (M.aN (a*4096 / d) (-(-(b*4096) / d))) (M.pd (a*4096 / d))),.int .i64 (M.pick (M.aN (a*4096 / d) (-(-(b*4096) / d))) (M.pn (-(-(b*4096) / d)))),.int .i64 (M.pick (M.aN (a*4096 / d) (-(-(b*4096) / d))) (M.pd (-(-(b*4096) / d))))],.bool (M.aN (a*4096 / d) (-(-(b*4096) / d)))])∧Below w.heap.size w w':=by
 have P1:=fun W=>kA (a*4096) d W (by omega) (by omega) (by omega) (by omega)
 have P2:=fun W=>tj (b*4096) d W (by omega) (by omega) (by omega) (by omega)
 have f1:=dT (a:=a*4096) (b:=d) (k:=1000000000000000) (by omega) (by omega) (by omega) (by omega);have f2:=dT (a:=-(b*4096)) (b:=d) (k:=1000000000000000) (by omega) (by omega) (by omega) (by omega)
 have PM:=fun W=>fy (a*4096 / d) (-(-(b*4096) / d)) W (by omega) (by omega) (by omega) (by omega)
 generalize -(-(b*4096) / d)=hi,a*4096 / d=lo,M.aN (a*4096 / d) (-(-(b*4096) / d))=s,M.pick (M.aN (a*4096 / d) (-(-(b*4096) / d))) (M.pd (-(-(b*4096) / d)))=p4,M.pick (M.aN (a*4096 / d) (-(-(b*4096) / d))) (M.pn (-(-(b*4096) / d)))=p3,M.pick (M.aN (a*4096 / d) (-(-(b*4096) / d))) (M.pd (a*4096 / d))=p2,M.pick (M.aN (a*4096 / d) (-(-(b*4096) / d))) (M.pn (a*4096 / d))=p1 at *;replace P1:=yJ P1;replace P2:=yJ P2;replace PM:=yJ PM;clear f1 f2;have R:=aH.new w #[.int .i64 0,.int .i64 0,.int .i64 0,.int .i64 0] 64;have B:=(yM w.heap.size w).alloc (yN _) (.cells #[.int .i64 0,.int .i64 0,.int .i64 0,.int .i64 0] 64);go_enter Tryz.func131,Tryz.ntmps131
 go_wp2_with (first
  | (go_at_call 93;(with_reducible refine (P1.out _).mono ?_);rintro e w4 ⟨rfl,rfl⟩)
  | (go_at_call 94;(with_reducible refine (P2.out _).mono ?_);rintro e w5 ⟨rfl,rfl⟩)
  | (go_at_call 92;(with_reducible refine (PM.out _).mono ?_);rintro e w6 ⟨rfl,hb6⟩;replace R:=R.keep hb6;replace B:=i_ B hb6;(replace ⟨r_,s_,yQ,yR,x_,yO,yS,yT⟩:=R.ym)))
 exact bodyPost_ret (v:=.tuple #[.agg #[.int .i64 p1,.int .i64 p2,.int .i64 p3,.int .i64 p4],.bool s]) (by simp [results,Tryz.results131,go_sem, *]) rfl (⟨rfl,yL (yL (yL (yL B (by simp <;> omega) _) (by simp <;> omega) _) (by simp <;> omega) _) (by simp <;> omega) _⟩)
theorem kE (a b X Y E:Int) (n:Nat) (w:World) (hg:M.good a b=true) (hX1:-10000≤X) (hX2:X≤10000) (hE1:0≤E) (hE2:E≤20) (hn:n≤5) :
  Calls Tryz.prog 123 #[.agg #[.int .i64 a,.int .i64 b],.agg #[.int .i64 X,.int .i64 Y,.int .i64 E],.int .i64 (n:Int)] w fun e w'=>e=.returned (.tuple #[.agg #[.int .i64 (M.hL (M.hC a b) n (M.aw a b X E n)),.int .i64 (M.hH (M.hC a b) n (M.aw a b X E n))],.bool (M.isOk (M.aw a b X E n))])∧Below w.heap.size w w':=by
 have hin:=M.bM hg
 have PB:=fun W=>sf a b X Y E n W hg hX1 hX2 hE1 hE2 hn
 have PC:=yJ fun W=>gY a b W hin
 have hC:=M.nh hin
 have hsz:=fun x z (h:M.aw a b X E n=.val x z)=>M.l9 (M.kR hX1 hX2 hE1 hE2 h)
 have hp:=M.qW n hn
 have IC:M.p4 n=3*M.fG 4 n:=by
  match n,hn with
  | 0,_=>decide
  | 1,_=>decide
  | 2,_=>decide
  | 3,_=>decide
  | 4,_=>decide
  | 5,_=>decide
 have PP:=yJ fun W=>nj 4 n W (by omega) (by omega) (by omega)
 generalize M.hC a b=k,M.fG 4 n=ip at *;clear hg hin;have C:=((aH.new w #[.int .i64 a,.int .i64 b] 29).alloc (.cells #[.int .i64 X,.int .i64 Y,.int .i64 E] 57)).alloc (.cells #[.int .i64 0,.int .i64 0] 68);have Q:=(aH.new (w.alloc (.cells #[.int .i64 a,.int .i64 b] 29)) #[.int .i64 X,.int .i64 Y,.int .i64 E] 57).alloc (.cells #[.int .i64 0,.int .i64 0] 68);rw [yK] at Q;have R:=aH.new ((w.alloc (.cells #[.int .i64 a,.int .i64 b] 29)).alloc (.cells #[.int .i64 X,.int .i64 Y,.int .i64 E] 57)) #[.int .i64 0,.int .i64 0] 68;rw [yK,yK] at R;have B:=(((yM w.heap.size w).alloc (yN _) (.cells #[.int .i64 a,.int .i64 b] 29)).alloc (by rw [yK];omega) (.cells #[.int .i64 X,.int .i64 Y,.int .i64 E] 57)).alloc (by rw [yK,yK];omega) (.cells #[.int .i64 0,.int .i64 0] 68);generalize hw3:((w.alloc (.cells #[.int .i64 a,.int .i64 b] 29)).alloc (.cells #[.int .i64 X,.int .i64 Y,.int .i64 E] 57)).alloc (.cells #[.int .i64 0,.int .i64 0] 68)=wc at *;have ⟨q0,q1,q2⟩:=Q.aQ;have j_:=C.box.c0;have o_:=C.box.c1
 cases ho:M.aw a b X E n with
 | inf=>
  rw [ho] at PB;replace PB:=yJ PB;clear hsz hp IC;go_enter Tryz.func123,Tryz.ntmps123
  go_wp2_with (go_at_call 136;(with_reducible refine (PB.out _).mono ?_);rintro e w4 ⟨rfl,hb4⟩;replace C:=C.keep hb4;replace R:=R.keep hb4;replace B:=i_ B hb4;(replace ⟨j_,o_⟩:=C.b2);(replace ⟨r_,s_,x_,yO⟩:=R.zY))
  exact bodyPost_ret (v:=.tuple #[.agg #[.int .i64 0,.int .i64 0],.bool true]) (by simp [results,Tryz.results123,go_sem, *]) rfl (⟨rfl,yL (yL B (by simp <;> omega) _) (by simp <;> omega) _⟩)
 | bad=>
  rw [ho] at PB;replace PB:=yJ PB;clear hsz hp IC;go_enter Tryz.func123,Tryz.ntmps123
  go_wp2_with (go_at_call 136;(with_reducible refine (PB.out _).mono ?_);rintro e w4 ⟨rfl,hb4⟩;replace C:=C.keep hb4;replace R:=R.keep hb4;replace B:=i_ B hb4;(replace ⟨j_,o_⟩:=C.b2);(replace ⟨r_,s_,x_,yO⟩:=R.zY))
  exact bodyPost_ret (v:=.tuple #[.agg #[.int .i64 0,.int .i64 0],.bool false]) (by simp [results,Tryz.results123,go_sem, *]) rfl (⟨rfl,yL (yL B (by simp <;> omega) _) (by simp <;> omega) _⟩)
 | val x z=>
 rw [ho] at PB;have hb:=hsz x z ho;have e1:M.hL k n (.val x z)=max 0 (3*(M.ew (.val x z) - 1) - k)*4096 / M.p4 n:=rfl;have e2:M.hH k n (.val x z)=-(-((3*M.ew (.val x z)+k)*4096) / M.p4 n):=rfl;rw [e1,e2];clear e1 e2 hsz ho;rw [show M.isInf (.val x z)=false from rfl,show M.isOk (.val x z)=true from rfl] at PB;rw [show M.isOk (.val x z)=true from rfl];generalize M.ew (.val x z)=bt at *;rw [IC];rw [IC] at hp
 have hm:max 0 (3*(bt - 1) - (k:Int))=max (3*(bt - 1) - (k:Int)) 0:=by omega
 rw [hm]
 have F1:=fun W=>fB (max (3*(bt - 1) - (k:Int)) 0*4096) (3*ip) W (by omega) (by omega) (by omega) (by omega)
 have F2:=fun W=>fB (-((3*bt+(k:Int))*4096)) (3*ip) W (by omega) (by omega) (by omega) (by omega)
 have F2:=fun x W (h:x=-((3*bt+(k:Int))*4096))=>(by subst h;exact F2 W:Calls Tryz.prog 120 #[.int .i64 x,.int .i64 (3*ip)] W fun e w'=>e=.returned (.int .i64 (-((3*bt+(k:Int))*4096) / (3*ip)))∧W=w')
 have F1:=fun x W (h:x=max (3*(bt - 1) - (k:Int)) 0*4096)=>(by subst h;exact F1 W:Calls Tryz.prog 120 #[.int .i64 x,.int .i64 (3*ip)] W fun e w'=>e=.returned (.int .i64 (max (3*(bt - 1) - (k:Int)) 0*4096 / (3*ip)))∧W=w')
 have g2:=dT (a:=-((3*bt+(k:Int))*4096)) (b:=3*ip) (k:=1000000000000000) (by omega) (by omega) (by omega) (by omega);generalize max (3*(bt - 1) - (k:Int)) 0*4096 / (3*ip)=lo at *;generalize -((3*bt+(k:Int))*4096) / (3*ip)=hi at *;obtain ⟨g2,g3⟩:=g2;obtain ⟨hb1,hb2⟩:=hb;obtain ⟨hp1,hp2⟩:=hp
 have hk2:(k:Int)≤60:=by omega
 clear hm IC hC;replace F1:=yJ F1;replace F2:=yJ F2;replace PB:=yJ PB;go_enter Tryz.func123,Tryz.ntmps123
 go_wp2_with (first
  | (go_at_call 136;(with_reducible refine (PB.out _).mono ?_);rintro e w4 ⟨rfl,hb4⟩;replace C:=C.keep hb4;replace R:=R.keep hb4;replace B:=i_ B hb4;(replace ⟨j_,o_⟩:=C.b2);(replace ⟨r_,s_,x_,yO⟩:=R.zY))
  | (go_at_call 137;(with_reducible refine (PC.out _).mono ?_);rintro e w5 ⟨rfl,hb5⟩;replace C:=C.keep hb5;replace R:=R.keep hb5;replace B:=i_ B hb5;(replace ⟨j_,o_⟩:=C.b2);(replace ⟨r_,s_,x_,yO⟩:=R.zY))
  | (go_at_call 138;(with_reducible refine (PP.out _).mono ?_);rintro e w6 ⟨rfl,rfl⟩)
  | (go_at_call 120;first | ((with_reducible refine (F1.out _ _ (by omega)).mono ?_);rintro e w7 ⟨rfl,rfl⟩) | ((with_reducible refine (F2.out _ _ (by omega)).mono ?_);rintro e w8 ⟨rfl,rfl⟩)))
 exact bodyPost_ret (v:=.tuple #[.agg #[.int .i64 lo,.int .i64 (-hi)],.bool true]) (by simp [results,Tryz.results123,go_sem, *]) rfl (⟨rfl,yL (yL B (by simp <;> omega) _) (by simp <;> omega) _⟩)
theorem jv (a b X Y E:Int) (n:Nat) (w:World) (hg:M.good a b=true) (hX1:-10000≤X) (hX2:X≤10000) (hE1:0≤E) (hE2:E≤20) (hn:n≤5) :
  Calls Tryz.prog 121 #[.agg #[.int .i64 a,.int .i64 b],.agg #[.int .i64 X,.int .i64 Y,.int .i64 E],.int .i64 (n:Int)] w fun e w'=>e=.returned (.tuple #[.agg #[.int .i64 (M.pick (M.isOk (M.aw a b X E n)) (M.pn (M.hL (M.hC a b) n (M.aw a b X E n)))),.int .i64 (M.pick (M.isOk (M.aw a b X E n)) (M.pd (M.hL (M.hC a b) n (M.aw a b X E n)))),.int .i64 (M.pick (M.isOk (M.aw a b X E n)) (M.pn (M.hH (M.hC a b) n (M.aw a b X E n)))),.int .i64 (M.pick (M.isOk (M.aw a b X E n)) (M.pd (M.hH (M.hC a b) n (M.aw a b X E n))))],.bool (M.isOk (M.aw a b X E n))])∧Below w.heap.size w w':=by
 have hin:=M.bM hg
 have PB:=fun W=>pF a b X Y E n W hg hX1 hX2 hE1 hE2 hn
 have PC:=yJ fun W=>mL a b W hin
 have hC:=M.nh hin;have hp:=M.qW n hn
 have PP:=yJ fun W=>qx n W hn
 have PX:=yJ fun x y W=>dp x y W
 have hsp:=fun B h1 h2=>M.tQ (B:=B) hC hn h1 h2
 generalize M.hC a b=k at *;clear hg hin;have C:=((aH.new w #[.int .i64 a,.int .i64 b] 29).alloc (.cells #[.int .i64 X,.int .i64 Y,.int .i64 E] 57)).alloc (.cells #[.int .i64 0,.int .i64 0,.int .i64 0,.int .i64 0] 64);have Q:=(aH.new (w.alloc (.cells #[.int .i64 a,.int .i64 b] 29)) #[.int .i64 X,.int .i64 Y,.int .i64 E] 57).alloc (.cells #[.int .i64 0,.int .i64 0,.int .i64 0,.int .i64 0] 64);rw [yK] at Q;have R:=aH.new ((w.alloc (.cells #[.int .i64 a,.int .i64 b] 29)).alloc (.cells #[.int .i64 X,.int .i64 Y,.int .i64 E] 57)) #[.int .i64 0,.int .i64 0,.int .i64 0,.int .i64 0] 64;rw [yK,yK] at R;have B:=(((yM w.heap.size w).alloc (yN _) (.cells #[.int .i64 a,.int .i64 b] 29)).alloc (by rw [yK];omega) (.cells #[.int .i64 X,.int .i64 Y,.int .i64 E] 57)).alloc (by rw [yK,yK];omega) (.cells #[.int .i64 0,.int .i64 0,.int .i64 0,.int .i64 0] 64);generalize hw3:((w.alloc (.cells #[.int .i64 a,.int .i64 b] 29)).alloc (.cells #[.int .i64 X,.int .i64 Y,.int .i64 E] 57)).alloc (.cells #[.int .i64 0,.int .i64 0,.int .i64 0,.int .i64 0] 64)=wc at *;have ⟨q0,q1,q2⟩:=Q.aQ;have j_:=C.box.c0;have o_:=C.box.c1
 cases ho:M.aw a b X E n with
 | inf=>
  rw [ho] at PB
  have PM:=fun W=>nL 0 0 1 W (by omega) (by omega) (by omega) (by omega) (by omega) (by omega)
  rw [show (0:Int)*4096 / 1=0 by decide,show -(-((0:Int)*4096) / 1)=0 by decide,show M.aN 0 0=true by decide] at PM;rw [show M.hL k n .inf=0 from rfl,show M.hH k n .inf=0 from rfl,show M.isOk .inf=true from rfl];generalize M.pick true (M.pd 0)=p2,M.pick true (M.pn 0)=p1 at *;replace PB:=yJ PB;replace PM:=yJ PM;clear hsp hp;go_enter Tryz.func121,Tryz.ntmps121
  go_wp2_with (first
   | (go_at_call 130;(with_reducible refine (PB.out _).mono ?_);rintro e w4 ⟨v4,en,rfl,yk,hb4⟩;obtain ⟨rfl,A4,l4,c4,rfl⟩:=yk;replace C:=C.keep hb4;replace R:=R.keep hb4;replace B:=i_ B hb4;(replace ⟨j_,o_⟩:=C.b2);(replace ⟨r_,s_,yQ,yR,x_,yO,yS,yT⟩:=R.ym))
   | (go_at_call 131;(with_reducible refine (PM.out _).mono ?_);rintro e w5 ⟨rfl,hb5⟩;replace C:=C.keep hb5;replace R:=R.keep hb5;replace B:=i_ B hb5;(replace ⟨j_,o_⟩:=C.b2);(replace ⟨r_,s_,yQ,yR,x_,yO,yS,yT⟩:=R.ym)))
  exact bodyPost_ret (v:=.tuple #[.agg #[.int .i64 p1,.int .i64 p2,.int .i64 p1,.int .i64 p2],.bool true]) (by simp [results,Tryz.results121,go_sem, *]) rfl (⟨rfl,yL (yL (yL (yL B (by simp <;> omega) _) (by simp <;> omega) _) (by simp <;> omega) _) (by simp <;> omega) _⟩)
 | bad=>
  rw [ho] at PB;rw [show M.isOk .bad=false from rfl];replace PB:=yJ PB;clear hsp hp;go_enter Tryz.func121,Tryz.ntmps121
  go_wp2_with (go_at_call 130;(with_reducible refine (PB.out _).mono ?_);rintro e w4 ⟨v4,en,rfl,yk,hb4⟩;obtain ⟨rfl,A4,l4,c4,rfl,hl4⟩:=yk;(have hl5:(l4:Int)≤n:=by omega);replace C:=C.keep hb4;replace R:=R.keep hb4;replace B:=i_ B hb4;(replace ⟨j_,o_⟩:=C.b2);(replace ⟨r_,s_,yQ,yR,x_,yO,yS,yT⟩:=R.ym))
  exact bodyPost_ret (v:=.tuple #[.agg #[.int .i64 0,.int .i64 0,.int .i64 0,.int .i64 0],.bool false]) (by simp [results,Tryz.results121,go_sem, *]) rfl (⟨rfl,yL (yL (yL (yL B (by simp <;> omega) _) (by simp <;> omega) _) (by simp <;> omega) _) (by simp <;> omega) _⟩)
 | val x z=>
 rw [ho] at PB;have hb:=M.l9 (M.kR hX1 hX2 hE1 hE2 ho);have e1:M.hL k n (.val x z)=max 0 (3*(M.ew (.val x z) - 1) - k)*4096 / M.p4 n:=rfl;have e2:M.hH k n (.val x z)=-(-((3*M.ew (.val x z)+k)*4096) / M.p4 n):=rfl;rw [e1,e2,show M.isOk (.val x z)=true from rfl];have hs:=hsp _ hb.1 hb.2;clear e1 e2 ho hsp
 have PD:=yJ fun (s r:Bool) v v' W i j (h1:aF W i v (Wh.d_ x.natAbs)) (h2:aF W j v' (Wh.d_ z.natAbs)) (hx:Wh.sz x 1000) (hz:Wh.sz z 1000) (hs:s=decide (x<0)) (hr:r=decide (z<0))=>(hs ▸ hr ▸ uf x z v v' W i j h1 h2 (Wh.aV.2 (Wh.aP hx (by omega))) (Wh.aV.2 (Wh.aP hz (by omega))) (Nat.le_trans (Wh.kZ hx) (by omega)) (Nat.le_trans (Wh.kZ hz) (by omega)):Calls Tryz.prog 132 #[.agg #[.bool s,v,.bool r,v']] W fun e w'=>e=.returned (.int .i64 (M.ew (.val x z)))∧Below W.heap.size W w')
 generalize M.ew (.val x z)=bt at *
 have PM:=fun W=>nL (max 0 (3*(bt - 1) - (k:Int))) (3*bt+(k:Int)) (M.p4 n) W (by omega) (by omega) (by omega) (by omega) (by omega) (by omega)
 rw [hs] at PM;generalize M.pick true (M.pn (max 0 (3*(bt - 1) - (k:Int))*4096 / M.p4 n))=p1 at *;generalize M.pick true (M.pd (max 0 (3*(bt - 1) - (k:Int))*4096 / M.p4 n))=p2 at *;generalize M.pick true (M.pn (-(-((3*bt+(k:Int))*4096) / M.p4 n)))=p3 at *;generalize M.pick true (M.pd (-(-((3*bt+(k:Int))*4096) / M.p4 n)))=p4 at *;obtain ⟨hb1,hb2⟩:=hb
 have hk2:(k:Int)≤60:=by omega
 have PM:=yJ fun x W (h:x=max 0 (3*(bt - 1) - (k:Int)))=>(by subst h;exact PM W:Calls Tryz.prog 131 #[.int .i64 x,.int .i64 (3*bt+(k:Int)),.int .i64 (M.p4 n)] W fun e w'=>e=.returned (.tuple #[.agg #[.int .i64 p1,.int .i64 p2,.int .i64 p3,.int .i64 p4],.bool true])∧Below W.heap.size W w')
 clear hs hC hp;generalize M.p4 n=pp at *;replace PB:=yJ PB;go_enter Tryz.func121,Tryz.ntmps121
 go_upto_region 6 with (go_at_call 130;(with_reducible refine (PB.out _).mono ?_);rintro e w4 ⟨v4,en,rfl,yk,hb4⟩;obtain ⟨rfl,zx,zz,g,cap,s,av,lv,cv,r,bv,mv,dv,rfl,F4,F5,F6,F7,hss,hrr,ox,oz⟩:=yk;have ox:=yJ ox;have oz:=yJ oz;have zx:=yJ zx;have zz:=yJ zz;replace C:=C.keep hb4;replace R:=R.keep hb4;replace B:=i_ B hb4;(replace ⟨j_,o_⟩:=C.b2);(replace ⟨r_,s_,yQ,yR,x_,yO,yS,yT⟩:=R.ym))
 refine Rg.bK 9 [.is (.slice (some ⟨g,0,none⟩) (n+1) cap),.is (.int .i64 (n:Int)),.is (.pointer (some ⟨g,n*4,none⟩)),.is (.agg #[.bool s,.slice av lv cv,.bool r,.slice bv mv dv]),.is (.int .i64 bt),.is (.agg #[.int .i64 a,.int .i64 b]),.is (.int .i64 (k:Int)),.is (.int .i64 bt),.is (.int .i64 (k:Int))] (by kernel_rfl) (by kernel_rfl) (by kernel_rfl) ⟨?_,?_,?_,?_,?_,?_,?_,?_,?_,trivial⟩ ?_
 ·intro _ zZ w_ hB hr
  have e8:zZ.tmps[8]?=some (.slice (some ⟨g,0,none⟩) (n+1) cap):=hr 8 (by decide);exact Rg.aG rfl (by go_simp)
 ·intro _ zZ w_ hB hr
  have e2:zZ.tmps[2]?=some (.int .i64 (n:Int)):=hr 2 (by decide);exact Rg.aG rfl (by go_simp)
 ·intro _ zZ w_ hB hr
  have e28:=Rg.a_ (hr 28 (by decide));have e29:=Rg.a_ (hr 29 (by decide))
  have Bg:(n:Int)<((n+1:Nat):Int):=by omega
  have hlt2_:n<n+1:=by omega
  exact Rg.aG rfl (by first | (go_simp;done) | (go_simp;omega))
 ·intro _ zZ w_ hB hr
  have e30:=Rg.a_ (hr 30 (by decide));have k0:=aE hB F4;have k1:=aE hB F5;have k2:=aE hB F6;have k3:=aE hB F7;exact Rg.aG rfl (by first | (go_simp;done))
 ·intro _ zZ w_ hB hr
  have e31:=Rg.a_ (hr 31 (by decide));have ef:=Rg.ef zZ;exact Rg.bU rfl (by go_simp) (PD.out s r _ _ _ _ _ (aF.below ox.out hB) (aF.below oz.out hB) zx.out zz.out hss.out hrr.out)
 ·intro _ zZ w_ hB hr
  have e3:zZ.tmps[3]?=some (.pointer (some ⟨w.heap.size,0,none⟩)):=hr 3 (by decide);have k0:=aE hB C.box.c0;have k1:=aE hB C.box.c1;exact Rg.aG rfl (by go_simp)
 ·intro _ zZ w_ hB hr
  have e33:=Rg.a_ (hr 33 (by decide));have ef:=Rg.ef zZ;exact Rg.bU rfl (by go_simp) (PC.out _)
 ·intro _ zZ w_ hB hr
  have e32:=Rg.a_ (hr 32 (by decide));exact Rg.aG rfl (by go_simp)
 ·intro _ zZ w_ hB hr
  have e34:=Rg.a_ (hr 34 (by decide));exact Rg.aG rfl (by go_simp)
 intro vals wz hB hv hne;have BS:vals 7=.int .i64 bt:=hv 7 (by decide);have CV:vals 8=.int .i64 (k:Int):=hv 8 (by decide);simp only [Rg.ak,Rg.fill,Act.put,Nat.reduceAdd];clear hv;simp only [BS,CV];clear BS CV;have C2:=C.keep hB;have R2:=R.keep hB;have B2:=i_ B hB;clear C R B j_ o_ r_ s_ yQ yR x_ yO yS yT;unfold Rg.aW;have ⟨y0,y1,y2,y3,x0,x1,x2,x3,_⟩:=R2.aM
 go_wp2_with (first
  | (go_at_call 91;(with_reducible refine (PX.out _ _ _).mono ?_);rintro e w5 ⟨rfl,rfl⟩)
  | (go_at_call 134;(with_reducible refine (PP.out _).mono ?_);rintro e w6 ⟨rfl,rfl⟩)
  | (go_at_call 131;(with_reducible refine (PM.out _ _ (by omega)).mono ?_);rintro e w7 ⟨rfl,yh⟩;replace R2:=R2.keep yh;replace B2:=i_ B2 yh;(replace ⟨R2_c0,R2_c1,R2_c2,R2_c3,R2_f0,R2_f1,R2_f2,R2_f3⟩:=R2.ym)))
 exact bodyPost_ret (v:=.tuple #[.agg #[.int .i64 p1,.int .i64 p2,.int .i64 p3,.int .i64 p4],.bool true]) (by simp [results,Tryz.results121,go_sem, *]) rfl (⟨rfl,yL (yL (yL (yL B2 (by simp <;> omega) _) (by simp <;> omega) _) (by simp <;> omega) _) (by simp <;> omega) _⟩)
end
section
open Go Go.RowKit
namespace Rg
variable {P:Program} {Q:Exit→Act→World→Prop}
def Val.pure:Val→Bool
 | .is _=>true
 | .num _=>true
 | .such _=>true
 | _=>false
theorem Val.dg {V:Val} (h:V.pure=true) {u:Value} {w w':World} (hu:V.ok u w):V.ok u w':=by
 cases V with
 | is _=>exact hu
 | num _=>exact hu
 | such _=>exact hu
 | _=>cases h
def sJ (P:Program) (ops:Array Oper) (Q:Exit→Act→World→Prop) (a0:Act) (T:List Val) (J:World→Prop) (k0:Nat):List Oper→Nat→Prop
 | [],_=>True
 | o
   :: os,k=>(∀ (a:Act) (w:World),J w→(∀ t ∈ o.looksAt ops,qm ops a0 T o a w t)→
   if k=k0 then Region.wanted o (yielded ops a.tmps)=true∧o.wp P a w (fun a' w'=>(∃ v,a'=a.put o.dst v)∧J w'∧∀ v,(AJ T k).ok v w') Q else Does P ops Q (AJ T k) o a w)∧sJ P ops Q a0 T J k0 os (k+1)
theorem uL {ops:Array Oper} {a0:Act} {T:List Val} {J:World→Prop} {k0:Nat} (hJ:∀ w w',J w→Below w.heap.size w w'→J w') (hp:∀ j,j≠k0→(AJ T j).pure=true):∀ (os:List Oper) (k:Nat),sJ P ops Q a0 T J k0 os k→pC P Q .any ops J (fun i v w=>(AJ T i).ok v w) a0 os k
 | [],_,_=>trivial
 | o :: os,k,h=>by
  refine ⟨fun a w vals hS hv hr=>?_,uL hJ hp os (k+1) h.2⟩
  have h1:=h.1 a w hS (fun t ht=>by
   have:=hr t ht;unfold rd at this;unfold qm
   split
   ·rename_i e he
    rw [he] at this;have h2:=List.find?_some he;rw [Bool.and_eq_true] at h2;exact ⟨_,this,hv e (Array.mem_toList_iff.1 (List.mem_of_find?_eq_some he)) h2.1⟩
   rename_i he
   rw [he] at this
   exact this)
  unfold wX
  split at h1
  ·rename_i hk
   rw [if_pos h1.1];refine Oper.wp_mono ?_ h1.2;rintro a' w' ⟨⟨v,e⟩,h2,h3⟩;refine ⟨v,e,h3 v,h2,fun j u hu=>?_⟩
   by_cases hj:j=k0
   ·subst hj
    subst hk;exact h3 u
   exact Val.dg (hp j hj) hu
  unfold Does at h1
  split
  ·rename_i hw
   rw [if_pos hw] at h1;refine Oper.wp_mono ?_ h1;rintro a' w' ⟨v,e1,e2,e3⟩;exact ⟨v,e1,e2,hJ _ _ hS e3,fun j u hu=>Val.keep e3 _ _ hu⟩
  rename_i hw
  rw [if_neg hw] at h1;exact h1
theorem wN {id:Nat} {ops:Array Oper} {a0:Act} {w:World} (k0:Nat) (T:List Val) (J:World→Prop) (hm:P.follows .mixedOrders=true) (hok:dw .any ops a0.tmps.size=true)
  (hJ:∀ w w',J w→Below w.heap.size w w'→J w') (hp:∀ j,j≠k0→(AJ T j).pure=true) (h0:J w)
  (hR:sJ P ops Q a0 T J k0 ops.toList 0)
  (hF:∀ (vals:Nat→Value) (w':World),J w'→(∀ i,i<ops.size→(AJ T i).ok (vals i) w')→Q .normal (fill (fun _=>true) vals ops.toList 0 a0) w'):(Code.region id ops true).wp P Q a0 w:=
 region J (fun i v w'=>(AJ T i).ok v w') hm hok (hJ _ _ h0 ((yM _ w).drew)) (uL hJ hp _ _ hR) hF
end Rg
end
section
open Go.RowKit
namespace M
def bL (a b X E:Int):Nat→Int
 | 0=>hL (hC a b) 0 (aw a b X E 0)
 | k+1=>max (bL a b X E k) (hL (hC a b) (k+1) (aw a b X E (k+1)))
def bH (a b X E:Int):Nat→Int
 | 0=>hH (hC a b) 0 (aw a b X E 0)
 | k+1=>min (bH a b X E k) (hH (hC a b) (k+1) (aw a b X E (k+1)))
def DT (a b X E:Int):Nat→Nat→Nat
 | 0,k=>k
 | f+1,k=>if isOk (aw a b X E (k+1))=true then DT a b X E f (k+1) else k
def bN (a b X E:Int):Nat:=DT a b X E 5 0
def AO (a b X E:Int):Bool:=aN (bL a b X E (bN a b X E)) (bH a b X E (bN a b X E))
theorem sZ {a b X E:Int}:∀ f k:Nat,k≤DT a b X E f k
 | 0,_=>yN _
 | f+1,k=>by
  unfold DT
  split
  ·exact Nat.le_of_succ_le (sZ f (k+1))
  exact yN _
theorem sc {a b X E:Int}:∀ f k:Nat,DT a b X E f k≤k+f
 | 0,_=>yN _
 | f+1,k=>by
  unfold DT
  split
  ·have:=sc (a:=a) (b:=b) (X:=X) (E:=E) f (k+1);omega
  omega
theorem xg {a b X E:Int}:bN a b X E≤5:=sc 5 0
theorem wG {a b X E:Int}:isOk (aw a b X E 0)=true:=by
 unfold aw
 split <;> rfl
theorem tP {a b X E:Int} {n:Nat} (hin:M.bE a b=true) (hn:n≤5) (hX1:-10000≤X) (hX2:X≤10000) (hE1:0≤E) (hE2:E≤20):-409600000≤hL (hC a b) n (aw a b X E n)∧hL (hC a b) n (aw a b X E n)≤409600000∧-409600000≤hH (hC a b) n (aw a b X E n)∧hH (hC a b) n (aw a b X E n)≤409600000:=by
 have:=bw (xu (a:=a) (b:=b) (C:=hC a b) (nh hin) hn hX1 hX2 hE1 hE2);omega
theorem wj {a b X E:Int} (hin:M.bE a b=true) (hX1:-10000≤X) (hX2:X≤10000) (hE1:0≤E) (hE2:E≤20):∀ k:Nat,k≤5→-409600000≤bL a b X E k∧bL a b X E k≤409600000∧-409600000≤bH a b X E k∧bH a b X E k≤409600000
 | 0,h=>tP hin h hX1 hX2 hE1 hE2
 | k+1,h=>by
  have h1:=wj hin hX1 hX2 hE1 hE2 k (by omega);have h2:=tP (n:=k+1) hin h hX1 hX2 hE1 hE2;unfold bL bH;omega
theorem sd {a b X E:Int} {k:Nat}:∀ n:Nat,k≤n→bL a b X E k≤bL a b X E n∧bH a b X E n≤bH a b X E k
 | 0,h=>by
        obtain rfl:k=0:=by omega
        exact ⟨Int.le_refl _,Int.le_refl _⟩
 | n+1,h=>by
  by_cases e:k=n+1
  ·subst e;exact ⟨Int.le_refl _,Int.le_refl _⟩
  have:=sd (a:=a) (b:=b) (X:=X) (E:=E) (k:=k) n (by omega);have e1:bL a b X E (n+1)=max (bL a b X E n) (hL (hC a b) (n+1) (aw a b X E (n+1))):=rfl;have e2:bH a b X E (n+1)=min (bH a b X E n) (hH (hC a b) (n+1) (aw a b X E (n+1))):=rfl;omega
theorem xh {a b X E:Int} (hin:M.bE a b=true) (hX1:-10000≤X) (hX2:X≤10000) (hE1:0≤E) (hE2:E≤20) {k:Nat} (hk:k≤bN a b X E) (h:aN (bL a b X E k) (bH a b X E k)=false):AO a b X E=false:=by
 cases hb:AO a b X E with
 | false=>rfl
 | true=>
 have hN:=xg (a:=a) (b:=b) (X:=X) (E:=E);have h1:=bw hb;have h2:=sd (a:=a) (b:=b) (X:=X) (E:=E) _ hk;have h3:=wj hin hX1 hX2 hE1 hE2 k (by omega)
 exfalso
 have:aN (bL a b X E k) (bH a b X E k)=true:=by
  unfold aN;simp only [Bool.and_eq_true,decide_eq_true_eq];omega
 rw [this] at h;cases h
end M
theorem ly (a b X Y E:Int) (w:World) (hg:M.good a b=true) (hX1:-10000≤X) (hX2:X≤10000) (hE1:0≤E) (hE2:E≤20) :
  Calls Tryz.prog 109 #[.agg #[.int .i64 a,.int .i64 b],.agg #[.int .i64 X,.int .i64 Y,.int .i64 E]] w fun e w'=>e=.returned (.tuple #[.agg #[.int .i64 (M.bL a b X E (M.bN a b X E)),.int .i64 (M.bH a b X E (M.bN a b X E))],.int .i64 ((M.bN a b X E:Nat):Int),.bool (M.AO a b X E)])∧Below w.heap.size w w':=by
 have P0:=fun W=>kE a b X Y E 0 W hg hX1 hX2 hE1 hE2 (by omega)
 rw [M.wG,show ((0:Nat):Int)=0 from rfl] at P0
 have PK:=yJ fun (k:Nat) W (hk:k≤5)=>kE a b X Y E k W hg hX1 hX2 hE1 hE2 hk
 have P0:=yJ P0;have hL0:=yJ (show M.hL (M.hC a b) 0 (M.aw a b X E 0)=M.bL a b X E 0 from rfl);have hH0:=yJ (show M.hH (M.hC a b) 0 (M.aw a b X E 0)=M.bH a b X E 0 from rfl);have hin:=M.bM hg
 have hbd:=yJ fun k hk=>M.tP (a:=a) (b:=b) (X:=X) (E:=E) (n:=k) hin hk hX1 hX2 hE1 hE2
 have hbb:=yJ fun k hk=>M.wj (a:=a) (b:=b) (X:=X) (E:=E) hin hX1 hX2 hE1 hE2 k hk
 clear hg hin;have C:=((aH.new w #[.int .i64 a,.int .i64 b] 29).alloc (.cells #[.int .i64 X,.int .i64 Y,.int .i64 E] 57)).alloc (.cells #[.int .i64 0,.int .i64 0] 68);have Q:=(aH.new (w.alloc (.cells #[.int .i64 a,.int .i64 b] 29)) #[.int .i64 X,.int .i64 Y,.int .i64 E] 57).alloc (.cells #[.int .i64 0,.int .i64 0] 68);rw [yK] at Q;have R:=aH.new ((w.alloc (.cells #[.int .i64 a,.int .i64 b] 29)).alloc (.cells #[.int .i64 X,.int .i64 Y,.int .i64 E] 57)) #[.int .i64 0,.int .i64 0] 68;rw [yK,yK] at R;have B:=(((yM w.heap.size w).alloc (yN _) (.cells #[.int .i64 a,.int .i64 b] 29)).alloc (by rw [yK];omega) (.cells #[.int .i64 X,.int .i64 Y,.int .i64 E] 57)).alloc (by rw [yK,yK];omega) (.cells #[.int .i64 0,.int .i64 0] 68);generalize hw3:((w.alloc (.cells #[.int .i64 a,.int .i64 b] 29)).alloc (.cells #[.int .i64 X,.int .i64 Y,.int .i64 E] 57)).alloc (.cells #[.int .i64 0,.int .i64 0] 68)=wc at *;have ⟨q0,q1,q2⟩:=Q.aQ;have j_:=C.box.c0;have o_:=C.box.c1;generalize hu0:M.hL (M.hC a b) 0 (M.aw a b X E 0)=u0 at *;generalize hv0:M.hH (M.hC a b) 0 (M.aw a b X E 0)=v0 at *;clear hu0 hv0;go_enter Tryz.func109,Tryz.ntmps109
 go_wp2_with (go_at_call 123;(with_reducible refine (P0.out _).mono ?_);rintro e w4 ⟨rfl,hb4⟩;replace C:=C.keep hb4;replace R:=R.keep hb4;replace B:=i_ B hb4;replace Q:=Q.keep hb4;have Ep:=yJ R.lt;replace Q:=Q.alloc (.cells #[.int .i64 u0,.int .i64 v0] 68);have T:=aH.new w4 #[.int .i64 u0,.int .i64 v0] 68;have b_:=bA w4 (.cells #[.int .i64 u0,.int .i64 v0] 68);replace C:=C.keep b_;replace R:=R.keep b_;replace B:=i_ B b_;clear b_;(replace ⟨j_,o_⟩:=C.b2);(replace ⟨r_,s_,x_,yO⟩:=R.zY);(replace ⟨yv,yw⟩:=T.b2))
 go_loopw [9] (fun vi wr=>∃ k:Nat,k≤5∧vi=.int .i64 k∧Hid (M.DT a b X E (5 - k) k=M.bN a b X E)∧aH wr w4.heap.size 68 #[.int .i64 (M.bL a b X E k),.int .i64 (M.bH a b X E k)]∧aH wr w.heap.size 29 #[.int .i64 a,.int .i64 b]∧aH wr (w.heap.size+1) 57 #[.int .i64 X,.int .i64 Y,.int .i64 E]∧aH wr (w.heap.size+1+1) 68 #[.int .i64 0,.int .i64 0]∧Below w.heap.size w wr) (fun vi _=>5 - (intOf vi).toNat)
 case atStart=>exact ⟨0,by omega,rfl,yJ rfl,by rw [←hL0.out,←hH0.out];exact T,C,Q,R,B⟩
 case round=>
 clear C Q R B T P0 hL0 hH0 j_ o_ r_ s_ x_ yO yv yw q0 q1 q2;have hR9:=Ep.out;obtain ⟨k,hk,rfl,hN,T,C,Q,R,B⟩:=hrel;have yv:=T.box.c0;have yw:=T.box.c1;have Cj:=T.box.f0;have Ck:=T.box.f1;have j_:=C.box.c0;have o_:=C.box.c1;have r_:=R.box.c0;have s_:=R.box.c1;have x_:=R.box.f0;have yO:=R.box.f1;have ⟨q0,q1,q2⟩:=Q.aQ
 by_cases hlt:k<5
 ·have P1:=fun W=>PK.out (k+1) W (by omega)
  have hNs:M.DT a b X E (5 - k) k=if M.isOk (M.aw a b X E (k+1))=true then M.DT a b X E (5 - (k+1)) (k+1) else k:=by
   rw [show 5 - k=(5 - (k+1))+1 by omega];rfl
  have eL:M.bL a b X E (k+1)=max (M.bL a b X E k) (M.hL (M.hC a b) (k+1) (M.aw a b X E (k+1))):=rfl;have eH:M.bH a b X E (k+1)=min (M.bH a b X E k) (M.hH (M.hC a b) (k+1) (M.aw a b X E (k+1))):=rfl;generalize M.hH (M.hC a b) (k+1) (M.aw a b X E (k+1))=hh,M.hL (M.hC a b) (k+1) (M.aw a b X E (k+1))=hl at *
  have PC:=yJ fun W=>sr (M.bL a b X E k) (M.bH a b X E k) hl hh W
  cases hok:M.isOk (M.aw a b X E (k+1)) with
  | false=>
   rw [hok,if_neg (by decide)] at hNs;have DF:=yJ (show M.bN a b X E=k by rw [←hN.out,hNs]);rw [hok] at P1
   have PV:=yJ fun W=>mu (M.bL a b X E k) (M.bH a b X E k) W
   have EL:=yJ (show M.AO a b X E=M.aN (M.bL a b X E k) (M.bH a b X E k) by unfold M.AO;rw [DF.out]);clear hNs eL eH hok hN PC;have P1:=yJ P1;have hk1:=yJ (show ((k+1:Nat):Int)=(k:Int)+1 by omega);have P1:=P1.out;rw [hk1.out] at P1;have P1:=yJ P1
   go_upto_region 8 with (go_at_call 123;(with_reducible refine (P1.out _).mono ?_);rintro e w5 ⟨rfl,hb5⟩;replace C:=C.keep hb5;replace R:=R.keep hb5;replace T:=T.keep hb5;replace B:=i_ B hb5;replace Q:=Q.keep hb5;replace Q:=Q.alloc (.cells #[.int .i64 hl,.int .i64 hh] 68);have S:=aH.new w5 #[.int .i64 hl,.int .i64 hh] 68;have b_:=bA w5 (.cells #[.int .i64 hl,.int .i64 hh] 68);replace C:=C.keep b_;replace R:=R.keep b_;replace T:=T.keep b_;replace B:=i_ B b_;clear b_;(replace ⟨j_,o_⟩:=C.b2);(replace ⟨r_,s_,x_,yO⟩:=R.zY);(replace ⟨yv,yw⟩:=T.b2);(replace ⟨Ch,Ci⟩:=S.b2))
   generalize w5.alloc (.cells #[.int .i64 hl,.int .i64 hh] 68)=wd at *;generalize hbk:M.bL a b X E k=bl at *;generalize CK:M.bH a b X E k=bh at *;replace hbk:=yJ hbk;replace CK:=yJ CK;refine Rg.wN 7 [.is (.agg #[.int .i64 bl,.int .i64 bh]),.is (.int .i64 (k:Int)),.is (.bool true),.is (.bool true),.is (.agg #[.int .i64 bl,.int .i64 bh]),.is (.bool (M.aN bl bh)),.is (.bool (M.aN bl bh)),.at (fun _ W=>aH W (w.heap.size+1+1) 68 #[.int .i64 bl,.int .i64 bh]),.is (.int .i64 (k:Int)),.is (.bool (M.aN bl bh))] (fun W=>aH W w4.heap.size 68 #[.int .i64 bl,.int .i64 bh]∧(∃ u v,aH W (w.heap.size+1+1) 68 #[u,v])∧Below w.heap.size w W) (by kernel_rfl) (by kernel_rfl) ?_ (fun j hj=>match j,hj with | 0,hj=>rfl | 1,hj=>rfl | 2,hj=>rfl | 3,hj=>rfl | 4,hj=>rfl | 5,hj=>rfl | 6,hj=>rfl | 7,hj=>absurd rfl hj | 8,hj=>rfl | 9,hj=>rfl | n+10,_=>rfl) ?_ ⟨?_,?_,?_,?_,?_,?_,?_,?_,?_,?_,trivial⟩ ?_
   ·exact fun W W_ h hb=>⟨h.1.keep hb,⟨_,_,h.2.1.choose_spec.choose_spec.keep hb⟩,h.2.2.trans (hb.mono h.2.2.size)⟩
   ·exact ⟨T,⟨_,_,R⟩,B⟩
   ·intro zZ w_ hJ hr
    rw [if_neg (by decide)];have e7:zZ.tmps[7]?=some (.pointer (some ⟨w4.heap.size,0,none⟩)):=hr 7 (by decide);have k0:=hJ.1.box.c0;have k1:=hJ.1.box.c1;exact Rg.aG rfl (by go_simp)
   ·intro zZ w_ hJ hr
    rw [if_neg (by decide)];have e9:zZ.tmps[9]?=some (.int .i64 (k:Int)):=hr 9 (by decide);exact Rg.aG rfl (by go_simp)
   ·intro zZ w_ hJ hr
    rw [if_neg (by decide)];have e8:zZ.tmps[8]?=some (.bool true):=hr 8 (by decide);exact Rg.aG rfl (by go_simp)
   ·intro zZ w_ hJ hr
    rw [if_neg (by decide)];have e37:=Rg.a_ (hr 37 (by decide));exact Rg.aG rfl (by go_simp)
   ·intro zZ w_ hJ hr
    rw [if_neg (by decide)];have e7:zZ.tmps[7]?=some (.pointer (some ⟨w4.heap.size,0,none⟩)):=hr 7 (by decide);have e38:=Rg.a_ (hr 38 (by decide));have k0:=hJ.1.box.c0;have k1:=hJ.1.box.c1;exact Rg.aG (Rg.aU (j:=3) (b:=true) rfl (Rg.yZ rfl e38)) (by go_simp)
   ·intro zZ w_ hJ hr
    rw [if_neg (by decide)];have e38:=Rg.a_ (hr 38 (by decide));have e39:=Rg.a_ (hr 39 (by decide));have ef:=Rg.ef zZ;exact Rg.bU (Rg.aU (j:=3) (b:=true) rfl (Rg.yZ rfl e38)) (by go_simp) (PV.out _)
   ·intro zZ w_ hJ hr
    rw [if_neg (by decide)];have e38:=Rg.a_ (hr 38 (by decide));have e40:=Rg.a_ (hr 40 (by decide));have ec:=Rg.ec zZ;exact Rg.aG rfl (by first | (go_simp;done))
   ·intro zZ w_ hJ hr
    rw [if_pos rfl];have e4:zZ.tmps[4]?=some (.pointer (some ⟨w.heap.size+1+1,0,none⟩)):=hr 4 (by decide);have e35:=Rg.a_ (hr 35 (by decide));obtain ⟨MW,⟨u_,v_,hJ2⟩,hJ3⟩:=hJ;have e35:zZ.tmps[35]?=some (.agg #[.int .i64 bl,.int .i64 bh]):=Rg.a_ (hr 35 (by decide));have e4:zZ.tmps[4]?=some (.pointer (some ⟨w.heap.size+1+1,0,none⟩)):=hr 4 (by decide);have ⟨y0,y1,x0,x1,_⟩:=hJ2.box;refine ⟨rfl,?_⟩;unfold Oper.wp
    go_simp
    exact ⟨⟨MW.bi (show w4.heap.size≠w.heap.size+1+1 by omega) _ _,⟨_,_,aH.set2 hJ2 _ _⟩,dO hJ3 (by omega) _ _⟩,fun _ _ hb=>(aH.set2 hJ2 _ _).keep hb⟩
   ·intro zZ w_ hJ hr
    rw [if_neg (by decide)];have e36:=Rg.a_ (hr 36 (by decide));exact Rg.aG rfl (by go_simp)
   ·intro zZ w_ hJ hr
    rw [if_neg (by decide)];have e41:=Rg.a_ (hr 41 (by decide));exact Rg.aG rfl (by go_simp)
   intro vals wz hJ2 hv;have CV:vals 8=.int .i64 (k:Int):=hv 8 (by decide);have AX:vals 9=.bool (M.aN bl bh):=hv 9 (by decide);have hst:=hv 7 (by decide);simp only [Rg.ak,Rg.fill,Act.put,Nat.reduceAdd];clear hv;simp only [CV,AX];clear CV AX;have ⟨y0,y1,x0,x1,_⟩:=aH.box (Rg.af hst);have B2:=hJ2.2.2;clear hst hJ2;go_wp2;exact bodyPost_ret (v:=.tuple #[.agg #[.int .i64 bl,.int .i64 bh],.int .i64 (k:Int),.bool (M.aN bl bh)]) (by simp [results,Tryz.results109,go_sem, *]) rfl (⟨by rw [DF.out,EL.out,hbk.out,CK.out],B2⟩)
  | true=>
  rw [hok,if_pos rfl] at hNs;have JR:=yJ (hNs.symm.trans hN.out);rw [hok] at P1;have eL:=yJ eL;have eH:=yJ eH;clear hNs hok hN;have hk1:=yJ (show ((k+1:Nat):Int)=(k:Int)+1 by omega);rw [hk1.out] at P1;have P1:=yJ P1;generalize hbk:M.bL a b X E k=bl at *;generalize CK:M.bH a b X E k=bh at *;clear hbk CK
  go_wp2_with (first
   | (go_at_call 123;(with_reducible refine (P1.out _).mono ?_);rintro e w5 ⟨rfl,hb5⟩;replace C:=C.keep hb5;replace R:=R.keep hb5;replace T:=T.keep hb5;replace B:=i_ B hb5;replace Q:=Q.keep hb5;replace Q:=Q.alloc (.cells #[.int .i64 hl,.int .i64 hh] 68);have S:=aH.new w5 #[.int .i64 hl,.int .i64 hh] 68;have b_:=bA w5 (.cells #[.int .i64 hl,.int .i64 hh] 68);replace C:=C.keep b_;replace R:=R.keep b_;replace T:=T.keep b_;replace B:=i_ B b_;clear b_;(replace ⟨j_,o_⟩:=C.b2);(replace ⟨r_,s_,x_,yO⟩:=R.zY);(replace ⟨yv,yw,Cj,Ck⟩:=T.zY);(replace ⟨Ch,Ci⟩:=S.b2))
   | (go_at_call 124;(with_reducible refine (PC.out _).mono ?_);rintro e w6 ⟨rfl,hb6⟩;replace C:=C.keep hb6;replace R:=R.keep hb6;replace T:=T.keep hb6;replace S:=S.keep hb6;replace B:=i_ B hb6;replace Q:=Q.keep hb6;(replace ⟨j_,o_⟩:=C.b2);(replace ⟨r_,s_,x_,yO⟩:=R.zY);(replace ⟨yv,yw,Cj,Ck⟩:=T.zY);(replace ⟨Ch,Ci⟩:=S.b2)))
  go_roundw
  case rel=>exact ⟨k+1,by omega,by go_num,JR,by rw [eL.out,eH.out];exact aH.set2 T _ _,(C.other (show w.heap.size≠w4.heap.size by omega) _).other (show w.heap.size≠w4.heap.size by omega) _,(Q.other (show w.heap.size+1≠w4.heap.size by omega) _).other (show w.heap.size+1≠w4.heap.size by omega) _,(R.other (show w.heap.size+1+1≠w4.heap.size by omega) _).other (show w.heap.size+1+1≠w4.heap.size by omega) _,yL (yL B (by simp <;> omega) _) (by simp <;> omega) _⟩
  case measure=>simp [intOf] <;> omega
 obtain rfl:k=5:=by omega
 have DF:=yJ (show M.bN a b X E=5 by rw [←hN.out];rfl)
 have PV:=yJ fun W=>mu (M.bL a b X E 5) (M.bH a b X E 5) W
 have EL:=yJ (show M.AO a b X E=M.aN (M.bL a b X E 5) (M.bH a b X E 5) by unfold M.AO;rw [DF.out]);clear hN PK
 obtain ⟨k,hk5⟩:∃ k:Nat,k=5:=⟨5,rfl⟩
 rw [←hk5] at DF PV EL T ⊢;rw [←hk5] at yv yw
 have hlt5:¬ (k:Int)<5:=by omega
 go_upto_region 8 with fail
 generalize hbk:M.bL a b X E k=bl at *;generalize CK:M.bH a b X E k=bh at *;replace hbk:=yJ hbk;replace CK:=yJ CK;refine Rg.wN 7 [.is (.agg #[.int .i64 bl,.int .i64 bh]),.is (.int .i64 (k:Int)),.is (.bool true),.is (.bool true),.is (.agg #[.int .i64 bl,.int .i64 bh]),.is (.bool (M.aN bl bh)),.is (.bool (M.aN bl bh)),.at (fun _ W=>aH W (w.heap.size+1+1) 68 #[.int .i64 bl,.int .i64 bh]),.is (.int .i64 (k:Int)),.is (.bool (M.aN bl bh))] (fun W=>aH W w4.heap.size 68 #[.int .i64 bl,.int .i64 bh]∧(∃ u v,aH W (w.heap.size+1+1) 68 #[u,v])∧Below w.heap.size w W) (by kernel_rfl) (by kernel_rfl) ?_ (fun j hj=>match j,hj with | 0,hj=>rfl | 1,hj=>rfl | 2,hj=>rfl | 3,hj=>rfl | 4,hj=>rfl | 5,hj=>rfl | 6,hj=>rfl | 7,hj=>absurd rfl hj | 8,hj=>rfl | 9,hj=>rfl | n+10,_=>rfl) ?_ ⟨?_,?_,?_,?_,?_,?_,?_,?_,?_,?_,trivial⟩ ?_
 ·exact fun W W_ h hb=>⟨h.1.keep hb,⟨_,_,h.2.1.choose_spec.choose_spec.keep hb⟩,h.2.2.trans (hb.mono h.2.2.size)⟩
 ·exact ⟨T,⟨_,_,R⟩,B⟩
 ·intro zZ w_ hJ hr
  rw [if_neg (by decide)];have e7:zZ.tmps[7]?=some (.pointer (some ⟨w4.heap.size,0,none⟩)):=hr 7 (by decide);have k0:=hJ.1.box.c0;have k1:=hJ.1.box.c1;exact Rg.aG rfl (by go_simp)
 ·intro zZ w_ hJ hr
  rw [if_neg (by decide)];have e9:zZ.tmps[9]?=some (.int .i64 (k:Int)):=hr 9 (by decide);exact Rg.aG rfl (by go_simp)
 ·intro zZ w_ hJ hr
  rw [if_neg (by decide)];have e8:zZ.tmps[8]?=some (.bool true):=hr 8 (by decide);exact Rg.aG rfl (by go_simp)
 ·intro zZ w_ hJ hr
  rw [if_neg (by decide)];have e37:=Rg.a_ (hr 37 (by decide));exact Rg.aG rfl (by go_simp)
 ·intro zZ w_ hJ hr
  rw [if_neg (by decide)];have e7:zZ.tmps[7]?=some (.pointer (some ⟨w4.heap.size,0,none⟩)):=hr 7 (by decide);have e38:=Rg.a_ (hr 38 (by decide));have k0:=hJ.1.box.c0;have k1:=hJ.1.box.c1;exact Rg.aG (Rg.aU (j:=3) (b:=true) rfl (Rg.yZ rfl e38)) (by go_simp)
 ·intro zZ w_ hJ hr
  rw [if_neg (by decide)];have e38:=Rg.a_ (hr 38 (by decide));have e39:=Rg.a_ (hr 39 (by decide));have ef:=Rg.ef zZ;exact Rg.bU (Rg.aU (j:=3) (b:=true) rfl (Rg.yZ rfl e38)) (by go_simp) (PV.out _)
 ·intro zZ w_ hJ hr
  rw [if_neg (by decide)];have e38:=Rg.a_ (hr 38 (by decide));have e40:=Rg.a_ (hr 40 (by decide));have ec:=Rg.ec zZ;exact Rg.aG rfl (by first | (go_simp;done))
 ·intro zZ w_ hJ hr
  rw [if_pos rfl];have e4:zZ.tmps[4]?=some (.pointer (some ⟨w.heap.size+1+1,0,none⟩)):=hr 4 (by decide);have e35:=Rg.a_ (hr 35 (by decide));obtain ⟨MW,⟨u_,v_,hJ2⟩,hJ3⟩:=hJ;have e35:zZ.tmps[35]?=some (.agg #[.int .i64 bl,.int .i64 bh]):=Rg.a_ (hr 35 (by decide));have e4:zZ.tmps[4]?=some (.pointer (some ⟨w.heap.size+1+1,0,none⟩)):=hr 4 (by decide);have ⟨y0,y1,x0,x1,_⟩:=hJ2.box;refine ⟨rfl,?_⟩;unfold Oper.wp
  go_simp
  exact ⟨⟨MW.bi (show w4.heap.size≠w.heap.size+1+1 by omega) _ _,⟨_,_,aH.set2 hJ2 _ _⟩,dO hJ3 (by omega) _ _⟩,fun _ _ hb=>(aH.set2 hJ2 _ _).keep hb⟩
 ·intro zZ w_ hJ hr
  rw [if_neg (by decide)];have e36:=Rg.a_ (hr 36 (by decide));exact Rg.aG rfl (by go_simp)
 ·intro zZ w_ hJ hr
  rw [if_neg (by decide)];have e41:=Rg.a_ (hr 41 (by decide));exact Rg.aG rfl (by go_simp)
 intro vals wz hJ2 hv;have CV:vals 8=.int .i64 (k:Int):=hv 8 (by decide);have AX:vals 9=.bool (M.aN bl bh):=hv 9 (by decide);have hst:=hv 7 (by decide);simp only [Rg.ak,Rg.fill,Act.put,Nat.reduceAdd];clear hv;simp only [CV,AX];clear CV AX;have ⟨y0,y1,x0,x1,_⟩:=aH.box (Rg.af hst);have B2:=hJ2.2.2;clear hst hJ2;go_wp2;exact bodyPost_ret (v:=.tuple #[.agg #[.int .i64 bl,.int .i64 bh],.int .i64 (k:Int),.bool (M.aN bl bh)]) (by simp [results,Tryz.results109,go_sem, *]) rfl (⟨by rw [DF.out,EL.out,hbk.out,CK.out],B2⟩)
theorem sk (a b X Y E:Int) (w:World) (hg:M.good a b=true) (hX1:-10000≤X) (hX2:X≤10000) (hE1:0≤E) (hE2:E≤20) :
  Calls Tryz.prog 105 #[.agg #[.int .i64 a,.int .i64 b],.agg #[.int .i64 X,.int .i64 Y,.int .i64 E]] w fun e w'=>e=.returned (.tuple #[.agg #[.int .i64 (M.pick (M.AO a b X E) (M.pn (M.bL a b X E (M.bN a b X E)))),.int .i64 (M.pick (M.AO a b X E) (M.pd (M.bL a b X E (M.bN a b X E)))),.int .i64 (M.pick (M.AO a b X E) (M.pn (M.bH a b X E (M.bN a b X E)))),.int .i64 (M.pick (M.AO a b X E) (M.pd (M.bH a b X E (M.bN a b X E))))],.int .i64 (M.pick (M.AO a b X E) ((M.bN a b X E:Nat):Int)),.bool (M.AO a b X E)])∧Below w.heap.size w w':=by
 have P0:=fun W=>jv a b X Y E 0 W hg hX1 hX2 hE1 hE2 (by omega)
 rw [M.wG,show ((0:Nat):Int)=0 from rfl] at P0;simp only [M.eo] at P0
 have PK:=yJ fun (k:Nat) W (hk:k≤5)=>jv a b X Y E k W hg hX1 hX2 hE1 hE2 hk
 have hL0:=yJ (show M.hL (M.hC a b) 0 (M.aw a b X E 0)=M.bL a b X E 0 from rfl);have hH0:=yJ (show M.hH (M.hC a b) 0 (M.aw a b X E 0)=M.bH a b X E 0 from rfl);have hin:=M.bM hg
 have hno:=yJ fun k hk hs=>M.xh (a:=a) (b:=b) (X:=X) (E:=E) (k:=k) hin hX1 hX2 hE1 hE2 hk hs
 have hss:=yJ fun n hn=>M.xu (a:=a) (b:=b) (X:=X) (E:=E) (C:=M.hC a b) (n:=n) (M.nh hin) hn hX1 hX2 hE1 hE2
 have hs0:=yJ (show M.aN (M.bL a b X E 0) (M.bH a b X E 0)=true from hss.out 0 (by omega));clear hg hin;rw [hL0.out,hH0.out] at P0;clear hL0 hH0;have P0:=yJ P0;have C:=((aH.new w #[.int .i64 a,.int .i64 b] 29).alloc (.cells #[.int .i64 X,.int .i64 Y,.int .i64 E] 57)).alloc (.cells #[.int .i64 0,.int .i64 0,.int .i64 0,.int .i64 0] 64);have Q:=(aH.new (w.alloc (.cells #[.int .i64 a,.int .i64 b] 29)) #[.int .i64 X,.int .i64 Y,.int .i64 E] 57).alloc (.cells #[.int .i64 0,.int .i64 0,.int .i64 0,.int .i64 0] 64);rw [yK] at Q;have R:=aH.new ((w.alloc (.cells #[.int .i64 a,.int .i64 b] 29)).alloc (.cells #[.int .i64 X,.int .i64 Y,.int .i64 E] 57)) #[.int .i64 0,.int .i64 0,.int .i64 0,.int .i64 0] 64;rw [yK,yK] at R;have B:=(((yM w.heap.size w).alloc (yN _) (.cells #[.int .i64 a,.int .i64 b] 29)).alloc (by rw [yK];omega) (.cells #[.int .i64 X,.int .i64 Y,.int .i64 E] 57)).alloc (by rw [yK,yK];omega) (.cells #[.int .i64 0,.int .i64 0,.int .i64 0,.int .i64 0] 64);generalize hw3:((w.alloc (.cells #[.int .i64 a,.int .i64 b] 29)).alloc (.cells #[.int .i64 X,.int .i64 Y,.int .i64 E] 57)).alloc (.cells #[.int .i64 0,.int .i64 0,.int .i64 0,.int .i64 0] 64)=wc at *;have ⟨q0,q1,q2⟩:=Q.aQ;have j_:=C.box.c0;have o_:=C.box.c1;have r_:=R.aM.c0;have x_:=R.aM.f0;have s_:=R.aM.c1;have yO:=R.aM.f1;have yQ:=R.aM.c2;have yS:=R.aM.f2;have yR:=R.aM.c3;have yT:=R.aM.f3;generalize hu1:M.pn (M.bL a b X E 0)=u1 at *;generalize hu2:M.pd (M.bL a b X E 0)=u2 at *;generalize hu3:M.pn (M.bH a b X E 0)=u3 at *;generalize Ja:M.pd (M.bH a b X E 0)=u4 at *;replace hu1:=yJ hu1;replace hu2:=yJ hu2;replace hu3:=yJ hu3;replace Ja:=yJ Ja;go_enter Tryz.func105,Tryz.ntmps105
 go_wp2_with (go_at_call 121;(with_reducible refine (P0.out _).mono ?_);rintro e w4 ⟨rfl,hb4⟩;replace C:=C.keep hb4;replace R:=R.keep hb4;replace B:=i_ B hb4;replace Q:=Q.keep hb4;have Ep:=yJ R.lt;replace Q:=Q.alloc (.cells #[.int .i64 u1,.int .i64 u2,.int .i64 u3,.int .i64 u4] 64);have T:=aH.new w4 #[.int .i64 u1,.int .i64 u2,.int .i64 u3,.int .i64 u4] 64;have b_:=bA w4 (.cells #[.int .i64 u1,.int .i64 u2,.int .i64 u3,.int .i64 u4] 64);replace C:=C.keep b_;replace R:=R.keep b_;replace B:=i_ B b_;clear b_;(replace ⟨j_,o_⟩:=C.b2);(replace ⟨r_,s_,yQ,yR,x_,yO,yS,yT⟩:=R.ym);(replace ⟨yv,yw,CC,CD⟩:=T.b4))
 go_loopw [9] (fun vi wr=>∃ k:Nat,k≤5∧vi=.int .i64 k∧Hid (M.DT a b X E (5 - k) k=M.bN a b X E)∧Hid (M.aN (M.bL a b X E k) (M.bH a b X E k)=true)∧aH wr w4.heap.size 64 #[.int .i64 (M.pn (M.bL a b X E k)),.int .i64 (M.pd (M.bL a b X E k)),.int .i64 (M.pn (M.bH a b X E k)),.int .i64 (M.pd (M.bH a b X E k))]∧aH wr w.heap.size 29 #[.int .i64 a,.int .i64 b]∧aH wr (w.heap.size+1) 57 #[.int .i64 X,.int .i64 Y,.int .i64 E]∧aH wr (w.heap.size+1+1) 64 #[.int .i64 0,.int .i64 0,.int .i64 0,.int .i64 0]∧Below w.heap.size w wr) (fun vi _=>5 - (intOf vi).toNat)
 case atStart=>exact ⟨0,by omega,rfl,yJ rfl,hs0,by rw [hu1.out,hu2.out,hu3.out,Ja.out];exact T,C,Q,R,B⟩
 case round=>
 clear C Q R B T P0 j_ o_ r_ s_ yQ yR x_ yO yS yT yv yw CC CD q0 q1 q2 hu1 hu2 hu3 Ja hs0;have hR9:=Ep.out;obtain ⟨k,hk,rfl,hN,hsk,T,C,Q,R,B⟩:=hrel;have eL:M.bL a b X E (k+1)=max (M.bL a b X E k) (M.hL (M.hC a b) (k+1) (M.aw a b X E (k+1))):=rfl;have eH:M.bH a b X E (k+1)=min (M.bH a b X E k) (M.hH (M.hC a b) (k+1) (M.aw a b X E (k+1))):=rfl;have eL:=yJ eL;have eH:=yJ eH;generalize hbk:M.bL a b X E k=bl at *;generalize CK:M.bH a b X E k=bh at *;replace hbk:=yJ hbk;replace CK:=yJ CK;have j_:=C.box.c0;have o_:=C.box.c1;have ⟨q0,q1,q2⟩:=Q.aQ;have yv:=T.aM.c0;have yw:=T.aM.c1;have CC:=T.aM.c2;have CD:=T.aM.c3;have Cj:=T.aM.f0;have Ck:=T.aM.f1;have Ea:=T.aM.f2;have Eb:=T.aM.f3;have r_:=R.aM.c0;have s_:=R.aM.c1;have yQ:=R.aM.c2;have yR:=R.aM.c3;have x_:=R.aM.f0;have yO:=R.aM.f1;have yS:=R.aM.f2;have yT:=R.aM.f3
 by_cases hlt:k<5
 ·have P1:=fun W=>PK.out (k+1) W (by omega)
  have hNs:M.DT a b X E (5 - k) k=if M.isOk (M.aw a b X E (k+1))=true then M.DT a b X E (5 - (k+1)) (k+1) else k:=by
   rw [show 5 - k=(5 - (k+1))+1 by omega];rfl
  have hsn:=hss.out (k+1) (by omega);generalize M.hH (M.hC a b) (k+1) (M.aw a b X E (k+1))=hh,M.hL (M.hC a b) (k+1) (M.aw a b X E (k+1))=hl at *;have hk1:=yJ (show ((k+1:Nat):Int)=(k:Int)+1 by omega);rw [hk1.out] at P1
  cases hok:M.isOk (M.aw a b X E (k+1)) with
  | false=>
   rw [hok,if_neg (by decide)] at hNs;have DF:=yJ (show M.bN a b X E=k by rw [←hN.out,hNs]);rw [hok] at P1;simp only [M.gA] at P1;have EL:=yJ (show M.AO a b X E=true by unfold M.AO;rw [DF.out,hbk.out,CK.out];exact hsk.out);clear hNs hok hN eL eH hsn;have P1:=yJ P1;generalize DN:M.pn (bl)=t1 at *;replace DN:=yJ DN;generalize DO:M.pd (bl)=t2 at *;replace DO:=yJ DO;generalize DP:M.pn (bh)=t3 at *;replace DP:=yJ DP;generalize DQ:M.pd (bh)=t4 at *;replace DQ:=yJ DQ
   go_wp2_with (go_at_call 121;(with_reducible refine (P1.out _).mono ?_);rintro e w5 ⟨rfl,hb5⟩;replace C:=C.keep hb5;replace R:=R.keep hb5;replace T:=T.keep hb5;replace B:=i_ B hb5;replace Q:=Q.keep hb5;replace Q:=Q.alloc (.cells #[.int .i64 0,.int .i64 0,.int .i64 0,.int .i64 0] 64);have S:=aH.new w5 #[.int .i64 0,.int .i64 0,.int .i64 0,.int .i64 0] 64;have b_:=bA w5 (.cells #[.int .i64 0,.int .i64 0,.int .i64 0,.int .i64 0] 64);replace C:=C.keep b_;replace R:=R.keep b_;replace T:=T.keep b_;replace B:=i_ B b_;clear b_;(replace ⟨j_,o_⟩:=C.b2);(replace ⟨r_,s_,yQ,yR,x_,yO,yS,yT⟩:=R.ym);(replace ⟨yv,yw,CC,CD⟩:=T.b4);(replace ⟨Ch,Ci,EY,EZ⟩:=S.b4))
   exact bodyPost_ret (v:=.tuple #[.agg #[.int .i64 t1,.int .i64 t2,.int .i64 t3,.int .i64 t4],.int .i64 (k:Int),.bool true]) (by simp [results,Tryz.results105,go_sem, *]) rfl (⟨by rw [DF.out,EL.out,hbk.out,CK.out,DN.out,DO.out,DP.out,DQ.out];simp only [M.eo],yL (yL (yL (yL B (by simp <;> omega) _) (by simp <;> omega) _) (by simp <;> omega) _) (by simp <;> omega) _⟩)
  | true=>
  rw [hok,if_pos rfl] at hNs;have JR:=yJ (hNs.symm.trans hN.out);rw [hok] at P1;simp only [M.eo] at P1
  have PC:=fun W=>lk bl bh hl hh W hsk.out hsn
  clear hNs hok hN;have P1:=yJ P1;have hse:=yJ (show M.aN (M.bL a b X E (k+1)) (M.bH a b X E (k+1))=M.aN (max bl hl) (min bh hh) by rw [eL.out,eH.out])
  cases hs:M.aN (max bl hl) (min bh hh) with
  | false=>
   have EL:=yJ (show M.AO a b X E=false from hno.out (k+1) (by have:=M.sZ (a:=a) (b:=b) (X:=X) (E:=E) (5 - (k+1)) (k+1);rw [JR.out] at this;exact this) (by rw [hse.out];exact hs));rw [hs] at PC;simp only [M.gA] at PC;clear hs hse;have PC:=yJ PC;generalize DN:M.pn (bl)=t1 at *;replace DN:=yJ DN;generalize DO:M.pd (bl)=t2 at *;replace DO:=yJ DO;generalize DP:M.pn (bh)=t3 at *;replace DP:=yJ DP;generalize DQ:M.pd (bh)=t4 at *;replace DQ:=yJ DQ;generalize JF:M.pn (hl)=y1 at *;replace JF:=yJ JF;generalize JG:M.pd (hl)=y2 at *;replace JG:=yJ JG;generalize JH:M.pn (hh)=y3 at *;replace JH:=yJ JH;generalize JI:M.pd (hh)=y4 at *;replace JI:=yJ JI
   go_wp2_with (first
    | (go_at_call 121;(with_reducible refine (P1.out _).mono ?_);rintro e w5 ⟨rfl,hb5⟩;replace C:=C.keep hb5;replace R:=R.keep hb5;replace T:=T.keep hb5;replace B:=i_ B hb5;replace Q:=Q.keep hb5;replace Q:=Q.alloc (.cells #[.int .i64 y1,.int .i64 y2,.int .i64 y3,.int .i64 y4] 64);have S:=aH.new w5 #[.int .i64 y1,.int .i64 y2,.int .i64 y3,.int .i64 y4] 64;have b_:=bA w5 (.cells #[.int .i64 y1,.int .i64 y2,.int .i64 y3,.int .i64 y4] 64);replace C:=C.keep b_;replace R:=R.keep b_;replace T:=T.keep b_;replace B:=i_ B b_;clear b_;(replace ⟨j_,o_⟩:=C.b2);(replace ⟨r_,s_,yQ,yR,x_,yO,yS,yT⟩:=R.ym);(replace ⟨yv,yw,CC,CD,Cj,Ck,Ea,Eb⟩:=T.ym);(replace ⟨Ch,Ci,EY,EZ⟩:=S.b4))
    | (go_at_call 122;(with_reducible refine (PC.out _).mono ?_);rintro e w6 ⟨rfl,hb6⟩;replace C:=C.keep hb6;replace R:=R.keep hb6;replace T:=T.keep hb6;replace S:=S.keep hb6;replace B:=i_ B hb6;replace Q:=Q.keep hb6;replace Q:=Q.alloc (.cells #[.int .i64 0,.int .i64 0,.int .i64 0,.int .i64 0] 64);have O:=aH.new w6 #[.int .i64 0,.int .i64 0,.int .i64 0,.int .i64 0] 64;have b_:=bA w6 (.cells #[.int .i64 0,.int .i64 0,.int .i64 0,.int .i64 0] 64);replace C:=C.keep b_;replace R:=R.keep b_;replace T:=T.keep b_;replace S:=S.keep b_;replace B:=i_ B b_;clear b_;(replace ⟨j_,o_⟩:=C.b2);(replace ⟨r_,s_,yQ,yR,x_,yO,yS,yT⟩:=R.ym);(replace ⟨yv,yw,CC,CD,Cj,Ck,Ea,Eb⟩:=T.ym);(replace ⟨Ch,Ci,EY,EZ⟩:=S.b4);(replace ⟨AY,AZ,Aa,Ab⟩:=O.b4)))
   exact bodyPost_ret (v:=.tuple #[.agg #[.int .i64 0,.int .i64 0,.int .i64 0,.int .i64 0],.int .i64 0,.bool false]) (by simp [results,Tryz.results105,go_sem, *]) rfl (⟨by rw [EL.out];simp only [M.gA],yL (yL (yL (yL B (by simp <;> omega) _) (by simp <;> omega) _) (by simp <;> omega) _) (by simp <;> omega) _⟩)
  | true=>
  have hs2:=yJ (hse.out.trans hs);rw [hs] at PC;simp only [M.eo] at PC;clear hs hse;have PC:=yJ PC;generalize DN:M.pn (bl)=t1 at *;replace DN:=yJ DN;generalize DO:M.pd (bl)=t2 at *;replace DO:=yJ DO;generalize DP:M.pn (bh)=t3 at *;replace DP:=yJ DP;generalize DQ:M.pd (bh)=t4 at *;replace DQ:=yJ DQ;generalize JF:M.pn (hl)=y1 at *;replace JF:=yJ JF;generalize JG:M.pd (hl)=y2 at *;replace JG:=yJ JG;generalize JH:M.pn (hh)=y3 at *;replace JH:=yJ JH;generalize JI:M.pd (hh)=y4 at *;replace JI:=yJ JI;generalize N4:M.pn (max bl hl)=z1 at *;replace N4:=yJ N4;generalize N5:M.pd (max bl hl)=z2 at *;replace N5:=yJ N5;generalize N6:M.pn (min bh hh)=z3 at *;replace N6:=yJ N6;generalize N7:M.pd (min bh hh)=z4 at *;replace N7:=yJ N7
  go_wp2_with (first
   | (go_at_call 121;(with_reducible refine (P1.out _).mono ?_);rintro e w5 ⟨rfl,hb5⟩;replace C:=C.keep hb5;replace R:=R.keep hb5;replace T:=T.keep hb5;replace B:=i_ B hb5;replace Q:=Q.keep hb5;replace Q:=Q.alloc (.cells #[.int .i64 y1,.int .i64 y2,.int .i64 y3,.int .i64 y4] 64);have S:=aH.new w5 #[.int .i64 y1,.int .i64 y2,.int .i64 y3,.int .i64 y4] 64;have b_:=bA w5 (.cells #[.int .i64 y1,.int .i64 y2,.int .i64 y3,.int .i64 y4] 64);replace C:=C.keep b_;replace R:=R.keep b_;replace T:=T.keep b_;replace B:=i_ B b_;clear b_;(replace ⟨j_,o_⟩:=C.b2);(replace ⟨r_,s_,yQ,yR,x_,yO,yS,yT⟩:=R.ym);(replace ⟨yv,yw,CC,CD,Cj,Ck,Ea,Eb⟩:=T.ym);(replace ⟨Ch,Ci,EY,EZ⟩:=S.b4))
   | (go_at_call 122;(with_reducible refine (PC.out _).mono ?_);rintro e w6 ⟨rfl,hb6⟩;replace C:=C.keep hb6;replace R:=R.keep hb6;replace T:=T.keep hb6;replace S:=S.keep hb6;replace B:=i_ B hb6;replace Q:=Q.keep hb6;replace Q:=Q.alloc (.cells #[.int .i64 z1,.int .i64 z2,.int .i64 z3,.int .i64 z4] 64);have O:=aH.new w6 #[.int .i64 z1,.int .i64 z2,.int .i64 z3,.int .i64 z4] 64;have b_:=bA w6 (.cells #[.int .i64 z1,.int .i64 z2,.int .i64 z3,.int .i64 z4] 64);replace C:=C.keep b_;replace R:=R.keep b_;replace T:=T.keep b_;replace S:=S.keep b_;replace B:=i_ B b_;clear b_;(replace ⟨j_,o_⟩:=C.b2);(replace ⟨r_,s_,yQ,yR,x_,yO,yS,yT⟩:=R.ym);(replace ⟨yv,yw,CC,CD,Cj,Ck,Ea,Eb⟩:=T.ym);(replace ⟨Ch,Ci,EY,EZ⟩:=S.b4);(replace ⟨AY,AZ,Aa,Ab⟩:=O.b4)))
  go_roundw
  case rel=>exact ⟨k+1,by omega,by go_num,JR,hs2,by rw [eL.out,eH.out,N4.out,N5.out,N6.out,N7.out];exact aH.k8 T _ _ _ _,(((C.other (show w.heap.size≠w4.heap.size by omega) _).other (show w.heap.size≠w4.heap.size by omega) _).other (show w.heap.size≠w4.heap.size by omega) _).other (show w.heap.size≠w4.heap.size by omega) _,(((Q.other (show w.heap.size+1≠w4.heap.size by omega) _).other (show w.heap.size+1≠w4.heap.size by omega) _).other (show w.heap.size+1≠w4.heap.size by omega) _).other (show w.heap.size+1≠w4.heap.size by omega) _,(((R.other (show w.heap.size+1+1≠w4.heap.size by omega) _).other (show w.heap.size+1+1≠w4.heap.size by omega) _).other (show w.heap.size+1+1≠w4.heap.size by omega) _).other (show w.heap.size+1+1≠w4.heap.size by omega) _,yL (yL (yL (yL B (by simp <;> omega) _) (by simp <;> omega) _) (by simp <;> omega) _) (by simp <;> omega) _⟩
  case measure=>simp [intOf] <;> omega
 obtain rfl:k=5:=by omega
 have DF:=yJ (show M.bN a b X E=5 by rw [←hN.out];rfl);have EL:=yJ (show M.AO a b X E=true by unfold M.AO;rw [DF.out,hbk.out,CK.out];exact hsk.out);clear hN PK eL eH
 obtain ⟨k,hk5⟩:∃ k:Nat,k=5:=⟨5,rfl⟩
 rw [←hk5] at DF hbk CK;have GI:=yJ (show (k:Int)=5 by omega);clear hk5;generalize DN:M.pn (bl)=t1 at *;replace DN:=yJ DN;generalize DO:M.pd (bl)=t2 at *;replace DO:=yJ DO;generalize DP:M.pn (bh)=t3 at *;replace DP:=yJ DP;generalize DQ:M.pd (bh)=t4 at *;replace DQ:=yJ DQ;go_wp2;exact bodyPost_ret (v:=.tuple #[.agg #[.int .i64 t1,.int .i64 t2,.int .i64 t3,.int .i64 t4],.int .i64 5,.bool true]) (by simp [results,Tryz.results105,go_sem, *]) rfl (⟨by rw [DF.out,EL.out,GI.out,hbk.out,CK.out,DN.out,DO.out,DP.out,DQ.out];simp only [M.eo],yL (yL (yL (yL B (by simp <;> omega) _) (by simp <;> omega) _) (by simp <;> omega) _) (by simp <;> omega) _⟩)
theorem pM (a b X Y E:Int) (w:World) (hg:M.good a b=true) (hX1:-10000≤X) (hX2:X≤10000) (hE1:0≤E) (hE2:E≤20) :
  Calls Tryz.prog 87 #[.agg #[.int .i64 a,.int .i64 b],.agg #[.int .i64 X,.int .i64 Y,.int .i64 E]] w fun e w'=>e=.returned (.tuple #[.agg #[.int .i64 (M.pick (M.AO a b X E) (M.pn (M.bL a b X E (M.bN a b X E)))),.int .i64 (M.pick (M.AO a b X E) (M.pd (M.bL a b X E (M.bN a b X E)))),.int .i64 (M.pick (M.AO a b X E) (M.pn (M.bH a b X E (M.bN a b X E)))),.int .i64 (M.pick (M.AO a b X E) (M.pd (M.bH a b X E (M.bN a b X E))))],.bool (M.AO a b X E)])∧Below w.heap.size w w':=by
 have P1:=fun W=>sk a b X Y E W hg hX1 hX2 hE1 hE2
 generalize M.pick (M.AO a b X E) (M.pd (M.bH a b X E (M.bN a b X E)))=p4,M.pick (M.AO a b X E) (M.pn (M.bH a b X E (M.bN a b X E)))=p3,M.pick (M.AO a b X E) (M.pd (M.bL a b X E (M.bN a b X E)))=p2,M.pick (M.AO a b X E) (M.pn (M.bL a b X E (M.bN a b X E)))=p1 at *;generalize M.pick (M.AO a b X E) ((M.bN a b X E:Nat):Int)=nn at *;generalize M.AO a b X E=s at *;have P1:=yJ P1;have C:=((aH.new w #[.int .i64 a,.int .i64 b] 29).alloc (.cells #[.int .i64 X,.int .i64 Y,.int .i64 E] 57)).alloc (.cells #[.int .i64 0,.int .i64 0,.int .i64 0,.int .i64 0] 64);have Q:=(aH.new (w.alloc (.cells #[.int .i64 a,.int .i64 b] 29)) #[.int .i64 X,.int .i64 Y,.int .i64 E] 57).alloc (.cells #[.int .i64 0,.int .i64 0,.int .i64 0,.int .i64 0] 64);rw [yK] at Q;have R:=aH.new ((w.alloc (.cells #[.int .i64 a,.int .i64 b] 29)).alloc (.cells #[.int .i64 X,.int .i64 Y,.int .i64 E] 57)) #[.int .i64 0,.int .i64 0,.int .i64 0,.int .i64 0] 64;rw [yK,yK] at R;have B:=(((yM w.heap.size w).alloc (yN _) (.cells #[.int .i64 a,.int .i64 b] 29)).alloc (by rw [yK];omega) (.cells #[.int .i64 X,.int .i64 Y,.int .i64 E] 57)).alloc (by rw [yK,yK];omega) (.cells #[.int .i64 0,.int .i64 0,.int .i64 0,.int .i64 0] 64);generalize hw3:((w.alloc (.cells #[.int .i64 a,.int .i64 b] 29)).alloc (.cells #[.int .i64 X,.int .i64 Y,.int .i64 E] 57)).alloc (.cells #[.int .i64 0,.int .i64 0,.int .i64 0,.int .i64 0] 64)=wc at *;have ⟨q0,q1,q2⟩:=Q.aQ;have j_:=C.box.c0;have o_:=C.box.c1;go_enter Tryz.func87,Tryz.ntmps87
 go_wp2_with (go_at_call 105;(with_reducible refine (P1.out _).mono ?_);rintro e w4 ⟨rfl,hb4⟩;replace C:=C.keep hb4;replace R:=R.keep hb4;replace B:=i_ B hb4;have T:=aH.new w4 #[.int .i64 p1,.int .i64 p2,.int .i64 p3,.int .i64 p4] 64;have b_:=bA w4 (.cells #[.int .i64 p1,.int .i64 p2,.int .i64 p3,.int .i64 p4] 64);replace C:=C.keep b_;replace R:=R.keep b_;replace B:=i_ B b_;clear b_;(replace ⟨j_,o_⟩:=C.b2);(replace ⟨r_,s_,yQ,yR,x_,yO,yS,yT⟩:=R.ym);(replace ⟨yv,yw,CC,CD⟩:=T.b4))
 exact bodyPost_ret (v:=.tuple #[.agg #[.int .i64 p1,.int .i64 p2,.int .i64 p3,.int .i64 p4],.bool s]) (by simp [results,Tryz.results87,go_sem, *]) rfl (⟨rfl,yL (yL (yL (yL B (by simp <;> omega) _) (by simp <;> omega) _) (by simp <;> omega) _) (by simp <;> omega) _⟩)
end
end Go.Proofs.YtgfkcoablfjbcaaGreat
