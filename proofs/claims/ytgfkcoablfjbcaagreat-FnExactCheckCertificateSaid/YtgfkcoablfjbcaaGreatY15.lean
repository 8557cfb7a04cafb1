/-
  Joined texts: contracts and plain lemmas.
-/
import Derived.Test.YtgfkcoablfjbcaaGreatY1
import Derived.Test.YtgfkcoablfjbcaaGreatY14
import Derived.Test.YtgfkcoablfjbcaaGreatY8
set_option linter.unusedSimpArgs false
set_option linter.unusedVariables false
set_option maxRecDepth 100000
set_option maxHeartbeats 8000000
namespace Go.Proofs.YtgfkcoablfjbcaaGreat
section
open Go.RowKit
theorem M.vf {a b:Int} (h:(M.fmk a 4096).isSome=false∨(M.fmk b 4096).isSome=false):M.aN a b=false:=by
 cases hs:M.aN a b with
 | false=>rfl
 | true=>
 obtain ⟨h1,h2,h3⟩:=M.bq hs
 rw [M.bJ (by omega) (by omega),M.bJ (by omega) (by omega)] at h
 simp at h
theorem fP (a b:Int) (w:World) (h1:-4000000000000000000≤a) (h2:a≤4000000000000000000) (h3:-4000000000000000000≤b) (h4:b≤4000000000000000000) :
  Calls Tryz.prog 92 #[.int .i64 a,.int .i64 b] w fun e w'=>e=.returned (.tuple #[.agg #[.int .i64 (M.pick (M.aN (a) (b)) (M.pn (a))),.int .i64 (M.pick (M.aN (a) (b)) (M.pd (a))),.int .i64 (M.pick (M.aN (a) (b)) (M.pn (b))),.int .i64 (M.pick (M.aN (a) (b)) (M.pd (b)))],.bool (M.aN (a) (b))])∧Below w.heap.size w w':=by
 have P1:=fun W=>mM a 4096 W h1 h2 (by omega) (by omega) (by omega)
 have P2:=fun W=>mM b 4096 W h3 h4 (by omega) (by omega) (by omega)
 have PG:=fun W (q1:(M.fmk a 4096).isSome=true) (q2:(M.fmk b 4096).isSome=true)=>jS a b W q1 q2
 have hno:=@M.vf a b
 have e1:=ws (show M.pn a=M.fN (M.fmk a 4096) from rfl)
 have e2:=ws (show M.pd a=M.fD (M.fmk a 4096) from rfl)
 have e3:=ws (show M.pn b=M.fN (M.fmk b 4096) from rfl)
 have e4:=ws (show M.pd b=M.fD (M.fmk b 4096) from rfl)
 rw [e1.out,e2.out,e3.out,e4.out] at PG ⊢
 clear e1 e2 e3 e4
 generalize (M.fmk a 4096).isSome=o1 at *
 generalize (M.fmk b 4096).isSome=o2 at *
 generalize M.fN (M.fmk a 4096)=p1 at *
 generalize M.fD (M.fmk a 4096)=p2 at *
 generalize M.fN (M.fmk b 4096)=p3 at *
 generalize M.fD (M.fmk b 4096)=p4 at *
 replace P1:=ws P1
 replace P2:=ws P2
 have R:=aH.new w #[.int .i64 0,.int .i64 0,.int .i64 0,.int .i64 0] 64
 have B:=(ww w.heap.size w).alloc (xA _) (.cells #[.int .i64 0,.int .i64 0,.int .i64 0,.int .i64 0] 64)
 generalize hw3:w.alloc (.cells #[.int .i64 0,.int .i64 0,.int .i64 0,.int .i64 0] 64)=wc at *
 cases o1 with
 | false=>
  rw [hno (Or.inl rfl)]
  clear hno PG
  go_enter Tryz.func92,Tryz.ntmps92
  go_wp2_with (first
   | (go_at_call 107;(with_reducible refine (P1.out _).mono ?_);rintro e w4 ⟨rfl,hb4⟩;(replace R:=R.keep hb4);(replace B:=B.trans (hb4.mono B.size));(have F:=aH.new w4 #[.int .i64 p1,.int .i64 p2] 45);(have b_:=bA w4 (.cells #[.int .i64 p1,.int .i64 p2] 45));(replace R:=R.keep b_);(replace B:=B.trans (b_.mono B.size));(clear b_);(replace ⟨R_c0,R_c1,R_c2,R_c3,R_f0,R_f1,R_f2,R_f3⟩:=R.b4f);(replace ⟨F_c0,F_c1⟩:=F.b2))
   | (go_at_call 107;(with_reducible refine (P2.out _).mono ?_);rintro e w5 ⟨rfl,hb5⟩;(replace R:=R.keep hb5);(replace F:=F.keep hb5);(replace B:=B.trans (hb5.mono B.size));(have G:=aH.new w5 #[.int .i64 p3,.int .i64 p4] 45);(have b_:=bA w5 (.cells #[.int .i64 p3,.int .i64 p4] 45));(replace R:=R.keep b_);(replace F:=F.keep b_);(replace B:=B.trans (b_.mono B.size));(clear b_);(replace ⟨R_c0,R_c1,R_c2,R_c3,R_f0,R_f1,R_f2,R_f3⟩:=R.b4f);(replace ⟨F_c0,F_c1⟩:=F.b2);(replace ⟨G_c0,G_c1⟩:=G.b2);(have O:=aH.new (w5.alloc (.cells #[.int .i64 p3,.int .i64 p4] 45)) #[.int .i64 p1,.int .i64 p2,.int .i64 p3,.int .i64 p4] 64);(have b_:=bA (w5.alloc (.cells #[.int .i64 p3,.int .i64 p4] 45)) (.cells #[.int .i64 p1,.int .i64 p2,.int .i64 p3,.int .i64 p4] 64));(replace R:=R.keep b_);(replace F:=F.keep b_);(replace G:=G.keep b_);(replace B:=B.trans (b_.mono B.size));(clear b_);(rw [wt] at O);(have O_c0:=O.aM.c0);(have O_c1:=O.aM.c1);(have O_c2:=O.aM.c2);(have O_c3:=O.aM.c3);(have R_c0:=R.aM.c0);(have R_c1:=R.aM.c1);(have R_c2:=R.aM.c2);(have R_c3:=R.aM.c3);(have R_f0:=R.aM.f0);(have R_f1:=R.aM.f1);(have R_f2:=R.aM.f2);(have R_f3:=R.aM.f3)))
  exact bodyPost_ret (v:=.tuple #[.agg #[.int .i64 0,.int .i64 0,.int .i64 0,.int .i64 0],.bool false]) (by simp [results,Tryz.results92,go_sem, *]) rfl (⟨rfl,wu (wu (wu (wu B (by simp <;> omega) _) (by simp <;> omega) _) (by simp <;> omega) _) (by simp <;> omega) _⟩)
 | true=>
 cases o2 with
 | false=>
  rw [hno (Or.inr rfl)]
  clear hno PG
  go_enter Tryz.func92,Tryz.ntmps92
  go_wp2_with (first
   | (go_at_call 107;(with_reducible refine (P1.out _).mono ?_);rintro e w4 ⟨rfl,hb4⟩;(replace R:=R.keep hb4);(replace B:=B.trans (hb4.mono B.size));(have F:=aH.new w4 #[.int .i64 p1,.int .i64 p2] 45);(have b_:=bA w4 (.cells #[.int .i64 p1,.int .i64 p2] 45));(replace R:=R.keep b_);(replace B:=B.trans (b_.mono B.size));(clear b_);(replace ⟨R_c0,R_c1,R_c2,R_c3,R_f0,R_f1,R_f2,R_f3⟩:=R.b4f);(replace ⟨F_c0,F_c1⟩:=F.b2))
   | (go_at_call 107;(with_reducible refine (P2.out _).mono ?_);rintro e w5 ⟨rfl,hb5⟩;(replace R:=R.keep hb5);(replace F:=F.keep hb5);(replace B:=B.trans (hb5.mono B.size));(have G:=aH.new w5 #[.int .i64 p3,.int .i64 p4] 45);(have b_:=bA w5 (.cells #[.int .i64 p3,.int .i64 p4] 45));(replace R:=R.keep b_);(replace F:=F.keep b_);(replace B:=B.trans (b_.mono B.size));(clear b_);(replace ⟨R_c0,R_c1,R_c2,R_c3,R_f0,R_f1,R_f2,R_f3⟩:=R.b4f);(replace ⟨F_c0,F_c1⟩:=F.b2);(replace ⟨G_c0,G_c1⟩:=G.b2);(have O:=aH.new (w5.alloc (.cells #[.int .i64 p3,.int .i64 p4] 45)) #[.int .i64 p1,.int .i64 p2,.int .i64 p3,.int .i64 p4] 64);(have b_:=bA (w5.alloc (.cells #[.int .i64 p3,.int .i64 p4] 45)) (.cells #[.int .i64 p1,.int .i64 p2,.int .i64 p3,.int .i64 p4] 64));(replace R:=R.keep b_);(replace F:=F.keep b_);(replace G:=G.keep b_);(replace B:=B.trans (b_.mono B.size));(clear b_);(rw [wt] at O);(have O_c0:=O.aM.c0);(have O_c1:=O.aM.c1);(have O_c2:=O.aM.c2);(have O_c3:=O.aM.c3);(have R_c0:=R.aM.c0);(have R_c1:=R.aM.c1);(have R_c2:=R.aM.c2);(have R_c3:=R.aM.c3);(have R_f0:=R.aM.f0);(have R_f1:=R.aM.f1);(have R_f2:=R.aM.f2);(have R_f3:=R.aM.f3)))
  exact bodyPost_ret (v:=.tuple #[.agg #[.int .i64 0,.int .i64 0,.int .i64 0,.int .i64 0],.bool false]) (by simp [results,Tryz.results92,go_sem, *]) rfl (⟨rfl,wu (wu (wu (wu B (by simp <;> omega) _) (by simp <;> omega) _) (by simp <;> omega) _) (by simp <;> omega) _⟩)
 | true=>
 have PG2:=fun W=>PG W rfl rfl
 clear PG hno
 cases hs:M.aN a b with
 | true=>
  rw [hs] at PG2
  replace PG2:=ws PG2
  clear hs
  go_enter Tryz.func92,Tryz.ntmps92
  go_wp2_with (first
   | (go_at_call 107;(with_reducible refine (P1.out _).mono ?_);rintro e w4 ⟨rfl,hb4⟩;(replace R:=R.keep hb4);(replace B:=B.trans (hb4.mono B.size));(have F:=aH.new w4 #[.int .i64 p1,.int .i64 p2] 45);(have b_:=bA w4 (.cells #[.int .i64 p1,.int .i64 p2] 45));(replace R:=R.keep b_);(replace B:=B.trans (b_.mono B.size));(clear b_);(replace ⟨R_c0,R_c1,R_c2,R_c3,R_f0,R_f1,R_f2,R_f3⟩:=R.b4f);(replace ⟨F_c0,F_c1⟩:=F.b2))
   | (go_at_call 107;(with_reducible refine (P2.out _).mono ?_);rintro e w5 ⟨rfl,hb5⟩;(replace R:=R.keep hb5);(replace F:=F.keep hb5);(replace B:=B.trans (hb5.mono B.size));(have G:=aH.new w5 #[.int .i64 p3,.int .i64 p4] 45);(have b_:=bA w5 (.cells #[.int .i64 p3,.int .i64 p4] 45));(replace R:=R.keep b_);(replace F:=F.keep b_);(replace B:=B.trans (b_.mono B.size));(clear b_);(replace ⟨R_c0,R_c1,R_c2,R_c3,R_f0,R_f1,R_f2,R_f3⟩:=R.b4f);(replace ⟨F_c0,F_c1⟩:=F.b2);(replace ⟨G_c0,G_c1⟩:=G.b2);(have O:=aH.new (w5.alloc (.cells #[.int .i64 p3,.int .i64 p4] 45)) #[.int .i64 p1,.int .i64 p2,.int .i64 p3,.int .i64 p4] 64);(have b_:=bA (w5.alloc (.cells #[.int .i64 p3,.int .i64 p4] 45)) (.cells #[.int .i64 p1,.int .i64 p2,.int .i64 p3,.int .i64 p4] 64));(replace R:=R.keep b_);(replace F:=F.keep b_);(replace G:=G.keep b_);(replace B:=B.trans (b_.mono B.size));(clear b_);(rw [wt] at O);(have O_c0:=O.aM.c0);(have O_c1:=O.aM.c1);(have O_c2:=O.aM.c2);(have O_c3:=O.aM.c3);(have R_c0:=R.aM.c0);(have R_c1:=R.aM.c1);(have R_c2:=R.aM.c2);(have R_c3:=R.aM.c3);(have R_f0:=R.aM.f0);(have R_f1:=R.aM.f1);(have R_f2:=R.aM.f2);(have R_f3:=R.aM.f3))
   | (go_at_call 108;(with_reducible refine (PG2.out _).mono ?_);rintro e w6 ⟨rfl,hb6⟩;(replace R:=R.keep hb6);(replace F:=F.keep hb6);(replace G:=G.keep hb6);(replace O:=O.keep hb6);(replace B:=B.trans (hb6.mono B.size));(replace ⟨R_c0,R_c1,R_c2,R_c3,R_f0,R_f1,R_f2,R_f3⟩:=R.b4f);(replace ⟨F_c0,F_c1⟩:=F.b2);(replace ⟨G_c0,G_c1⟩:=G.b2);(replace ⟨O_c0,O_c1,O_c2,O_c3⟩:=O.b4)))
  exact bodyPost_ret (v:=.tuple #[.agg #[.int .i64 p1,.int .i64 p2,.int .i64 p3,.int .i64 p4],.bool true]) (by simp [results,Tryz.results92,go_sem, *]) rfl (⟨rfl,wu (wu (wu (wu B (by simp <;> omega) _) (by simp <;> omega) _) (by simp <;> omega) _) (by simp <;> omega) _⟩)
 | false=>
 rw [hs] at PG2
 replace PG2:=ws PG2
 clear hs
 go_enter Tryz.func92,Tryz.ntmps92
 go_wp2_with (first
  | (go_at_call 107;(with_reducible refine (P1.out _).mono ?_);rintro e w4 ⟨rfl,hb4⟩;(replace R:=R.keep hb4);(replace B:=B.trans (hb4.mono B.size));(have F:=aH.new w4 #[.int .i64 p1,.int .i64 p2] 45);(have b_:=bA w4 (.cells #[.int .i64 p1,.int .i64 p2] 45));(replace R:=R.keep b_);(replace B:=B.trans (b_.mono B.size));(clear b_);(replace ⟨R_c0,R_c1,R_c2,R_c3,R_f0,R_f1,R_f2,R_f3⟩:=R.b4f);(replace ⟨F_c0,F_c1⟩:=F.b2))
  | (go_at_call 107;(with_reducible refine (P2.out _).mono ?_);rintro e w5 ⟨rfl,hb5⟩;(replace R:=R.keep hb5);(replace F:=F.keep hb5);(replace B:=B.trans (hb5.mono B.size));(have G:=aH.new w5 #[.int .i64 p3,.int .i64 p4] 45);(have b_:=bA w5 (.cells #[.int .i64 p3,.int .i64 p4] 45));(replace R:=R.keep b_);(replace F:=F.keep b_);(replace B:=B.trans (b_.mono B.size));(clear b_);(replace ⟨R_c0,R_c1,R_c2,R_c3,R_f0,R_f1,R_f2,R_f3⟩:=R.b4f);(replace ⟨F_c0,F_c1⟩:=F.b2);(replace ⟨G_c0,G_c1⟩:=G.b2);(have O:=aH.new (w5.alloc (.cells #[.int .i64 p3,.int .i64 p4] 45)) #[.int .i64 p1,.int .i64 p2,.int .i64 p3,.int .i64 p4] 64);(have b_:=bA (w5.alloc (.cells #[.int .i64 p3,.int .i64 p4] 45)) (.cells #[.int .i64 p1,.int .i64 p2,.int .i64 p3,.int .i64 p4] 64));(replace R:=R.keep b_);(replace F:=F.keep b_);(replace G:=G.keep b_);(replace B:=B.trans (b_.mono B.size));(clear b_);(rw [wt] at O);(have O_c0:=O.aM.c0);(have O_c1:=O.aM.c1);(have O_c2:=O.aM.c2);(have O_c3:=O.aM.c3);(have R_c0:=R.aM.c0);(have R_c1:=R.aM.c1);(have R_c2:=R.aM.c2);(have R_c3:=R.aM.c3);(have R_f0:=R.aM.f0);(have R_f1:=R.aM.f1);(have R_f2:=R.aM.f2);(have R_f3:=R.aM.f3))
  | (go_at_call 108;(with_reducible refine (PG2.out _).mono ?_);rintro e w6 ⟨rfl,hb6⟩;(replace R:=R.keep hb6);(replace F:=F.keep hb6);(replace G:=G.keep hb6);(replace O:=O.keep hb6);(replace B:=B.trans (hb6.mono B.size));(replace ⟨R_c0,R_c1,R_c2,R_c3,R_f0,R_f1,R_f2,R_f3⟩:=R.b4f);(replace ⟨F_c0,F_c1⟩:=F.b2);(replace ⟨G_c0,G_c1⟩:=G.b2);(replace ⟨O_c0,O_c1,O_c2,O_c3⟩:=O.b4)))
 exact bodyPost_ret (v:=.tuple #[.agg #[.int .i64 0,.int .i64 0,.int .i64 0,.int .i64 0],.bool false]) (by simp [results,Tryz.results92,go_sem, *]) rfl (⟨rfl,wu (wu (wu (wu B (by simp <;> omega) _) (by simp <;> omega) _) (by simp <;> omega) _) (by simp <;> omega) _⟩)
theorem tx (a b c d:Int) (w:World) (hab:M.aN a b=true) (hcd:M.aN c d=true) :
  Calls Tryz.prog 71 #[.agg #[.int .i64 (M.pn a),.int .i64 (M.pd a),.int .i64 (M.pn b),.int .i64 (M.pd b)],.agg #[.int .i64 (M.pn c),.int .i64 (M.pd c),.int .i64 (M.pn d),.int .i64 (M.pd d)]] w fun e w'=>e=.returned (.tuple #[.agg #[.int .i64 (M.pick (M.aN (a+c) (b+d)) (M.pn (a+c))),.int .i64 (M.pick (M.aN (a+c) (b+d)) (M.pd (a+c))),.int .i64 (M.pick (M.aN (a+c) (b+d)) (M.pn (b+d))),.int .i64 (M.pick (M.aN (a+c) (b+d)) (M.pd (b+d)))],.bool (M.aN (a+c) (b+d))])∧Below w.heap.size w w':=by
 obtain ⟨ab,a1,b1⟩:=M.bq hab
 obtain ⟨cd,c1,d1⟩:=M.bq hcd
 have E1:=fun W=>db a b W (M.bJ (by omega) (by omega)) (M.bJ (by omega) (by omega))
 have E2:=fun W=>db c d W (M.bJ (by omega) (by omega)) (M.bJ (by omega) (by omega))
 have PM:=fun W=>fP (a+c) (b+d) W (by omega) (by omega) (by omega) (by omega)
 generalize M.pick (M.aN (a+c) (b+d)) (M.pn (a+c))=p1 at *
 generalize M.pick (M.aN (a+c) (b+d)) (M.pd (a+c))=p2 at *
 generalize M.pick (M.aN (a+c) (b+d)) (M.pn (b+d))=p3 at *
 generalize M.pick (M.aN (a+c) (b+d)) (M.pd (b+d))=p4 at *
 generalize M.aN (a+c) (b+d)=s at *
 replace PM:=ws PM
 replace E1:=ws E1
 replace E2:=ws E2
 generalize hn1:M.pn a=n1 at *
 generalize hd1:M.pd a=d1 at *
 generalize hn2:M.pn b=n2 at *
 generalize hd2:M.pd b=d2 at *
 generalize hn3:M.pn c=n3 at *
 generalize hd3:M.pd c=d3 at *
 generalize hn4:M.pn d=n4 at *
 generalize hd4:M.pd d=d4 at *
 clear hn1 hn2 hn3 hn4 hd1 hd2 hd3 hd4
 have V:=((aH.new w #[.int .i64 n1,.int .i64 d1,.int .i64 n2,.int .i64 d2] 64).alloc (.cells #[.int .i64 n3,.int .i64 d3,.int .i64 n4,.int .i64 d4] 64)).alloc (.cells #[.int .i64 0,.int .i64 0,.int .i64 0,.int .i64 0] 64)
 have U:=(aH.new (w.alloc (.cells #[.int .i64 n1,.int .i64 d1,.int .i64 n2,.int .i64 d2] 64)) #[.int .i64 n3,.int .i64 d3,.int .i64 n4,.int .i64 d4] 64).alloc (.cells #[.int .i64 0,.int .i64 0,.int .i64 0,.int .i64 0] 64)
 rw [wt] at U
 have R:=aH.new ((w.alloc (.cells #[.int .i64 n1,.int .i64 d1,.int .i64 n2,.int .i64 d2] 64)).alloc (.cells #[.int .i64 n3,.int .i64 d3,.int .i64 n4,.int .i64 d4] 64)) #[.int .i64 0,.int .i64 0,.int .i64 0,.int .i64 0] 64
 rw [wt,wt] at R
 have B:=(((ww w.heap.size w).alloc (xA _) (.cells #[.int .i64 n1,.int .i64 d1,.int .i64 n2,.int .i64 d2] 64)).alloc (by rw [wt];omega) (.cells #[.int .i64 n3,.int .i64 d3,.int .i64 n4,.int .i64 d4] 64)).alloc (by rw [wt,wt];omega) (.cells #[.int .i64 0,.int .i64 0,.int .i64 0,.int .i64 0] 64)
 generalize hw3:((w.alloc (.cells #[.int .i64 n1,.int .i64 d1,.int .i64 n2,.int .i64 d2] 64)).alloc (.cells #[.int .i64 n3,.int .i64 d3,.int .i64 n4,.int .i64 d4] 64)).alloc (.cells #[.int .i64 0,.int .i64 0,.int .i64 0,.int .i64 0] 64)=wc at *
 have V_c0:=V.aM.c0
 have V_c1:=V.aM.c1
 have V_c2:=V.aM.c2
 have V_c3:=V.aM.c3
 have U_c0:=U.aM.c0
 have U_c1:=U.aM.c1
 have U_c2:=U.aM.c2
 have U_c3:=U.aM.c3
 have R_c0:=R.aM.c0
 have R_c1:=R.aM.c1
 have R_c2:=R.aM.c2
 have R_c3:=R.aM.c3
 go_enter Tryz.func71,Tryz.ntmps71
 go_wp2_with (first
  | (go_at_call 89;(with_reducible refine (E1.out _).mono ?_);rintro e w4 ⟨rfl,hb4⟩;(replace V:=V.keep hb4);(replace U:=U.keep hb4);(replace R:=R.keep hb4);(replace B:=B.trans (hb4.mono B.size));(replace ⟨V_c0,V_c1,V_c2,V_c3⟩:=V.b4);(replace ⟨U_c0,U_c1,U_c2,U_c3⟩:=U.b4);(replace ⟨R_c0,R_c1,R_c2,R_c3,R_f0,R_f1,R_f2,R_f3⟩:=R.b4f))
  | (go_at_call 89;(with_reducible refine (E2.out _).mono ?_);rintro e w5 ⟨rfl,hb5⟩;(replace V:=V.keep hb5);(replace U:=U.keep hb5);(replace R:=R.keep hb5);(replace B:=B.trans (hb5.mono B.size));(replace ⟨V_c0,V_c1,V_c2,V_c3⟩:=V.b4);(replace ⟨U_c0,U_c1,U_c2,U_c3⟩:=U.b4);(replace ⟨R_c0,R_c1,R_c2,R_c3,R_f0,R_f1,R_f2,R_f3⟩:=R.b4f))
  | (go_at_call 92;(with_reducible refine (PM.out _).mono ?_);rintro e w6 ⟨rfl,hb6⟩;(replace V:=V.keep hb6);(replace U:=U.keep hb6);(replace R:=R.keep hb6);(replace B:=B.trans (hb6.mono B.size));(replace ⟨V_c0,V_c1,V_c2,V_c3⟩:=V.b4);(replace ⟨U_c0,U_c1,U_c2,U_c3⟩:=U.b4);(replace ⟨R_c0,R_c1,R_c2,R_c3,R_f0,R_f1,R_f2,R_f3⟩:=R.b4f)))
 exact bodyPost_ret (v:=.tuple #[.agg #[.int .i64 p1,.int .i64 p2,.int .i64 p3,.int .i64 p4],.bool s]) (by simp [results,Tryz.results71,go_sem, *]) rfl (⟨rfl,wu (wu (wu (wu B (by simp <;> omega) _) (by simp <;> omega) _) (by simp <;> omega) _) (by simp <;> omega) _⟩)
theorem uB (a b c d:Int) (w:World) (hab:M.aN a b=true) (hcd:M.aN c d=true) :
  Calls Tryz.prog 72 #[.agg #[.int .i64 (M.pn a),.int .i64 (M.pd a),.int .i64 (M.pn b),.int .i64 (M.pd b)],.agg #[.int .i64 (M.pn c),.int .i64 (M.pd c),.int .i64 (M.pn d),.int .i64 (M.pd d)]] w fun e w'=>e=.returned (.tuple #[.agg #[.int .i64 (M.pick (M.aN (a - d) (b - c)) (M.pn (a - d))),.int .i64 (M.pick (M.aN (a - d) (b - c)) (M.pd (a - d))),.int .i64 (M.pick (M.aN (a - d) (b - c)) (M.pn (b - c))),.int .i64 (M.pick (M.aN (a - d) (b - c)) (M.pd (b - c)))],.bool (M.aN (a - d) (b - c))])∧Below w.heap.size w w':=by
 obtain ⟨ab,a1,b1⟩:=M.bq hab
 obtain ⟨cd,c1,d1⟩:=M.bq hcd
 have E1:=fun W=>db a b W (M.bJ (by omega) (by omega)) (M.bJ (by omega) (by omega))
 have E2:=fun W=>db c d W (M.bJ (by omega) (by omega)) (M.bJ (by omega) (by omega))
 have PM:=fun W=>fP (a - d) (b - c) W (by omega) (by omega) (by omega) (by omega)
 generalize M.pick (M.aN (a - d) (b - c)) (M.pn (a - d))=p1 at *
 generalize M.pick (M.aN (a - d) (b - c)) (M.pd (a - d))=p2 at *
 generalize M.pick (M.aN (a - d) (b - c)) (M.pn (b - c))=p3 at *
 generalize M.pick (M.aN (a - d) (b - c)) (M.pd (b - c))=p4 at *
 generalize M.aN (a - d) (b - c)=s at *
 replace PM:=ws PM
 replace E1:=ws E1
 replace E2:=ws E2
 generalize hn1:M.pn a=n1 at *
 generalize hd1:M.pd a=d1 at *
 generalize hn2:M.pn b=n2 at *
 generalize hd2:M.pd b=d2 at *
 generalize hn3:M.pn c=n3 at *
 generalize hd3:M.pd c=d3 at *
 generalize hn4:M.pn d=n4 at *
 generalize hd4:M.pd d=d4 at *
 clear hn1 hn2 hn3 hn4 hd1 hd2 hd3 hd4
 have V:=((aH.new w #[.int .i64 n1,.int .i64 d1,.int .i64 n2,.int .i64 d2] 64).alloc (.cells #[.int .i64 n3,.int .i64 d3,.int .i64 n4,.int .i64 d4] 64)).alloc (.cells #[.int .i64 0,.int .i64 0,.int .i64 0,.int .i64 0] 64)
 have U:=(aH.new (w.alloc (.cells #[.int .i64 n1,.int .i64 d1,.int .i64 n2,.int .i64 d2] 64)) #[.int .i64 n3,.int .i64 d3,.int .i64 n4,.int .i64 d4] 64).alloc (.cells #[.int .i64 0,.int .i64 0,.int .i64 0,.int .i64 0] 64)
 rw [wt] at U
 have R:=aH.new ((w.alloc (.cells #[.int .i64 n1,.int .i64 d1,.int .i64 n2,.int .i64 d2] 64)).alloc (.cells #[.int .i64 n3,.int .i64 d3,.int .i64 n4,.int .i64 d4] 64)) #[.int .i64 0,.int .i64 0,.int .i64 0,.int .i64 0] 64
 rw [wt,wt] at R
 have B:=(((ww w.heap.size w).alloc (xA _) (.cells #[.int .i64 n1,.int .i64 d1,.int .i64 n2,.int .i64 d2] 64)).alloc (by rw [wt];omega) (.cells #[.int .i64 n3,.int .i64 d3,.int .i64 n4,.int .i64 d4] 64)).alloc (by rw [wt,wt];omega) (.cells #[.int .i64 0,.int .i64 0,.int .i64 0,.int .i64 0] 64)
 generalize hw3:((w.alloc (.cells #[.int .i64 n1,.int .i64 d1,.int .i64 n2,.int .i64 d2] 64)).alloc (.cells #[.int .i64 n3,.int .i64 d3,.int .i64 n4,.int .i64 d4] 64)).alloc (.cells #[.int .i64 0,.int .i64 0,.int .i64 0,.int .i64 0] 64)=wc at *
 have V_c0:=V.aM.c0
 have V_c1:=V.aM.c1
 have V_c2:=V.aM.c2
 have V_c3:=V.aM.c3
 have U_c0:=U.aM.c0
 have U_c1:=U.aM.c1
 have U_c2:=U.aM.c2
 have U_c3:=U.aM.c3
 have R_c0:=R.aM.c0
 have R_c1:=R.aM.c1
 have R_c2:=R.aM.c2
 have R_c3:=R.aM.c3
 go_enter Tryz.func72,Tryz.ntmps72
 go_wp2_with (first
  | (go_at_call 89;(with_reducible refine (E1.out _).mono ?_);rintro e w4 ⟨rfl,hb4⟩;(replace V:=V.keep hb4);(replace U:=U.keep hb4);(replace R:=R.keep hb4);(replace B:=B.trans (hb4.mono B.size));(replace ⟨V_c0,V_c1,V_c2,V_c3⟩:=V.b4);(replace ⟨U_c0,U_c1,U_c2,U_c3⟩:=U.b4);(replace ⟨R_c0,R_c1,R_c2,R_c3,R_f0,R_f1,R_f2,R_f3⟩:=R.b4f))
  | (go_at_call 89;(with_reducible refine (E2.out _).mono ?_);rintro e w5 ⟨rfl,hb5⟩;(replace V:=V.keep hb5);(replace U:=U.keep hb5);(replace R:=R.keep hb5);(replace B:=B.trans (hb5.mono B.size));(replace ⟨V_c0,V_c1,V_c2,V_c3⟩:=V.b4);(replace ⟨U_c0,U_c1,U_c2,U_c3⟩:=U.b4);(replace ⟨R_c0,R_c1,R_c2,R_c3,R_f0,R_f1,R_f2,R_f3⟩:=R.b4f))
  | (go_at_call 92;(with_reducible refine (PM.out _).mono ?_);rintro e w6 ⟨rfl,hb6⟩;(replace V:=V.keep hb6);(replace U:=U.keep hb6);(replace R:=R.keep hb6);(replace B:=B.trans (hb6.mono B.size));(replace ⟨V_c0,V_c1,V_c2,V_c3⟩:=V.b4);(replace ⟨U_c0,U_c1,U_c2,U_c3⟩:=U.b4);(replace ⟨R_c0,R_c1,R_c2,R_c3,R_f0,R_f1,R_f2,R_f3⟩:=R.b4f)))
 exact bodyPost_ret (v:=.tuple #[.agg #[.int .i64 p1,.int .i64 p2,.int .i64 p3,.int .i64 p4],.bool s]) (by simp [results,Tryz.results72,go_sem, *]) rfl (⟨rfl,wu (wu (wu (wu B (by simp <;> omega) _) (by simp <;> omega) _) (by simp <;> omega) _) (by simp <;> omega) _⟩)
theorem uC (a b c d:Int) (w:World) (hab:M.aN a b=true) (hcd:M.aN c d=true) :
  Calls Tryz.prog 135 #[.agg #[.int .i64 (M.pn a),.int .i64 (M.pd a),.int .i64 (M.pn b),.int .i64 (M.pd b)],.agg #[.int .i64 (M.pn c),.int .i64 (M.pd c),.int .i64 (M.pn d),.int .i64 (M.pd d)]] w fun e w'=>e=.returned (.bool true)∧Below w.heap.size w w':=by
 obtain ⟨ab,a1,b1⟩:=M.bq hab
 obtain ⟨cd,c1,d1⟩:=M.bq hcd
 have E1:=fun W=>jS a b W (M.bJ (by omega) (by omega)) (M.bJ (by omega) (by omega))
 have E2:=fun W=>jS c d W (M.bJ (by omega) (by omega)) (M.bJ (by omega) (by omega))
 rw [hab] at E1
 rw [hcd] at E2
 generalize M.pn a=n1 at *
 generalize M.pd a=d1 at *
 generalize M.pn b=n2 at *
 generalize M.pd b=d2 at *
 generalize M.pn c=n3 at *
 generalize M.pd c=d3 at *
 generalize M.pn d=n4 at *
 generalize M.pd d=d4 at *
 replace E1:=ws E1
 replace E2:=ws E2
 clear hab hcd
 have U:=aH.new (w.alloc (.cells #[.int .i64 n1,.int .i64 d1,.int .i64 n2,.int .i64 d2] 64)) #[.int .i64 n3,.int .i64 d3,.int .i64 n4,.int .i64 d4] 64
 rw [wt] at U
 have B:=((ww w.heap.size w).alloc (xA _) (.cells #[.int .i64 n1,.int .i64 d1,.int .i64 n2,.int .i64 d2] 64)).alloc (by rw [wt];omega) (.cells #[.int .i64 n3,.int .i64 d3,.int .i64 n4,.int .i64 d4] 64)
 go_enter Tryz.func135,Tryz.ntmps135
 go_wp2_with (go_at_call 108;first | ((with_reducible refine (E1.out _).mono ?_);rintro e w4 ⟨rfl,hb4⟩;(have U4:=U.keep hb4);(have B4:=B.trans (hb4.mono B.size));(have y0:=U4.aM.c0);(have y1:=U4.aM.c1);(have y2:=U4.aM.c2);(have y3:=U4.aM.c3)) | ((with_reducible refine (E2.out _).mono ?_);rintro e w5 ⟨rfl,hb5⟩;(have B5:=B4.trans (hb5.mono B4.size))))
 go_ret
 exact ⟨rfl,B5⟩
theorem kc (a b c d:Int) (w:World) (hab:M.aN a b=true) (hcd:M.aN c d=true) :
  Calls Tryz.prog 122 #[.agg #[.int .i64 (M.pn a),.int .i64 (M.pd a),.int .i64 (M.pn b),.int .i64 (M.pd b)],.agg #[.int .i64 (M.pn c),.int .i64 (M.pd c),.int .i64 (M.pn d),.int .i64 (M.pd d)]] w fun e w'=>e=.returned (.tuple #[.agg #[.int .i64 (M.pick (M.aN (max a c) (min b d)) (M.pn (max a c))),.int .i64 (M.pick (M.aN (max a c) (min b d)) (M.pd (max a c))),.int .i64 (M.pick (M.aN (max a c) (min b d)) (M.pn (min b d))),.int .i64 (M.pick (M.aN (max a c) (min b d)) (M.pd (min b d)))],.bool (M.aN (max a c) (min b d))])∧Below w.heap.size w w':=by
 obtain ⟨ab,a1,b1⟩:=M.bq hab
 obtain ⟨cd,c1,d1⟩:=M.bq hcd
 have E1:=fun W=>db a b W (M.bJ (by omega) (by omega)) (M.bJ (by omega) (by omega))
 have E2:=fun W=>db c d W (M.bJ (by omega) (by omega)) (M.bJ (by omega) (by omega))
 have PT:=ws fun W=>uC a b c d W hab hcd
 have PX:=ws fun W=>dc a c W
 have PY:=ws fun W=>kK b d W
 have PM:=fun W=>fP (max a c) (min b d) W (by omega) (by omega) (by omega) (by omega)
 generalize M.pick (M.aN (max a c) (min b d)) (M.pn (max a c))=p1 at *
 generalize M.pick (M.aN (max a c) (min b d)) (M.pd (max a c))=p2 at *
 generalize M.pick (M.aN (max a c) (min b d)) (M.pn (min b d))=p3 at *
 generalize M.pick (M.aN (max a c) (min b d)) (M.pd (min b d))=p4 at *
 generalize M.aN (max a c) (min b d)=s at *
 replace PM:=ws PM
 replace E1:=ws E1
 replace E2:=ws E2
 generalize hn1:M.pn a=n1 at *
 generalize hd1:M.pd a=d1 at *
 generalize hn2:M.pn b=n2 at *
 generalize hd2:M.pd b=d2 at *
 generalize hn3:M.pn c=n3 at *
 generalize hd3:M.pd c=d3 at *
 generalize hn4:M.pn d=n4 at *
 generalize hd4:M.pd d=d4 at *
 clear hn1 hn2 hn3 hn4 hd1 hd2 hd3 hd4
 have V:=((aH.new w #[.int .i64 n1,.int .i64 d1,.int .i64 n2,.int .i64 d2] 64).alloc (.cells #[.int .i64 n3,.int .i64 d3,.int .i64 n4,.int .i64 d4] 64)).alloc (.cells #[.int .i64 0,.int .i64 0,.int .i64 0,.int .i64 0] 64)
 have U:=(aH.new (w.alloc (.cells #[.int .i64 n1,.int .i64 d1,.int .i64 n2,.int .i64 d2] 64)) #[.int .i64 n3,.int .i64 d3,.int .i64 n4,.int .i64 d4] 64).alloc (.cells #[.int .i64 0,.int .i64 0,.int .i64 0,.int .i64 0] 64)
 rw [wt] at U
 have R:=aH.new ((w.alloc (.cells #[.int .i64 n1,.int .i64 d1,.int .i64 n2,.int .i64 d2] 64)).alloc (.cells #[.int .i64 n3,.int .i64 d3,.int .i64 n4,.int .i64 d4] 64)) #[.int .i64 0,.int .i64 0,.int .i64 0,.int .i64 0] 64
 rw [wt,wt] at R
 have B:=(((ww w.heap.size w).alloc (xA _) (.cells #[.int .i64 n1,.int .i64 d1,.int .i64 n2,.int .i64 d2] 64)).alloc (by rw [wt];omega) (.cells #[.int .i64 n3,.int .i64 d3,.int .i64 n4,.int .i64 d4] 64)).alloc (by rw [wt,wt];omega) (.cells #[.int .i64 0,.int .i64 0,.int .i64 0,.int .i64 0] 64)
 generalize hw3:((w.alloc (.cells #[.int .i64 n1,.int .i64 d1,.int .i64 n2,.int .i64 d2] 64)).alloc (.cells #[.int .i64 n3,.int .i64 d3,.int .i64 n4,.int .i64 d4] 64)).alloc (.cells #[.int .i64 0,.int .i64 0,.int .i64 0,.int .i64 0] 64)=wc at *
 have V_c0:=V.aM.c0
 have V_c1:=V.aM.c1
 have V_c2:=V.aM.c2
 have V_c3:=V.aM.c3
 have U_c0:=U.aM.c0
 have U_c1:=U.aM.c1
 have U_c2:=U.aM.c2
 have U_c3:=U.aM.c3
 have R_c0:=R.aM.c0
 have R_c1:=R.aM.c1
 have R_c2:=R.aM.c2
 have R_c3:=R.aM.c3
 go_enter Tryz.func122,Tryz.ntmps122
 go_wp2_with (first
  | (go_at_call 135;(with_reducible refine (PT.out _).mono ?_);rintro e w4 ⟨rfl,hb4⟩;(replace V:=V.keep hb4);(replace U:=U.keep hb4);(replace R:=R.keep hb4);(replace B:=B.trans (hb4.mono B.size));(replace ⟨V_c0,V_c1,V_c2,V_c3⟩:=V.b4);(replace ⟨U_c0,U_c1,U_c2,U_c3⟩:=U.b4);(replace ⟨R_c0,R_c1,R_c2,R_c3,R_f0,R_f1,R_f2,R_f3⟩:=R.b4f))
  | (go_at_call 89;(with_reducible refine (E1.out _).mono ?_);rintro e w5 ⟨rfl,hb5⟩;(replace V:=V.keep hb5);(replace U:=U.keep hb5);(replace R:=R.keep hb5);(replace B:=B.trans (hb5.mono B.size));(replace ⟨V_c0,V_c1,V_c2,V_c3⟩:=V.b4);(replace ⟨U_c0,U_c1,U_c2,U_c3⟩:=U.b4);(replace ⟨R_c0,R_c1,R_c2,R_c3,R_f0,R_f1,R_f2,R_f3⟩:=R.b4f))
  | (go_at_call 89;(with_reducible refine (E2.out _).mono ?_);rintro e w6 ⟨rfl,hb6⟩;(replace V:=V.keep hb6);(replace U:=U.keep hb6);(replace R:=R.keep hb6);(replace B:=B.trans (hb6.mono B.size));(replace ⟨V_c0,V_c1,V_c2,V_c3⟩:=V.b4);(replace ⟨U_c0,U_c1,U_c2,U_c3⟩:=U.b4);(replace ⟨R_c0,R_c1,R_c2,R_c3,R_f0,R_f1,R_f2,R_f3⟩:=R.b4f))
  | (go_at_call 91;(with_reducible refine (PX.out _).mono ?_);rintro e w7 ⟨rfl,rfl⟩)
  | (go_at_call 90;(with_reducible refine (PY.out _).mono ?_);rintro e w8 ⟨rfl,rfl⟩)
  | (go_at_call 92;(with_reducible refine (PM.out _).mono ?_);rintro e w9 ⟨rfl,hb9⟩;(replace V:=V.keep hb9);(replace U:=U.keep hb9);(replace R:=R.keep hb9);(replace B:=B.trans (hb9.mono B.size));(replace ⟨V_c0,V_c1,V_c2,V_c3⟩:=V.b4);(replace ⟨U_c0,U_c1,U_c2,U_c3⟩:=U.b4);(replace ⟨R_c0,R_c1,R_c2,R_c3,R_f0,R_f1,R_f2,R_f3⟩:=R.b4f)))
 exact bodyPost_ret (v:=.tuple #[.agg #[.int .i64 p1,.int .i64 p2,.int .i64 p3,.int .i64 p4],.bool s]) (by simp [results,Tryz.results122,go_sem, *]) rfl (⟨rfl,wu (wu (wu (wu B (by simp <;> omega) _) (by simp <;> omega) _) (by simp <;> omega) _) (by simp <;> omega) _⟩)
theorem uA (a b c d:Int) (w:World) (hab:M.aN a b=true) (hcd:M.aN c d=true) :
  Calls Tryz.prog 70 #[.agg #[.int .i64 (M.pn a),.int .i64 (M.pd a),.int .i64 (M.pn b),.int .i64 (M.pd b)],.agg #[.int .i64 (M.pn c),.int .i64 (M.pd c),.int .i64 (M.pn d),.int .i64 (M.pd d)]] w fun e w'=>e=.returned (.tuple #[.agg #[.int .i64 (M.pick (M.aN (M.cU a b c d / 4096) (-(-M.cQ a b c d / 4096))) (M.pn (M.cU a b c d / 4096))),.int .i64 (M.pick (M.aN (M.cU a b c d / 4096) (-(-M.cQ a b c d / 4096))) (M.pd (M.cU a b c d / 4096))),.int .i64 (M.pick (M.aN (M.cU a b c d / 4096) (-(-M.cQ a b c d / 4096))) (M.pn (-(-M.cQ a b c d / 4096)))),.int .i64 (M.pick (M.aN (M.cU a b c d / 4096) (-(-M.cQ a b c d / 4096))) (M.pd (-(-M.cQ a b c d / 4096))))],.bool (M.aN (M.cU a b c d / 4096) (-(-M.cQ a b c d / 4096)))])∧Below w.heap.size w w':=by
 obtain ⟨ab,a1,b1⟩:=M.bq hab
 obtain ⟨cd,c1,d1⟩:=M.bq hcd
 have E1:=fun W=>db a b W (M.bJ (by omega) (by omega)) (M.bJ (by omega) (by omega))
 have E2:=fun W=>db c d W (M.bJ (by omega) (by omega)) (M.bJ (by omega) (by omega))
 have q1:=M.aK (x:=a) (y:=c) (m:=1000000000) (n:=1000000000) (by omega) (by omega) (by omega) (by omega)
 have q2:=M.aK (x:=a) (y:=d) (m:=1000000000) (n:=1000000000) (by omega) (by omega) (by omega) (by omega)
 have q3:=M.aK (x:=b) (y:=c) (m:=1000000000) (n:=1000000000) (by omega) (by omega) (by omega) (by omega)
 have q4:=M.aK (x:=b) (y:=d) (m:=1000000000) (n:=1000000000) (by omega) (by omega) (by omega) (by omega)
 obtain ⟨t1,t2,t3,t4⟩:=M.ut (a:=a) (b:=b) (c:=c) (d:=d) (by omega) (by omega) (by omega) (by omega) (by omega) (by omega) (by omega) (by omega)
 have hmi:min (min (a*c) (a*d)) (min (b*c) (b*d))=M.cU a b c d:=by unfold M.cU;omega
 have hma:max (max (a*c) (a*d)) (max (b*c) (b*d))=M.cQ a b c d:=by unfold M.cQ;omega
 have f1:=dK (a:=M.cU a b c d) (b:=4096) (k:=1000000000000000000) (by omega) (by omega) (by omega) (by omega)
 have f2:=dK (a:=-M.cQ a b c d) (b:=4096) (k:=1000000000000000000) (by omega) (by omega) (by omega) (by omega)
 have PX:=ws fun x y W=>dc x y W
 have PY:=ws fun x y W=>kK x y W
 have PD:=fun W=>jL (M.cU a b c d) 4096 W (by omega) (by omega) (by omega) (by omega)
 have PU:=fun W=>sY (M.cQ a b c d) 4096 W (by omega) (by omega) (by omega) (by omega)
 have PM:=fun W=>fP (M.cU a b c d / 4096) (-(-M.cQ a b c d / 4096)) W (by omega) (by omega) (by omega) (by omega)
 generalize M.pick (M.aN (M.cU a b c d / 4096) (-(-M.cQ a b c d / 4096))) (M.pn (M.cU a b c d / 4096))=p1 at *
 generalize M.pick (M.aN (M.cU a b c d / 4096) (-(-M.cQ a b c d / 4096))) (M.pd (M.cU a b c d / 4096))=p2 at *
 generalize M.pick (M.aN (M.cU a b c d / 4096) (-(-M.cQ a b c d / 4096))) (M.pn (-(-M.cQ a b c d / 4096)))=p3 at *
 generalize M.pick (M.aN (M.cU a b c d / 4096) (-(-M.cQ a b c d / 4096))) (M.pd (-(-M.cQ a b c d / 4096)))=p4 at *
 generalize M.aN (M.cU a b c d / 4096) (-(-M.cQ a b c d / 4096))=s at *
 replace PM:=ws PM
 replace E1:=ws E1
 replace E2:=ws E2
 generalize M.cU a b c d / 4096=lo at *
 generalize -(-M.cQ a b c d / 4096)=hi at *
 generalize M.cU a b c d=mi at *
 generalize M.cQ a b c d=ma at *
 have PD:=ws fun x W (h:x=mi)=>(h ▸ PD W:Calls Tryz.prog 93 #[.int .i64 x,.int .i64 4096] W fun e w'=>e=.returned (.int .i64 lo)∧W=w')
 have PU:=ws fun x W (h:x=ma)=>(h ▸ PU W:Calls Tryz.prog 94 #[.int .i64 x,.int .i64 4096] W fun e w'=>e=.returned (.int .i64 hi)∧W=w')
 replace hmi:=ws hmi
 replace hma:=ws hma
 clear t1 t2 t3 t4 f1 f2
 generalize hn1:M.pn a=n1 at *
 generalize hd1:M.pd a=d1 at *
 generalize hn2:M.pn b=n2 at *
 generalize hd2:M.pd b=d2 at *
 generalize hn3:M.pn c=n3 at *
 generalize hd3:M.pd c=d3 at *
 generalize hn4:M.pn d=n4 at *
 generalize hd4:M.pd d=d4 at *
 clear hn1 hn2 hn3 hn4 hd1 hd2 hd3 hd4
 have V:=((aH.new w #[.int .i64 n1,.int .i64 d1,.int .i64 n2,.int .i64 d2] 64).alloc (.cells #[.int .i64 n3,.int .i64 d3,.int .i64 n4,.int .i64 d4] 64)).alloc (.cells #[.int .i64 0,.int .i64 0,.int .i64 0,.int .i64 0] 64)
 have U:=(aH.new (w.alloc (.cells #[.int .i64 n1,.int .i64 d1,.int .i64 n2,.int .i64 d2] 64)) #[.int .i64 n3,.int .i64 d3,.int .i64 n4,.int .i64 d4] 64).alloc (.cells #[.int .i64 0,.int .i64 0,.int .i64 0,.int .i64 0] 64)
 rw [wt] at U
 have R:=aH.new ((w.alloc (.cells #[.int .i64 n1,.int .i64 d1,.int .i64 n2,.int .i64 d2] 64)).alloc (.cells #[.int .i64 n3,.int .i64 d3,.int .i64 n4,.int .i64 d4] 64)) #[.int .i64 0,.int .i64 0,.int .i64 0,.int .i64 0] 64
 rw [wt,wt] at R
 have B:=(((ww w.heap.size w).alloc (xA _) (.cells #[.int .i64 n1,.int .i64 d1,.int .i64 n2,.int .i64 d2] 64)).alloc (by rw [wt];omega) (.cells #[.int .i64 n3,.int .i64 d3,.int .i64 n4,.int .i64 d4] 64)).alloc (by rw [wt,wt];omega) (.cells #[.int .i64 0,.int .i64 0,.int .i64 0,.int .i64 0] 64)
 generalize hw3:((w.alloc (.cells #[.int .i64 n1,.int .i64 d1,.int .i64 n2,.int .i64 d2] 64)).alloc (.cells #[.int .i64 n3,.int .i64 d3,.int .i64 n4,.int .i64 d4] 64)).alloc (.cells #[.int .i64 0,.int .i64 0,.int .i64 0,.int .i64 0] 64)=wc at *
 have V_c0:=V.aM.c0
 have V_c1:=V.aM.c1
 have V_c2:=V.aM.c2
 have V_c3:=V.aM.c3
 have U_c0:=U.aM.c0
 have U_c1:=U.aM.c1
 have U_c2:=U.aM.c2
 have U_c3:=U.aM.c3
 have R_c0:=R.aM.c0
 have R_c1:=R.aM.c1
 have R_c2:=R.aM.c2
 have R_c3:=R.aM.c3
 go_enter Tryz.func70,Tryz.ntmps70
 go_wp2_with (first
  | (go_at_call 89;(with_reducible refine (E1.out _).mono ?_);rintro e w4 ⟨rfl,hb4⟩;(replace V:=V.keep hb4);(replace U:=U.keep hb4);(replace R:=R.keep hb4);(replace B:=B.trans (hb4.mono B.size));(replace ⟨V_c0,V_c1,V_c2,V_c3⟩:=V.b4);(replace ⟨U_c0,U_c1,U_c2,U_c3⟩:=U.b4);(replace ⟨R_c0,R_c1,R_c2,R_c3,R_f0,R_f1,R_f2,R_f3⟩:=R.b4f))
  | (go_at_call 89;(with_reducible refine (E2.out _).mono ?_);rintro e w5 ⟨rfl,hb5⟩;(replace V:=V.keep hb5);(replace U:=U.keep hb5);(replace R:=R.keep hb5);(replace B:=B.trans (hb5.mono B.size));(replace ⟨V_c0,V_c1,V_c2,V_c3⟩:=V.b4);(replace ⟨U_c0,U_c1,U_c2,U_c3⟩:=U.b4);(replace ⟨R_c0,R_c1,R_c2,R_c3,R_f0,R_f1,R_f2,R_f3⟩:=R.b4f))
  | (go_at_call 91;(with_reducible refine (PX.out _ _ _).mono ?_);rintro e w6 ⟨rfl,rfl⟩)
  | (go_at_call 90;(with_reducible refine (PY.out _ _ _).mono ?_);rintro e w7 ⟨rfl,rfl⟩)
  | (go_at_call 93;(with_reducible refine (PD.out _ _ (by have:=hmi.out;omega)).mono ?_);rintro e w8 ⟨rfl,rfl⟩)
  | (go_at_call 94;(with_reducible refine (PU.out _ _ (by have:=hma.out;omega)).mono ?_);rintro e w9 ⟨rfl,rfl⟩)
  | (go_at_call 92;(with_reducible refine (PM.out _).mono ?_);rintro e w10 ⟨rfl,hb10⟩;(replace V:=V.keep hb10);(replace U:=U.keep hb10);(replace R:=R.keep hb10);(replace B:=B.trans (hb10.mono B.size));(replace ⟨V_c0,V_c1,V_c2,V_c3⟩:=V.b4);(replace ⟨U_c0,U_c1,U_c2,U_c3⟩:=U.b4);(replace ⟨R_c0,R_c1,R_c2,R_c3,R_f0,R_f1,R_f2,R_f3⟩:=R.b4f)))
 exact bodyPost_ret (v:=.tuple #[.agg #[.int .i64 p1,.int .i64 p2,.int .i64 p3,.int .i64 p4],.bool s]) (by simp [results,Tryz.results70,go_sem, *]) rfl (⟨rfl,wu (wu (wu (wu B (by simp <;> omega) _) (by simp <;> omega) _) (by simp <;> omega) _) (by simp <;> omega) _⟩)
namespace M
def hL (C:Nat) (n:Nat) (o:Out):Int:=match o with
 | .val x z=>max 0 (3*(eM (.val x z) - 1) - C)*4096 / p4 n
 | _=>0
def hH (C:Nat) (n:Nat) (o:Out):Int:=match o with
 | .val x z=>-(-((3*eM (.val x z)+C)*4096) / p4 n)
 | _=>0
theorem wV {a b x z:Int} {o:Out} (h:nx a b o=.val x z):Wh.sz x 1000∧Wh.sz z 1000:=by
 cases o with
 | inf=>cases h
 | bad=>cases h
 | val u v=>
 unfold nx at h
 dsimp only at h
 split at h
 ·cases h
 split at h
 ·rename_i hok
  injection h with h1 h2
  subst h1 h2
  exact Wh.jZ (Wh.jH hok)
 cases h
theorem jW {a b X E x z:Int} (hX1:-10000≤X) (hX2:X≤10000) (hE1:0≤E) (hE2:E≤20) {n:Nat} (h:an a b X E n=.val x z):Wh.sz x 1000∧Wh.sz z 1000:=by
 unfold an at h
 split at h
 ·cases h
 cases n with
 | zero=>
  have hEE:0≤E*E∧E*E≤400:=⟨Int.mul_nonneg hE1 hE1,by have:=Int.mul_le_mul hE2 hE2 hE1 (by omega);omega⟩
  injection h with h1 h2
  subst h1 h2
  exact ⟨Wh.aO (Wh.bU (by omega) (by omega)) (by omega),Wh.aO (Wh.bU (by omega) (by omega)) (by omega)⟩
 | succ n=>exact wV h
theorem kj {x z:Int} (h:Wh.sz x 1000∧Wh.sz z 1000):0≤eM (.val x z)∧eM (.val x z)≤14000:=by
 have h1:=Wh.ji h.1
 have h2:=Wh.ji h.2
 show 0≤max ((Wh.bl x.natAbs:Nat):Int) ((Wh.bl z.natAbs:Nat):Int)∧max ((Wh.bl x.natAbs:Nat):Int) ((Wh.bl z.natAbs:Nat):Int)≤14000
 omega
theorem sJ {C n:Nat} {B:Int} (hC:C≤60) (hn:n≤5) (h1:0≤B) (h2:B≤14000):aN (max 0 (3*(B - 1) - C)*4096 / p4 n) (-(-((3*B+C)*4096) / p4 n))=true:=by
 have hp:=pU n hn
 generalize p4 n=d at *
 have q1:=dK (a:=max 0 (3*(B - 1) - C)*4096) (b:=d) (k:=300000000) (by omega) (by omega) (by omega) (by omega)
 have q2:=dK (a:=-((3*B+C)*4096)) (b:=d) (k:=300000000) (by omega) (by omega) (by omega) (by omega)
 have q3:max 0 (3*(B - 1) - C)*4096 / d≤(3*B+C)*4096 / d:=Int.ediv_le_ediv (by omega) (by omega)
 have q4:(3*B+C)*4096 / d≤-(-((3*B+C)*4096) / d):=by
  have e1:=Int.mul_ediv_add_emod ((3*B+C)*4096) d
  have e2:=Int.emod_nonneg ((3*B+C)*4096) (by omega:d≠0)
  have e3:=Int.mul_ediv_add_emod (-((3*B+C)*4096)) d
  have e4:=Int.emod_nonneg (-((3*B+C)*4096)) (by omega:d≠0)
  generalize (3*B+C)*4096 / d=u at *
  generalize -((3*B+C)*4096) / d=v at *
  rcases Int.lt_or_le (-v) u with h | h
  ·have:d*(u+v)≥d*1:=Int.mul_le_mul_of_nonneg_left (by omega) (by omega)
   rw [Int.mul_add] at this
   omega
  exact h
 unfold aN
 simp only [Bool.and_eq_true,decide_eq_true_eq]
 omega
theorem wS {a b X E:Int} {C n:Nat} (hC:C≤60) (hn:n≤5) (hX1:-10000≤X) (hX2:X≤10000) (hE1:0≤E) (hE2:E≤20):aN (hL C n (an a b X E n)) (hH C n (an a b X E n))=true:=by
 cases h:an a b X E n with
 | inf=>show aN 0 0=true;decide
 | bad=>show aN 0 0=true;decide
 | val x z=>
 have hb:=kj (jW hX1 hX2 hE1 hE2 h)
 exact sJ hC hn hb.1 hb.2
end M
theorem l8 (a b d:Int) (w:World) (h1:-100000000000≤a) (h2:a≤100000000000) (h3:-100000000000≤b) (h4:b≤100000000000) (h5:1≤d) (h6:d≤100000) :
  Calls Tryz.prog 131 #[.int .i64 a,.int .i64 b,.int .i64 d] w fun e w'=>e=.returned (.tuple #[.agg #[.int .i64 (M.pick (M.aN (a*4096 / d) (-(-(b*4096) / d))) (M.pn (a*4096 / d))),.int .i64 (M.pick (M.aN (a*4096 / d) (-(-(b*4096) / d))) (M.pd (a*4096 / d))),.int .i64 (M.pick (M.aN (a*4096 / d) (-(-(b*4096) / d))) (M.pn (-(-(b*4096) / d)))),.int .i64 (M.pick (M.aN (a*4096 / d) (-(-(b*4096) / d))) (M.pd (-(-(b*4096) / d))))],.bool (M.aN (a*4096 / d) (-(-(b*4096) / d)))])∧Below w.heap.size w w':=by
 have P1:=fun W=>jL (a*4096) d W (by omega) (by omega) (by omega) (by omega)
 have P2:=fun W=>sY (b*4096) d W (by omega) (by omega) (by omega) (by omega)
 have f1:=dK (a:=a*4096) (b:=d) (k:=1000000000000000) (by omega) (by omega) (by omega) (by omega)
 have f2:=dK (a:=-(b*4096)) (b:=d) (k:=1000000000000000) (by omega) (by omega) (by omega) (by omega)
 have PM:=fun W=>fP (a*4096 / d) (-(-(b*4096) / d)) W (by omega) (by omega) (by omega) (by omega)
 generalize M.pick (M.aN (a*4096 / d) (-(-(b*4096) / d))) (M.pn (a*4096 / d))=p1 at *
 generalize M.pick (M.aN (a*4096 / d) (-(-(b*4096) / d))) (M.pd (a*4096 / d))=p2 at *
 generalize M.pick (M.aN (a*4096 / d) (-(-(b*4096) / d))) (M.pn (-(-(b*4096) / d)))=p3 at *
 generalize M.pick (M.aN (a*4096 / d) (-(-(b*4096) / d))) (M.pd (-(-(b*4096) / d)))=p4 at *
 generalize M.aN (a*4096 / d) (-(-(b*4096) / d))=s at *
 generalize a*4096 / d=lo at *
 generalize -(-(b*4096) / d)=hi at *
 replace P1:=ws P1
 replace P2:=ws P2
 replace PM:=ws PM
 clear f1 f2
 have R:=aH.new w #[.int .i64 0,.int .i64 0,.int .i64 0,.int .i64 0] 64
 have B:=(ww w.heap.size w).alloc (xA _) (.cells #[.int .i64 0,.int .i64 0,.int .i64 0,.int .i64 0] 64)
 go_enter Tryz.func131,Tryz.ntmps131
 go_wp2_with (first
  | (go_at_call 93;(with_reducible refine (P1.out _).mono ?_);rintro e w4 ⟨rfl,rfl⟩)
  | (go_at_call 94;(with_reducible refine (P2.out _).mono ?_);rintro e w5 ⟨rfl,rfl⟩)
  | (go_at_call 92;(with_reducible refine (PM.out _).mono ?_);rintro e w6 ⟨rfl,hb6⟩;(replace R:=R.keep hb6);(replace B:=B.trans (hb6.mono B.size));(replace ⟨R_c0,R_c1,R_c2,R_c3,R_f0,R_f1,R_f2,R_f3⟩:=R.b4f)))
 exact bodyPost_ret (v:=.tuple #[.agg #[.int .i64 p1,.int .i64 p2,.int .i64 p3,.int .i64 p4],.bool s]) (by simp [results,Tryz.results131,go_sem, *]) rfl (⟨rfl,wu (wu (wu (wu B (by simp <;> omega) _) (by simp <;> omega) _) (by simp <;> omega) _) (by simp <;> omega) _⟩)
theorem jO (a b X Y E:Int) (n:Nat) (w:World) (hg:M.good a b=true) (hX1:-10000≤X) (hX2:X≤10000) (hE1:0≤E) (hE2:E≤20) (hn:n≤5) :
  Calls Tryz.prog 123 #[.agg #[.int .i64 a,.int .i64 b],.agg #[.int .i64 X,.int .i64 Y,.int .i64 E],.int .i64 (n:Int)] w fun e w'=>e=.returned (.tuple #[.agg #[.int .i64 (M.hL (M.hC a b) n (M.an a b X E n)),.int .i64 (M.hH (M.hC a b) n (M.an a b X E n))],.bool (M.isOk (M.an a b X E n))])∧Below w.heap.size w w':=by
 have hin:=M.bI hg
 have PB:=fun W=>rO a b X Y E n W hg hX1 hX2 hE1 hE2 hn
 have PC:=ws fun W=>gB a b W hin
 have hC:=M.mQ hin
 have hsz:=fun x z (h:M.an a b X E n=.val x z)=>M.kj (M.jW hX1 hX2 hE1 hE2 h)
 have hp:=M.pU n hn
 have hip:M.p4 n=3*M.eQ 4 n:=by
  match n,hn with
  | 0,_=>decide
  | 1,_=>decide
  | 2,_=>decide
  | 3,_=>decide
  | 4,_=>decide
  | 5,_=>decide
 have PP:=ws fun W=>mS 4 n W (by omega) (by omega) (by omega)
 generalize M.eQ 4 n=ip at *
 generalize M.hC a b=k at *
 clear hg hin
 have C:=((aH.new w #[.int .i64 a,.int .i64 b] 29).alloc (.cells #[.int .i64 X,.int .i64 Y,.int .i64 E] 57)).alloc (.cells #[.int .i64 0,.int .i64 0] 68)
 have Q:=(aH.new (w.alloc (.cells #[.int .i64 a,.int .i64 b] 29)) #[.int .i64 X,.int .i64 Y,.int .i64 E] 57).alloc (.cells #[.int .i64 0,.int .i64 0] 68)
 rw [wt] at Q
 have R:=aH.new ((w.alloc (.cells #[.int .i64 a,.int .i64 b] 29)).alloc (.cells #[.int .i64 X,.int .i64 Y,.int .i64 E] 57)) #[.int .i64 0,.int .i64 0] 68
 rw [wt,wt] at R
 have B:=(((ww w.heap.size w).alloc (xA _) (.cells #[.int .i64 a,.int .i64 b] 29)).alloc (by rw [wt];omega) (.cells #[.int .i64 X,.int .i64 Y,.int .i64 E] 57)).alloc (by rw [wt,wt];omega) (.cells #[.int .i64 0,.int .i64 0] 68)
 generalize hw3:((w.alloc (.cells #[.int .i64 a,.int .i64 b] 29)).alloc (.cells #[.int .i64 X,.int .i64 Y,.int .i64 E] 57)).alloc (.cells #[.int .i64 0,.int .i64 0] 68)=wc at *
 have ⟨q0,q1,q2⟩:=Q.aQ
 have C_c0:=C.box.c0
 have C_c1:=C.box.c1
 cases ho:M.an a b X E n with
 | inf=>
  rw [ho] at PB
  replace PB:=ws PB
  clear hsz hp hip
  go_enter Tryz.func123,Tryz.ntmps123
  go_wp2_with (go_at_call 136;(with_reducible refine (PB.out _).mono ?_);rintro e w4 ⟨rfl,hb4⟩;(replace C:=C.keep hb4);(replace R:=R.keep hb4);(replace B:=B.trans (hb4.mono B.size));(replace ⟨C_c0,C_c1⟩:=C.b2);(replace ⟨R_c0,R_c1,R_f0,R_f1⟩:=R.b2f))
  exact bodyPost_ret (v:=.tuple #[.agg #[.int .i64 0,.int .i64 0],.bool true]) (by simp [results,Tryz.results123,go_sem, *]) rfl (⟨rfl,wu (wu B (by simp <;> omega) _) (by simp <;> omega) _⟩)
 | bad=>
  rw [ho] at PB
  replace PB:=ws PB
  clear hsz hp hip
  go_enter Tryz.func123,Tryz.ntmps123
  go_wp2_with (go_at_call 136;(with_reducible refine (PB.out _).mono ?_);rintro e w4 ⟨rfl,hb4⟩;(replace C:=C.keep hb4);(replace R:=R.keep hb4);(replace B:=B.trans (hb4.mono B.size));(replace ⟨C_c0,C_c1⟩:=C.b2);(replace ⟨R_c0,R_c1,R_f0,R_f1⟩:=R.b2f))
  exact bodyPost_ret (v:=.tuple #[.agg #[.int .i64 0,.int .i64 0],.bool false]) (by simp [results,Tryz.results123,go_sem, *]) rfl (⟨rfl,wu (wu B (by simp <;> omega) _) (by simp <;> omega) _⟩)
 | val x z=>
 rw [ho] at PB
 have hb:=hsz x z ho
 have e1:M.hL k n (.val x z)=max 0 (3*(M.eM (.val x z) - 1) - k)*4096 / M.p4 n:=rfl
 have e2:M.hH k n (.val x z)=-(-((3*M.eM (.val x z)+k)*4096) / M.p4 n):=rfl
 rw [e1,e2]
 clear e1 e2 hsz ho
 rw [show M.isInf (.val x z)=false from rfl,show M.isOk (.val x z)=true from rfl] at PB
 rw [show M.isOk (.val x z)=true from rfl]
 generalize M.eM (.val x z)=bt at *
 rw [hip]
 rw [hip] at hp
 have hm:max 0 (3*(bt - 1) - (k:Int))=max (3*(bt - 1) - (k:Int)) 0:=by omega
 rw [hm]
 have F1:=fun W=>eP (max (3*(bt - 1) - (k:Int)) 0*4096) (3*ip) W (by omega) (by omega) (by omega) (by omega)
 have F2:=fun W=>eP (-((3*bt+(k:Int))*4096)) (3*ip) W (by omega) (by omega) (by omega) (by omega)
 have F2:=fun x W (h:x=-((3*bt+(k:Int))*4096))=>(by subst h;exact F2 W:Calls Tryz.prog 120 #[.int .i64 x,.int .i64 (3*ip)] W fun e w'=>e=.returned (.int .i64 (-((3*bt+(k:Int))*4096) / (3*ip)))∧W=w')
 have F1:=fun x W (h:x=max (3*(bt - 1) - (k:Int)) 0*4096)=>(by subst h;exact F1 W:Calls Tryz.prog 120 #[.int .i64 x,.int .i64 (3*ip)] W fun e w'=>e=.returned (.int .i64 (max (3*(bt - 1) - (k:Int)) 0*4096 / (3*ip)))∧W=w')
 have g2:=dK (a:=-((3*bt+(k:Int))*4096)) (b:=3*ip) (k:=1000000000000000) (by omega) (by omega) (by omega) (by omega)
 generalize max (3*(bt - 1) - (k:Int)) 0*4096 / (3*ip)=lo at *
 generalize -((3*bt+(k:Int))*4096) / (3*ip)=hi at *
 obtain ⟨g2,g3⟩:=g2
 obtain ⟨hb1,hb2⟩:=hb
 obtain ⟨hp1,hp2⟩:=hp
 have hk2:(k:Int)≤60:=by omega
 clear hm hip hC
 replace F1:=ws F1
 replace F2:=ws F2
 replace PB:=ws PB
 go_enter Tryz.func123,Tryz.ntmps123
 go_wp2_with (first
  | (go_at_call 136;(with_reducible refine (PB.out _).mono ?_);rintro e w4 ⟨rfl,hb4⟩;(replace C:=C.keep hb4);(replace R:=R.keep hb4);(replace B:=B.trans (hb4.mono B.size));(replace ⟨C_c0,C_c1⟩:=C.b2);(replace ⟨R_c0,R_c1,R_f0,R_f1⟩:=R.b2f))
  | (go_at_call 137;(with_reducible refine (PC.out _).mono ?_);rintro e w5 ⟨rfl,hb5⟩;(replace C:=C.keep hb5);(replace R:=R.keep hb5);(replace B:=B.trans (hb5.mono B.size));(replace ⟨C_c0,C_c1⟩:=C.b2);(replace ⟨R_c0,R_c1,R_f0,R_f1⟩:=R.b2f))
  | (go_at_call 138;(with_reducible refine (PP.out _).mono ?_);rintro e w6 ⟨rfl,rfl⟩)
  | (go_at_call 120;first | ((with_reducible refine (F1.out _ _ (by omega)).mono ?_);rintro e w7 ⟨rfl,rfl⟩) | ((with_reducible refine (F2.out _ _ (by omega)).mono ?_);rintro e w8 ⟨rfl,rfl⟩)))
 exact bodyPost_ret (v:=.tuple #[.agg #[.int .i64 lo,.int .i64 (-hi)],.bool true]) (by simp [results,Tryz.results123,go_sem, *]) rfl (⟨rfl,wu (wu B (by simp <;> omega) _) (by simp <;> omega) _⟩)
theorem jF (a b X Y E:Int) (n:Nat) (w:World) (hg:M.good a b=true) (hX1:-10000≤X) (hX2:X≤10000) (hE1:0≤E) (hE2:E≤20) (hn:n≤5) :
  Calls Tryz.prog 121 #[.agg #[.int .i64 a,.int .i64 b],.agg #[.int .i64 X,.int .i64 Y,.int .i64 E],.int .i64 (n:Int)] w fun e w'=>e=.returned (.tuple #[.agg #[.int .i64 (M.pick (M.isOk (M.an a b X E n)) (M.pn (M.hL (M.hC a b) n (M.an a b X E n)))),.int .i64 (M.pick (M.isOk (M.an a b X E n)) (M.pd (M.hL (M.hC a b) n (M.an a b X E n)))),.int .i64 (M.pick (M.isOk (M.an a b X E n)) (M.pn (M.hH (M.hC a b) n (M.an a b X E n)))),.int .i64 (M.pick (M.isOk (M.an a b X E n)) (M.pd (M.hH (M.hC a b) n (M.an a b X E n))))],.bool (M.isOk (M.an a b X E n))])∧Below w.heap.size w w':=by
 have hin:=M.bI hg
 have PB:=fun W=>nd a b X Y E n W hg hX1 hX2 hE1 hE2 hn
 have PC:=ws fun W=>kx a b W hin
 have hC:=M.mQ hin
 have hp:=M.pU n hn
 have PP:=ws fun W=>pr n W hn
 have PX:=ws fun x y W=>dc x y W
 have hsp:=fun B h1 h2=>M.sJ (B:=B) hC hn h1 h2
 generalize M.hC a b=k at *
 clear hg hin
 have C:=((aH.new w #[.int .i64 a,.int .i64 b] 29).alloc (.cells #[.int .i64 X,.int .i64 Y,.int .i64 E] 57)).alloc (.cells #[.int .i64 0,.int .i64 0,.int .i64 0,.int .i64 0] 64)
 have Q:=(aH.new (w.alloc (.cells #[.int .i64 a,.int .i64 b] 29)) #[.int .i64 X,.int .i64 Y,.int .i64 E] 57).alloc (.cells #[.int .i64 0,.int .i64 0,.int .i64 0,.int .i64 0] 64)
 rw [wt] at Q
 have R:=aH.new ((w.alloc (.cells #[.int .i64 a,.int .i64 b] 29)).alloc (.cells #[.int .i64 X,.int .i64 Y,.int .i64 E] 57)) #[.int .i64 0,.int .i64 0,.int .i64 0,.int .i64 0] 64
 rw [wt,wt] at R
 have B:=(((ww w.heap.size w).alloc (xA _) (.cells #[.int .i64 a,.int .i64 b] 29)).alloc (by rw [wt];omega) (.cells #[.int .i64 X,.int .i64 Y,.int .i64 E] 57)).alloc (by rw [wt,wt];omega) (.cells #[.int .i64 0,.int .i64 0,.int .i64 0,.int .i64 0] 64)
 generalize hw3:((w.alloc (.cells #[.int .i64 a,.int .i64 b] 29)).alloc (.cells #[.int .i64 X,.int .i64 Y,.int .i64 E] 57)).alloc (.cells #[.int .i64 0,.int .i64 0,.int .i64 0,.int .i64 0] 64)=wc at *
 have ⟨q0,q1,q2⟩:=Q.aQ
 have C_c0:=C.box.c0
 have C_c1:=C.box.c1
 cases ho:M.an a b X E n with
 | inf=>
  rw [ho] at PB
  have PM:=fun W=>l8 0 0 1 W (by omega) (by omega) (by omega) (by omega) (by omega) (by omega)
  rw [show (0:Int)*4096 / 1=0 by decide,show -(-((0:Int)*4096) / 1)=0 by decide,show M.aN 0 0=true by decide] at PM
  rw [show M.hL k n .inf=0 from rfl,show M.hH k n .inf=0 from rfl,show M.isOk .inf=true from rfl]
  generalize M.pick true (M.pn 0)=p1 at *
  generalize M.pick true (M.pd 0)=p2 at *
  replace PB:=ws PB
  replace PM:=ws PM
  clear hsp hp
  go_enter Tryz.func121,Tryz.ntmps121
  go_wp2_with (first
   | (go_at_call 130;(with_reducible refine (PB.out _).mono ?_);rintro e w4 ⟨v4,en,rfl,ho4,hb4⟩;obtain ⟨rfl,A4,l4,c4,rfl⟩:=ho4;(replace C:=C.keep hb4);(replace R:=R.keep hb4);(replace B:=B.trans (hb4.mono B.size));(replace ⟨C_c0,C_c1⟩:=C.b2);(replace ⟨R_c0,R_c1,R_c2,R_c3,R_f0,R_f1,R_f2,R_f3⟩:=R.b4f))
   | (go_at_call 131;(with_reducible refine (PM.out _).mono ?_);rintro e w5 ⟨rfl,hb5⟩;(replace C:=C.keep hb5);(replace R:=R.keep hb5);(replace B:=B.trans (hb5.mono B.size));(replace ⟨C_c0,C_c1⟩:=C.b2);(replace ⟨R_c0,R_c1,R_c2,R_c3,R_f0,R_f1,R_f2,R_f3⟩:=R.b4f)))
  exact bodyPost_ret (v:=.tuple #[.agg #[.int .i64 p1,.int .i64 p2,.int .i64 p1,.int .i64 p2],.bool true]) (by simp [results,Tryz.results121,go_sem, *]) rfl (⟨rfl,wu (wu (wu (wu B (by simp <;> omega) _) (by simp <;> omega) _) (by simp <;> omega) _) (by simp <;> omega) _⟩)
 | bad=>
  rw [ho] at PB
  rw [show M.isOk .bad=false from rfl]
  replace PB:=ws PB
  clear hsp hp
  go_enter Tryz.func121,Tryz.ntmps121
  go_wp2_with (go_at_call 130;(with_reducible refine (PB.out _).mono ?_);rintro e w4 ⟨v4,en,rfl,ho4,hb4⟩;obtain ⟨rfl,A4,l4,c4,rfl,hl4⟩:=ho4;(have hl5:(l4:Int)≤n:=by omega);(replace C:=C.keep hb4);(replace R:=R.keep hb4);(replace B:=B.trans (hb4.mono B.size));(replace ⟨C_c0,C_c1⟩:=C.b2);(replace ⟨R_c0,R_c1,R_c2,R_c3,R_f0,R_f1,R_f2,R_f3⟩:=R.b4f))
  exact bodyPost_ret (v:=.tuple #[.agg #[.int .i64 0,.int .i64 0,.int .i64 0,.int .i64 0],.bool false]) (by simp [results,Tryz.results121,go_sem, *]) rfl (⟨rfl,wu (wu (wu (wu B (by simp <;> omega) _) (by simp <;> omega) _) (by simp <;> omega) _) (by simp <;> omega) _⟩)
 | val x z=>
 rw [ho] at PB
 have hb:=M.kj (M.jW hX1 hX2 hE1 hE2 ho)
 have e1:M.hL k n (.val x z)=max 0 (3*(M.eM (.val x z) - 1) - k)*4096 / M.p4 n:=rfl
 have e2:M.hH k n (.val x z)=-(-((3*M.eM (.val x z)+k)*4096) / M.p4 n):=rfl
 rw [e1,e2,show M.isOk (.val x z)=true from rfl]
 have hs:=hsp _ hb.1 hb.2
 clear e1 e2 ho hsp
 have PD:=ws fun (s r:Bool) v v' W i j (h1:aF W i v (Wh.dig x.natAbs)) (h2:aF W j v' (Wh.dig z.natAbs)) (hx:Wh.sz x 1000) (hz:Wh.sz z 1000) (hs:s=decide (x<0)) (hr:r=decide (z<0))=>(hs ▸ hr ▸ tY x z v v' W i j h1 h2 (Wh.aV.2 (Wh.aO hx (by omega))) (Wh.aV.2 (Wh.aO hz (by omega))) (Nat.le_trans (Wh.ji hx) (by omega)) (Nat.le_trans (Wh.ji hz) (by omega)):Calls Tryz.prog 132 #[.agg #[.bool s,v,.bool r,v']] W fun e w'=>e=.returned (.int .i64 (M.eM (.val x z)))∧Below W.heap.size W w')
 generalize M.eM (.val x z)=bt at *
 have PM:=fun W=>l8 (max 0 (3*(bt - 1) - (k:Int))) (3*bt+(k:Int)) (M.p4 n) W (by omega) (by omega) (by omega) (by omega) (by omega) (by omega)
 rw [hs] at PM
 generalize M.pick true (M.pn (max 0 (3*(bt - 1) - (k:Int))*4096 / M.p4 n))=p1 at *
 generalize M.pick true (M.pd (max 0 (3*(bt - 1) - (k:Int))*4096 / M.p4 n))=p2 at *
 generalize M.pick true (M.pn (-(-((3*bt+(k:Int))*4096) / M.p4 n)))=p3 at *
 generalize M.pick true (M.pd (-(-((3*bt+(k:Int))*4096) / M.p4 n)))=p4 at *
 obtain ⟨hb1,hb2⟩:=hb
 have hk2:(k:Int)≤60:=by omega
 have PM:=ws fun x W (h:x=max 0 (3*(bt - 1) - (k:Int)))=>(by subst h;exact PM W:Calls Tryz.prog 131 #[.int .i64 x,.int .i64 (3*bt+(k:Int)),.int .i64 (M.p4 n)] W fun e w'=>e=.returned (.tuple #[.agg #[.int .i64 p1,.int .i64 p2,.int .i64 p3,.int .i64 p4],.bool true])∧Below W.heap.size W w')
 clear hs hC hp
 generalize M.p4 n=pp at *
 replace PB:=ws PB
 go_enter Tryz.func121,Tryz.ntmps121
 go_upto_region 6 with (go_at_call 130;(with_reducible refine (PB.out _).mono ?_);rintro e w4 ⟨v4,en,rfl,ho4,hb4⟩;obtain ⟨rfl,zx,zz,g,cap,s,av,lv,cv,r,bv,mv,dv,rfl,h_c0,h_c1,h_c2,h_c3,hss,hrr,ox,oz⟩:=ho4;(have ox:=ws ox);(have oz:=ws oz);(have zx:=ws zx);(have zz:=ws zz);(replace C:=C.keep hb4);(replace R:=R.keep hb4);(replace B:=B.trans (hb4.mono B.size));(replace ⟨C_c0,C_c1⟩:=C.b2);(replace ⟨R_c0,R_c1,R_c2,R_c3,R_f0,R_f1,R_f2,R_f3⟩:=R.b4f))
 refine Rg.bG 9 [.is (.slice (some ⟨g,0,none⟩) (n+1) cap),.is (.int .i64 (n:Int)),.is (.pointer (some ⟨g,n*4,none⟩)),.is (.agg #[.bool s,.slice av lv cv,.bool r,.slice bv mv dv]),.is (.int .i64 bt),.is (.agg #[.int .i64 a,.int .i64 b]),.is (.int .i64 (k:Int)),.is (.int .i64 bt),.is (.int .i64 (k:Int))] (by kernel_rfl) (by kernel_rfl) (by kernel_rfl) ⟨?_,?_,?_,?_,?_,?_,?_,?_,?_,trivial⟩ ?_
 ·intro _ ac_ w_ hB hr
  have e8:ac_.tmps[8]?=some (.slice (some ⟨g,0,none⟩) (n+1) cap):=hr 8 (by decide)
  exact Rg.aG rfl (by go_simp)
 ·intro _ ac_ w_ hB hr
  have e2:ac_.tmps[2]?=some (.int .i64 (n:Int)):=hr 2 (by decide)
  exact Rg.aG rfl (by go_simp)
 ·intro _ ac_ w_ hB hr
  have e28:=Rg.ev1 (hr 28 (by decide))
  have e29:=Rg.ev1 (hr 29 (by decide))
  have hlt_:(n:Int)<((n+1:Nat):Int):=by omega
  have hlt2_:n<n+1:=by omega
  exact Rg.aG rfl (by first | (go_simp;done) | (go_simp;omega))
 ·intro _ ac_ w_ hB hr
  have e30:=Rg.ev1 (hr 30 (by decide))
  have k0:=aE hB h_c0
  have k1:=aE hB h_c1
  have k2:=aE hB h_c2
  have k3:=aE hB h_c3
  exact Rg.aG rfl (by first | (go_simp;done))
 ·intro _ ac_ w_ hB hr
  have e31:=Rg.ev1 (hr 31 (by decide))
  have ef:=Rg.ef ac_
  exact Rg.bR rfl (by go_simp) (PD.out s r _ _ _ _ _ (aF.below ox.out hB) (aF.below oz.out hB) zx.out zz.out hss.out hrr.out)
 ·intro _ ac_ w_ hB hr
  have e3:ac_.tmps[3]?=some (.pointer (some ⟨w.heap.size,0,none⟩)):=hr 3 (by decide)
  have k0:=aE hB C.box.c0
  have k1:=aE hB C.box.c1
  exact Rg.aG rfl (by go_simp)
 ·intro _ ac_ w_ hB hr
  have e33:=Rg.ev1 (hr 33 (by decide))
  have ef:=Rg.ef ac_
  exact Rg.bR rfl (by go_simp) (PC.out _)
 ·intro _ ac_ w_ hB hr
  have e32:=Rg.ev1 (hr 32 (by decide))
  exact Rg.aG rfl (by go_simp)
 ·intro _ ac_ w_ hB hr
  have e34:=Rg.ev1 (hr 34 (by decide))
  exact Rg.aG rfl (by go_simp)
 intro vals wz hB hv hne
 have v_7:vals 7=.int .i64 bt:=hv 7 (by decide)
 have v_8:vals 8=.int .i64 (k:Int):=hv 8 (by decide)
 simp only [Rg.ak,Rg.fill,Act.put,Nat.reduceAdd]
 clear hv
 simp only [v_7,v_8]
 clear v_7 v_8
 have C2:=C.keep hB
 have R2:=R.keep hB
 have B2:=B.trans (hB.mono B.size)
 clear C R B C_c0 C_c1 R_c0 R_c1 R_c2 R_c3 R_f0 R_f1 R_f2 R_f3
 unfold Rg.aW
 have ⟨y0,y1,y2,y3,x0,x1,x2,x3,_⟩:=R2.aM
 go_wp2_with (first
  | (go_at_call 91;(with_reducible refine (PX.out _ _ _).mono ?_);rintro e w5 ⟨rfl,rfl⟩)
  | (go_at_call 134;(with_reducible refine (PP.out _).mono ?_);rintro e w6 ⟨rfl,rfl⟩)
  | (go_at_call 131;(with_reducible refine (PM.out _ _ (by omega)).mono ?_);rintro e w7 ⟨rfl,hb7⟩;(replace R2:=R2.keep hb7);(replace B2:=B2.trans (hb7.mono B2.size));(replace ⟨R2_c0,R2_c1,R2_c2,R2_c3,R2_f0,R2_f1,R2_f2,R2_f3⟩:=R2.b4f)))
 exact bodyPost_ret (v:=.tuple #[.agg #[.int .i64 p1,.int .i64 p2,.int .i64 p3,.int .i64 p4],.bool true]) (by simp [results,Tryz.results121,go_sem, *]) rfl (⟨rfl,wu (wu (wu (wu B2 (by simp <;> omega) _) (by simp <;> omega) _) (by simp <;> omega) _) (by simp <;> omega) _⟩)
end
section
open Go Go.RowKit
namespace Rg
variable {P:Program} {Q:Exit→Act→World→Prop}
def Val.pure:Val→Bool
 | .is _=>true
 | .num _=>true
 | .such _=>true
 | _=>false
theorem Val.dV {V:Val} (h:V.pure=true) {u:Value} {w w':World} (hu:V.ok u w):V.ok u w':=by
 cases V with
 | is _=>exact hu
 | num _=>exact hu
 | such _=>exact hu
 | _=>cases h
def qy (P:Program) (ops:Array Oper) (Q:Exit→Act→World→Prop) (a0:Act) (T:List Val) (J:World→Prop) (k0:Nat):List Oper→Nat→Prop
 | [],_=>True
 | o
   :: os,k=>(∀ (a:Act) (w:World),J w→(∀ t ∈ o.looksAt ops,pi ops a0 T o a w t)→
   if k=k0 then Region.wanted o (yielded ops a.tmps)=true∧o.wp P a w (fun a' w'=>(∃ v,a'=a.put o.dst v)∧J w'∧∀ v,(tbl T k).ok v w') Q else Does P ops Q (tbl T k) o a w)∧qy P ops Q a0 T J k0 os (k+1)
theorem tC {ops:Array Oper} {a0:Act} {T:List Val} {J:World→Prop} {k0:Nat} (hJ:∀ w w',J w→Below w.heap.size w w'→J w') (hp:∀ j,j≠k0→(tbl T j).pure=true):∀ (os:List Oper) (k:Nat),qy P ops Q a0 T J k0 os k→nY P Q .any ops J (fun i v w=>(tbl T i).ok v w) a0 os k
 | [],_,_=>trivial
 | o :: os,k,h=>by
  refine ⟨fun a w vals hS hv hr=>?_,tC hJ hp os (k+1) h.2⟩
  have h1:=h.1 a w hS (fun t ht=>by
   have:=hr t ht
   unfold rd at this
   unfold pi
   split
   ·rename_i e he
    rw [he] at this
    have h2:=List.find?_some he
    rw [Bool.and_eq_true] at h2
    exact ⟨_,this,hv e (Array.mem_toList_iff.1 (List.mem_of_find?_eq_some he)) h2.1⟩
   rename_i he
   rw [he] at this
   exact this)
  unfold vC
  split at h1
  ·rename_i hk
   rw [if_pos h1.1]
   refine Oper.wp_mono ?_ h1.2
   rintro a' w' ⟨⟨v,e⟩,h2,h3⟩
   refine ⟨v,e,h3 v,h2,fun j u hu=>?_⟩
   by_cases hj:j=k0
   ·subst hj
    subst hk
    exact h3 u
   exact Val.dV (hp j hj) hu
  unfold Does at h1
  split
  ·rename_i hw
   rw [if_pos hw] at h1
   refine Oper.wp_mono ?_ h1
   rintro a' w' ⟨v,e1,e2,e3⟩
   exact ⟨v,e1,e2,hJ _ _ hS e3,fun j u hu=>Val.keep e3 _ _ hu⟩
  rename_i hw
  rw [if_neg hw] at h1
  exact h1
theorem uu {id:Nat} {ops:Array Oper} {a0:Act} {w:World} (k0:Nat) (T:List Val) (J:World→Prop) (hm:P.follows .mixedOrders=true) (hok:dz .any ops a0.tmps.size=true)
  (hJ:∀ w w',J w→Below w.heap.size w w'→J w') (hp:∀ j,j≠k0→(tbl T j).pure=true) (h0:J w)
  (hR:qy P ops Q a0 T J k0 ops.toList 0)
  (hF:∀ (vals:Nat→Value) (w':World),J w'→(∀ i,i<ops.size→(tbl T i).ok (vals i) w')→Q .normal (fill (fun _=>true) vals ops.toList 0 a0) w'):(Code.region id ops true).wp P Q a0 w:=
 region J (fun i v w'=>(tbl T i).ok v w') hm hok (hJ _ _ h0 ((ww _ w).drew)) (tC hJ hp _ _ hR) hF
end Rg
end
end Go.Proofs.YtgfkcoablfjbcaaGreat
