/-
  Joined texts: contracts and plain lemmas.
-/
import Derived.Test.YtgfkcoablfjbcaaGreatDoorB1
import Derived.Test.YtgfkcoablfjbcaaGreatDoorB14
import Derived.Test.YtgfkcoablfjbcaaGreatDoorB8
set_option linter.unusedSimpArgs false
set_option linter.unusedVariables false
set_option maxRecDepth 100000
set_option maxHeartbeats 8000000
namespace Go.Proofs.YtgfkcoablfjbcaaGreatDoor
section
open Go.RowKit
theorem M.tu {a b:Int} (h:(M.fmk a 4096).isSome=false∨(M.fmk b 4096).isSome=false):M.aO a b=false:=by
 cases hs:M.aO a b with
 | false=>rfl
 | true=>
 obtain ⟨h1,h2,h3⟩:=M.bi hs
 rw [M.bQ (by omega) (by omega),M.bQ (by omega) (by omega)] at h
 simp at h
theorem gE (a b:Int) (w:World) (h1:-4000000000000000000≤a) (h2:a≤4000000000000000000) (h3:-4000000000000000000≤b) (h4:b≤4000000000000000000) :
  Calls Tryz.prog 54 #[.int .i64 a,.int .i64 b] w fun e w'=>e=.returned (.tuple #[.agg #[.int .i64 (M.pick (M.aO (a) (b)) (M.pn (a))),.int .i64 (M.pick (M.aO (a) (b)) (M.pd (a))),.int .i64 (M.pick (M.aO (a) (b)) (M.pn (b))),.int .i64 (M.pick (M.aO (a) (b)) (M.pd (b)))],.bool (M.aO (a) (b))])∧Below w.heap.size w w':=by
 have P1:=fun W=>lI a 4096 W h1 h2 (by omega) (by omega) (by omega)
 have P2:=fun W=>lI b 4096 W h3 h4 (by omega) (by omega) (by omega)
 have PG:=fun W (q1:(M.fmk a 4096).isSome=true) (q2:(M.fmk b 4096).isSome=true)=>iy a b W q1 q2
 have hno:=@M.tu a b
 have e1:=uh (show M.pn a=M.fN (M.fmk a 4096) from rfl)
 have e2:=uh (show M.pd a=M.fD (M.fmk a 4096) from rfl)
 have e3:=uh (show M.pn b=M.fN (M.fmk b 4096) from rfl)
 have e4:=uh (show M.pd b=M.fD (M.fmk b 4096) from rfl)
 rw [e1.out,e2.out,e3.out,e4.out] at PG ⊢
 clear e1 e2 e3 e4
 generalize (M.fmk a 4096).isSome=o1 at *
 generalize (M.fmk b 4096).isSome=o2 at *
 generalize M.fN (M.fmk a 4096)=p1 at *
 generalize M.fD (M.fmk a 4096)=p2 at *
 generalize M.fN (M.fmk b 4096)=p3 at *
 generalize M.fD (M.fmk b 4096)=p4 at *
 replace P1:=uh P1
 replace P2:=uh P2
 have R:=aH.new w #[.int .i64 0,.int .i64 0,.int .i64 0,.int .i64 0] 42
 have B:=(uk w.heap.size w).alloc (ul _) (.cells #[.int .i64 0,.int .i64 0,.int .i64 0,.int .i64 0] 42)
 generalize hw3:w.alloc (.cells #[.int .i64 0,.int .i64 0,.int .i64 0,.int .i64 0] 42)=wc at *
 cases o1 with
 | false=>
  rw [hno (Or.inl rfl)]
  clear hno PG
  go_enter Tryz.func54,Tryz.ntmps54
  go_wp2_with (first
   | (go_at_call 69;(with_reducible refine (P1.out _).mono ?_);rintro e w4 ⟨rfl,hb4⟩;(replace R:=R.keep hb4);(replace B:=B.trans (hb4.mono B.size));(have F:=aH.new w4 #[.int .i64 p1,.int .i64 p2] 40);(have b_:=bA w4 (.cells #[.int .i64 p1,.int .i64 p2] 40));(replace R:=R.keep b_);(replace B:=B.trans (b_.mono B.size));(clear b_);(replace ⟨R_c0,R_c1,R_c2,R_c3,R_f0,R_f1,R_f2,R_f3⟩:=R.b4f);(replace ⟨F_c0,F_c1⟩:=F.b2))
   | (go_at_call 69;(with_reducible refine (P2.out _).mono ?_);rintro e w5 ⟨rfl,hb5⟩;(replace R:=R.keep hb5);(replace F:=F.keep hb5);(replace B:=B.trans (hb5.mono B.size));(have G:=aH.new w5 #[.int .i64 p3,.int .i64 p4] 40);(have b_:=bA w5 (.cells #[.int .i64 p3,.int .i64 p4] 40));(replace R:=R.keep b_);(replace F:=F.keep b_);(replace B:=B.trans (b_.mono B.size));(clear b_);(replace ⟨R_c0,R_c1,R_c2,R_c3,R_f0,R_f1,R_f2,R_f3⟩:=R.b4f);(replace ⟨F_c0,F_c1⟩:=F.b2);(replace ⟨G_c0,G_c1⟩:=G.b2);(have O:=aH.new (w5.alloc (.cells #[.int .i64 p3,.int .i64 p4] 40)) #[.int .i64 p1,.int .i64 p2,.int .i64 p3,.int .i64 p4] 42);(have b_:=bA (w5.alloc (.cells #[.int .i64 p3,.int .i64 p4] 40)) (.cells #[.int .i64 p1,.int .i64 p2,.int .i64 p3,.int .i64 p4] 42));(replace R:=R.keep b_);(replace F:=F.keep b_);(replace G:=G.keep b_);(replace B:=B.trans (b_.mono B.size));(clear b_);(rw [ui] at O);(have O_c0:=O.aR.c0);(have O_c1:=O.aR.c1);(have O_c2:=O.aR.c2);(have O_c3:=O.aR.c3);(have R_c0:=R.aR.c0);(have R_c1:=R.aR.c1);(have R_c2:=R.aR.c2);(have R_c3:=R.aR.c3);(have R_f0:=R.aR.f0);(have R_f1:=R.aR.f1);(have R_f2:=R.aR.f2);(have R_f3:=R.aR.f3)))
  exact bodyPost_ret (v:=.tuple #[.agg #[.int .i64 0,.int .i64 0,.int .i64 0,.int .i64 0],.bool false]) (by simp [results,Tryz.results54,go_sem, *]) rfl (⟨rfl,uj (uj (uj (uj B (by simp <;> omega) _) (by simp <;> omega) _) (by simp <;> omega) _) (by simp <;> omega) _⟩)
 | true=>
 cases o2 with
 | false=>
  rw [hno (Or.inr rfl)]
  clear hno PG
  go_enter Tryz.func54,Tryz.ntmps54
  go_wp2_with (first
   | (go_at_call 69;(with_reducible refine (P1.out _).mono ?_);rintro e w4 ⟨rfl,hb4⟩;(replace R:=R.keep hb4);(replace B:=B.trans (hb4.mono B.size));(have F:=aH.new w4 #[.int .i64 p1,.int .i64 p2] 40);(have b_:=bA w4 (.cells #[.int .i64 p1,.int .i64 p2] 40));(replace R:=R.keep b_);(replace B:=B.trans (b_.mono B.size));(clear b_);(replace ⟨R_c0,R_c1,R_c2,R_c3,R_f0,R_f1,R_f2,R_f3⟩:=R.b4f);(replace ⟨F_c0,F_c1⟩:=F.b2))
   | (go_at_call 69;(with_reducible refine (P2.out _).mono ?_);rintro e w5 ⟨rfl,hb5⟩;(replace R:=R.keep hb5);(replace F:=F.keep hb5);(replace B:=B.trans (hb5.mono B.size));(have G:=aH.new w5 #[.int .i64 p3,.int .i64 p4] 40);(have b_:=bA w5 (.cells #[.int .i64 p3,.int .i64 p4] 40));(replace R:=R.keep b_);(replace F:=F.keep b_);(replace B:=B.trans (b_.mono B.size));(clear b_);(replace ⟨R_c0,R_c1,R_c2,R_c3,R_f0,R_f1,R_f2,R_f3⟩:=R.b4f);(replace ⟨F_c0,F_c1⟩:=F.b2);(replace ⟨G_c0,G_c1⟩:=G.b2);(have O:=aH.new (w5.alloc (.cells #[.int .i64 p3,.int .i64 p4] 40)) #[.int .i64 p1,.int .i64 p2,.int .i64 p3,.int .i64 p4] 42);(have b_:=bA (w5.alloc (.cells #[.int .i64 p3,.int .i64 p4] 40)) (.cells #[.int .i64 p1,.int .i64 p2,.int .i64 p3,.int .i64 p4] 42));(replace R:=R.keep b_);(replace F:=F.keep b_);(replace G:=G.keep b_);(replace B:=B.trans (b_.mono B.size));(clear b_);(rw [ui] at O);(have O_c0:=O.aR.c0);(have O_c1:=O.aR.c1);(have O_c2:=O.aR.c2);(have O_c3:=O.aR.c3);(have R_c0:=R.aR.c0);(have R_c1:=R.aR.c1);(have R_c2:=R.aR.c2);(have R_c3:=R.aR.c3);(have R_f0:=R.aR.f0);(have R_f1:=R.aR.f1);(have R_f2:=R.aR.f2);(have R_f3:=R.aR.f3)))
  exact bodyPost_ret (v:=.tuple #[.agg #[.int .i64 0,.int .i64 0,.int .i64 0,.int .i64 0],.bool false]) (by simp [results,Tryz.results54,go_sem, *]) rfl (⟨rfl,uj (uj (uj (uj B (by simp <;> omega) _) (by simp <;> omega) _) (by simp <;> omega) _) (by simp <;> omega) _⟩)
 | true=>
 have PG2:=fun W=>PG W rfl rfl
 clear PG hno
 cases hs:M.aO a b with
 | true=>
  rw [hs] at PG2
  replace PG2:=uh PG2
  clear hs
  go_enter Tryz.func54,Tryz.ntmps54
  go_wp2_with (first
   | (go_at_call 69;(with_reducible refine (P1.out _).mono ?_);rintro e w4 ⟨rfl,hb4⟩;(replace R:=R.keep hb4);(replace B:=B.trans (hb4.mono B.size));(have F:=aH.new w4 #[.int .i64 p1,.int .i64 p2] 40);(have b_:=bA w4 (.cells #[.int .i64 p1,.int .i64 p2] 40));(replace R:=R.keep b_);(replace B:=B.trans (b_.mono B.size));(clear b_);(replace ⟨R_c0,R_c1,R_c2,R_c3,R_f0,R_f1,R_f2,R_f3⟩:=R.b4f);(replace ⟨F_c0,F_c1⟩:=F.b2))
   | (go_at_call 69;(with_reducible refine (P2.out _).mono ?_);rintro e w5 ⟨rfl,hb5⟩;(replace R:=R.keep hb5);(replace F:=F.keep hb5);(replace B:=B.trans (hb5.mono B.size));(have G:=aH.new w5 #[.int .i64 p3,.int .i64 p4] 40);(have b_:=bA w5 (.cells #[.int .i64 p3,.int .i64 p4] 40));(replace R:=R.keep b_);(replace F:=F.keep b_);(replace B:=B.trans (b_.mono B.size));(clear b_);(replace ⟨R_c0,R_c1,R_c2,R_c3,R_f0,R_f1,R_f2,R_f3⟩:=R.b4f);(replace ⟨F_c0,F_c1⟩:=F.b2);(replace ⟨G_c0,G_c1⟩:=G.b2);(have O:=aH.new (w5.alloc (.cells #[.int .i64 p3,.int .i64 p4] 40)) #[.int .i64 p1,.int .i64 p2,.int .i64 p3,.int .i64 p4] 42);(have b_:=bA (w5.alloc (.cells #[.int .i64 p3,.int .i64 p4] 40)) (.cells #[.int .i64 p1,.int .i64 p2,.int .i64 p3,.int .i64 p4] 42));(replace R:=R.keep b_);(replace F:=F.keep b_);(replace G:=G.keep b_);(replace B:=B.trans (b_.mono B.size));(clear b_);(rw [ui] at O);(have O_c0:=O.aR.c0);(have O_c1:=O.aR.c1);(have O_c2:=O.aR.c2);(have O_c3:=O.aR.c3);(have R_c0:=R.aR.c0);(have R_c1:=R.aR.c1);(have R_c2:=R.aR.c2);(have R_c3:=R.aR.c3);(have R_f0:=R.aR.f0);(have R_f1:=R.aR.f1);(have R_f2:=R.aR.f2);(have R_f3:=R.aR.f3))
   | (go_at_call 70;(with_reducible refine (PG2.out _).mono ?_);rintro e w6 ⟨rfl,hb6⟩;(replace R:=R.keep hb6);(replace F:=F.keep hb6);(replace G:=G.keep hb6);(replace O:=O.keep hb6);(replace B:=B.trans (hb6.mono B.size));(replace ⟨R_c0,R_c1,R_c2,R_c3,R_f0,R_f1,R_f2,R_f3⟩:=R.b4f);(replace ⟨F_c0,F_c1⟩:=F.b2);(replace ⟨G_c0,G_c1⟩:=G.b2);(replace ⟨O_c0,O_c1,O_c2,O_c3⟩:=O.b4)))
  exact bodyPost_ret (v:=.tuple #[.agg #[.int .i64 p1,.int .i64 p2,.int .i64 p3,.int .i64 p4],.bool true]) (by simp [results,Tryz.results54,go_sem, *]) rfl (⟨rfl,uj (uj (uj (uj B (by simp <;> omega) _) (by simp <;> omega) _) (by simp <;> omega) _) (by simp <;> omega) _⟩)
 | false=>
 rw [hs] at PG2
 replace PG2:=uh PG2
 clear hs
 go_enter Tryz.func54,Tryz.ntmps54
 go_wp2_with (first
  | (go_at_call 69;(with_reducible refine (P1.out _).mono ?_);rintro e w4 ⟨rfl,hb4⟩;(replace R:=R.keep hb4);(replace B:=B.trans (hb4.mono B.size));(have F:=aH.new w4 #[.int .i64 p1,.int .i64 p2] 40);(have b_:=bA w4 (.cells #[.int .i64 p1,.int .i64 p2] 40));(replace R:=R.keep b_);(replace B:=B.trans (b_.mono B.size));(clear b_);(replace ⟨R_c0,R_c1,R_c2,R_c3,R_f0,R_f1,R_f2,R_f3⟩:=R.b4f);(replace ⟨F_c0,F_c1⟩:=F.b2))
  | (go_at_call 69;(with_reducible refine (P2.out _).mono ?_);rintro e w5 ⟨rfl,hb5⟩;(replace R:=R.keep hb5);(replace F:=F.keep hb5);(replace B:=B.trans (hb5.mono B.size));(have G:=aH.new w5 #[.int .i64 p3,.int .i64 p4] 40);(have b_:=bA w5 (.cells #[.int .i64 p3,.int .i64 p4] 40));(replace R:=R.keep b_);(replace F:=F.keep b_);(replace B:=B.trans (b_.mono B.size));(clear b_);(replace ⟨R_c0,R_c1,R_c2,R_c3,R_f0,R_f1,R_f2,R_f3⟩:=R.b4f);(replace ⟨F_c0,F_c1⟩:=F.b2);(replace ⟨G_c0,G_c1⟩:=G.b2);(have O:=aH.new (w5.alloc (.cells #[.int .i64 p3,.int .i64 p4] 40)) #[.int .i64 p1,.int .i64 p2,.int .i64 p3,.int .i64 p4] 42);(have b_:=bA (w5.alloc (.cells #[.int .i64 p3,.int .i64 p4] 40)) (.cells #[.int .i64 p1,.int .i64 p2,.int .i64 p3,.int .i64 p4] 42));(replace R:=R.keep b_);(replace F:=F.keep b_);(replace G:=G.keep b_);(replace B:=B.trans (b_.mono B.size));(clear b_);(rw [ui] at O);(have O_c0:=O.aR.c0);(have O_c1:=O.aR.c1);(have O_c2:=O.aR.c2);(have O_c3:=O.aR.c3);(have R_c0:=R.aR.c0);(have R_c1:=R.aR.c1);(have R_c2:=R.aR.c2);(have R_c3:=R.aR.c3);(have R_f0:=R.aR.f0);(have R_f1:=R.aR.f1);(have R_f2:=R.aR.f2);(have R_f3:=R.aR.f3))
  | (go_at_call 70;(with_reducible refine (PG2.out _).mono ?_);rintro e w6 ⟨rfl,hb6⟩;(replace R:=R.keep hb6);(replace F:=F.keep hb6);(replace G:=G.keep hb6);(replace O:=O.keep hb6);(replace B:=B.trans (hb6.mono B.size));(replace ⟨R_c0,R_c1,R_c2,R_c3,R_f0,R_f1,R_f2,R_f3⟩:=R.b4f);(replace ⟨F_c0,F_c1⟩:=F.b2);(replace ⟨G_c0,G_c1⟩:=G.b2);(replace ⟨O_c0,O_c1,O_c2,O_c3⟩:=O.b4)))
 exact bodyPost_ret (v:=.tuple #[.agg #[.int .i64 0,.int .i64 0,.int .i64 0,.int .i64 0],.bool false]) (by simp [results,Tryz.results54,go_sem, *]) rfl (⟨rfl,uj (uj (uj (uj B (by simp <;> omega) _) (by simp <;> omega) _) (by simp <;> omega) _) (by simp <;> omega) _⟩)
theorem rx (a b c d:Int) (w:World) (hab:M.aO a b=true) (hcd:M.aO c d=true) :
  Calls Tryz.prog 32 #[.agg #[.int .i64 (M.pn a),.int .i64 (M.pd a),.int .i64 (M.pn b),.int .i64 (M.pd b)],.agg #[.int .i64 (M.pn c),.int .i64 (M.pd c),.int .i64 (M.pn d),.int .i64 (M.pd d)]] w fun e w'=>e=.returned (.tuple #[.agg #[.int .i64 (M.pick (M.aO (a+c) (b+d)) (M.pn (a+c))),.int .i64 (M.pick (M.aO (a+c) (b+d)) (M.pd (a+c))),.int .i64 (M.pick (M.aO (a+c) (b+d)) (M.pn (b+d))),.int .i64 (M.pick (M.aO (a+c) (b+d)) (M.pd (b+d)))],.bool (M.aO (a+c) (b+d))])∧Below w.heap.size w w':=by
 obtain ⟨ab,a1,b1⟩:=M.bi hab
 obtain ⟨cd,c1,d1⟩:=M.bi hcd
 have E1:=fun W=>eK a b W (M.bQ (by omega) (by omega)) (M.bQ (by omega) (by omega))
 have E2:=fun W=>eK c d W (M.bQ (by omega) (by omega)) (M.bQ (by omega) (by omega))
 have PM:=fun W=>gE (a+c) (b+d) W (by omega) (by omega) (by omega) (by omega)
 generalize M.pick (M.aO (a+c) (b+d)) (M.pn (a+c))=p1 at *
 generalize M.pick (M.aO (a+c) (b+d)) (M.pd (a+c))=p2 at *
 generalize M.pick (M.aO (a+c) (b+d)) (M.pn (b+d))=p3 at *
 generalize M.pick (M.aO (a+c) (b+d)) (M.pd (b+d))=p4 at *
 generalize M.aO (a+c) (b+d)=s at *
 replace PM:=uh PM
 replace E1:=uh E1
 replace E2:=uh E2
 generalize hn1:M.pn a=n1 at *
 generalize hd1:M.pd a=d1 at *
 generalize hn2:M.pn b=n2 at *
 generalize hd2:M.pd b=d2 at *
 generalize hn3:M.pn c=n3 at *
 generalize hd3:M.pd c=d3 at *
 generalize hn4:M.pn d=n4 at *
 generalize hd4:M.pd d=d4 at *
 clear hn1 hn2 hn3 hn4 hd1 hd2 hd3 hd4
 have V:=((aH.new w #[.int .i64 n1,.int .i64 d1,.int .i64 n2,.int .i64 d2] 42).alloc (.cells #[.int .i64 n3,.int .i64 d3,.int .i64 n4,.int .i64 d4] 42)).alloc (.cells #[.int .i64 0,.int .i64 0,.int .i64 0,.int .i64 0] 42)
 have U:=(aH.new (w.alloc (.cells #[.int .i64 n1,.int .i64 d1,.int .i64 n2,.int .i64 d2] 42)) #[.int .i64 n3,.int .i64 d3,.int .i64 n4,.int .i64 d4] 42).alloc (.cells #[.int .i64 0,.int .i64 0,.int .i64 0,.int .i64 0] 42)
 rw [ui] at U
 have R:=aH.new ((w.alloc (.cells #[.int .i64 n1,.int .i64 d1,.int .i64 n2,.int .i64 d2] 42)).alloc (.cells #[.int .i64 n3,.int .i64 d3,.int .i64 n4,.int .i64 d4] 42)) #[.int .i64 0,.int .i64 0,.int .i64 0,.int .i64 0] 42
 rw [ui,ui] at R
 have B:=(((uk w.heap.size w).alloc (ul _) (.cells #[.int .i64 n1,.int .i64 d1,.int .i64 n2,.int .i64 d2] 42)).alloc (by rw [ui];omega) (.cells #[.int .i64 n3,.int .i64 d3,.int .i64 n4,.int .i64 d4] 42)).alloc (by rw [ui,ui];omega) (.cells #[.int .i64 0,.int .i64 0,.int .i64 0,.int .i64 0] 42)
 generalize hw3:((w.alloc (.cells #[.int .i64 n1,.int .i64 d1,.int .i64 n2,.int .i64 d2] 42)).alloc (.cells #[.int .i64 n3,.int .i64 d3,.int .i64 n4,.int .i64 d4] 42)).alloc (.cells #[.int .i64 0,.int .i64 0,.int .i64 0,.int .i64 0] 42)=wc at *
 have V_c0:=V.aR.c0
 have V_c1:=V.aR.c1
 have V_c2:=V.aR.c2
 have V_c3:=V.aR.c3
 have U_c0:=U.aR.c0
 have U_c1:=U.aR.c1
 have U_c2:=U.aR.c2
 have U_c3:=U.aR.c3
 have R_c0:=R.aR.c0
 have R_c1:=R.aR.c1
 have R_c2:=R.aR.c2
 have R_c3:=R.aR.c3
 go_enter Tryz.func32,Tryz.ntmps32
 go_wp2_with (first
  | (go_at_call 53;(with_reducible refine (E1.out _).mono ?_);rintro e w4 ⟨rfl,hb4⟩;(replace V:=V.keep hb4);(replace U:=U.keep hb4);(replace R:=R.keep hb4);(replace B:=B.trans (hb4.mono B.size));(replace ⟨V_c0,V_c1,V_c2,V_c3⟩:=V.b4);(replace ⟨U_c0,U_c1,U_c2,U_c3⟩:=U.b4);(replace ⟨R_c0,R_c1,R_c2,R_c3,R_f0,R_f1,R_f2,R_f3⟩:=R.b4f))
  | (go_at_call 53;(with_reducible refine (E2.out _).mono ?_);rintro e w5 ⟨rfl,hb5⟩;(replace V:=V.keep hb5);(replace U:=U.keep hb5);(replace R:=R.keep hb5);(replace B:=B.trans (hb5.mono B.size));(replace ⟨V_c0,V_c1,V_c2,V_c3⟩:=V.b4);(replace ⟨U_c0,U_c1,U_c2,U_c3⟩:=U.b4);(replace ⟨R_c0,R_c1,R_c2,R_c3,R_f0,R_f1,R_f2,R_f3⟩:=R.b4f))
  | (go_at_call 54;(with_reducible refine (PM.out _).mono ?_);rintro e w6 ⟨rfl,hb6⟩;(replace V:=V.keep hb6);(replace U:=U.keep hb6);(replace R:=R.keep hb6);(replace B:=B.trans (hb6.mono B.size));(replace ⟨V_c0,V_c1,V_c2,V_c3⟩:=V.b4);(replace ⟨U_c0,U_c1,U_c2,U_c3⟩:=U.b4);(replace ⟨R_c0,R_c1,R_c2,R_c3,R_f0,R_f1,R_f2,R_f3⟩:=R.b4f)))
 exact bodyPost_ret (v:=.tuple #[.agg #[.int .i64 p1,.int .i64 p2,.int .i64 p3,.int .i64 p4],.bool s]) (by simp [results,Tryz.results32,go_sem, *]) rfl (⟨rfl,uj (uj (uj (uj B (by simp <;> omega) _) (by simp <;> omega) _) (by simp <;> omega) _) (by simp <;> omega) _⟩)
theorem rz (a b c d:Int) (w:World) (hab:M.aO a b=true) (hcd:M.aO c d=true) :
  Calls Tryz.prog 52 #[.agg #[.int .i64 (M.pn a),.int .i64 (M.pd a),.int .i64 (M.pn b),.int .i64 (M.pd b)],.agg #[.int .i64 (M.pn c),.int .i64 (M.pd c),.int .i64 (M.pn d),.int .i64 (M.pd d)]] w fun e w'=>e=.returned (.tuple #[.agg #[.int .i64 (M.pick (M.aO (a - d) (b - c)) (M.pn (a - d))),.int .i64 (M.pick (M.aO (a - d) (b - c)) (M.pd (a - d))),.int .i64 (M.pick (M.aO (a - d) (b - c)) (M.pn (b - c))),.int .i64 (M.pick (M.aO (a - d) (b - c)) (M.pd (b - c)))],.bool (M.aO (a - d) (b - c))])∧Below w.heap.size w w':=by
 obtain ⟨ab,a1,b1⟩:=M.bi hab
 obtain ⟨cd,c1,d1⟩:=M.bi hcd
 have E1:=fun W=>eK a b W (M.bQ (by omega) (by omega)) (M.bQ (by omega) (by omega))
 have E2:=fun W=>eK c d W (M.bQ (by omega) (by omega)) (M.bQ (by omega) (by omega))
 have PM:=fun W=>gE (a - d) (b - c) W (by omega) (by omega) (by omega) (by omega)
 generalize M.pick (M.aO (a - d) (b - c)) (M.pn (a - d))=p1 at *
 generalize M.pick (M.aO (a - d) (b - c)) (M.pd (a - d))=p2 at *
 generalize M.pick (M.aO (a - d) (b - c)) (M.pn (b - c))=p3 at *
 generalize M.pick (M.aO (a - d) (b - c)) (M.pd (b - c))=p4 at *
 generalize M.aO (a - d) (b - c)=s at *
 replace PM:=uh PM
 replace E1:=uh E1
 replace E2:=uh E2
 generalize hn1:M.pn a=n1 at *
 generalize hd1:M.pd a=d1 at *
 generalize hn2:M.pn b=n2 at *
 generalize hd2:M.pd b=d2 at *
 generalize hn3:M.pn c=n3 at *
 generalize hd3:M.pd c=d3 at *
 generalize hn4:M.pn d=n4 at *
 generalize hd4:M.pd d=d4 at *
 clear hn1 hn2 hn3 hn4 hd1 hd2 hd3 hd4
 have V:=((aH.new w #[.int .i64 n1,.int .i64 d1,.int .i64 n2,.int .i64 d2] 42).alloc (.cells #[.int .i64 n3,.int .i64 d3,.int .i64 n4,.int .i64 d4] 42)).alloc (.cells #[.int .i64 0,.int .i64 0,.int .i64 0,.int .i64 0] 42)
 have U:=(aH.new (w.alloc (.cells #[.int .i64 n1,.int .i64 d1,.int .i64 n2,.int .i64 d2] 42)) #[.int .i64 n3,.int .i64 d3,.int .i64 n4,.int .i64 d4] 42).alloc (.cells #[.int .i64 0,.int .i64 0,.int .i64 0,.int .i64 0] 42)
 rw [ui] at U
 have R:=aH.new ((w.alloc (.cells #[.int .i64 n1,.int .i64 d1,.int .i64 n2,.int .i64 d2] 42)).alloc (.cells #[.int .i64 n3,.int .i64 d3,.int .i64 n4,.int .i64 d4] 42)) #[.int .i64 0,.int .i64 0,.int .i64 0,.int .i64 0] 42
 rw [ui,ui] at R
 have B:=(((uk w.heap.size w).alloc (ul _) (.cells #[.int .i64 n1,.int .i64 d1,.int .i64 n2,.int .i64 d2] 42)).alloc (by rw [ui];omega) (.cells #[.int .i64 n3,.int .i64 d3,.int .i64 n4,.int .i64 d4] 42)).alloc (by rw [ui,ui];omega) (.cells #[.int .i64 0,.int .i64 0,.int .i64 0,.int .i64 0] 42)
 generalize hw3:((w.alloc (.cells #[.int .i64 n1,.int .i64 d1,.int .i64 n2,.int .i64 d2] 42)).alloc (.cells #[.int .i64 n3,.int .i64 d3,.int .i64 n4,.int .i64 d4] 42)).alloc (.cells #[.int .i64 0,.int .i64 0,.int .i64 0,.int .i64 0] 42)=wc at *
 have V_c0:=V.aR.c0
 have V_c1:=V.aR.c1
 have V_c2:=V.aR.c2
 have V_c3:=V.aR.c3
 have U_c0:=U.aR.c0
 have U_c1:=U.aR.c1
 have U_c2:=U.aR.c2
 have U_c3:=U.aR.c3
 have R_c0:=R.aR.c0
 have R_c1:=R.aR.c1
 have R_c2:=R.aR.c2
 have R_c3:=R.aR.c3
 go_enter Tryz.func52,Tryz.ntmps52
 go_wp2_with (first
  | (go_at_call 53;(with_reducible refine (E1.out _).mono ?_);rintro e w4 ⟨rfl,hb4⟩;(replace V:=V.keep hb4);(replace U:=U.keep hb4);(replace R:=R.keep hb4);(replace B:=B.trans (hb4.mono B.size));(replace ⟨V_c0,V_c1,V_c2,V_c3⟩:=V.b4);(replace ⟨U_c0,U_c1,U_c2,U_c3⟩:=U.b4);(replace ⟨R_c0,R_c1,R_c2,R_c3,R_f0,R_f1,R_f2,R_f3⟩:=R.b4f))
  | (go_at_call 53;(with_reducible refine (E2.out _).mono ?_);rintro e w5 ⟨rfl,hb5⟩;(replace V:=V.keep hb5);(replace U:=U.keep hb5);(replace R:=R.keep hb5);(replace B:=B.trans (hb5.mono B.size));(replace ⟨V_c0,V_c1,V_c2,V_c3⟩:=V.b4);(replace ⟨U_c0,U_c1,U_c2,U_c3⟩:=U.b4);(replace ⟨R_c0,R_c1,R_c2,R_c3,R_f0,R_f1,R_f2,R_f3⟩:=R.b4f))
  | (go_at_call 54;(with_reducible refine (PM.out _).mono ?_);rintro e w6 ⟨rfl,hb6⟩;(replace V:=V.keep hb6);(replace U:=U.keep hb6);(replace R:=R.keep hb6);(replace B:=B.trans (hb6.mono B.size));(replace ⟨V_c0,V_c1,V_c2,V_c3⟩:=V.b4);(replace ⟨U_c0,U_c1,U_c2,U_c3⟩:=U.b4);(replace ⟨R_c0,R_c1,R_c2,R_c3,R_f0,R_f1,R_f2,R_f3⟩:=R.b4f)))
 exact bodyPost_ret (v:=.tuple #[.agg #[.int .i64 p1,.int .i64 p2,.int .i64 p3,.int .i64 p4],.bool s]) (by simp [results,Tryz.results52,go_sem, *]) rfl (⟨rfl,uj (uj (uj (uj B (by simp <;> omega) _) (by simp <;> omega) _) (by simp <;> omega) _) (by simp <;> omega) _⟩)
theorem r9 (a b c d:Int) (w:World) (hab:M.aO a b=true) (hcd:M.aO c d=true) :
  Calls Tryz.prog 90 #[.agg #[.int .i64 (M.pn a),.int .i64 (M.pd a),.int .i64 (M.pn b),.int .i64 (M.pd b)],.agg #[.int .i64 (M.pn c),.int .i64 (M.pd c),.int .i64 (M.pn d),.int .i64 (M.pd d)]] w fun e w'=>e=.returned (.bool true)∧Below w.heap.size w w':=by
 obtain ⟨ab,a1,b1⟩:=M.bi hab
 obtain ⟨cd,c1,d1⟩:=M.bi hcd
 have E1:=fun W=>iy a b W (M.bQ (by omega) (by omega)) (M.bQ (by omega) (by omega))
 have E2:=fun W=>iy c d W (M.bQ (by omega) (by omega)) (M.bQ (by omega) (by omega))
 rw [hab] at E1
 rw [hcd] at E2
 generalize M.pn a=n1 at *
 generalize M.pd a=d1 at *
 generalize M.pn b=n2 at *
 generalize M.pd b=d2 at *
 generalize M.pn c=n3 at *
 generalize M.pd c=d3 at *
 generalize M.pn d=n4 at *
 generalize M.pd d=d4 at *
 replace E1:=uh E1
 replace E2:=uh E2
 clear hab hcd
 have U:=aH.new (w.alloc (.cells #[.int .i64 n1,.int .i64 d1,.int .i64 n2,.int .i64 d2] 42)) #[.int .i64 n3,.int .i64 d3,.int .i64 n4,.int .i64 d4] 42
 rw [ui] at U
 have B:=((uk w.heap.size w).alloc (ul _) (.cells #[.int .i64 n1,.int .i64 d1,.int .i64 n2,.int .i64 d2] 42)).alloc (by rw [ui];omega) (.cells #[.int .i64 n3,.int .i64 d3,.int .i64 n4,.int .i64 d4] 42)
 go_enter Tryz.func90,Tryz.ntmps90
 go_wp2_with (go_at_call 70;first | ((with_reducible refine (E1.out _).mono ?_);rintro e w4 ⟨rfl,hb4⟩;(have U4:=U.keep hb4);(have B4:=B.trans (hb4.mono B.size));(have y0:=U4.aR.c0);(have y1:=U4.aR.c1);(have y2:=U4.aR.c2);(have y3:=U4.aR.c3)) | ((with_reducible refine (E2.out _).mono ?_);rintro e w5 ⟨rfl,hb5⟩;(have B5:=B4.trans (hb5.mono B4.size))))
 go_ret
 exact ⟨rfl,B5⟩
theorem jv (a b c d:Int) (w:World) (hab:M.aO a b=true) (hcd:M.aO c d=true) :
  Calls Tryz.prog 67 #[.agg #[.int .i64 (M.pn a),.int .i64 (M.pd a),.int .i64 (M.pn b),.int .i64 (M.pd b)],.agg #[.int .i64 (M.pn c),.int .i64 (M.pd c),.int .i64 (M.pn d),.int .i64 (M.pd d)]] w fun e w'=>e=.returned (.tuple #[.agg #[.int .i64 (M.pick (M.aO (max a c) (min b d)) (M.pn (max a c))),.int .i64 (M.pick (M.aO (max a c) (min b d)) (M.pd (max a c))),.int .i64 (M.pick (M.aO (max a c) (min b d)) (M.pn (min b d))),.int .i64 (M.pick (M.aO (max a c) (min b d)) (M.pd (min b d)))],.bool (M.aO (max a c) (min b d))])∧Below w.heap.size w w':=by
 obtain ⟨ab,a1,b1⟩:=M.bi hab
 obtain ⟨cd,c1,d1⟩:=M.bi hcd
 have E1:=fun W=>eK a b W (M.bQ (by omega) (by omega)) (M.bQ (by omega) (by omega))
 have E2:=fun W=>eK c d W (M.bQ (by omega) (by omega)) (M.bQ (by omega) (by omega))
 have PT:=uh fun W=>r9 a b c d W hab hcd
 have PX:=uh fun W=>du a c W
 have PY:=uh fun W=>oy b d W
 have PM:=fun W=>gE (max a c) (min b d) W (by omega) (by omega) (by omega) (by omega)
 generalize M.pick (M.aO (max a c) (min b d)) (M.pn (max a c))=p1 at *
 generalize M.pick (M.aO (max a c) (min b d)) (M.pd (max a c))=p2 at *
 generalize M.pick (M.aO (max a c) (min b d)) (M.pn (min b d))=p3 at *
 generalize M.pick (M.aO (max a c) (min b d)) (M.pd (min b d))=p4 at *
 generalize M.aO (max a c) (min b d)=s at *
 replace PM:=uh PM
 replace E1:=uh E1
 replace E2:=uh E2
 generalize hn1:M.pn a=n1 at *
 generalize hd1:M.pd a=d1 at *
 generalize hn2:M.pn b=n2 at *
 generalize hd2:M.pd b=d2 at *
 generalize hn3:M.pn c=n3 at *
 generalize hd3:M.pd c=d3 at *
 generalize hn4:M.pn d=n4 at *
 generalize hd4:M.pd d=d4 at *
 clear hn1 hn2 hn3 hn4 hd1 hd2 hd3 hd4
 have V:=((aH.new w #[.int .i64 n1,.int .i64 d1,.int .i64 n2,.int .i64 d2] 42).alloc (.cells #[.int .i64 n3,.int .i64 d3,.int .i64 n4,.int .i64 d4] 42)).alloc (.cells #[.int .i64 0,.int .i64 0,.int .i64 0,.int .i64 0] 42)
 have U:=(aH.new (w.alloc (.cells #[.int .i64 n1,.int .i64 d1,.int .i64 n2,.int .i64 d2] 42)) #[.int .i64 n3,.int .i64 d3,.int .i64 n4,.int .i64 d4] 42).alloc (.cells #[.int .i64 0,.int .i64 0,.int .i64 0,.int .i64 0] 42)
 rw [ui] at U
 have R:=aH.new ((w.alloc (.cells #[.int .i64 n1,.int .i64 d1,.int .i64 n2,.int .i64 d2] 42)).alloc (.cells #[.int .i64 n3,.int .i64 d3,.int .i64 n4,.int .i64 d4] 42)) #[.int .i64 0,.int .i64 0,.int .i64 0,.int .i64 0] 42
 rw [ui,ui] at R
 have B:=(((uk w.heap.size w).alloc (ul _) (.cells #[.int .i64 n1,.int .i64 d1,.int .i64 n2,.int .i64 d2] 42)).alloc (by rw [ui];omega) (.cells #[.int .i64 n3,.int .i64 d3,.int .i64 n4,.int .i64 d4] 42)).alloc (by rw [ui,ui];omega) (.cells #[.int .i64 0,.int .i64 0,.int .i64 0,.int .i64 0] 42)
 generalize hw3:((w.alloc (.cells #[.int .i64 n1,.int .i64 d1,.int .i64 n2,.int .i64 d2] 42)).alloc (.cells #[.int .i64 n3,.int .i64 d3,.int .i64 n4,.int .i64 d4] 42)).alloc (.cells #[.int .i64 0,.int .i64 0,.int .i64 0,.int .i64 0] 42)=wc at *
 have V_c0:=V.aR.c0
 have V_c1:=V.aR.c1
 have V_c2:=V.aR.c2
 have V_c3:=V.aR.c3
 have U_c0:=U.aR.c0
 have U_c1:=U.aR.c1
 have U_c2:=U.aR.c2
 have U_c3:=U.aR.c3
 have R_c0:=R.aR.c0
 have R_c1:=R.aR.c1
 have R_c2:=R.aR.c2
 have R_c3:=R.aR.c3
 go_enter Tryz.func67,Tryz.ntmps67
 go_wp2_with (first
  | (go_at_call 90;(with_reducible refine (PT.out _).mono ?_);rintro e w4 ⟨rfl,hb4⟩;(replace V:=V.keep hb4);(replace U:=U.keep hb4);(replace R:=R.keep hb4);(replace B:=B.trans (hb4.mono B.size));(replace ⟨V_c0,V_c1,V_c2,V_c3⟩:=V.b4);(replace ⟨U_c0,U_c1,U_c2,U_c3⟩:=U.b4);(replace ⟨R_c0,R_c1,R_c2,R_c3,R_f0,R_f1,R_f2,R_f3⟩:=R.b4f))
  | (go_at_call 53;(with_reducible refine (E1.out _).mono ?_);rintro e w5 ⟨rfl,hb5⟩;(replace V:=V.keep hb5);(replace U:=U.keep hb5);(replace R:=R.keep hb5);(replace B:=B.trans (hb5.mono B.size));(replace ⟨V_c0,V_c1,V_c2,V_c3⟩:=V.b4);(replace ⟨U_c0,U_c1,U_c2,U_c3⟩:=U.b4);(replace ⟨R_c0,R_c1,R_c2,R_c3,R_f0,R_f1,R_f2,R_f3⟩:=R.b4f))
  | (go_at_call 53;(with_reducible refine (E2.out _).mono ?_);rintro e w6 ⟨rfl,hb6⟩;(replace V:=V.keep hb6);(replace U:=U.keep hb6);(replace R:=R.keep hb6);(replace B:=B.trans (hb6.mono B.size));(replace ⟨V_c0,V_c1,V_c2,V_c3⟩:=V.b4);(replace ⟨U_c0,U_c1,U_c2,U_c3⟩:=U.b4);(replace ⟨R_c0,R_c1,R_c2,R_c3,R_f0,R_f1,R_f2,R_f3⟩:=R.b4f))
  | (go_at_call 65;(with_reducible refine (PX.out _).mono ?_);rintro e w7 ⟨rfl,rfl⟩)
  | (go_at_call 91;(with_reducible refine (PY.out _).mono ?_);rintro e w8 ⟨rfl,rfl⟩)
  | (go_at_call 54;(with_reducible refine (PM.out _).mono ?_);rintro e w9 ⟨rfl,hb9⟩;(replace V:=V.keep hb9);(replace U:=U.keep hb9);(replace R:=R.keep hb9);(replace B:=B.trans (hb9.mono B.size));(replace ⟨V_c0,V_c1,V_c2,V_c3⟩:=V.b4);(replace ⟨U_c0,U_c1,U_c2,U_c3⟩:=U.b4);(replace ⟨R_c0,R_c1,R_c2,R_c3,R_f0,R_f1,R_f2,R_f3⟩:=R.b4f)))
 exact bodyPost_ret (v:=.tuple #[.agg #[.int .i64 p1,.int .i64 p2,.int .i64 p3,.int .i64 p4],.bool s]) (by simp [results,Tryz.results67,go_sem, *]) rfl (⟨rfl,uj (uj (uj (uj B (by simp <;> omega) _) (by simp <;> omega) _) (by simp <;> omega) _) (by simp <;> omega) _⟩)
namespace M
def hL (C:Nat) (n:Nat) (o:Out):Int:=match o with
 | .val x z=>max 0 (3*(eF (.val x z) - 1) - C)*4096 / p4 n
 | _=>0
def hH (C:Nat) (n:Nat) (o:Out):Int:=match o with
 | .val x z=>-(-((3*eF (.val x z)+C)*4096) / p4 n)
 | _=>0
theorem uV {a b x z:Int} {o:Out} (h:nx a b o=.val x z):Wh.sz x 1000∧Wh.sz z 1000:=by
 cases o with
 | inf=>cases h
 | bad=>cases h
 | val u v=>
 unfold nx at h
 dsimp only at h
 split at h
 ·cases h
 split at h
 ·rename_i hok
  injection h with h1 h2
  subst h1 h2
  exact Wh.jF (Wh.ic hok)
 cases h
theorem jD {a b X E x z:Int} (hX1:-10000≤X) (hX2:X≤10000) (hE1:0≤E) (hE2:E≤20) {n:Nat} (h:aj a b X E n=.val x z):Wh.sz x 1000∧Wh.sz z 1000:=by
 unfold aj at h
 split at h
 ·cases h
 cases n with
 | zero=>
  have hEE:0≤E*E∧E*E≤400:=⟨Int.mul_nonneg hE1 hE1,by have:=Int.mul_le_mul hE2 hE2 hE1 (by omega);omega⟩
  injection h with h1 h2
  subst h1 h2
  exact ⟨Wh.aN (Wh.bS (by omega) (by omega)) (by omega),Wh.aN (Wh.bS (by omega) (by omega)) (by omega)⟩
 | succ n=>exact uV h
theorem jz {x z:Int} (h:Wh.sz x 1000∧Wh.sz z 1000):0≤eF (.val x z)∧eF (.val x z)≤14000:=by
 have h1:=Wh.jK h.1
 have h2:=Wh.jK h.2
 show 0≤max ((Wh.bl x.natAbs:Nat):Int) ((Wh.bl z.natAbs:Nat):Int)∧max ((Wh.bl x.natAbs:Nat):Int) ((Wh.bl z.natAbs:Nat):Int)≤14000
 omega
theorem qW {C n:Nat} {B:Int} (hC:C≤60) (hn:n≤5) (h1:0≤B) (h2:B≤14000):aO (max 0 (3*(B - 1) - C)*4096 / p4 n) (-(-((3*B+C)*4096) / p4 n))=true:=by
 have hp:=ny n hn
 generalize p4 n=d at *
 have q1:=eI (a:=max 0 (3*(B - 1) - C)*4096) (b:=d) (k:=300000000) (by omega) (by omega) (by omega) (by omega)
 have q2:=eI (a:=-((3*B+C)*4096)) (b:=d) (k:=300000000) (by omega) (by omega) (by omega) (by omega)
 have q3:max 0 (3*(B - 1) - C)*4096 / d≤(3*B+C)*4096 / d:=Int.ediv_le_ediv (by omega) (by omega)
 have q4:(3*B+C)*4096 / d≤-(-((3*B+C)*4096) / d):=by
  have e1:=Int.mul_ediv_add_emod ((3*B+C)*4096) d
  have e2:=Int.emod_nonneg ((3*B+C)*4096) (by omega:d≠0)
  have e3:=Int.mul_ediv_add_emod (-((3*B+C)*4096)) d
  have e4:=Int.emod_nonneg (-((3*B+C)*4096)) (by omega:d≠0)
  generalize (3*B+C)*4096 / d=u at *
  generalize -((3*B+C)*4096) / d=v at *
  rcases Int.lt_or_le (-v) u with h | h
  ·have:d*(u+v)≥d*1:=Int.mul_le_mul_of_nonneg_left (by omega) (by omega)
   rw [Int.mul_add] at this
   omega
  exact h
 unfold aO
 simp only [Bool.and_eq_true,decide_eq_true_eq]
 omega
theorem uR {a b X E:Int} {C n:Nat} (hC:C≤60) (hn:n≤5) (hX1:-10000≤X) (hX2:X≤10000) (hE1:0≤E) (hE2:E≤20):aO (hL C n (aj a b X E n)) (hH C n (aj a b X E n))=true:=by
 cases h:aj a b X E n with
 | inf=>show aO 0 0=true;decide
 | bad=>show aO 0 0=true;decide
 | val x z=>
 have hb:=jz (jD hX1 hX2 hE1 hE2 h)
 exact qW hC hn hb.1 hb.2
end M
theorem kr (a b d:Int) (w:World) (h1:-100000000000≤a) (h2:a≤100000000000) (h3:-100000000000≤b) (h4:b≤100000000000) (h5:1≤d) (h6:d≤100000) :
  Calls Tryz.prog 86 #[.int .i64 a,.int .i64 b,.int .i64 d] w fun e w'=>e=.returned (.tuple #[.agg #[.int .i64 (M.pick (M.aO (a*4096 / d) (-(-(b*4096) / d))) (M.pn (a*4096 / d))),.int .i64 (M.pick (M.aO (a*4096 / d) (-(-(b*4096) / d))) (M.pd (a*4096 / d))),.int .i64 (M.pick (M.aO (a*4096 / d) (-(-(b*4096) / d))) (M.pn (-(-(b*4096) / d)))),.int .i64 (M.pick (M.aO (a*4096 / d) (-(-(b*4096) / d))) (M.pd (-(-(b*4096) / d))))],.bool (M.aO (a*4096 / d) (-(-(b*4096) / d)))])∧Below w.heap.size w w':=by
 have P1:=fun W=>lG (a*4096) d W (by omega) (by omega) (by omega) (by omega)
 have P2:=fun W=>tf (b*4096) d W (by omega) (by omega) (by omega) (by omega)
 have f1:=eI (a:=a*4096) (b:=d) (k:=1000000000000000) (by omega) (by omega) (by omega) (by omega)
 have f2:=eI (a:=-(b*4096)) (b:=d) (k:=1000000000000000) (by omega) (by omega) (by omega) (by omega)
 have PM:=fun W=>gE (a*4096 / d) (-(-(b*4096) / d)) W (by omega) (by omega) (by omega) (by omega)
 generalize M.pick (M.aO (a*4096 / d) (-(-(b*4096) / d))) (M.pn (a*4096 / d))=p1 at *
 generalize M.pick (M.aO (a*4096 / d) (-(-(b*4096) / d))) (M.pd (a*4096 / d))=p2 at *
 generalize M.pick (M.aO (a*4096 / d) (-(-(b*4096) / d))) (M.pn (-(-(b*4096) / d)))=p3 at *
 generalize M.pick (M.aO (a*4096 / d) (-(-(b*4096) / d))) (M.pd (-(-(b*4096) / d)))=p4 at *
 generalize M.aO (a*4096 / d) (-(-(b*4096) / d))=s at *
 generalize a*4096 / d=lo at *
 generalize -(-(b*4096) / d)=hi at *
 replace P1:=uh P1
 replace P2:=uh P2
 replace PM:=uh PM
 clear f1 f2
 have R:=aH.new w #[.int .i64 0,.int .i64 0,.int .i64 0,.int .i64 0] 42
 have B:=(uk w.heap.size w).alloc (ul _) (.cells #[.int .i64 0,.int .i64 0,.int .i64 0,.int .i64 0] 42)
 go_enter Tryz.func86,Tryz.ntmps86
 go_wp2_with (first
  | (go_at_call 108;(with_reducible refine (P1.out _).mono ?_);rintro e w4 ⟨rfl,rfl⟩)
  | (go_at_call 109;(with_reducible refine (P2.out _).mono ?_);rintro e w5 ⟨rfl,rfl⟩)
  | (go_at_call 54;(with_reducible refine (PM.out _).mono ?_);rintro e w6 ⟨rfl,hb6⟩;(replace R:=R.keep hb6);(replace B:=B.trans (hb6.mono B.size));(replace ⟨R_c0,R_c1,R_c2,R_c3,R_f0,R_f1,R_f2,R_f3⟩:=R.b4f)))
 exact bodyPost_ret (v:=.tuple #[.agg #[.int .i64 p1,.int .i64 p2,.int .i64 p3,.int .i64 p4],.bool s]) (by simp [results,Tryz.results86,go_sem, *]) rfl (⟨rfl,uj (uj (uj (uj B (by simp <;> omega) _) (by simp <;> omega) _) (by simp <;> omega) _) (by simp <;> omega) _⟩)
theorem ir (a b X Y E:Int) (n:Nat) (w:World) (hg:M.good a b=true) (hX1:-10000≤X) (hX2:X≤10000) (hE1:0≤E) (hE2:E≤20) (hn:n≤5) :
  Calls Tryz.prog 93 #[.agg #[.int .i64 a,.int .i64 b],.agg #[.int .i64 X,.int .i64 Y,.int .i64 E],.int .i64 (n:Int)] w fun e w'=>e=.returned (.tuple #[.agg #[.int .i64 (M.hL (M.hC a b) n (M.aj a b X E n)),.int .i64 (M.hH (M.hC a b) n (M.aj a b X E n))],.bool (M.isOk (M.aj a b X E n))])∧Below w.heap.size w w':=by
 have hin:=M.bE hg
 have PB:=fun W=>pz a b X Y E n W hg hX1 hX2 hE1 hE2 hn
 have PC:=uh fun W=>fi a b W hin
 have hC:=M.lM hin
 have hsz:=fun x z (h:M.aj a b X E n=.val x z)=>M.jz (M.jD hX1 hX2 hE1 hE2 h)
 have hp:=M.ny n hn
 have hip:M.p4 n=3*M.eJ 4 n:=by
  match n,hn with
  | 0,_=>decide
  | 1,_=>decide
  | 2,_=>decide
  | 3,_=>decide
  | 4,_=>decide
  | 5,_=>decide
 have PP:=uh fun W=>lO 4 n W (by omega) (by omega) (by omega)
 generalize M.eJ 4 n=ip at *
 generalize M.hC a b=k at *
 clear hg hin
 have C:=((aH.new w #[.int .i64 a,.int .i64 b] 28).alloc (.cells #[.int .i64 X,.int .i64 Y,.int .i64 E] 45)).alloc (.cells #[.int .i64 0,.int .i64 0] 61)
 have Q:=(aH.new (w.alloc (.cells #[.int .i64 a,.int .i64 b] 28)) #[.int .i64 X,.int .i64 Y,.int .i64 E] 45).alloc (.cells #[.int .i64 0,.int .i64 0] 61)
 rw [ui] at Q
 have R:=aH.new ((w.alloc (.cells #[.int .i64 a,.int .i64 b] 28)).alloc (.cells #[.int .i64 X,.int .i64 Y,.int .i64 E] 45)) #[.int .i64 0,.int .i64 0] 61
 rw [ui,ui] at R
 have B:=(((uk w.heap.size w).alloc (ul _) (.cells #[.int .i64 a,.int .i64 b] 28)).alloc (by rw [ui];omega) (.cells #[.int .i64 X,.int .i64 Y,.int .i64 E] 45)).alloc (by rw [ui,ui];omega) (.cells #[.int .i64 0,.int .i64 0] 61)
 generalize hw3:((w.alloc (.cells #[.int .i64 a,.int .i64 b] 28)).alloc (.cells #[.int .i64 X,.int .i64 Y,.int .i64 E] 45)).alloc (.cells #[.int .i64 0,.int .i64 0] 61)=wc at *
 have ⟨q0,q1,q2⟩:=Q.aQ
 have C_c0:=C.box.c0
 have C_c1:=C.box.c1
 cases ho:M.aj a b X E n with
 | inf=>
  rw [ho] at PB
  replace PB:=uh PB
  clear hsz hp hip
  go_enter Tryz.func93,Tryz.ntmps93
  go_wp2_with (go_at_call 113;(with_reducible refine (PB.out _).mono ?_);rintro e w4 ⟨rfl,hb4⟩;(replace C:=C.keep hb4);(replace R:=R.keep hb4);(replace B:=B.trans (hb4.mono B.size));(replace ⟨C_c0,C_c1⟩:=C.b2);(replace ⟨R_c0,R_c1,R_f0,R_f1⟩:=R.b2f))
  exact bodyPost_ret (v:=.tuple #[.agg #[.int .i64 0,.int .i64 0],.bool true]) (by simp [results,Tryz.results93,go_sem, *]) rfl (⟨rfl,uj (uj B (by simp <;> omega) _) (by simp <;> omega) _⟩)
 | bad=>
  rw [ho] at PB
  replace PB:=uh PB
  clear hsz hp hip
  go_enter Tryz.func93,Tryz.ntmps93
  go_wp2_with (go_at_call 113;(with_reducible refine (PB.out _).mono ?_);rintro e w4 ⟨rfl,hb4⟩;(replace C:=C.keep hb4);(replace R:=R.keep hb4);(replace B:=B.trans (hb4.mono B.size));(replace ⟨C_c0,C_c1⟩:=C.b2);(replace ⟨R_c0,R_c1,R_f0,R_f1⟩:=R.b2f))
  exact bodyPost_ret (v:=.tuple #[.agg #[.int .i64 0,.int .i64 0],.bool false]) (by simp [results,Tryz.results93,go_sem, *]) rfl (⟨rfl,uj (uj B (by simp <;> omega) _) (by simp <;> omega) _⟩)
 | val x z=>
 rw [ho] at PB
 have hb:=hsz x z ho
 have e1:M.hL k n (.val x z)=max 0 (3*(M.eF (.val x z) - 1) - k)*4096 / M.p4 n:=rfl
 have e2:M.hH k n (.val x z)=-(-((3*M.eF (.val x z)+k)*4096) / M.p4 n):=rfl
 rw [e1,e2]
 clear e1 e2 hsz ho
 rw [show M.isInf (.val x z)=false from rfl,show M.isOk (.val x z)=true from rfl] at PB
 rw [show M.isOk (.val x z)=true from rfl]
 generalize M.eF (.val x z)=bt at *
 rw [hip]
 rw [hip] at hp
 have hm:max 0 (3*(bt - 1) - (k:Int))=max (3*(bt - 1) - (k:Int)) 0:=by omega
 rw [hm]
 have F1:=fun W=>gS (max (3*(bt - 1) - (k:Int)) 0*4096) (3*ip) W (by omega) (by omega) (by omega) (by omega)
 have F2:=fun W=>gS (-((3*bt+(k:Int))*4096)) (3*ip) W (by omega) (by omega) (by omega) (by omega)
 have F2:=fun x W (h:x=-((3*bt+(k:Int))*4096))=>(by subst h;exact F2 W:Calls Tryz.prog 98 #[.int .i64 x,.int .i64 (3*ip)] W fun e w'=>e=.returned (.int .i64 (-((3*bt+(k:Int))*4096) / (3*ip)))∧W=w')
 have F1:=fun x W (h:x=max (3*(bt - 1) - (k:Int)) 0*4096)=>(by subst h;exact F1 W:Calls Tryz.prog 98 #[.int .i64 x,.int .i64 (3*ip)] W fun e w'=>e=.returned (.int .i64 (max (3*(bt - 1) - (k:Int)) 0*4096 / (3*ip)))∧W=w')
 have g2:=eI (a:=-((3*bt+(k:Int))*4096)) (b:=3*ip) (k:=1000000000000000) (by omega) (by omega) (by omega) (by omega)
 generalize max (3*(bt - 1) - (k:Int)) 0*4096 / (3*ip)=lo at *
 generalize -((3*bt+(k:Int))*4096) / (3*ip)=hi at *
 obtain ⟨g2,g3⟩:=g2
 obtain ⟨hb1,hb2⟩:=hb
 obtain ⟨hp1,hp2⟩:=hp
 have hk2:(k:Int)≤60:=by omega
 clear hm hip hC
 replace F1:=uh F1
 replace F2:=uh F2
 replace PB:=uh PB
 go_enter Tryz.func93,Tryz.ntmps93
 go_wp2_with (first
  | (go_at_call 113;(with_reducible refine (PB.out _).mono ?_);rintro e w4 ⟨rfl,hb4⟩;(replace C:=C.keep hb4);(replace R:=R.keep hb4);(replace B:=B.trans (hb4.mono B.size));(replace ⟨C_c0,C_c1⟩:=C.b2);(replace ⟨R_c0,R_c1,R_f0,R_f1⟩:=R.b2f))
  | (go_at_call 114;(with_reducible refine (PC.out _).mono ?_);rintro e w5 ⟨rfl,hb5⟩;(replace C:=C.keep hb5);(replace R:=R.keep hb5);(replace B:=B.trans (hb5.mono B.size));(replace ⟨C_c0,C_c1⟩:=C.b2);(replace ⟨R_c0,R_c1,R_f0,R_f1⟩:=R.b2f))
  | (go_at_call 115;(with_reducible refine (PP.out _).mono ?_);rintro e w6 ⟨rfl,rfl⟩)
  | (go_at_call 98;first | ((with_reducible refine (F1.out _ _ (by omega)).mono ?_);rintro e w7 ⟨rfl,rfl⟩) | ((with_reducible refine (F2.out _ _ (by omega)).mono ?_);rintro e w8 ⟨rfl,rfl⟩)))
 exact bodyPost_ret (v:=.tuple #[.agg #[.int .i64 lo,.int .i64 (-hi)],.bool true]) (by simp [results,Tryz.results93,go_sem, *]) rfl (⟨rfl,uj (uj B (by simp <;> omega) _) (by simp <;> omega) _⟩)
theorem ia (a b X Y E:Int) (n:Nat) (w:World) (hg:M.good a b=true) (hX1:-10000≤X) (hX2:X≤10000) (hE1:0≤E) (hE2:E≤20) (hn:n≤5) :
  Calls Tryz.prog 66 #[.agg #[.int .i64 a,.int .i64 b],.agg #[.int .i64 X,.int .i64 Y,.int .i64 E],.int .i64 (n:Int)] w fun e w'=>e=.returned (.tuple #[.agg #[.int .i64 (M.pick (M.isOk (M.aj a b X E n)) (M.pn (M.hL (M.hC a b) n (M.aj a b X E n)))),.int .i64 (M.pick (M.isOk (M.aj a b X E n)) (M.pd (M.hL (M.hC a b) n (M.aj a b X E n)))),.int .i64 (M.pick (M.isOk (M.aj a b X E n)) (M.pn (M.hH (M.hC a b) n (M.aj a b X E n)))),.int .i64 (M.pick (M.isOk (M.aj a b X E n)) (M.pd (M.hH (M.hC a b) n (M.aj a b X E n))))],.bool (M.isOk (M.aj a b X E n))])∧Below w.heap.size w w':=by
 have hin:=M.bE hg
 have PB:=fun W=>mX a b X Y E n W hg hX1 hX2 hE1 hE2 hn
 have PC:=uh fun W=>kB a b W hin
 have hC:=M.lM hin
 have hp:=M.ny n hn
 have PP:=uh fun W=>oZ n W hn
 have PX:=uh fun x y W=>du x y W
 have hsp:=fun B h1 h2=>M.qW (B:=B) hC hn h1 h2
 generalize M.hC a b=k at *
 clear hg hin
 have C:=((aH.new w #[.int .i64 a,.int .i64 b] 28).alloc (.cells #[.int .i64 X,.int .i64 Y,.int .i64 E] 45)).alloc (.cells #[.int .i64 0,.int .i64 0,.int .i64 0,.int .i64 0] 42)
 have Q:=(aH.new (w.alloc (.cells #[.int .i64 a,.int .i64 b] 28)) #[.int .i64 X,.int .i64 Y,.int .i64 E] 45).alloc (.cells #[.int .i64 0,.int .i64 0,.int .i64 0,.int .i64 0] 42)
 rw [ui] at Q
 have R:=aH.new ((w.alloc (.cells #[.int .i64 a,.int .i64 b] 28)).alloc (.cells #[.int .i64 X,.int .i64 Y,.int .i64 E] 45)) #[.int .i64 0,.int .i64 0,.int .i64 0,.int .i64 0] 42
 rw [ui,ui] at R
 have B:=(((uk w.heap.size w).alloc (ul _) (.cells #[.int .i64 a,.int .i64 b] 28)).alloc (by rw [ui];omega) (.cells #[.int .i64 X,.int .i64 Y,.int .i64 E] 45)).alloc (by rw [ui,ui];omega) (.cells #[.int .i64 0,.int .i64 0,.int .i64 0,.int .i64 0] 42)
 generalize hw3:((w.alloc (.cells #[.int .i64 a,.int .i64 b] 28)).alloc (.cells #[.int .i64 X,.int .i64 Y,.int .i64 E] 45)).alloc (.cells #[.int .i64 0,.int .i64 0,.int .i64 0,.int .i64 0] 42)=wc at *
 have ⟨q0,q1,q2⟩:=Q.aQ
 have C_c0:=C.box.c0
 have C_c1:=C.box.c1
 cases ho:M.aj a b X E n with
 | inf=>
  rw [ho] at PB
  have PM:=fun W=>kr 0 0 1 W (by omega) (by omega) (by omega) (by omega) (by omega) (by omega)
  rw [show (0:Int)*4096 / 1=0 by decide,show -(-((0:Int)*4096) / 1)=0 by decide,show M.aO 0 0=true by decide] at PM
  rw [show M.hL k n .inf=0 from rfl,show M.hH k n .inf=0 from rfl,show M.isOk .inf=true from rfl]
  generalize M.pick true (M.pn 0)=p1 at *
  generalize M.pick true (M.pd 0)=p2 at *
  replace PB:=uh PB
  replace PM:=uh PM
  clear hsp hp
  go_enter Tryz.func66,Tryz.ntmps66
  go_wp2_with (first
   | (go_at_call 85;(with_reducible refine (PB.out _).mono ?_);rintro e w4 ⟨v4,en,rfl,ho4,hb4⟩;obtain ⟨rfl,A4,l4,c4,rfl⟩:=ho4;(replace C:=C.keep hb4);(replace R:=R.keep hb4);(replace B:=B.trans (hb4.mono B.size));(replace ⟨C_c0,C_c1⟩:=C.b2);(replace ⟨R_c0,R_c1,R_c2,R_c3,R_f0,R_f1,R_f2,R_f3⟩:=R.b4f))
   | (go_at_call 86;(with_reducible refine (PM.out _).mono ?_);rintro e w5 ⟨rfl,hb5⟩;(replace C:=C.keep hb5);(replace R:=R.keep hb5);(replace B:=B.trans (hb5.mono B.size));(replace ⟨C_c0,C_c1⟩:=C.b2);(replace ⟨R_c0,R_c1,R_c2,R_c3,R_f0,R_f1,R_f2,R_f3⟩:=R.b4f)))
  exact bodyPost_ret (v:=.tuple #[.agg #[.int .i64 p1,.int .i64 p2,.int .i64 p1,.int .i64 p2],.bool true]) (by simp [results,Tryz.results66,go_sem, *]) rfl (⟨rfl,uj (uj (uj (uj B (by simp <;> omega) _) (by simp <;> omega) _) (by simp <;> omega) _) (by simp <;> omega) _⟩)
 | bad=>
  rw [ho] at PB
  rw [show M.isOk .bad=false from rfl]
  replace PB:=uh PB
  clear hsp hp
  go_enter Tryz.func66,Tryz.ntmps66
  go_wp2_with (go_at_call 85;(with_reducible refine (PB.out _).mono ?_);rintro e w4 ⟨v4,en,rfl,ho4,hb4⟩;obtain ⟨rfl,A4,l4,c4,rfl,hl4⟩:=ho4;(have hl5:(l4:Int)≤n:=by omega);(replace C:=C.keep hb4);(replace R:=R.keep hb4);(replace B:=B.trans (hb4.mono B.size));(replace ⟨C_c0,C_c1⟩:=C.b2);(replace ⟨R_c0,R_c1,R_c2,R_c3,R_f0,R_f1,R_f2,R_f3⟩:=R.b4f))
  exact bodyPost_ret (v:=.tuple #[.agg #[.int .i64 0,.int .i64 0,.int .i64 0,.int .i64 0],.bool false]) (by simp [results,Tryz.results66,go_sem, *]) rfl (⟨rfl,uj (uj (uj (uj B (by simp <;> omega) _) (by simp <;> omega) _) (by simp <;> omega) _) (by simp <;> omega) _⟩)
 | val x z=>
 rw [ho] at PB
 have hb:=M.jz (M.jD hX1 hX2 hE1 hE2 ho)
 have e1:M.hL k n (.val x z)=max 0 (3*(M.eF (.val x z) - 1) - k)*4096 / M.p4 n:=rfl
 have e2:M.hH k n (.val x z)=-(-((3*M.eF (.val x z)+k)*4096) / M.p4 n):=rfl
 rw [e1,e2,show M.isOk (.val x z)=true from rfl]
 have hs:=hsp _ hb.1 hb.2
 clear e1 e2 ho hsp
 have PD:=uh fun (s r:Bool) v v' W i j (h1:aF W i v (Wh.dig x.natAbs)) (h2:aF W j v' (Wh.dig z.natAbs)) (hx:Wh.sz x 1000) (hz:Wh.sz z 1000) (hs:s=decide (x<0)) (hr:r=decide (z<0))=>(hs ▸ hr ▸ rb x z v v' W i j h1 h2 (Wh.aU.2 (Wh.aN hx (by omega))) (Wh.aU.2 (Wh.aN hz (by omega))) (Nat.le_trans (Wh.jK hx) (by omega)) (Nat.le_trans (Wh.jK hz) (by omega)):Calls Tryz.prog 87 #[.agg #[.bool s,v,.bool r,v']] W fun e w'=>e=.returned (.int .i64 (M.eF (.val x z)))∧Below W.heap.size W w')
 generalize M.eF (.val x z)=bt at *
 have PM:=fun W=>kr (max 0 (3*(bt - 1) - (k:Int))) (3*bt+(k:Int)) (M.p4 n) W (by omega) (by omega) (by omega) (by omega) (by omega) (by omega)
 rw [hs] at PM
 generalize M.pick true (M.pn (max 0 (3*(bt - 1) - (k:Int))*4096 / M.p4 n))=p1 at *
 generalize M.pick true (M.pd (max 0 (3*(bt - 1) - (k:Int))*4096 / M.p4 n))=p2 at *
 generalize M.pick true (M.pn (-(-((3*bt+(k:Int))*4096) / M.p4 n)))=p3 at *
 generalize M.pick true (M.pd (-(-((3*bt+(k:Int))*4096) / M.p4 n)))=p4 at *
 obtain ⟨hb1,hb2⟩:=hb
 have hk2:(k:Int)≤60:=by omega
 have PM:=uh fun x W (h:x=max 0 (3*(bt - 1) - (k:Int)))=>(by subst h;exact PM W:Calls Tryz.prog 86 #[.int .i64 x,.int .i64 (3*bt+(k:Int)),.int .i64 (M.p4 n)] W fun e w'=>e=.returned (.tuple #[.agg #[.int .i64 p1,.int .i64 p2,.int .i64 p3,.int .i64 p4],.bool true])∧Below W.heap.size W w')
 clear hs hC hp
 generalize M.p4 n=pp at *
 replace PB:=uh PB
 go_enter Tryz.func66,Tryz.ntmps66
 go_upto_region 6 with (go_at_call 85;(with_reducible refine (PB.out _).mono ?_);rintro e w4 ⟨v4,en,rfl,ho4,hb4⟩;obtain ⟨rfl,zx,zz,g,cap,s,av,lv,cv,r,bv,mv,dv,rfl,h_c0,h_c1,h_c2,h_c3,hss,hrr,ox,oz⟩:=ho4;(have ox:=uh ox);(have oz:=uh oz);(have zx:=uh zx);(have zz:=uh zz);(replace C:=C.keep hb4);(replace R:=R.keep hb4);(replace B:=B.trans (hb4.mono B.size));(replace ⟨C_c0,C_c1⟩:=C.b2);(replace ⟨R_c0,R_c1,R_c2,R_c3,R_f0,R_f1,R_f2,R_f3⟩:=R.b4f))
 refine Rg.bF 9 [.is (.slice (some ⟨g,0,none⟩) (n+1) cap),.is (.int .i64 (n:Int)),.is (.pointer (some ⟨g,n*4,none⟩)),.is (.agg #[.bool s,.slice av lv cv,.bool r,.slice bv mv dv]),.is (.int .i64 bt),.is (.agg #[.int .i64 a,.int .i64 b]),.is (.int .i64 (k:Int)),.is (.int .i64 bt),.is (.int .i64 (k:Int))] (by kernel_rfl) (by kernel_rfl) (by kernel_rfl) ⟨?_,?_,?_,?_,?_,?_,?_,?_,?_,trivial⟩ ?_
 ·intro _ ac_ w_ hB hr
  have e8:ac_.tmps[8]?=some (.slice (some ⟨g,0,none⟩) (n+1) cap):=hr 8 (by decide)
  exact Rg.aG rfl (by go_simp)
 ·intro _ ac_ w_ hB hr
  have e2:ac_.tmps[2]?=some (.int .i64 (n:Int)):=hr 2 (by decide)
  exact Rg.aG rfl (by go_simp)
 ·intro _ ac_ w_ hB hr
  have e28:=Rg.ev1 (hr 28 (by decide))
  have e29:=Rg.ev1 (hr 29 (by decide))
  have hlt_:(n:Int)<((n+1:Nat):Int):=by omega
  have hlt2_:n<n+1:=by omega
  exact Rg.aG rfl (by first | (go_simp;done) | (go_simp;omega))
 ·intro _ ac_ w_ hB hr
  have e30:=Rg.ev1 (hr 30 (by decide))
  have k0:=aE hB h_c0
  have k1:=aE hB h_c1
  have k2:=aE hB h_c2
  have k3:=aE hB h_c3
  exact Rg.aG rfl (by first | (go_simp;done))
 ·intro _ ac_ w_ hB hr
  have e31:=Rg.ev1 (hr 31 (by decide))
  have ef:=Rg.ef ac_
  exact Rg.bK rfl (by go_simp) (PD.out s r _ _ _ _ _ (aF.below ox.out hB) (aF.below oz.out hB) zx.out zz.out hss.out hrr.out)
 ·intro _ ac_ w_ hB hr
  have e3:ac_.tmps[3]?=some (.pointer (some ⟨w.heap.size,0,none⟩)):=hr 3 (by decide)
  have k0:=aE hB C.box.c0
  have k1:=aE hB C.box.c1
  exact Rg.aG rfl (by go_simp)
 ·intro _ ac_ w_ hB hr
  have e33:=Rg.ev1 (hr 33 (by decide))
  have ef:=Rg.ef ac_
  exact Rg.bK rfl (by go_simp) (PC.out _)
 ·intro _ ac_ w_ hB hr
  have e32:=Rg.ev1 (hr 32 (by decide))
  exact Rg.aG rfl (by go_simp)
 ·intro _ ac_ w_ hB hr
  have e34:=Rg.ev1 (hr 34 (by decide))
  exact Rg.aG rfl (by go_simp)
 intro vals wz hB hv hne
 have v_7:vals 7=.int .i64 bt:=hv 7 (by decide)
 have v_8:vals 8=.int .i64 (k:Int):=hv 8 (by decide)
 simp only [Rg.am,Rg.fill,Act.put,Nat.reduceAdd]
 clear hv
 simp only [v_7,v_8]
 clear v_7 v_8
 have C2:=C.keep hB
 have R2:=R.keep hB
 have B2:=B.trans (hB.mono B.size)
 clear C R B C_c0 C_c1 R_c0 R_c1 R_c2 R_c3 R_f0 R_f1 R_f2 R_f3
 unfold Rg.aV
 have ⟨y0,y1,y2,y3,x0,x1,x2,x3,_⟩:=R2.aR
 go_wp2_with (first
  | (go_at_call 65;(with_reducible refine (PX.out _ _ _).mono ?_);rintro e w5 ⟨rfl,rfl⟩)
  | (go_at_call 89;(with_reducible refine (PP.out _).mono ?_);rintro e w6 ⟨rfl,rfl⟩)
  | (go_at_call 86;(with_reducible refine (PM.out _ _ (by omega)).mono ?_);rintro e w7 ⟨rfl,hb7⟩;(replace R2:=R2.keep hb7);(replace B2:=B2.trans (hb7.mono B2.size));(replace ⟨R2_c0,R2_c1,R2_c2,R2_c3,R2_f0,R2_f1,R2_f2,R2_f3⟩:=R2.b4f)))
 exact bodyPost_ret (v:=.tuple #[.agg #[.int .i64 p1,.int .i64 p2,.int .i64 p3,.int .i64 p4],.bool true]) (by simp [results,Tryz.results66,go_sem, *]) rfl (⟨rfl,uj (uj (uj (uj B2 (by simp <;> omega) _) (by simp <;> omega) _) (by simp <;> omega) _) (by simp <;> omega) _⟩)
end
section
open Go Go.RowKit
namespace Rg
variable {P:Program} {Q:Exit→Act→World→Prop}
def Val.pure:Val→Bool
 | .is _=>true
 | .num _=>true
 | .such _=>true
 | _=>false
theorem Val.dR {V:Val} (h:V.pure=true) {u:Value} {w w':World} (hu:V.ok u w):V.ok u w':=by
 cases V with
 | is _=>exact hu
 | num _=>exact hu
 | such _=>exact hu
 | _=>cases h
def pe (P:Program) (ops:Array Oper) (Q:Exit→Act→World→Prop) (a0:Act) (T:List Val) (J:World→Prop) (k0:Nat):List Oper→Nat→Prop
 | [],_=>True
 | o
   :: os,k=>(∀ (a:Act) (w:World),J w→(∀ t ∈ o.looksAt ops,oQ ops a0 T o a w t)→
   if k=k0 then Region.wanted o (yielded ops a.tmps)=true∧o.wp P a w (fun a' w'=>(∃ v,a'=a.put o.dst v)∧J w'∧∀ v,(tbl T k).ok v w') Q else Does P ops Q (tbl T k) o a w)∧pe P ops Q a0 T J k0 os (k+1)
theorem rE {ops:Array Oper} {a0:Act} {T:List Val} {J:World→Prop} {k0:Nat} (hJ:∀ w w',J w→Below w.heap.size w w'→J w') (hp:∀ j,j≠k0→(tbl T j).pure=true):∀ (os:List Oper) (k:Nat),pe P ops Q a0 T J k0 os k→mS P Q .any ops J (fun i v w=>(tbl T i).ok v w) a0 os k
 | [],_,_=>trivial
 | o :: os,k,h=>by
  refine ⟨fun a w vals hS hv hr=>?_,rE hJ hp os (k+1) h.2⟩
  have h1:=h.1 a w hS (fun t ht=>by
   have:=hr t ht
   unfold rd at this
   unfold oQ
   split
   ·rename_i e he
    rw [he] at this
    have h2:=List.find?_some he
    rw [Bool.and_eq_true] at h2
    exact ⟨_,this,hv e (Array.mem_toList_iff.1 (List.mem_of_find?_eq_some he)) h2.1⟩
   rename_i he
   rw [he] at this
   exact this)
  unfold tN
  split at h1
  ·rename_i hk
   rw [if_pos h1.1]
   refine Oper.wp_mono ?_ h1.2
   rintro a' w' ⟨⟨v,e⟩,h2,h3⟩
   refine ⟨v,e,h3 v,h2,fun j u hu=>?_⟩
   by_cases hj:j=k0
   ·subst hj
    subst hk
    exact h3 u
   exact Val.dR (hp j hj) hu
  unfold Does at h1
  split
  ·rename_i hw
   rw [if_pos hw] at h1
   refine Oper.wp_mono ?_ h1
   rintro a' w' ⟨v,e1,e2,e3⟩
   exact ⟨v,e1,e2,hJ _ _ hS e3,fun j u hu=>Val.keep e3 _ _ hu⟩
  rename_i hw
  rw [if_neg hw] at h1
  exact h1
theorem tF {id:Nat} {ops:Array Oper} {a0:Act} {w:World} (k0:Nat) (T:List Val) (J:World→Prop) (hm:P.follows .mixedOrders=true) (hok:dz .any ops a0.tmps.size=true)
  (hJ:∀ w w',J w→Below w.heap.size w w'→J w') (hp:∀ j,j≠k0→(tbl T j).pure=true) (h0:J w)
  (hR:pe P ops Q a0 T J k0 ops.toList 0)
  (hF:∀ (vals:Nat→Value) (w':World),J w'→(∀ i,i<ops.size→(tbl T i).ok (vals i) w')→Q .normal (fill (fun _=>true) vals ops.toList 0 a0) w'):(Code.region id ops true).wp P Q a0 w:=
 region J (fun i v w'=>(tbl T i).ok v w') hm hok (hJ _ _ h0 ((uk _ w).drew)) (rE hJ hp _ _ hR) hF
end Rg
end
end Go.Proofs.YtgfkcoablfjbcaaGreatDoor
