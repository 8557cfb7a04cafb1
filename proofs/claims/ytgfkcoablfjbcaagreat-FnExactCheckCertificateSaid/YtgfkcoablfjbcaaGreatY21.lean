/-
  Joined texts: contracts and plain lemmas.
-/
import Derived.Test.YtgfkcoablfjbcaaGreatY1
import Derived.Test.YtgfkcoablfjbcaaGreatY20
import Derived.Test.YtgfkcoablfjbcaaGreatY16
set_option linter.unusedSimpArgs false
set_option linter.unusedVariables false
set_option maxRecDepth 100000
set_option maxHeartbeats 8000000
namespace Go.Proofs.YtgfkcoablfjbcaaGreat
section
open Go.RowKit
namespace M
noncomputable def eJ (a X1 Y1 E1 X2 Y2 E2:Int):Bool:=if E1=0 then true else if E2=0 then true else gC a X1 Y1 E1 X2 Y2 E2
noncomputable def f9 (a X1 Y1 E1 X2 Y2 E2:Int):Int:=if E1=0 then X2 else if E2=0 then X1 else fnX a X1 Y1 E1 X2 Y2 E2
noncomputable def iM (a X1 Y1 E1 X2 Y2 E2:Int):Int:=if E1=0 then Y2 else if E2=0 then Y1 else fnY a X1 Y1 E1 X2 Y2 E2
noncomputable def f8 (a X1 Y1 E1 X2 Y2 E2:Int):Int:=if E1=0 then E2 else if E2=0 then E1 else fnE a X1 Y1 E1 X2 Y2 E2
theorem ep {a b X Y E:Int} (hin:M.bB a b=true) (h:bS a b X Y E=true):(E=0∧X=0∧Y=0)∨(1≤E∧E≤20∧-10000≤X∧X≤10000∧Int.gcd X E=1∧Y*Y=cv a b X E∧-3000000≤Y∧Y≤3000000):=by
 obtain ⟨ha1,ha2,hb1,hb2⟩:=M.aj hin
 unfold bS at h
 split at h
 ·simp only [Bool.and_eq_true,decide_eq_true_eq] at h
  left;exact ⟨by assumption,h.1,h.2⟩
 right
 simp only [Bool.and_eq_true,decide_eq_true_eq,M.ins,beq_iff_eq] at h
 obtain ⟨⟨⟨⟨h1,h2⟩,h3,h4⟩,h5⟩,h6⟩:=h
 have hv:=M.mC (a:=a) (b:=b) ha1 ha2 hb1 hb2 h1 h2 (by omega) h4
 have hy:=M.ug h6 hv.2
 exact ⟨h3,h4,h1,h2,by unfold M.gcd at h5;omega,h6,hy.1,hy.2⟩
theorem uP {a b X Y E:Int} (h1:1≤E) (h2:E≤20) (h3:-10000≤X) (h4:X≤10000) (h5:Int.gcd X E=1) (h6:Y*Y=cv a b X E):bS a b X Y E=true:=by
 unfold bS
 rw [if_neg (by omega)]
 simp only [Bool.and_eq_true,decide_eq_true_eq,M.ins,beq_iff_eq]
 exact ⟨⟨⟨⟨h3,h4⟩,h1,h2⟩,by unfold M.gcd;omega⟩,h6⟩
theorem rE {a b X1 Y1 E1 X2 Y2 E2:Int} (hin:M.bB a b=true) (hp:bS a b X1 Y1 E1=true) (hq:bS a b X2 Y2 E2=true):bS a b (f9 a X1 Y1 E1 X2 Y2 E2) (iM a X1 Y1 E1 X2 Y2 E2) (f8 a X1 Y1 E1 X2 Y2 E2)=true:=by
 unfold f9 iM f8
 by_cases h1:E1=0
 ·rw [if_pos h1,if_pos h1,if_pos h1];exact hq
 rw [if_neg h1,if_neg h1,if_neg h1]
 by_cases h2:E2=0
 ·rw [if_pos h2,if_pos h2,if_pos h2];exact hp
 rw [if_neg h2,if_neg h2,if_neg h2]
 have z0:bS a b 0 0 0=true:=rfl
 by_cases h0:sD X1 Y1 E1 X2 Y2 E2=0
 ·unfold fnX fnY fnE
  rw [if_pos h0,if_pos h0,if_pos h0];exact z0
 cases hk:gC a X1 Y1 E1 X2 Y2 E2
 ·obtain ⟨q1,q2,q3⟩:=pG h0 hk
  rw [q1,q2,q3];exact z0
 obtain ⟨p1,p2,p3,p4,p5,p6,-⟩:=(ep hin hp).resolve_left (fun h=>h1 h.1)
 obtain ⟨r1,r2,r3,r4,r5,r6,-⟩:=(ep hin hq).resolve_left (fun h=>h2 h.1)
 obtain ⟨-,-,H⟩:=pF (n:=slN a X1 Y1 E1 X2 Y2 E2) (m:=slD a X1 Y1 E1 X2 Y2 E2) p6 r6 p4 r4 p1 p2 r1 r2 h0 (Or.inl ⟨rfl,rfl⟩)
 obtain ⟨c1,c2,c3,c4,c5,-,-,c8,-⟩:=H hk _ _ _ rfl rfl rfl
 exact uP c1 c2 c3 c4 c5 c8
theorem d9 {a b X Y E:Int} (hin:M.bB a b=true) (h:bS a b X Y E=true):-10000≤X∧X≤10000∧0≤E∧E≤20∧-3000000≤Y∧Y≤3000000:=by
 rcases ep hin h with ⟨rfl,rfl,rfl⟩ | ⟨h1,h2,h3,h4,-,-,h7,h8⟩ <;> omega
end M
theorem lk (a b X1 Y1 E1 X2 Y2 E2:Int) (w:World) (hg:M.good a b=true) (hp:M.bS a b X1 Y1 E1=true) (hq:M.bS a b X2 Y2 E2=true) :
  Calls Tryz.prog 96 #[.agg #[.int .i64 a,.int .i64 b],.agg #[.int .i64 X1,.int .i64 Y1,.int .i64 E1],.agg #[.int .i64 X2,.int .i64 Y2,.int .i64 E2]] w fun e w'=>e=.returned (.tuple #[.agg #[.int .i64 (M.f9 a X1 Y1 E1 X2 Y2 E2),.int .i64 (M.iM a X1 Y1 E1 X2 Y2 E2),.int .i64 (M.f8 a X1 Y1 E1 X2 Y2 E2)],.bool (M.eJ a X1 Y1 E1 X2 Y2 E2)])∧Below w.heap.size w w':=by
 have hin:=M.bI hg
 obtain ⟨ha1,ha2,hb1,hb2⟩:=M.aj hin
 by_cases hE1:E1=0
 ·have hf:=ws (show M.f9 a X1 Y1 E1 X2 Y2 E2=X2∧M.iM a X1 Y1 E1 X2 Y2 E2=Y2∧M.f8 a X1 Y1 E1 X2 Y2 E2=E2∧M.eJ a X1 Y1 E1 X2 Y2 E2=true from ⟨if_pos hE1,if_pos hE1,if_pos hE1,if_pos hE1⟩)
  rw [hf.out.1,hf.out.2.1,hf.out.2.2.1,hf.out.2.2.2]
  clear hf hg hp hq hin
  subst hE1
  have C:=(((aH.new w #[.int .i64 a,.int .i64 b] 29).alloc (.cells #[.int .i64 X1,.int .i64 Y1,.int .i64 0] 57)).alloc (.cells #[.int .i64 X2,.int .i64 Y2,.int .i64 E2] 57)).alloc (.cells #[.int .i64 0,.int .i64 0,.int .i64 0] 57)
  have Q:=((aH.new (w.alloc (.cells #[.int .i64 a,.int .i64 b] 29)) #[.int .i64 X1,.int .i64 Y1,.int .i64 0] 57).alloc (.cells #[.int .i64 X2,.int .i64 Y2,.int .i64 E2] 57)).alloc (.cells #[.int .i64 0,.int .i64 0,.int .i64 0] 57)
  rw [wt] at Q
  have U:=(aH.new ((w.alloc (.cells #[.int .i64 a,.int .i64 b] 29)).alloc (.cells #[.int .i64 X1,.int .i64 Y1,.int .i64 0] 57)) #[.int .i64 X2,.int .i64 Y2,.int .i64 E2] 57).alloc (.cells #[.int .i64 0,.int .i64 0,.int .i64 0] 57)
  rw [wt,wt] at U
  have R:=aH.new (((w.alloc (.cells #[.int .i64 a,.int .i64 b] 29)).alloc (.cells #[.int .i64 X1,.int .i64 Y1,.int .i64 0] 57)).alloc (.cells #[.int .i64 X2,.int .i64 Y2,.int .i64 E2] 57)) #[.int .i64 0,.int .i64 0,.int .i64 0] 57
  rw [wt,wt,wt] at R
  have B:=((((ww w.heap.size w).alloc (xA _) (.cells #[.int .i64 a,.int .i64 b] 29)).alloc (by rw [wt];omega) (.cells #[.int .i64 X1,.int .i64 Y1,.int .i64 0] 57)).alloc (by rw [wt,wt];omega) (.cells #[.int .i64 X2,.int .i64 Y2,.int .i64 E2] 57)).alloc (by rw [wt,wt,wt];omega) (.cells #[.int .i64 0,.int .i64 0,.int .i64 0] 57)
  generalize hw3:(((w.alloc (.cells #[.int .i64 a,.int .i64 b] 29)).alloc (.cells #[.int .i64 X1,.int .i64 Y1,.int .i64 0] 57)).alloc (.cells #[.int .i64 X2,.int .i64 Y2,.int .i64 E2] 57)).alloc (.cells #[.int .i64 0,.int .i64 0,.int .i64 0] 57)=wc at *
  have C_c0:=C.box.c0
  have C_c1:=C.box.c1
  have ⟨q0,q1,q2⟩:=Q.aQ
  have ⟨u0,u1,u2⟩:=U.aQ
  have ⟨r0,r1,r2⟩:=R.aQ
  have f0:=R.frz 0
  have f1:=R.frz 1
  have f2:=R.frz 2
  have rl:=R.lt
  go_enter Tryz.func96,Tryz.ntmps96
  go_wp2
  exact bodyPost_ret (v:=.tuple #[.agg #[.int .i64 X2,.int .i64 Y2,.int .i64 E2],.bool true]) (by simp [results,Tryz.results96,go_sem, *]) rfl (⟨rfl,wu (wu (wu B (by simp;omega) _) (by simp;omega) _) (by simp;omega) _⟩)
 obtain ⟨p1,p2,p3,p4,p5,p6,p7,p8⟩:=(M.ep hin hp).resolve_left (fun h=>hE1 h.1)
 by_cases hE2:E2=0
 ·have hf:=ws (show M.f9 a X1 Y1 E1 X2 Y2 E2=X1∧M.iM a X1 Y1 E1 X2 Y2 E2=Y1∧M.f8 a X1 Y1 E1 X2 Y2 E2=E1∧M.eJ a X1 Y1 E1 X2 Y2 E2=true from ⟨(if_neg hE1).trans (if_pos hE2),(if_neg hE1).trans (if_pos hE2),(if_neg hE1).trans (if_pos hE2),(if_neg hE1).trans (if_pos hE2)⟩)
  rw [hf.out.1,hf.out.2.1,hf.out.2.2.1,hf.out.2.2.2]
  clear hf hg hp hq hin p5 p6
  have hE3:(E1 == 0)=false:=by rw [beq_eq_false_iff_ne];exact hE1
  subst hE2
  have C:=(((aH.new w #[.int .i64 a,.int .i64 b] 29).alloc (.cells #[.int .i64 X1,.int .i64 Y1,.int .i64 E1] 57)).alloc (.cells #[.int .i64 X2,.int .i64 Y2,.int .i64 0] 57)).alloc (.cells #[.int .i64 0,.int .i64 0,.int .i64 0] 57)
  have Q:=((aH.new (w.alloc (.cells #[.int .i64 a,.int .i64 b] 29)) #[.int .i64 X1,.int .i64 Y1,.int .i64 E1] 57).alloc (.cells #[.int .i64 X2,.int .i64 Y2,.int .i64 0] 57)).alloc (.cells #[.int .i64 0,.int .i64 0,.int .i64 0] 57)
  rw [wt] at Q
  have U:=(aH.new ((w.alloc (.cells #[.int .i64 a,.int .i64 b] 29)).alloc (.cells #[.int .i64 X1,.int .i64 Y1,.int .i64 E1] 57)) #[.int .i64 X2,.int .i64 Y2,.int .i64 0] 57).alloc (.cells #[.int .i64 0,.int .i64 0,.int .i64 0] 57)
  rw [wt,wt] at U
  have R:=aH.new (((w.alloc (.cells #[.int .i64 a,.int .i64 b] 29)).alloc (.cells #[.int .i64 X1,.int .i64 Y1,.int .i64 E1] 57)).alloc (.cells #[.int .i64 X2,.int .i64 Y2,.int .i64 0] 57)) #[.int .i64 0,.int .i64 0,.int .i64 0] 57
  rw [wt,wt,wt] at R
  have B:=((((ww w.heap.size w).alloc (xA _) (.cells #[.int .i64 a,.int .i64 b] 29)).alloc (by rw [wt];omega) (.cells #[.int .i64 X1,.int .i64 Y1,.int .i64 E1] 57)).alloc (by rw [wt,wt];omega) (.cells #[.int .i64 X2,.int .i64 Y2,.int .i64 0] 57)).alloc (by rw [wt,wt,wt];omega) (.cells #[.int .i64 0,.int .i64 0,.int .i64 0] 57)
  generalize hw3:(((w.alloc (.cells #[.int .i64 a,.int .i64 b] 29)).alloc (.cells #[.int .i64 X1,.int .i64 Y1,.int .i64 E1] 57)).alloc (.cells #[.int .i64 X2,.int .i64 Y2,.int .i64 0] 57)).alloc (.cells #[.int .i64 0,.int .i64 0,.int .i64 0] 57)=wc at *
  have C_c0:=C.box.c0
  have C_c1:=C.box.c1
  have ⟨q0,q1,q2⟩:=Q.aQ
  have ⟨u0,u1,u2⟩:=U.aQ
  have ⟨r0,r1,r2⟩:=R.aQ
  have f0:=R.frz 0
  have f1:=R.frz 1
  have f2:=R.frz 2
  have rl:=R.lt
  go_enter Tryz.func96,Tryz.ntmps96
  go_wp2
  exact bodyPost_ret (v:=.tuple #[.agg #[.int .i64 X1,.int .i64 Y1,.int .i64 E1],.bool true]) (by simp [results,Tryz.results96,go_sem, *]) rfl (⟨rfl,wu (wu (wu B (by simp;omega) _) (by simp;omega) _) (by simp;omega) _⟩)
 obtain ⟨r1,r2,r3,r4,r5,r6,r7,r8⟩:=(M.ep hin hq).resolve_left (fun h=>hE2 h.1)
 have hf:=ws (show M.f9 a X1 Y1 E1 X2 Y2 E2=M.fnX a X1 Y1 E1 X2 Y2 E2∧M.iM a X1 Y1 E1 X2 Y2 E2=M.fnY a X1 Y1 E1 X2 Y2 E2∧M.f8 a X1 Y1 E1 X2 Y2 E2=M.fnE a X1 Y1 E1 X2 Y2 E2∧M.eJ a X1 Y1 E1 X2 Y2 E2=M.gC a X1 Y1 E1 X2 Y2 E2 from ⟨(if_neg hE1).trans (if_neg hE2),(if_neg hE1).trans (if_neg hE2),(if_neg hE1).trans (if_neg hE2),(if_neg hE1).trans (if_neg hE2)⟩)
 rw [hf.out.1,hf.out.2.1,hf.out.2.2.1,hf.out.2.2.2]
 exact rH a b X1 Y1 E1 X2 Y2 E2 w ha1 ha2 p3 p4 p7 p8 p1 p2 r3 r4 r7 r8 r1 r2 hb1 hb2 p6 r6 p5 r5
theorem uO (a b X1 Y1 E1 X2 Y2 E2:Int) (w:World) (hg:M.good a b=true) (hp:M.bS a b X1 Y1 E1=true) (hq:M.bS a b X2 Y2 E2=true) :
  Calls Tryz.prog 86 #[.agg #[.int .i64 a,.int .i64 b],.agg #[.int .i64 X1,.int .i64 Y1,.int .i64 E1],.agg #[.int .i64 X2,.int .i64 Y2,.int .i64 E2]] w fun e w'=>e=.returned (.tuple #[.agg #[.int .i64 (M.f9 a X1 Y1 E1 X2 Y2 E2),.int .i64 (M.iM a X1 Y1 E1 X2 Y2 E2),.int .i64 (M.f8 a X1 Y1 E1 X2 Y2 E2)],.bool (M.eJ a X1 Y1 E1 X2 Y2 E2)])∧Below w.heap.size w w':=by
 have hin:=M.bI hg
 obtain ⟨ha1,ha2,hb1,hb2⟩:=M.aj hin
 by_cases hE1:E1=0
 ·have hf:=ws (show M.f9 a X1 Y1 E1 X2 Y2 E2=X2∧M.iM a X1 Y1 E1 X2 Y2 E2=Y2∧M.f8 a X1 Y1 E1 X2 Y2 E2=E2∧M.eJ a X1 Y1 E1 X2 Y2 E2=true from ⟨if_pos hE1,if_pos hE1,if_pos hE1,if_pos hE1⟩)
  rw [hf.out.1,hf.out.2.1,hf.out.2.2.1,hf.out.2.2.2]
  clear hf hg hp hq hin
  subst hE1
  have C:=(((aH.new w #[.int .i64 a,.int .i64 b] 29).alloc (.cells #[.int .i64 X1,.int .i64 Y1,.int .i64 0] 57)).alloc (.cells #[.int .i64 X2,.int .i64 Y2,.int .i64 E2] 57)).alloc (.cells #[.int .i64 0,.int .i64 0,.int .i64 0] 57)
  have Q:=((aH.new (w.alloc (.cells #[.int .i64 a,.int .i64 b] 29)) #[.int .i64 X1,.int .i64 Y1,.int .i64 0] 57).alloc (.cells #[.int .i64 X2,.int .i64 Y2,.int .i64 E2] 57)).alloc (.cells #[.int .i64 0,.int .i64 0,.int .i64 0] 57)
  rw [wt] at Q
  have U:=(aH.new ((w.alloc (.cells #[.int .i64 a,.int .i64 b] 29)).alloc (.cells #[.int .i64 X1,.int .i64 Y1,.int .i64 0] 57)) #[.int .i64 X2,.int .i64 Y2,.int .i64 E2] 57).alloc (.cells #[.int .i64 0,.int .i64 0,.int .i64 0] 57)
  rw [wt,wt] at U
  have R:=aH.new (((w.alloc (.cells #[.int .i64 a,.int .i64 b] 29)).alloc (.cells #[.int .i64 X1,.int .i64 Y1,.int .i64 0] 57)).alloc (.cells #[.int .i64 X2,.int .i64 Y2,.int .i64 E2] 57)) #[.int .i64 0,.int .i64 0,.int .i64 0] 57
  rw [wt,wt,wt] at R
  have B:=((((ww w.heap.size w).alloc (xA _) (.cells #[.int .i64 a,.int .i64 b] 29)).alloc (by rw [wt];omega) (.cells #[.int .i64 X1,.int .i64 Y1,.int .i64 0] 57)).alloc (by rw [wt,wt];omega) (.cells #[.int .i64 X2,.int .i64 Y2,.int .i64 E2] 57)).alloc (by rw [wt,wt,wt];omega) (.cells #[.int .i64 0,.int .i64 0,.int .i64 0] 57)
  generalize hw3:(((w.alloc (.cells #[.int .i64 a,.int .i64 b] 29)).alloc (.cells #[.int .i64 X1,.int .i64 Y1,.int .i64 0] 57)).alloc (.cells #[.int .i64 X2,.int .i64 Y2,.int .i64 E2] 57)).alloc (.cells #[.int .i64 0,.int .i64 0,.int .i64 0] 57)=wc at *
  have C_c0:=C.box.c0
  have C_c1:=C.box.c1
  have ⟨q0,q1,q2⟩:=Q.aQ
  have ⟨u0,u1,u2⟩:=U.aQ
  have ⟨r0,r1,r2⟩:=R.aQ
  have f0:=R.frz 0
  have f1:=R.frz 1
  have f2:=R.frz 2
  have rl:=R.lt
  go_enter Tryz.func86,Tryz.ntmps86
  go_wp2
  exact bodyPost_ret (v:=.tuple #[.agg #[.int .i64 X2,.int .i64 Y2,.int .i64 E2],.bool true]) (by simp [results,Tryz.results86,go_sem, *]) rfl (⟨rfl,wu (wu (wu B (by simp;omega) _) (by simp;omega) _) (by simp;omega) _⟩)
 obtain ⟨p1,p2,p3,p4,p5,p6,p7,p8⟩:=(M.ep hin hp).resolve_left (fun h=>hE1 h.1)
 by_cases hE2:E2=0
 ·have hf:=ws (show M.f9 a X1 Y1 E1 X2 Y2 E2=X1∧M.iM a X1 Y1 E1 X2 Y2 E2=Y1∧M.f8 a X1 Y1 E1 X2 Y2 E2=E1∧M.eJ a X1 Y1 E1 X2 Y2 E2=true from ⟨(if_neg hE1).trans (if_pos hE2),(if_neg hE1).trans (if_pos hE2),(if_neg hE1).trans (if_pos hE2),(if_neg hE1).trans (if_pos hE2)⟩)
  rw [hf.out.1,hf.out.2.1,hf.out.2.2.1,hf.out.2.2.2]
  clear hf hg hp hq hin p5 p6
  have hE3:(E1 == 0)=false:=by rw [beq_eq_false_iff_ne];exact hE1
  subst hE2
  have C:=(((aH.new w #[.int .i64 a,.int .i64 b] 29).alloc (.cells #[.int .i64 X1,.int .i64 Y1,.int .i64 E1] 57)).alloc (.cells #[.int .i64 X2,.int .i64 Y2,.int .i64 0] 57)).alloc (.cells #[.int .i64 0,.int .i64 0,.int .i64 0] 57)
  have Q:=((aH.new (w.alloc (.cells #[.int .i64 a,.int .i64 b] 29)) #[.int .i64 X1,.int .i64 Y1,.int .i64 E1] 57).alloc (.cells #[.int .i64 X2,.int .i64 Y2,.int .i64 0] 57)).alloc (.cells #[.int .i64 0,.int .i64 0,.int .i64 0] 57)
  rw [wt] at Q
  have U:=(aH.new ((w.alloc (.cells #[.int .i64 a,.int .i64 b] 29)).alloc (.cells #[.int .i64 X1,.int .i64 Y1,.int .i64 E1] 57)) #[.int .i64 X2,.int .i64 Y2,.int .i64 0] 57).alloc (.cells #[.int .i64 0,.int .i64 0,.int .i64 0] 57)
  rw [wt,wt] at U
  have R:=aH.new (((w.alloc (.cells #[.int .i64 a,.int .i64 b] 29)).alloc (.cells #[.int .i64 X1,.int .i64 Y1,.int .i64 E1] 57)).alloc (.cells #[.int .i64 X2,.int .i64 Y2,.int .i64 0] 57)) #[.int .i64 0,.int .i64 0,.int .i64 0] 57
  rw [wt,wt,wt] at R
  have B:=((((ww w.heap.size w).alloc (xA _) (.cells #[.int .i64 a,.int .i64 b] 29)).alloc (by rw [wt];omega) (.cells #[.int .i64 X1,.int .i64 Y1,.int .i64 E1] 57)).alloc (by rw [wt,wt];omega) (.cells #[.int .i64 X2,.int .i64 Y2,.int .i64 0] 57)).alloc (by rw [wt,wt,wt];omega) (.cells #[.int .i64 0,.int .i64 0,.int .i64 0] 57)
  generalize hw3:(((w.alloc (.cells #[.int .i64 a,.int .i64 b] 29)).alloc (.cells #[.int .i64 X1,.int .i64 Y1,.int .i64 E1] 57)).alloc (.cells #[.int .i64 X2,.int .i64 Y2,.int .i64 0] 57)).alloc (.cells #[.int .i64 0,.int .i64 0,.int .i64 0] 57)=wc at *
  have C_c0:=C.box.c0
  have C_c1:=C.box.c1
  have ⟨q0,q1,q2⟩:=Q.aQ
  have ⟨u0,u1,u2⟩:=U.aQ
  have ⟨r0,r1,r2⟩:=R.aQ
  have f0:=R.frz 0
  have f1:=R.frz 1
  have f2:=R.frz 2
  have rl:=R.lt
  go_enter Tryz.func86,Tryz.ntmps86
  go_wp2
  exact bodyPost_ret (v:=.tuple #[.agg #[.int .i64 X1,.int .i64 Y1,.int .i64 E1],.bool true]) (by simp [results,Tryz.results86,go_sem, *]) rfl (⟨rfl,wu (wu (wu B (by simp;omega) _) (by simp;omega) _) (by simp;omega) _⟩)
 obtain ⟨r1,r2,r3,r4,r5,r6,r7,r8⟩:=(M.ep hin hq).resolve_left (fun h=>hE2 h.1)
 have hf:=ws (show M.f9 a X1 Y1 E1 X2 Y2 E2=M.fnX a X1 Y1 E1 X2 Y2 E2∧M.iM a X1 Y1 E1 X2 Y2 E2=M.fnY a X1 Y1 E1 X2 Y2 E2∧M.f8 a X1 Y1 E1 X2 Y2 E2=M.fnE a X1 Y1 E1 X2 Y2 E2∧M.eJ a X1 Y1 E1 X2 Y2 E2=M.gC a X1 Y1 E1 X2 Y2 E2 from ⟨(if_neg hE1).trans (if_neg hE2),(if_neg hE1).trans (if_neg hE2),(if_neg hE1).trans (if_neg hE2),(if_neg hE1).trans (if_neg hE2)⟩)
 rw [hf.out.1,hf.out.2.1,hf.out.2.2.1,hf.out.2.2.2]
 exact oL a b X1 Y1 E1 X2 Y2 E2 w ha1 ha2 p3 p4 p7 p8 p1 p2 r3 r4 r7 r8 r1 r2 hb1 hb2 p6 r6
theorem dT {B:Nat} {w w':World} (h:Below B w w') (p:Addr) (x:Value):Below B (w.setCell p x) (w'.setCell p x):=
 ⟨h.os,h.tape,h.output,by simp [World.setCell];exact h.size,fun k hk=>by
  show (w'.heap.modify p.block _)[k]?=(w.heap.modify p.block _)[k]?
  rw [Array.getElem?_modify,Array.getElem?_modify,h.block k hk]⟩
theorem aZ (w:World) (p:Addr) (x:Value):(w.setCell p x).heap.size=w.heap.size:=by simp [World.setCell]
theorem bD {w w':World} {p:Addr} {x:Value} (h:Below w.heap.size (w.setCell p x) w'):Below (w.setCell p x).heap.size (w.setCell p x) w':=h.mono (Nat.le_of_eq (aZ w p x))
theorem k9 (g:Nat) (ok:Bool) (lo hi:Int) (w:World) (K:aH w g 94 #[.bool ok]) :
  Calls Tryz.prog 98 #[.pointer (some ⟨g,0,none⟩),.agg #[.int .i64 lo,.int .i64 hi]] w fun e w'=>e=.returned (.agg #[.int .i64 (M.pick (ok && M.aN lo hi) lo),.int .i64 (M.pick (ok && M.aN lo hi) hi)])∧Below w.heap.size (w.setCell ⟨g,0,none⟩ (.bool (ok && M.aN lo hi))) w':=by
 have PV:=ws fun W=>lc lo hi W
 have hgl:=K.lt
 have B:=((ww w.heap.size w).alloc (xA _) (.cells #[.int .i64 lo,.int .i64 hi] 68)).alloc (by rw [wt];omega) (.cells #[.int .i64 0,.int .i64 0] 68)
 have S:=(aH.new w #[.int .i64 lo,.int .i64 hi] 68).alloc (.cells #[.int .i64 0,.int .i64 0] 68)
 have R:=aH.new (w.alloc (.cells #[.int .i64 lo,.int .i64 hi] 68)) #[.int .i64 0,.int .i64 0] 68
 rw [wt] at R
 have K2:=(K.alloc (.cells #[.int .i64 lo,.int .i64 hi] 68)).alloc (.cells #[.int .i64 0,.int .i64 0] 68)
 generalize hw3:(w.alloc (.cells #[.int .i64 lo,.int .i64 hi] 68)).alloc (.cells #[.int .i64 0,.int .i64 0] 68)=wc at *
 have k0:=K2.cell 0
 have kf:=K2.frz 0
 have kl:=K2.lt
 have n1:g≠w.heap.size:=by omega
 have n2:g≠w.heap.size+1:=by omega
 have ⟨s0,s1,s2,s3,s4⟩:=S.box
 have ⟨r0,r1,r2,r3,r4⟩:=R.box
 cases ok
 ·go_enter Tryz.func98,Tryz.ntmps98
  go_wp2
  exact bodyPost_ret (v:=.agg #[.int .i64 0,.int .i64 0]) (by simp [results,Tryz.results98,go_sem, *]) rfl (⟨rfl,wu (wu (dT B ⟨g,0,none⟩ (.bool false)) (by simp) _) (by simp) _⟩)
 cases hv:M.aN lo hi
 ·rw [hv] at PV
  go_enter Tryz.func98,Tryz.ntmps98
  go_wp2_with (go_at_call 119;(with_reducible refine (PV.out _).mono ?_);rintro e w4 ⟨rfl,hb4⟩;(replace B:=B.trans (hb4.mono B.size));(replace S:=S.keep hb4);(replace R:=R.keep hb4);(replace K2:=K2.keep hb4);(have k0:=K2.cell 0);(have kf:=K2.frz 0);(have kl:=K2.lt);(obtain ⟨s0,s1,s2,s3,s4⟩:=S.box);(obtain ⟨r0,r1,r2,r3,r4⟩:=R.box))
  exact bodyPost_ret (v:=.agg #[.int .i64 0,.int .i64 0]) (by simp [results,Tryz.results98,go_sem, *]) rfl (⟨rfl,wu (wu (dT B ⟨g,0,none⟩ (.bool false)) (by simp) _) (by simp) _⟩)
 rw [hv] at PV
 go_enter Tryz.func98,Tryz.ntmps98
 go_wp2_with (go_at_call 119;(with_reducible refine (PV.out _).mono ?_);rintro e w4 ⟨rfl,hb4⟩;(replace B:=B.trans (hb4.mono B.size));(replace S:=S.keep hb4);(replace R:=R.keep hb4);(replace K2:=K2.keep hb4);(have k0:=K2.cell 0);(have kf:=K2.frz 0);(have kl:=K2.lt);(obtain ⟨s0,s1,s2,s3,s4⟩:=S.box);(obtain ⟨r0,r1,r2,r3,r4⟩:=R.box))
 exact bodyPost_ret (v:=.agg #[.int .i64 lo,.int .i64 hi]) (by simp [results,Tryz.results98,go_sem, *]) rfl (⟨rfl,wu (wu (dT B ⟨g,0,none⟩ (.bool true)) (by simp) _) (by simp) _⟩)
namespace M
abbrev Sp:=Option (Int × Int)
def slo (s:Sp):Int:=(s.getD (0,0)).1
def shi (s:Sp):Int:=(s.getD (0,0)).2
def mkS (l h:Int):Sp:=if aN l h=true then some (l,h) else none
def eK (s t:Sp):Sp:=s.bind fun p=>t.bind fun q=>mkS (p.1+q.1) (p.2+q.2)
def cP (s t:Sp):Sp:=s.bind fun p=>t.bind fun q=>mkS (p.1 - q.2) (p.2 - q.1)
def eS (s t:Sp):Sp:=s.bind fun p=>t.bind fun q=>mkS (cU p.1 p.2 q.1 q.2 / 4096) (-(-cQ p.1 p.2 q.1 q.2 / 4096))
noncomputable def bi (a b X E:Int):Sp:=if bOk a b X E=true then some (bL a b X E (bN a b X E),bH a b X E (bN a b X E)) else none
def gd (f:Bool) (s:Sp):Sp:=if f=true then s else none
def okS (s:Sp):Prop:=∀ p,s=some p→aN p.1 p.2=true
theorem d7:okS none:=fun _ h=>by cases h
theorem vT (l h:Int):okS (mkS l h):=by
 intro p hp
 unfold mkS at hp
 split at hp
 ·injection hp with hp;subst hp;assumption
 cases hp
theorem gw {f:Bool} {s:Sp} (h:okS s):okS (gd f s):=by
 unfold gd;split
 ·exact h
 exact d7
theorem gv {s t:Sp} {F G:Int × Int→Int × Int→Int}:okS (s.bind fun p=>t.bind fun q=>mkS (F p q) (G p q)):=by
 cases s
 ·exact d7
 cases t
 ·exact d7
 exact vT _ _
theorem pR {s t:Sp}:okS (eK s t):=gv
theorem ik {s t:Sp}:okS (cP s t):=gv
theorem pS {s t:Sp}:okS (eS s t):=gv
theorem fR {s:Sp} (h:okS s):slo s≤shi s∧-409600000≤slo s∧shi s≤409600000:=by
 cases s with
 | none=>exact ⟨Int.le_refl _,by decide,by decide⟩
 | some p=>exact bq (h p rfl)
theorem ou {a b X E:Int} (hin:M.bB a b=true) (hX1:-10000≤X) (hX2:X≤10000) (hE1:0≤E) (hE2:E≤20) (h:bOk a b X E=true):aN (bL a b X E (bN a b X E)) (bH a b X E (bN a b X E))=true:=by
 cases hs:aN (bL a b X E (bN a b X E)) (bH a b X E (bN a b X E))
 ·rw [wI hin hX1 hX2 hE1 hE2 (xA _) hs] at h;cases h
 rfl
theorem d6 {a b X E:Int} (hin:M.bB a b=true) (hX1:-10000≤X) (hX2:X≤10000) (hE1:0≤E) (hE2:E≤20):okS (bi a b X E):=by
 intro p hp
 unfold bi at hp
 split at hp
 ·rename_i h
  injection hp with hp;subst hp;exact ou hin hX1 hX2 hE1 hE2 h
 cases hp
theorem step2 {ok:Bool} {s t:Sp} {F G:Int→Int→Int→Int→Int} (h1:ok=true→s.isSome=true) (h2:ok=true→t.isSome=true):(ok && aN (F (slo s) (shi s) (slo t) (shi t)) (G (slo s) (shi s) (slo t) (shi t)))=(gd ok (s.bind fun p=>t.bind fun q=>mkS (F p.1 p.2 q.1 q.2) (G p.1 p.2 q.1 q.2))).isSome∧pick (ok && aN (F (slo s) (shi s) (slo t) (shi t)) (G (slo s) (shi s) (slo t) (shi t))) (F (slo s) (shi s) (slo t) (shi t))=slo (gd ok (s.bind fun p=>t.bind fun q=>mkS (F p.1 p.2 q.1 q.2) (G p.1 p.2 q.1 q.2)))∧pick (ok && aN (F (slo s) (shi s) (slo t) (shi t)) (G (slo s) (shi s) (slo t) (shi t))) (G (slo s) (shi s) (slo t) (shi t))=shi (gd ok (s.bind fun p=>t.bind fun q=>mkS (F p.1 p.2 q.1 q.2) (G p.1 p.2 q.1 q.2))):=by
 cases ok with
 | false=>exact ⟨rfl,rfl,rfl⟩
 | true=>
 obtain ⟨p,rfl⟩:=Option.isSome_iff_exists.1 (h1 rfl)
 obtain ⟨q,rfl⟩:=Option.isSome_iff_exists.1 (h2 rfl)
 show (true && aN (F p.1 p.2 q.1 q.2) (G p.1 p.2 q.1 q.2))=(mkS (F p.1 p.2 q.1 q.2) (G p.1 p.2 q.1 q.2)).isSome∧pick (true && aN (F p.1 p.2 q.1 q.2) (G p.1 p.2 q.1 q.2)) (F p.1 p.2 q.1 q.2)=slo (mkS (F p.1 p.2 q.1 q.2) (G p.1 p.2 q.1 q.2))∧pick (true && aN (F p.1 p.2 q.1 q.2) (G p.1 p.2 q.1 q.2)) (G p.1 p.2 q.1 q.2)=shi (mkS (F p.1 p.2 q.1 q.2) (G p.1 p.2 q.1 q.2))
 unfold mkS
 cases aN (F p.1 p.2 q.1 q.2) (G p.1 p.2 q.1 q.2) <;> exact ⟨rfl,rfl,rfl⟩
end M
theorem sZ (g:Nat) (ok:Bool) (a b c d:Int) (w:World) (K:aH w g 94 #[.bool ok]) (h1:-4000000000000000000≤a) (h2:a≤4000000000000000000) (h3:-4000000000000000000≤b) (h4:b≤4000000000000000000) (h5:-4000000000000000000≤c) (h6:c≤4000000000000000000) (h7:-4000000000000000000≤d) (h8:d≤4000000000000000000) :
  Calls Tryz.prog 81 #[.pointer (some ⟨g,0,none⟩),.agg #[.int .i64 a,.int .i64 b],.agg #[.int .i64 c,.int .i64 d]] w fun e w'=>e=.returned (.agg #[.int .i64 (M.pick (ok && M.aN (a+c) (b+d)) (a+c)),.int .i64 (M.pick (ok && M.aN (a+c) (b+d)) (b+d))])∧Below w.heap.size (w.setCell ⟨g,0,none⟩ (.bool (ok && M.aN (a+c) (b+d)))) w':=by
 have PP:=fun W=>vU a b c d W h1 h2 h3 h4 h5 h6 h7 h8
 have PK:=fun W (k:aH W g 94 #[.bool ok])=>k9 g ok (a+c) (b+d) W k
 generalize (a+c)=lo at *
 generalize (b+d)=hi at *
 generalize (ok && M.aN lo hi)=f at *
 replace PP:=ws PP
 replace PK:=ws PK
 have hgl:=K.lt
 have B:=(((ww w.heap.size w).alloc (xA _) (.cells #[.int .i64 a,.int .i64 b] 68)).alloc (by rw [wt];omega) (.cells #[.int .i64 c,.int .i64 d] 68)).alloc (by rw [wt,wt];omega) (.cells #[.int .i64 0,.int .i64 0] 68)
 have S:=((aH.new w #[.int .i64 a,.int .i64 b] 68).alloc (.cells #[.int .i64 c,.int .i64 d] 68)).alloc (.cells #[.int .i64 0,.int .i64 0] 68)
 have T:=(aH.new (w.alloc (.cells #[.int .i64 a,.int .i64 b] 68)) #[.int .i64 c,.int .i64 d] 68).alloc (.cells #[.int .i64 0,.int .i64 0] 68)
 rw [wt] at T
 have R:=aH.new ((w.alloc (.cells #[.int .i64 a,.int .i64 b] 68)).alloc (.cells #[.int .i64 c,.int .i64 d] 68)) #[.int .i64 0,.int .i64 0] 68
 rw [wt,wt] at R
 have K2:=((K.alloc (.cells #[.int .i64 a,.int .i64 b] 68)).alloc (.cells #[.int .i64 c,.int .i64 d] 68)).alloc (.cells #[.int .i64 0,.int .i64 0] 68)
 generalize hw3:((w.alloc (.cells #[.int .i64 a,.int .i64 b] 68)).alloc (.cells #[.int .i64 c,.int .i64 d] 68)).alloc (.cells #[.int .i64 0,.int .i64 0] 68)=wc at *
 have n1:w.heap.size+1+1≠g:=by omega
 have ⟨s0,s1,_,_,_⟩:=S.box
 have ⟨t0,t1,_,_,_⟩:=T.box
 go_enter Tryz.func81,Tryz.ntmps81
 go_wp2_with first | (go_at_call 100;(with_reducible refine (PP.out _).mono ?_);rintro e w4 ⟨rfl,hb4⟩;(replace B:=B.trans (hb4.mono B.size));(replace R:=R.keep hb4);(replace K2:=K2.keep hb4)) | (go_at_call 98;(with_reducible refine (PK.out _ K2).mono ?_);rintro e w5 ⟨rfl,hb5⟩;(have hz:=B.size);(replace B:=(dT B ⟨g,0,none⟩ (.bool f)).trans (hb5.mono hz));(replace R:=(R.other n1 (.bool f)).keep (bD hb5));(obtain ⟨r0,r1,r2,r3,r4⟩:=R.box))
 exact bodyPost_ret (v:=.agg #[.int .i64 (M.pick f lo),.int .i64 (M.pick f hi)]) (by simp [results,Tryz.results81,go_sem, *]) rfl (⟨rfl,wu (wu B (by simp;omega) _) (by simp;omega) _⟩)
theorem pM (g:Nat) (ok:Bool) (s t:M.Sp) (w:World) (K:aH w g 94 #[.bool ok]) (hs:M.okS s) (ht:M.okS t) (h1:ok=true→s.isSome=true) (h2:ok=true→t.isSome=true) :
  Calls Tryz.prog 81 #[.pointer (some ⟨g,0,none⟩),.agg #[.int .i64 (M.slo s),.int .i64 (M.shi s)],.agg #[.int .i64 (M.slo t),.int .i64 (M.shi t)]] w fun e w'=>e=.returned (.agg #[.int .i64 (M.slo (M.gd ok (M.eK s t))),.int .i64 (M.shi (M.gd ok (M.eK s t)))])∧Below w.heap.size (w.setCell ⟨g,0,none⟩ (.bool (M.gd ok (M.eK s t)).isSome)) w':=by
 obtain ⟨e1,e2,e3⟩:=M.step2 (F:=fun a _ c _=>a+c) (G:=fun _ b _ d=>b+d) h1 h2
 have b1:=M.fR hs
 have b2:=M.fR ht
 have h:=sZ g ok (M.slo s) (M.shi s) (M.slo t) (M.shi t) w K (by omega) (by omega) (by omega) (by omega) (by omega) (by omega) (by omega) (by omega)
 rw [e2,e3,e1] at h
 exact h
theorem qJ (g:Nat) (ok:Bool) (a b c d:Int) (w:World) (K:aH w g 94 #[.bool ok]) (h1:-4000000000000000000≤a) (h2:a≤4000000000000000000) (h3:-4000000000000000000≤b) (h4:b≤4000000000000000000) (h5:-4000000000000000000≤c) (h6:c≤4000000000000000000) (h7:-4000000000000000000≤d) (h8:d≤4000000000000000000) :
  Calls Tryz.prog 82 #[.pointer (some ⟨g,0,none⟩),.agg #[.int .i64 a,.int .i64 b],.agg #[.int .i64 c,.int .i64 d]] w fun e w'=>e=.returned (.agg #[.int .i64 (M.pick (ok && M.aN (a - d) (b - c)) (a - d)),.int .i64 (M.pick (ok && M.aN (a - d) (b - c)) (b - c))])∧Below w.heap.size (w.setCell ⟨g,0,none⟩ (.bool (ok && M.aN (a - d) (b - c)))) w':=by
 have PP:=fun W=>uJ a b c d W h1 h2 h3 h4 h5 h6 h7 h8
 have PK:=fun W (k:aH W g 94 #[.bool ok])=>k9 g ok (a - d) (b - c) W k
 generalize (a - d)=lo at *
 generalize (b - c)=hi at *
 generalize (ok && M.aN lo hi)=f at *
 replace PP:=ws PP
 replace PK:=ws PK
 have hgl:=K.lt
 have B:=(((ww w.heap.size w).alloc (xA _) (.cells #[.int .i64 a,.int .i64 b] 68)).alloc (by rw [wt];omega) (.cells #[.int .i64 c,.int .i64 d] 68)).alloc (by rw [wt,wt];omega) (.cells #[.int .i64 0,.int .i64 0] 68)
 have S:=((aH.new w #[.int .i64 a,.int .i64 b] 68).alloc (.cells #[.int .i64 c,.int .i64 d] 68)).alloc (.cells #[.int .i64 0,.int .i64 0] 68)
 have T:=(aH.new (w.alloc (.cells #[.int .i64 a,.int .i64 b] 68)) #[.int .i64 c,.int .i64 d] 68).alloc (.cells #[.int .i64 0,.int .i64 0] 68)
 rw [wt] at T
 have R:=aH.new ((w.alloc (.cells #[.int .i64 a,.int .i64 b] 68)).alloc (.cells #[.int .i64 c,.int .i64 d] 68)) #[.int .i64 0,.int .i64 0] 68
 rw [wt,wt] at R
 have K2:=((K.alloc (.cells #[.int .i64 a,.int .i64 b] 68)).alloc (.cells #[.int .i64 c,.int .i64 d] 68)).alloc (.cells #[.int .i64 0,.int .i64 0] 68)
 generalize hw3:((w.alloc (.cells #[.int .i64 a,.int .i64 b] 68)).alloc (.cells #[.int .i64 c,.int .i64 d] 68)).alloc (.cells #[.int .i64 0,.int .i64 0] 68)=wc at *
 have n1:w.heap.size+1+1≠g:=by omega
 have ⟨s0,s1,_,_,_⟩:=S.box
 have ⟨t0,t1,_,_,_⟩:=T.box
 go_enter Tryz.func82,Tryz.ntmps82
 go_wp2_with first | (go_at_call 101;(with_reducible refine (PP.out _).mono ?_);rintro e w4 ⟨rfl,hb4⟩;(replace B:=B.trans (hb4.mono B.size));(replace R:=R.keep hb4);(replace K2:=K2.keep hb4)) | (go_at_call 98;(with_reducible refine (PK.out _ K2).mono ?_);rintro e w5 ⟨rfl,hb5⟩;(have hz:=B.size);(replace B:=(dT B ⟨g,0,none⟩ (.bool f)).trans (hb5.mono hz));(replace R:=(R.other n1 (.bool f)).keep (bD hb5));(obtain ⟨r0,r1,r2,r3,r4⟩:=R.box))
 exact bodyPost_ret (v:=.agg #[.int .i64 (M.pick f lo),.int .i64 (M.pick f hi)]) (by simp [results,Tryz.results82,go_sem, *]) rfl (⟨rfl,wu (wu B (by simp;omega) _) (by simp;omega) _⟩)
theorem jT (g:Nat) (ok:Bool) (s t:M.Sp) (w:World) (K:aH w g 94 #[.bool ok]) (hs:M.okS s) (ht:M.okS t) (h1:ok=true→s.isSome=true) (h2:ok=true→t.isSome=true) :
  Calls Tryz.prog 82 #[.pointer (some ⟨g,0,none⟩),.agg #[.int .i64 (M.slo s),.int .i64 (M.shi s)],.agg #[.int .i64 (M.slo t),.int .i64 (M.shi t)]] w fun e w'=>e=.returned (.agg #[.int .i64 (M.slo (M.gd ok (M.cP s t))),.int .i64 (M.shi (M.gd ok (M.cP s t)))])∧Below w.heap.size (w.setCell ⟨g,0,none⟩ (.bool (M.gd ok (M.cP s t)).isSome)) w':=by
 obtain ⟨e1,e2,e3⟩:=M.step2 (F:=fun a _ _ d=>a - d) (G:=fun _ b c _=>b - c) h1 h2
 have b1:=M.fR hs
 have b2:=M.fR ht
 have h:=qJ g ok (M.slo s) (M.shi s) (M.slo t) (M.shi t) w K (by omega) (by omega) (by omega) (by omega) (by omega) (by omega) (by omega) (by omega)
 rw [e2,e3,e1] at h
 exact h
theorem qK (g:Nat) (ok:Bool) (a b c d:Int) (w:World) (K:aH w g 94 #[.bool ok]) (h1:-1000000000≤a) (h2:a≤1000000000) (h3:-1000000000≤b) (h4:b≤1000000000) (h5:-1000000000≤c) (h6:c≤1000000000) (h7:-1000000000≤d) (h8:d≤1000000000) :
  Calls Tryz.prog 80 #[.pointer (some ⟨g,0,none⟩),.agg #[.int .i64 a,.int .i64 b],.agg #[.int .i64 c,.int .i64 d]] w fun e w'=>e=.returned (.agg #[.int .i64 (M.pick (ok && M.aN (M.cU a b c d / 4096) (-(-M.cQ a b c d / 4096))) (M.cU a b c d / 4096)),.int .i64 (M.pick (ok && M.aN (M.cU a b c d / 4096) (-(-M.cQ a b c d / 4096))) (-(-M.cQ a b c d / 4096)))])∧Below w.heap.size (w.setCell ⟨g,0,none⟩ (.bool (ok && M.aN (M.cU a b c d / 4096) (-(-M.cQ a b c d / 4096))))) w':=by
 have PP:=fun W=>ub a b c d W h1 h2 h3 h4 h5 h6 h7 h8
 have PK:=fun W (k:aH W g 94 #[.bool ok])=>k9 g ok (M.cU a b c d / 4096) (-(-M.cQ a b c d / 4096)) W k
 generalize (M.cU a b c d / 4096)=lo at *
 generalize (-(-M.cQ a b c d / 4096))=hi at *
 generalize (ok && M.aN lo hi)=f at *
 replace PP:=ws PP
 replace PK:=ws PK
 have hgl:=K.lt
 have B:=(((ww w.heap.size w).alloc (xA _) (.cells #[.int .i64 a,.int .i64 b] 68)).alloc (by rw [wt];omega) (.cells #[.int .i64 c,.int .i64 d] 68)).alloc (by rw [wt,wt];omega) (.cells #[.int .i64 0,.int .i64 0] 68)
 have S:=((aH.new w #[.int .i64 a,.int .i64 b] 68).alloc (.cells #[.int .i64 c,.int .i64 d] 68)).alloc (.cells #[.int .i64 0,.int .i64 0] 68)
 have T:=(aH.new (w.alloc (.cells #[.int .i64 a,.int .i64 b] 68)) #[.int .i64 c,.int .i64 d] 68).alloc (.cells #[.int .i64 0,.int .i64 0] 68)
 rw [wt] at T
 have R:=aH.new ((w.alloc (.cells #[.int .i64 a,.int .i64 b] 68)).alloc (.cells #[.int .i64 c,.int .i64 d] 68)) #[.int .i64 0,.int .i64 0] 68
 rw [wt,wt] at R
 have K2:=((K.alloc (.cells #[.int .i64 a,.int .i64 b] 68)).alloc (.cells #[.int .i64 c,.int .i64 d] 68)).alloc (.cells #[.int .i64 0,.int .i64 0] 68)
 generalize hw3:((w.alloc (.cells #[.int .i64 a,.int .i64 b] 68)).alloc (.cells #[.int .i64 c,.int .i64 d] 68)).alloc (.cells #[.int .i64 0,.int .i64 0] 68)=wc at *
 have n1:w.heap.size+1+1≠g:=by omega
 have ⟨s0,s1,_,_,_⟩:=S.box
 have ⟨t0,t1,_,_,_⟩:=T.box
 go_enter Tryz.func80,Tryz.ntmps80
 go_wp2_with first | (go_at_call 99;(with_reducible refine (PP.out _).mono ?_);rintro e w4 ⟨rfl,hb4⟩;(replace B:=B.trans (hb4.mono B.size));(replace R:=R.keep hb4);(replace K2:=K2.keep hb4)) | (go_at_call 98;(with_reducible refine (PK.out _ K2).mono ?_);rintro e w5 ⟨rfl,hb5⟩;(have hz:=B.size);(replace B:=(dT B ⟨g,0,none⟩ (.bool f)).trans (hb5.mono hz));(replace R:=(R.other n1 (.bool f)).keep (bD hb5));(obtain ⟨r0,r1,r2,r3,r4⟩:=R.box))
 exact bodyPost_ret (v:=.agg #[.int .i64 (M.pick f lo),.int .i64 (M.pick f hi)]) (by simp [results,Tryz.results80,go_sem, *]) rfl (⟨rfl,wu (wu B (by simp;omega) _) (by simp;omega) _⟩)
theorem sc (g:Nat) (ok:Bool) (s t:M.Sp) (w:World) (K:aH w g 94 #[.bool ok]) (hs:M.okS s) (ht:M.okS t) (h1:ok=true→s.isSome=true) (h2:ok=true→t.isSome=true) :
  Calls Tryz.prog 80 #[.pointer (some ⟨g,0,none⟩),.agg #[.int .i64 (M.slo s),.int .i64 (M.shi s)],.agg #[.int .i64 (M.slo t),.int .i64 (M.shi t)]] w fun e w'=>e=.returned (.agg #[.int .i64 (M.slo (M.gd ok (M.eS s t))),.int .i64 (M.shi (M.gd ok (M.eS s t)))])∧Below w.heap.size (w.setCell ⟨g,0,none⟩ (.bool (M.gd ok (M.eS s t)).isSome)) w':=by
 obtain ⟨e1,e2,e3⟩:=M.step2 (F:=fun a b c d=>M.cU a b c d / 4096) (G:=fun a b c d=>-(-M.cQ a b c d / 4096)) h1 h2
 have b1:=M.fR hs
 have b2:=M.fR ht
 have h:=qK g ok (M.slo s) (M.shi s) (M.slo t) (M.shi t) w K (by omega) (by omega) (by omega) (by omega) (by omega) (by omega) (by omega) (by omega)
 rw [e2,e3,e1] at h
 exact h
theorem jA {B g:Nat} {w W:World} {T:TypeId} {u v x y:Value} (h:Below B w W) (K:aH w g T #[u]) (K2:aH W g T #[v]):Below B (w.setCell ⟨g,0,none⟩ y) ((W.setCell ⟨g,0,none⟩ x).setCell ⟨g,0,none⟩ y):=
 ⟨h.os,h.tape,h.output,by rw [aZ,aZ,aZ];exact h.size,fun k hk=>by
  by_cases hg:k=g
  ·subst hg
   exact ((K2.one x).one y).trans (K.one y).symm
  rw [Below.heap_setCell _ _ _ _ hg,Below.heap_setCell _ _ _ _ hg,Below.heap_setCell _ _ _ _ hg]
  exact h.block k hk⟩
theorem ie (g:Nat) (ok:Bool) (a b X Y E:Int) (w:World) (K:aH w g 94 #[.bool ok]) (hg:M.good a b=true) (hX1:-10000≤X) (hX2:X≤10000) (hE1:0≤E) (hE2:E≤20) :
  Calls Tryz.prog 95 #[.pointer (some ⟨g,0,none⟩),.agg #[.int .i64 a,.int .i64 b],.agg #[.int .i64 X,.int .i64 Y,.int .i64 E]] w fun e w'=>e=.returned (.agg #[.int .i64 (M.slo (M.gd ok (M.bi a b X E))),.int .i64 (M.shi (M.gd ok (M.bi a b X E)))])∧Below w.heap.size (w.setCell ⟨g,0,none⟩ (.bool (M.gd ok (M.bi a b X E)).isSome)) w':=by
 have PB:=fun W=>kh a b X Y E W hg hX1 hX2 hE1 hE2
 have hbo:=fun h=>M.ou (a:=a) (b:=b) (X:=X) (E:=E) (M.bI hg) hX1 hX2 hE1 hE2 h
 have hv:Hid (M.bi a b X E=if M.bOk a b X E=true then some (M.bL a b X E (M.bN a b X E),M.bH a b X E (M.bN a b X E)) else none):=ws rfl
 rw [hv.out]
 clear hv
 generalize M.bL a b X E (M.bN a b X E)=lo at *
 generalize M.bH a b X E (M.bN a b X E)=hi at *
 generalize M.bOk a b X E=bo at *
 generalize ((M.bN a b X E:Nat):Int)=bn at *
 have PK:=fun W (k:aH W g 94 #[.bool (ok && bo)])=>k9 g (ok && bo) lo hi W k
 have e1:(ok && bo && M.aN lo hi)=(M.gd ok (if bo=true then some (lo,hi) else none)).isSome:=by
  cases ok <;> cases bo <;> first | rfl | (rw [hbo rfl];rfl)
 have e2:M.pick (ok && bo && M.aN lo hi) lo=M.slo (M.gd ok (if bo=true then some (lo,hi) else none)):=by
  cases ok <;> cases bo <;> first | rfl | (rw [hbo rfl];rfl)
 have e3:M.pick (ok && bo && M.aN lo hi) hi=M.shi (M.gd ok (if bo=true then some (lo,hi) else none)):=by
  cases ok <;> cases bo <;> first | rfl | (rw [hbo rfl];rfl)
 rw [e2,e3,e1] at PK
 clear e1 e2 e3 hbo
 generalize M.gd ok (if bo=true then some (lo,hi) else none)=r at *
 replace PB:=ws PB
 have hgl:=K.lt
 have B:=(((ww w.heap.size w).alloc (xA _) (.cells #[.int .i64 a,.int .i64 b] 29)).alloc (by rw [wt];omega) (.cells #[.int .i64 X,.int .i64 Y,.int .i64 E] 57)).alloc (by rw [wt,wt];omega) (.cells #[.int .i64 0,.int .i64 0] 68)
 have C:=((aH.new w #[.int .i64 a,.int .i64 b] 29).alloc (.cells #[.int .i64 X,.int .i64 Y,.int .i64 E] 57)).alloc (.cells #[.int .i64 0,.int .i64 0] 68)
 have Q:=(aH.new (w.alloc (.cells #[.int .i64 a,.int .i64 b] 29)) #[.int .i64 X,.int .i64 Y,.int .i64 E] 57).alloc (.cells #[.int .i64 0,.int .i64 0] 68)
 rw [wt] at Q
 have R:=aH.new ((w.alloc (.cells #[.int .i64 a,.int .i64 b] 29)).alloc (.cells #[.int .i64 X,.int .i64 Y,.int .i64 E] 57)) #[.int .i64 0,.int .i64 0] 68
 rw [wt,wt] at R
 have K2:=((K.alloc (.cells #[.int .i64 a,.int .i64 b] 29)).alloc (.cells #[.int .i64 X,.int .i64 Y,.int .i64 E] 57)).alloc (.cells #[.int .i64 0,.int .i64 0] 68)
 generalize hw3:((w.alloc (.cells #[.int .i64 a,.int .i64 b] 29)).alloc (.cells #[.int .i64 X,.int .i64 Y,.int .i64 E] 57)).alloc (.cells #[.int .i64 0,.int .i64 0] 68)=wc at *
 have n1:w.heap.size+1+1≠g:=by omega
 have C_c0:=C.box.c0
 have C_c1:=C.box.c1
 have ⟨q0,q1,q2⟩:=Q.aQ
 have hgm:g≠w.heap.size+1+1:=fun e=>n1 e.symm
 cases ok
 ·replace PK:=ws (show ∀ W,aH W g 94 #[(.bool false)]→_ from PK)
  go_enter Tryz.func95,Tryz.ntmps95
  go_wp2_with first | (go_at_call 109;(with_reducible refine (PB.out _).mono ?_);rintro e w4 ⟨rfl,hb4⟩;(replace B:=(B.trans (hb4.mono B.size)).alloc (Nat.le_trans B.size hb4.size) (.cells #[.int .i64 lo,.int .i64 hi] 68));(replace R:=(R.keep hb4).alloc (.cells #[.int .i64 lo,.int .i64 hi] 68));(replace K2:=K2.keep hb4);(have n3:w4.heap.size≠g:=by have:=K2.lt;omega);(have n4:g≠w4.heap.size:=fun e=>n3 e.symm);(replace K2:=K2.alloc (.cells #[.int .i64 lo,.int .i64 hi] 68));(have k0:=K2.cell 0);(have kf:=K2.frz 0);(have kl:=K2.lt);(have V:=aH.new w4 #[.int .i64 lo,.int .i64 hi] 68);(have v0:=V.cell 0);(have v1:=V.cell 1);(have V2:=V.other (i:=0) n3 (.bool false));(have v2:=V2.cell 0);(have v3:=V2.cell 1)) | (go_at_call 98;(with_reducible refine (PK.out _ (K2.one (.bool false))).mono ?_);rintro e w5 ⟨rfl,hb5⟩;(have hz:=B.size);(replace R:=((R.other n1 (.bool false)).other n1 (.bool r.isSome)).keep (bD hb5));(replace B:=(jA (x:=(.bool false)) (y:=.bool r.isSome) B K K2).trans (hb5.mono (by rw [aZ];exact hz)));(obtain ⟨r0,r1,r2,r3,r4⟩:=R.box))
  exact bodyPost_ret (v:=.agg #[.int .i64 (M.slo r),.int .i64 (M.shi r)]) (by simp [results,Tryz.results95,go_sem, *]) rfl (⟨rfl,wu (wu B (by simp;omega) _) (by simp;omega) _⟩)
 replace PK:=ws (show ∀ W,aH W g 94 #[(.bool bo)]→_ from PK)
 go_enter Tryz.func95,Tryz.ntmps95
 go_wp2_with first | (go_at_call 109;(with_reducible refine (PB.out _).mono ?_);rintro e w4 ⟨rfl,hb4⟩;(replace B:=(B.trans (hb4.mono B.size)).alloc (Nat.le_trans B.size hb4.size) (.cells #[.int .i64 lo,.int .i64 hi] 68));(replace R:=(R.keep hb4).alloc (.cells #[.int .i64 lo,.int .i64 hi] 68));(replace K2:=K2.keep hb4);(have n3:w4.heap.size≠g:=by have:=K2.lt;omega);(have n4:g≠w4.heap.size:=fun e=>n3 e.symm);(replace K2:=K2.alloc (.cells #[.int .i64 lo,.int .i64 hi] 68));(have k0:=K2.cell 0);(have kf:=K2.frz 0);(have kl:=K2.lt);(have V:=aH.new w4 #[.int .i64 lo,.int .i64 hi] 68);(have v0:=V.cell 0);(have v1:=V.cell 1);(have V2:=V.other (i:=0) n3 (.bool bo));(have v2:=V2.cell 0);(have v3:=V2.cell 1)) | (go_at_call 98;(with_reducible refine (PK.out _ (K2.one (.bool bo))).mono ?_);rintro e w5 ⟨rfl,hb5⟩;(have hz:=B.size);(replace R:=((R.other n1 (.bool bo)).other n1 (.bool r.isSome)).keep (bD hb5));(replace B:=(jA (x:=(.bool bo)) (y:=.bool r.isSome) B K K2).trans (hb5.mono (by rw [aZ];exact hz)));(obtain ⟨r0,r1,r2,r3,r4⟩:=R.box))
 exact bodyPost_ret (v:=.agg #[.int .i64 (M.slo r),.int .i64 (M.shi r)]) (by simp [results,Tryz.results95,go_sem, *]) rfl (⟨rfl,wu (wu B (by simp;omega) _) (by simp;omega) _⟩)
namespace M
noncomputable def eB (a b X E:Int):Sp:=eK (bi a b X E) (bi a b X E)
noncomputable def dS (a b X1 Y1 E1 X2 Y2 E2:Int):Sp:=if eJ a X1 Y1 E1 X2 Y2 E2=true then cP (cP (bi a b (f9 a X1 Y1 E1 X2 Y2 E2) (f8 a X1 Y1 E1 X2 Y2 E2)) (bi a b X1 E1)) (bi a b X2 E2) else none
theorem gn {f:Bool} {s:Sp} (h:(gd f s).isSome=true):f=true∧s.isSome=true∧gd f s=s:=by
 cases f
 ·cases h
 exact ⟨rfl,h,rfl⟩
theorem kv (s:Sp):gd true s=s:=rfl
theorem tt (s t:Sp):gd s.isSome (eK s t)=eK s t:=by cases s <;> rfl
end M
theorem j7 (a b X Y E:Int) (w:World) (hg:M.good a b=true) (hX1:-10000≤X) (hX2:X≤10000) (hE1:0≤E) (hE2:E≤20) :
  Calls Tryz.prog 77 #[.agg #[.int .i64 a,.int .i64 b],.agg #[.int .i64 X,.int .i64 Y,.int .i64 E]] w fun e w'=>e=.returned (.tuple #[.agg #[.int .i64 (M.slo (M.eB a b X E)),.int .i64 (M.shi (M.eB a b X E))],.bool (M.eB a b X E).isSome])∧Below w.heap.size w w':=by
 have PB:=fun W K=>ie (w.heap.size+1+1+1) true a b X Y E W K hg hX1 hX2 hE1 hE2
 have hr:=M.d6 (a:=a) (b:=b) (M.bI hg) hX1 hX2 hE1 hE2
 have hv:M.eB a b X E=M.gd (M.bi a b X E).isSome (M.eK (M.bi a b X E) (M.bi a b X E)):=(M.tt _ _).symm
 rw [hv]
 clear hv
 rw [M.kv] at PB
 generalize M.bi a b X E=r at *
 have PP:=fun W K=>pM (w.heap.size+1+1+1) r.isSome r r W K hr hr (fun h=>h) (fun h=>h)
 generalize M.gd r.isSome (M.eK r r)=q at *
 generalize r.isSome=f at *
 generalize q.isSome=fq at *
 generalize M.slo q=ql at *
 generalize M.shi q=qh at *
 have PB:=ws PB
 have PP:=ws PP
 obtain ⟨wc,hw3,C,Q,R,K,B⟩:=kZ w #[.int .i64 a,.int .i64 b] 29 #[.int .i64 X,.int .i64 Y,.int .i64 E] 57 #[.int .i64 0,.int .i64 0] 68 #[.bool true] 94
 have C_c0:=C.box.c0
 have C_c1:=C.box.c1
 have ⟨q0,q1,q2⟩:=Q.aQ
 go_enter Tryz.func77,Tryz.ntmps77
 go_wp2_with first | (go_at_call 95;(with_reducible refine (PB.out _ K).mono ?_);rintro e w4 ⟨rfl,hb4⟩;(have hb:=bD hb4);(replace R:=(R.other (i:=0) (by omega) (.bool f)).keep hb);(replace K:=(K.one (.bool f)).keep hb);(replace B:=(wu B (by simp;omega) _).trans (hb4.mono B.size));(clear hb hb4 C_c0 C_c1 q0 q1 q2 C Q);(have V:=aH.new w4 #[.int .i64 (M.slo r),.int .i64 (M.shi r)] 68);(have rl:=R.lt);(have kl:=K.lt);(have n1:w.heap.size+1+1≠w4.heap.size:=by omega);(have n2:w.heap.size+1+1+1≠w4.heap.size:=by omega);(have n3:=n1.symm);(have n4:=n2.symm);(replace B:=B.alloc B.size (.cells #[.int .i64 (M.slo r),.int .i64 (M.shi r)] 68));(replace R:=R.alloc (.cells #[.int .i64 (M.slo r),.int .i64 (M.shi r)] 68));(replace K:=K.alloc (.cells #[.int .i64 (M.slo r),.int .i64 (M.shi r)] 68));(have v0:=V.cell 0);(have v1:=V.cell 1)) | (go_at_call 81;(with_reducible refine (PP.out _ K).mono ?_);rintro e w5 ⟨rfl,hb5⟩;(have hb:=bD hb5);(replace R:=(R.other (i:=0) (by omega) (.bool fq)).keep hb);(replace V:=(V.other (i:=0) n4 (.bool fq)).keep hb);(replace K:=(K.one (.bool fq)).keep hb);(replace B:=(wu B (by simp;omega) _).trans (hb5.mono B.size));(clear hb hb5 v0 v1);(have ⟨v0,v1,v2,v3,v4⟩:=V.box);(have V5:=V.set2 (.int .i64 ql) (.int .i64 qh));(have R5:=R.bf n1 (.int .i64 ql) (.int .i64 qh));(have K5:=K.bf n2 (.int .i64 ql) (.int .i64 qh));(have B5:=dC B (k:=w4.heap.size) (by omega) (.int .i64 ql) (.int .i64 qh));(have ⟨z0,z1,_,_,_⟩:=V5.box);(have ⟨r0,r1,r2,r3,r4⟩:=R5.box);(have k0:=K5.cell 0))
 go_region
 all_goals
  go_wp2
  exact bodyPost_ret (v:=.tuple #[.agg #[.int .i64 ql,.int .i64 qh],.bool fq]) (by simp [results,Tryz.results77,go_sem, *]) rfl (⟨rfl,Below.drew (wu (wu B5 (by simp;omega) _) (by simp;omega) _)⟩)
namespace M
noncomputable def in1 (s:Sp):Int:=match s with | some p=>pn p.1 | none=>0
noncomputable def in2 (s:Sp):Int:=match s with | some p=>pd p.1 | none=>0
noncomputable def in3 (s:Sp):Int:=match s with | some p=>pn p.2 | none=>0
noncomputable def in4 (s:Sp):Int:=match s with | some p=>pd p.2 | none=>0
theorem gt (l h:Int):(mkS l h).isSome=aN l h:=by
 unfold mkS
 cases aN l h <;> rfl
theorem ny (l h:Int):pick (aN l h) (pn l)=in1 (mkS l h):=by
 unfold mkS
 cases aN l h <;> rfl
theorem nz (l h:Int):pick (aN l h) (pd l)=in2 (mkS l h):=by
 unfold mkS
 cases aN l h <;> rfl
theorem n5 (l h:Int):pick (aN l h) (pn h)=in3 (mkS l h):=by
 unfold mkS
 cases aN l h <;> rfl
theorem oH (l h:Int):pick (aN l h) (pd h)=in4 (mkS l h):=by
 unfold mkS
 cases aN l h <;> rfl
end M
theorem fO (a b X Y E:Int) (w:World) (hg:M.good a b=true) (hX1:-10000≤X) (hX2:X≤10000) (hE1:0≤E) (hE2:E≤20) :
  Calls Tryz.prog 87 #[.agg #[.int .i64 a,.int .i64 b],.agg #[.int .i64 X,.int .i64 Y,.int .i64 E]] w fun e w'=>e=.returned (.tuple #[.agg #[.int .i64 (M.in1 (M.bi a b X E)),.int .i64 (M.in2 (M.bi a b X E)),.int .i64 (M.in3 (M.bi a b X E)),.int .i64 (M.in4 (M.bi a b X E))],.bool (M.bi a b X E).isSome])∧Below w.heap.size w w':=by
 have h:=nk a b X Y E w hg hX1 hX2 hE1 hE2
 unfold M.bi
 cases hb:M.bOk a b X E
 ·rw [hb] at h;exact h
 rw [hb] at h;exact h
theorem mU (p q:Int × Int) (w:World) (hp:M.aN p.1 p.2=true) (hq:M.aN q.1 q.2=true) :
  Calls Tryz.prog 71 #[.agg #[.int .i64 (M.in1 (some p)),.int .i64 (M.in2 (some p)),.int .i64 (M.in3 (some p)),.int .i64 (M.in4 (some p))],.agg #[.int .i64 (M.in1 (some q)),.int .i64 (M.in2 (some q)),.int .i64 (M.in3 (some q)),.int .i64 (M.in4 (some q))]] w fun e w'=>e=.returned (.tuple #[.agg #[.int .i64 (M.in1 (M.eK (some p) (some q))),.int .i64 (M.in2 (M.eK (some p) (some q))),.int .i64 (M.in3 (M.eK (some p) (some q))),.int .i64 (M.in4 (M.eK (some p) (some q)))],.bool (M.eK (some p) (some q)).isSome])∧Below w.heap.size w w':=by
 have h:=tx p.1 p.2 q.1 q.2 w hp hq
 rw [M.ny,M.nz,M.n5,M.oH,←M.gt] at h
 exact h
theorem mV (p q:Int × Int) (w:World) (hp:M.aN p.1 p.2=true) (hq:M.aN q.1 q.2=true) :
  Calls Tryz.prog 72 #[.agg #[.int .i64 (M.in1 (some p)),.int .i64 (M.in2 (some p)),.int .i64 (M.in3 (some p)),.int .i64 (M.in4 (some p))],.agg #[.int .i64 (M.in1 (some q)),.int .i64 (M.in2 (some q)),.int .i64 (M.in3 (some q)),.int .i64 (M.in4 (some q))]] w fun e w'=>e=.returned (.tuple #[.agg #[.int .i64 (M.in1 (M.cP (some p) (some q))),.int .i64 (M.in2 (M.cP (some p) (some q))),.int .i64 (M.in3 (M.cP (some p) (some q))),.int .i64 (M.in4 (M.cP (some p) (some q)))],.bool (M.cP (some p) (some q)).isSome])∧Below w.heap.size w w':=by
 have h:=uB p.1 p.2 q.1 q.2 w hp hq
 rw [M.ny,M.nz,M.n5,M.oH,←M.gt] at h
 exact h
theorem sW (p q:Int × Int) (w:World) (hp:M.aN p.1 p.2=true) (hq:M.aN q.1 q.2=true) :
  Calls Tryz.prog 70 #[.agg #[.int .i64 (M.in1 (some p)),.int .i64 (M.in2 (some p)),.int .i64 (M.in3 (some p)),.int .i64 (M.in4 (some p))],.agg #[.int .i64 (M.in1 (some q)),.int .i64 (M.in2 (some q)),.int .i64 (M.in3 (some q)),.int .i64 (M.in4 (some q))]] w fun e w'=>e=.returned (.tuple #[.agg #[.int .i64 (M.in1 (M.eS (some p) (some q))),.int .i64 (M.in2 (M.eS (some p) (some q))),.int .i64 (M.in3 (M.eS (some p) (some q))),.int .i64 (M.in4 (M.eS (some p) (some q)))],.bool (M.eS (some p) (some q)).isSome])∧Below w.heap.size w w':=by
 have h:=uA p.1 p.2 q.1 q.2 w hp hq
 rw [M.ny,M.nz,M.n5,M.oH,←M.gt] at h
 exact h
theorem sM (a b X Y E:Int) (w:World) (hg:M.good a b=true) (hX1:-10000≤X) (hX2:X≤10000) (hE1:0≤E) (hE2:E≤20) :
  Calls Tryz.prog 67 #[.agg #[.int .i64 a,.int .i64 b],.agg #[.int .i64 X,.int .i64 Y,.int .i64 E]] w fun e w'=>e=.returned (.tuple #[.agg #[.int .i64 (M.in1 (M.eB a b X E)),.int .i64 (M.in2 (M.eB a b X E)),.int .i64 (M.in3 (M.eB a b X E)),.int .i64 (M.in4 (M.eB a b X E))],.bool (M.eB a b X E).isSome])∧Below w.heap.size w w':=by
 have PH:=fun W=>fO a b X Y E W hg hX1 hX2 hE1 hE2
 have hr:=M.d6 (a:=a) (b:=b) (M.bI hg) hX1 hX2 hE1 hE2
 unfold M.eB
 generalize M.bi a b X E=r at *
 clear hg hX1 hX2 hE1 hE2
 cases r with
 | none=>
  have e1:=ws (show M.in1 none=0∧M.in2 none=0∧M.in3 none=0∧M.in4 none=0∧(none:M.Sp).isSome=false from ⟨rfl,rfl,rfl,rfl,rfl⟩)
  have e2:=ws (show M.eK none none=none from rfl)
  rw [e2.out,e1.out.1,e1.out.2.1,e1.out.2.2.1,e1.out.2.2.2.1,e1.out.2.2.2.2]
  rw [e1.out.1,e1.out.2.1,e1.out.2.2.1,e1.out.2.2.2.1,e1.out.2.2.2.2] at PH
  clear e1 e2
  replace PH:=ws PH
  obtain ⟨wc,hw3,C,Q,R,B⟩:=nP w #[.int .i64 a,.int .i64 b] 29 #[.int .i64 X,.int .i64 Y,.int .i64 E] 57 #[.int .i64 0,.int .i64 0,.int .i64 0,.int .i64 0] 64
  have C_c0:=C.box.c0
  have C_c1:=C.box.c1
  have ⟨q0,q1,q2⟩:=Q.aQ
  go_enter Tryz.func67,Tryz.ntmps67
  go_wp2_with (go_at_call 87;(with_reducible refine (PH.out _).mono ?_);rintro e w4 ⟨rfl,hb4⟩;(replace R:=(R.keep hb4).alloc (.cells #[.int .i64 0,.int .i64 0,.int .i64 0,.int .i64 0] 64));(replace B:=(B.trans (hb4.mono B.size)).alloc (Nat.le_trans B.size hb4.size) (.cells #[.int .i64 0,.int .i64 0,.int .i64 0,.int .i64 0] 64));(have V:=aH.new w4 #[.int .i64 0,.int .i64 0,.int .i64 0,.int .i64 0] 64);(have n1:=R.lt);(have ⟨r0,r1,r2,r3,z0,z1,z2,z3,rl⟩:=R.aM);(have ⟨v0,v1,v2,v3,y0,y1,y2,y3,vl⟩:=V.aM))
  exact bodyPost_ret (v:=.tuple #[.agg #[.int .i64 0,.int .i64 0,.int .i64 0,.int .i64 0],.bool false]) (by simp [results,Tryz.results67,go_sem, *]) rfl (⟨rfl,wu (wu (wu (wu B (by simp;omega) _) (by simp;omega) _) (by simp;omega) _) (by simp;omega) _⟩)
 | some p=>
 have hp:=hr p rfl
 have PI:=fun W=>mU p p W hp hp
 have e1:=ws (show (some p:M.Sp).isSome=true from rfl)
 rw [e1.out] at PH
 clear e1 hr hp
 generalize M.in1 (some p)=i1 at *
 generalize M.in2 (some p)=i2 at *
 generalize M.in3 (some p)=i3 at *
 generalize M.in4 (some p)=i4 at *
 generalize M.eK (some p) (some p)=q at *
 generalize M.in1 q=k1 at *
 generalize M.in2 q=k2 at *
 generalize M.in3 q=k3 at *
 generalize M.in4 q=k4 at *
 generalize q.isSome=f at *
 replace PH:=ws PH
 replace PI:=ws PI
 obtain ⟨wc,hw3,C,Q,R,B⟩:=nP w #[.int .i64 a,.int .i64 b] 29 #[.int .i64 X,.int .i64 Y,.int .i64 E] 57 #[.int .i64 0,.int .i64 0,.int .i64 0,.int .i64 0] 64
 have C_c0:=C.box.c0
 have C_c1:=C.box.c1
 have ⟨q0,q1,q2⟩:=Q.aQ
 go_enter Tryz.func67,Tryz.ntmps67
 go_wp2_with first | (go_at_call 87;(with_reducible refine (PH.out _).mono ?_);rintro e w4 ⟨rfl,hb4⟩;(replace R:=(R.keep hb4).alloc (.cells #[.int .i64 i1,.int .i64 i2,.int .i64 i3,.int .i64 i4] 64));(replace B:=(B.trans (hb4.mono B.size)).alloc (Nat.le_trans B.size hb4.size) (.cells #[.int .i64 i1,.int .i64 i2,.int .i64 i3,.int .i64 i4] 64));(have V:=aH.new w4 #[.int .i64 i1,.int .i64 i2,.int .i64 i3,.int .i64 i4] 64);(have n1:=R.lt);(have ⟨r0,r1,r2,r3,z0,z1,z2,z3,rl⟩:=R.aM);(have ⟨v0,v1,v2,v3,y0,y1,y2,y3,vl⟩:=V.aM)) | (go_at_call 71;(with_reducible refine (PI.out _).mono ?_);rintro e w5 ⟨rfl,hb5⟩;(replace R:=R.keep hb5);(replace B:=B.trans (hb5.mono B.size));(have ⟨r0,r1,r2,r3,z0,z1,z2,z3,rl⟩:=R.aM))
 exact bodyPost_ret (v:=.tuple #[.agg #[.int .i64 k1,.int .i64 k2,.int .i64 k3,.int .i64 k4],.bool f]) (by simp [results,Tryz.results67,go_sem, *]) rfl (⟨rfl,wu (wu (wu (wu B (by simp;omega) _) (by simp;omega) _) (by simp;omega) _) (by simp;omega) _⟩)
end
end Go.Proofs.YtgfkcoablfjbcaaGreat
