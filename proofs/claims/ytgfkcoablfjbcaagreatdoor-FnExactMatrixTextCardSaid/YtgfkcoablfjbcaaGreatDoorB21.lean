/-
  Joined texts: contracts and plain lemmas.
-/
import Derived.Test.YtgfkcoablfjbcaaGreatDoorB1
import Derived.Test.YtgfkcoablfjbcaaGreatDoorB20
import Derived.Test.YtgfkcoablfjbcaaGreatDoorB16
import Derived.Test.YtgfkcoablfjbcaaGreatDoorB15
set_option linter.unusedSimpArgs false
set_option linter.unusedVariables false
set_option maxRecDepth 100000
set_option maxHeartbeats 8000000
namespace Go.Proofs.YtgfkcoablfjbcaaGreatDoor
section
open Go.RowKit
namespace M
noncomputable def eD (a X1 Y1 E1 X2 Y2 E2:Int):Bool:=if E1=0 then true else if E2=0 then true else fl a X1 Y1 E1 X2 Y2 E2
noncomputable def ff (a X1 Y1 E1 X2 Y2 E2:Int):Int:=if E1=0 then X2 else if E2=0 then X1 else fnX a X1 Y1 E1 X2 Y2 E2
noncomputable def gy (a X1 Y1 E1 X2 Y2 E2:Int):Int:=if E1=0 then Y2 else if E2=0 then Y1 else fnY a X1 Y1 E1 X2 Y2 E2
noncomputable def fd (a X1 Y1 E1 X2 Y2 E2:Int):Int:=if E1=0 then E2 else if E2=0 then E1 else fnE a X1 Y1 E1 X2 Y2 E2
theorem eU {a b X Y E:Int} (hin:M.bB a b=true) (h:bR a b X Y E=true):(E=0∧X=0∧Y=0)∨(1≤E∧E≤20∧-10000≤X∧X≤10000∧Int.gcd X E=1∧Y*Y=cv a b X E∧-3000000≤Y∧Y≤3000000):=by
 obtain ⟨ha1,ha2,hb1,hb2⟩:=M.ah hin
 unfold bR at h
 split at h
 ·simp only [Bool.and_eq_true,decide_eq_true_eq] at h
  left;exact ⟨by assumption,h.1,h.2⟩
 right
 simp only [Bool.and_eq_true,decide_eq_true_eq,M.ins,beq_iff_eq] at h
 obtain ⟨⟨⟨⟨h1,h2⟩,h3,h4⟩,h5⟩,h6⟩:=h
 have hv:=M.kx (a:=a) (b:=b) ha1 ha2 hb1 hb2 h1 h2 (by omega) h4
 have hy:=M.sv h6 hv.2
 exact ⟨h3,h4,h1,h2,by unfold M.gcd at h5;omega,h6,hy.1,hy.2⟩
theorem sW {a b X Y E:Int} (h1:1≤E) (h2:E≤20) (h3:-10000≤X) (h4:X≤10000) (h5:Int.gcd X E=1) (h6:Y*Y=cv a b X E):bR a b X Y E=true:=by
 unfold bR
 rw [if_neg (by omega)]
 simp only [Bool.and_eq_true,decide_eq_true_eq,M.ins,beq_iff_eq]
 exact ⟨⟨⟨⟨h3,h4⟩,h1,h2⟩,by unfold M.gcd;omega⟩,h6⟩
theorem pq {a b X1 Y1 E1 X2 Y2 E2:Int} (hin:M.bB a b=true) (hp:bR a b X1 Y1 E1=true) (hq:bR a b X2 Y2 E2=true):bR a b (ff a X1 Y1 E1 X2 Y2 E2) (gy a X1 Y1 E1 X2 Y2 E2) (fd a X1 Y1 E1 X2 Y2 E2)=true:=by
 unfold ff gy fd
 by_cases h1:E1=0
 ·rw [if_pos h1,if_pos h1,if_pos h1];exact hq
 rw [if_neg h1,if_neg h1,if_neg h1]
 by_cases h2:E2=0
 ·rw [if_pos h2,if_pos h2,if_pos h2];exact hp
 rw [if_neg h2,if_neg h2,if_neg h2]
 have z0:bR a b 0 0 0=true:=rfl
 by_cases h0:sD X1 Y1 E1 X2 Y2 E2=0
 ·unfold fnX fnY fnE
  rw [if_pos h0,if_pos h0,if_pos h0];exact z0
 cases hk:fl a X1 Y1 E1 X2 Y2 E2
 ·obtain ⟨q1,q2,q3⟩:=nj h0 hk
  rw [q1,q2,q3];exact z0
 obtain ⟨p1,p2,p3,p4,p5,p6,-⟩:=(eU hin hp).resolve_left (fun h=>h1 h.1)
 obtain ⟨r1,r2,r3,r4,r5,r6,-⟩:=(eU hin hq).resolve_left (fun h=>h2 h.1)
 obtain ⟨-,-,H⟩:=ni (n:=slN a X1 Y1 E1 X2 Y2 E2) (m:=slD a X1 Y1 E1 X2 Y2 E2) p6 r6 p4 r4 p1 p2 r1 r2 h0 (Or.inl ⟨rfl,rfl⟩)
 obtain ⟨c1,c2,c3,c4,c5,-,-,c8,-⟩:=H hk _ _ _ rfl rfl rfl
 exact sW c1 c2 c3 c4 c5 c8
theorem d6 {a b X Y E:Int} (hin:M.bB a b=true) (h:bR a b X Y E=true):-10000≤X∧X≤10000∧0≤E∧E≤20∧-3000000≤Y∧Y≤3000000:=by
 rcases eU hin h with ⟨rfl,rfl,rfl⟩ | ⟨h1,h2,h3,h4,-,-,h7,h8⟩ <;> omega
end M
theorem kk (a b X1 Y1 E1 X2 Y2 E2:Int) (w:World) (hg:M.good a b=true) (hp:M.bR a b X1 Y1 E1=true) (hq:M.bR a b X2 Y2 E2=true) :
  Calls Tryz.prog 61 #[.agg #[.int .i64 a,.int .i64 b],.agg #[.int .i64 X1,.int .i64 Y1,.int .i64 E1],.agg #[.int .i64 X2,.int .i64 Y2,.int .i64 E2]] w fun e w'=>e=.returned (.tuple #[.agg #[.int .i64 (M.ff a X1 Y1 E1 X2 Y2 E2),.int .i64 (M.gy a X1 Y1 E1 X2 Y2 E2),.int .i64 (M.fd a X1 Y1 E1 X2 Y2 E2)],.bool (M.eD a X1 Y1 E1 X2 Y2 E2)])∧Below w.heap.size w w':=by
 have hin:=M.bE hg
 obtain ⟨ha1,ha2,hb1,hb2⟩:=M.ah hin
 by_cases hE1:E1=0
 ·have hf:=uh (show M.ff a X1 Y1 E1 X2 Y2 E2=X2∧M.gy a X1 Y1 E1 X2 Y2 E2=Y2∧M.fd a X1 Y1 E1 X2 Y2 E2=E2∧M.eD a X1 Y1 E1 X2 Y2 E2=true from ⟨if_pos hE1,if_pos hE1,if_pos hE1,if_pos hE1⟩)
  rw [hf.out.1,hf.out.2.1,hf.out.2.2.1,hf.out.2.2.2]
  clear hf hg hp hq hin
  subst hE1
  have C:=(((aH.new w #[.int .i64 a,.int .i64 b] 28).alloc (.cells #[.int .i64 X1,.int .i64 Y1,.int .i64 0] 45)).alloc (.cells #[.int .i64 X2,.int .i64 Y2,.int .i64 E2] 45)).alloc (.cells #[.int .i64 0,.int .i64 0,.int .i64 0] 45)
  have Q:=((aH.new (w.alloc (.cells #[.int .i64 a,.int .i64 b] 28)) #[.int .i64 X1,.int .i64 Y1,.int .i64 0] 45).alloc (.cells #[.int .i64 X2,.int .i64 Y2,.int .i64 E2] 45)).alloc (.cells #[.int .i64 0,.int .i64 0,.int .i64 0] 45)
  rw [ui] at Q
  have U:=(aH.new ((w.alloc (.cells #[.int .i64 a,.int .i64 b] 28)).alloc (.cells #[.int .i64 X1,.int .i64 Y1,.int .i64 0] 45)) #[.int .i64 X2,.int .i64 Y2,.int .i64 E2] 45).alloc (.cells #[.int .i64 0,.int .i64 0,.int .i64 0] 45)
  rw [ui,ui] at U
  have R:=aH.new (((w.alloc (.cells #[.int .i64 a,.int .i64 b] 28)).alloc (.cells #[.int .i64 X1,.int .i64 Y1,.int .i64 0] 45)).alloc (.cells #[.int .i64 X2,.int .i64 Y2,.int .i64 E2] 45)) #[.int .i64 0,.int .i64 0,.int .i64 0] 45
  rw [ui,ui,ui] at R
  have B:=((((uk w.heap.size w).alloc (ul _) (.cells #[.int .i64 a,.int .i64 b] 28)).alloc (by rw [ui];omega) (.cells #[.int .i64 X1,.int .i64 Y1,.int .i64 0] 45)).alloc (by rw [ui,ui];omega) (.cells #[.int .i64 X2,.int .i64 Y2,.int .i64 E2] 45)).alloc (by rw [ui,ui,ui];omega) (.cells #[.int .i64 0,.int .i64 0,.int .i64 0] 45)
  generalize hw3:(((w.alloc (.cells #[.int .i64 a,.int .i64 b] 28)).alloc (.cells #[.int .i64 X1,.int .i64 Y1,.int .i64 0] 45)).alloc (.cells #[.int .i64 X2,.int .i64 Y2,.int .i64 E2] 45)).alloc (.cells #[.int .i64 0,.int .i64 0,.int .i64 0] 45)=wc at *
  have C_c0:=C.box.c0
  have C_c1:=C.box.c1
  have ⟨q0,q1,q2⟩:=Q.aQ
  have ⟨u0,u1,u2⟩:=U.aQ
  have ⟨r0,r1,r2⟩:=R.aQ
  have f0:=R.frz 0
  have f1:=R.frz 1
  have f2:=R.frz 2
  have rl:=R.lt
  go_enter Tryz.func61,Tryz.ntmps61
  go_wp2
  exact bodyPost_ret (v:=.tuple #[.agg #[.int .i64 X2,.int .i64 Y2,.int .i64 E2],.bool true]) (by simp [results,Tryz.results61,go_sem, *]) rfl (⟨rfl,uj (uj (uj B (by simp;omega) _) (by simp;omega) _) (by simp;omega) _⟩)
 obtain ⟨p1,p2,p3,p4,p5,p6,p7,p8⟩:=(M.eU hin hp).resolve_left (fun h=>hE1 h.1)
 by_cases hE2:E2=0
 ·have hf:=uh (show M.ff a X1 Y1 E1 X2 Y2 E2=X1∧M.gy a X1 Y1 E1 X2 Y2 E2=Y1∧M.fd a X1 Y1 E1 X2 Y2 E2=E1∧M.eD a X1 Y1 E1 X2 Y2 E2=true from ⟨(if_neg hE1).trans (if_pos hE2),(if_neg hE1).trans (if_pos hE2),(if_neg hE1).trans (if_pos hE2),(if_neg hE1).trans (if_pos hE2)⟩)
  rw [hf.out.1,hf.out.2.1,hf.out.2.2.1,hf.out.2.2.2]
  clear hf hg hp hq hin p5 p6
  have hE3:(E1 == 0)=false:=by rw [beq_eq_false_iff_ne];exact hE1
  subst hE2
  have C:=(((aH.new w #[.int .i64 a,.int .i64 b] 28).alloc (.cells #[.int .i64 X1,.int .i64 Y1,.int .i64 E1] 45)).alloc (.cells #[.int .i64 X2,.int .i64 Y2,.int .i64 0] 45)).alloc (.cells #[.int .i64 0,.int .i64 0,.int .i64 0] 45)
  have Q:=((aH.new (w.alloc (.cells #[.int .i64 a,.int .i64 b] 28)) #[.int .i64 X1,.int .i64 Y1,.int .i64 E1] 45).alloc (.cells #[.int .i64 X2,.int .i64 Y2,.int .i64 0] 45)).alloc (.cells #[.int .i64 0,.int .i64 0,.int .i64 0] 45)
  rw [ui] at Q
  have U:=(aH.new ((w.alloc (.cells #[.int .i64 a,.int .i64 b] 28)).alloc (.cells #[.int .i64 X1,.int .i64 Y1,.int .i64 E1] 45)) #[.int .i64 X2,.int .i64 Y2,.int .i64 0] 45).alloc (.cells #[.int .i64 0,.int .i64 0,.int .i64 0] 45)
  rw [ui,ui] at U
  have R:=aH.new (((w.alloc (.cells #[.int .i64 a,.int .i64 b] 28)).alloc (.cells #[.int .i64 X1,.int .i64 Y1,.int .i64 E1] 45)).alloc (.cells #[.int .i64 X2,.int .i64 Y2,.int .i64 0] 45)) #[.int .i64 0,.int .i64 0,.int .i64 0] 45
  rw [ui,ui,ui] at R
  have B:=((((uk w.heap.size w).alloc (ul _) (.cells #[.int .i64 a,.int .i64 b] 28)).alloc (by rw [ui];omega) (.cells #[.int .i64 X1,.int .i64 Y1,.int .i64 E1] 45)).alloc (by rw [ui,ui];omega) (.cells #[.int .i64 X2,.int .i64 Y2,.int .i64 0] 45)).alloc (by rw [ui,ui,ui];omega) (.cells #[.int .i64 0,.int .i64 0,.int .i64 0] 45)
  generalize hw3:(((w.alloc (.cells #[.int .i64 a,.int .i64 b] 28)).alloc (.cells #[.int .i64 X1,.int .i64 Y1,.int .i64 E1] 45)).alloc (.cells #[.int .i64 X2,.int .i64 Y2,.int .i64 0] 45)).alloc (.cells #[.int .i64 0,.int .i64 0,.int .i64 0] 45)=wc at *
  have C_c0:=C.box.c0
  have C_c1:=C.box.c1
  have ⟨q0,q1,q2⟩:=Q.aQ
  have ⟨u0,u1,u2⟩:=U.aQ
  have ⟨r0,r1,r2⟩:=R.aQ
  have f0:=R.frz 0
  have f1:=R.frz 1
  have f2:=R.frz 2
  have rl:=R.lt
  go_enter Tryz.func61,Tryz.ntmps61
  go_wp2
  exact bodyPost_ret (v:=.tuple #[.agg #[.int .i64 X1,.int .i64 Y1,.int .i64 E1],.bool true]) (by simp [results,Tryz.results61,go_sem, *]) rfl (⟨rfl,uj (uj (uj B (by simp;omega) _) (by simp;omega) _) (by simp;omega) _⟩)
 obtain ⟨r1,r2,r3,r4,r5,r6,r7,r8⟩:=(M.eU hin hq).resolve_left (fun h=>hE2 h.1)
 have hf:=uh (show M.ff a X1 Y1 E1 X2 Y2 E2=M.fnX a X1 Y1 E1 X2 Y2 E2∧M.gy a X1 Y1 E1 X2 Y2 E2=M.fnY a X1 Y1 E1 X2 Y2 E2∧M.fd a X1 Y1 E1 X2 Y2 E2=M.fnE a X1 Y1 E1 X2 Y2 E2∧M.eD a X1 Y1 E1 X2 Y2 E2=M.fl a X1 Y1 E1 X2 Y2 E2 from ⟨(if_neg hE1).trans (if_neg hE2),(if_neg hE1).trans (if_neg hE2),(if_neg hE1).trans (if_neg hE2),(if_neg hE1).trans (if_neg hE2)⟩)
 rw [hf.out.1,hf.out.2.1,hf.out.2.2.1,hf.out.2.2.2]
 exact pr a b X1 Y1 E1 X2 Y2 E2 w ha1 ha2 p3 p4 p7 p8 p1 p2 r3 r4 r7 r8 r1 r2 hb1 hb2 p6 r6 p5 r5
theorem sV (a b X1 Y1 E1 X2 Y2 E2:Int) (w:World) (hg:M.good a b=true) (hp:M.bR a b X1 Y1 E1=true) (hq:M.bR a b X2 Y2 E2=true) :
  Calls Tryz.prog 29 #[.agg #[.int .i64 a,.int .i64 b],.agg #[.int .i64 X1,.int .i64 Y1,.int .i64 E1],.agg #[.int .i64 X2,.int .i64 Y2,.int .i64 E2]] w fun e w'=>e=.returned (.tuple #[.agg #[.int .i64 (M.ff a X1 Y1 E1 X2 Y2 E2),.int .i64 (M.gy a X1 Y1 E1 X2 Y2 E2),.int .i64 (M.fd a X1 Y1 E1 X2 Y2 E2)],.bool (M.eD a X1 Y1 E1 X2 Y2 E2)])∧Below w.heap.size w w':=by
 have hin:=M.bE hg
 obtain ⟨ha1,ha2,hb1,hb2⟩:=M.ah hin
 by_cases hE1:E1=0
 ·have hf:=uh (show M.ff a X1 Y1 E1 X2 Y2 E2=X2∧M.gy a X1 Y1 E1 X2 Y2 E2=Y2∧M.fd a X1 Y1 E1 X2 Y2 E2=E2∧M.eD a X1 Y1 E1 X2 Y2 E2=true from ⟨if_pos hE1,if_pos hE1,if_pos hE1,if_pos hE1⟩)
  rw [hf.out.1,hf.out.2.1,hf.out.2.2.1,hf.out.2.2.2]
  clear hf hg hp hq hin
  subst hE1
  have C:=(((aH.new w #[.int .i64 a,.int .i64 b] 28).alloc (.cells #[.int .i64 X1,.int .i64 Y1,.int .i64 0] 45)).alloc (.cells #[.int .i64 X2,.int .i64 Y2,.int .i64 E2] 45)).alloc (.cells #[.int .i64 0,.int .i64 0,.int .i64 0] 45)
  have Q:=((aH.new (w.alloc (.cells #[.int .i64 a,.int .i64 b] 28)) #[.int .i64 X1,.int .i64 Y1,.int .i64 0] 45).alloc (.cells #[.int .i64 X2,.int .i64 Y2,.int .i64 E2] 45)).alloc (.cells #[.int .i64 0,.int .i64 0,.int .i64 0] 45)
  rw [ui] at Q
  have U:=(aH.new ((w.alloc (.cells #[.int .i64 a,.int .i64 b] 28)).alloc (.cells #[.int .i64 X1,.int .i64 Y1,.int .i64 0] 45)) #[.int .i64 X2,.int .i64 Y2,.int .i64 E2] 45).alloc (.cells #[.int .i64 0,.int .i64 0,.int .i64 0] 45)
  rw [ui,ui] at U
  have R:=aH.new (((w.alloc (.cells #[.int .i64 a,.int .i64 b] 28)).alloc (.cells #[.int .i64 X1,.int .i64 Y1,.int .i64 0] 45)).alloc (.cells #[.int .i64 X2,.int .i64 Y2,.int .i64 E2] 45)) #[.int .i64 0,.int .i64 0,.int .i64 0] 45
  rw [ui,ui,ui] at R
  have B:=((((uk w.heap.size w).alloc (ul _) (.cells #[.int .i64 a,.int .i64 b] 28)).alloc (by rw [ui];omega) (.cells #[.int .i64 X1,.int .i64 Y1,.int .i64 0] 45)).alloc (by rw [ui,ui];omega) (.cells #[.int .i64 X2,.int .i64 Y2,.int .i64 E2] 45)).alloc (by rw [ui,ui,ui];omega) (.cells #[.int .i64 0,.int .i64 0,.int .i64 0] 45)
  generalize hw3:(((w.alloc (.cells #[.int .i64 a,.int .i64 b] 28)).alloc (.cells #[.int .i64 X1,.int .i64 Y1,.int .i64 0] 45)).alloc (.cells #[.int .i64 X2,.int .i64 Y2,.int .i64 E2] 45)).alloc (.cells #[.int .i64 0,.int .i64 0,.int .i64 0] 45)=wc at *
  have C_c0:=C.box.c0
  have C_c1:=C.box.c1
  have ⟨q0,q1,q2⟩:=Q.aQ
  have ⟨u0,u1,u2⟩:=U.aQ
  have ⟨r0,r1,r2⟩:=R.aQ
  have f0:=R.frz 0
  have f1:=R.frz 1
  have f2:=R.frz 2
  have rl:=R.lt
  go_enter Tryz.func29,Tryz.ntmps29
  go_wp2
  exact bodyPost_ret (v:=.tuple #[.agg #[.int .i64 X2,.int .i64 Y2,.int .i64 E2],.bool true]) (by simp [results,Tryz.results29,go_sem, *]) rfl (⟨rfl,uj (uj (uj B (by simp;omega) _) (by simp;omega) _) (by simp;omega) _⟩)
 obtain ⟨p1,p2,p3,p4,p5,p6,p7,p8⟩:=(M.eU hin hp).resolve_left (fun h=>hE1 h.1)
 by_cases hE2:E2=0
 ·have hf:=uh (show M.ff a X1 Y1 E1 X2 Y2 E2=X1∧M.gy a X1 Y1 E1 X2 Y2 E2=Y1∧M.fd a X1 Y1 E1 X2 Y2 E2=E1∧M.eD a X1 Y1 E1 X2 Y2 E2=true from ⟨(if_neg hE1).trans (if_pos hE2),(if_neg hE1).trans (if_pos hE2),(if_neg hE1).trans (if_pos hE2),(if_neg hE1).trans (if_pos hE2)⟩)
  rw [hf.out.1,hf.out.2.1,hf.out.2.2.1,hf.out.2.2.2]
  clear hf hg hp hq hin p5 p6
  have hE3:(E1 == 0)=false:=by rw [beq_eq_false_iff_ne];exact hE1
  subst hE2
  have C:=(((aH.new w #[.int .i64 a,.int .i64 b] 28).alloc (.cells #[.int .i64 X1,.int .i64 Y1,.int .i64 E1] 45)).alloc (.cells #[.int .i64 X2,.int .i64 Y2,.int .i64 0] 45)).alloc (.cells #[.int .i64 0,.int .i64 0,.int .i64 0] 45)
  have Q:=((aH.new (w.alloc (.cells #[.int .i64 a,.int .i64 b] 28)) #[.int .i64 X1,.int .i64 Y1,.int .i64 E1] 45).alloc (.cells #[.int .i64 X2,.int .i64 Y2,.int .i64 0] 45)).alloc (.cells #[.int .i64 0,.int .i64 0,.int .i64 0] 45)
  rw [ui] at Q
  have U:=(aH.new ((w.alloc (.cells #[.int .i64 a,.int .i64 b] 28)).alloc (.cells #[.int .i64 X1,.int .i64 Y1,.int .i64 E1] 45)) #[.int .i64 X2,.int .i64 Y2,.int .i64 0] 45).alloc (.cells #[.int .i64 0,.int .i64 0,.int .i64 0] 45)
  rw [ui,ui] at U
  have R:=aH.new (((w.alloc (.cells #[.int .i64 a,.int .i64 b] 28)).alloc (.cells #[.int .i64 X1,.int .i64 Y1,.int .i64 E1] 45)).alloc (.cells #[.int .i64 X2,.int .i64 Y2,.int .i64 0] 45)) #[.int .i64 0,.int .i64 0,.int .i64 0] 45
  rw [ui,ui,ui] at R
  have B:=((((uk w.heap.size w).alloc (ul _) (.cells #[.int .i64 a,.int .i64 b] 28)).alloc (by rw [ui];omega) (.cells #[.int .i64 X1,.int .i64 Y1,.int .i64 E1] 45)).alloc (by rw [ui,ui];omega) (.cells #[.int .i64 X2,.int .i64 Y2,.int .i64 0] 45)).alloc (by rw [ui,ui,ui];omega) (.cells #[.int .i64 0,.int .i64 0,.int .i64 0] 45)
  generalize hw3:(((w.alloc (.cells #[.int .i64 a,.int .i64 b] 28)).alloc (.cells #[.int .i64 X1,.int .i64 Y1,.int .i64 E1] 45)).alloc (.cells #[.int .i64 X2,.int .i64 Y2,.int .i64 0] 45)).alloc (.cells #[.int .i64 0,.int .i64 0,.int .i64 0] 45)=wc at *
  have C_c0:=C.box.c0
  have C_c1:=C.box.c1
  have ⟨q0,q1,q2⟩:=Q.aQ
  have ⟨u0,u1,u2⟩:=U.aQ
  have ⟨r0,r1,r2⟩:=R.aQ
  have f0:=R.frz 0
  have f1:=R.frz 1
  have f2:=R.frz 2
  have rl:=R.lt
  go_enter Tryz.func29,Tryz.ntmps29
  go_wp2
  exact bodyPost_ret (v:=.tuple #[.agg #[.int .i64 X1,.int .i64 Y1,.int .i64 E1],.bool true]) (by simp [results,Tryz.results29,go_sem, *]) rfl (⟨rfl,uj (uj (uj B (by simp;omega) _) (by simp;omega) _) (by simp;omega) _⟩)
 obtain ⟨r1,r2,r3,r4,r5,r6,r7,r8⟩:=(M.eU hin hq).resolve_left (fun h=>hE2 h.1)
 have hf:=uh (show M.ff a X1 Y1 E1 X2 Y2 E2=M.fnX a X1 Y1 E1 X2 Y2 E2∧M.gy a X1 Y1 E1 X2 Y2 E2=M.fnY a X1 Y1 E1 X2 Y2 E2∧M.fd a X1 Y1 E1 X2 Y2 E2=M.fnE a X1 Y1 E1 X2 Y2 E2∧M.eD a X1 Y1 E1 X2 Y2 E2=M.fl a X1 Y1 E1 X2 Y2 E2 from ⟨(if_neg hE1).trans (if_neg hE2),(if_neg hE1).trans (if_neg hE2),(if_neg hE1).trans (if_neg hE2),(if_neg hE1).trans (if_neg hE2)⟩)
 rw [hf.out.1,hf.out.2.1,hf.out.2.2.1,hf.out.2.2.2]
 exact mr a b X1 Y1 E1 X2 Y2 E2 w ha1 ha2 p3 p4 p7 p8 p1 p2 r3 r4 r7 r8 r1 r2 hb1 hb2 p6 r6
theorem dp {B:Nat} {w w':World} (h:Below B w w') (p:Addr) (x:Value):Below B (w.setCell p x) (w'.setCell p x):=
 ⟨h.os,h.tape,h.output,by simp [World.setCell];exact h.size,fun k hk=>by
  show (w'.heap.modify p.block _)[k]?=(w.heap.modify p.block _)[k]?
  rw [Array.getElem?_modify,Array.getElem?_modify,h.block k hk]⟩
theorem bO (w:World) (p:Addr) (x:Value):(w.setCell p x).heap.size=w.heap.size:=by simp [World.setCell]
theorem cE {w w':World} {p:Addr} {x:Value} (h:Below w.heap.size (w.setCell p x) w'):Below (w.setCell p x).heap.size (w.setCell p x) w':=h.mono (Nat.le_of_eq (bO w p x))
theorem mh (g:Nat) (ok:Bool) (lo hi:Int) (w:World) (K:aH w g 92 #[.bool ok]) :
  Calls Tryz.prog 72 #[.pointer (some ⟨g,0,none⟩),.agg #[.int .i64 lo,.int .i64 hi]] w fun e w'=>e=.returned (.agg #[.int .i64 (M.pick (ok && M.aO lo hi) lo),.int .i64 (M.pick (ok && M.aO lo hi) hi)])∧Below w.heap.size (w.setCell ⟨g,0,none⟩ (.bool (ok && M.aO lo hi))) w':=by
 have PV:=uh fun W=>iN lo hi W
 have hgl:=K.lt
 have B:=((uk w.heap.size w).alloc (ul _) (.cells #[.int .i64 lo,.int .i64 hi] 61)).alloc (by rw [ui];omega) (.cells #[.int .i64 0,.int .i64 0] 61)
 have S:=(aH.new w #[.int .i64 lo,.int .i64 hi] 61).alloc (.cells #[.int .i64 0,.int .i64 0] 61)
 have R:=aH.new (w.alloc (.cells #[.int .i64 lo,.int .i64 hi] 61)) #[.int .i64 0,.int .i64 0] 61
 rw [ui] at R
 have K2:=(K.alloc (.cells #[.int .i64 lo,.int .i64 hi] 61)).alloc (.cells #[.int .i64 0,.int .i64 0] 61)
 generalize hw3:(w.alloc (.cells #[.int .i64 lo,.int .i64 hi] 61)).alloc (.cells #[.int .i64 0,.int .i64 0] 61)=wc at *
 have k0:=K2.cell 0
 have kf:=K2.frz 0
 have kl:=K2.lt
 have n1:g≠w.heap.size:=by omega
 have n2:g≠w.heap.size+1:=by omega
 have ⟨s0,s1,s2,s3,s4⟩:=S.box
 have ⟨r0,r1,r2,r3,r4⟩:=R.box
 cases ok
 ·go_enter Tryz.func72,Tryz.ntmps72
  go_wp2
  exact bodyPost_ret (v:=.agg #[.int .i64 0,.int .i64 0]) (by simp [results,Tryz.results72,go_sem, *]) rfl (⟨rfl,uj (uj (dp B ⟨g,0,none⟩ (.bool false)) (by simp) _) (by simp) _⟩)
 cases hv:M.aO lo hi
 ·rw [hv] at PV
  go_enter Tryz.func72,Tryz.ntmps72
  go_wp2_with (go_at_call 42;(with_reducible refine (PV.out _).mono ?_);rintro e w4 ⟨rfl,hb4⟩;(replace B:=B.trans (hb4.mono B.size));(replace S:=S.keep hb4);(replace R:=R.keep hb4);(replace K2:=K2.keep hb4);(have k0:=K2.cell 0);(have kf:=K2.frz 0);(have kl:=K2.lt);(obtain ⟨s0,s1,s2,s3,s4⟩:=S.box);(obtain ⟨r0,r1,r2,r3,r4⟩:=R.box))
  exact bodyPost_ret (v:=.agg #[.int .i64 0,.int .i64 0]) (by simp [results,Tryz.results72,go_sem, *]) rfl (⟨rfl,uj (uj (dp B ⟨g,0,none⟩ (.bool false)) (by simp) _) (by simp) _⟩)
 rw [hv] at PV
 go_enter Tryz.func72,Tryz.ntmps72
 go_wp2_with (go_at_call 42;(with_reducible refine (PV.out _).mono ?_);rintro e w4 ⟨rfl,hb4⟩;(replace B:=B.trans (hb4.mono B.size));(replace S:=S.keep hb4);(replace R:=R.keep hb4);(replace K2:=K2.keep hb4);(have k0:=K2.cell 0);(have kf:=K2.frz 0);(have kl:=K2.lt);(obtain ⟨s0,s1,s2,s3,s4⟩:=S.box);(obtain ⟨r0,r1,r2,r3,r4⟩:=R.box))
 exact bodyPost_ret (v:=.agg #[.int .i64 lo,.int .i64 hi]) (by simp [results,Tryz.results72,go_sem, *]) rfl (⟨rfl,uj (uj (dp B ⟨g,0,none⟩ (.bool true)) (by simp) _) (by simp) _⟩)
namespace M
abbrev Sp:=Option (Int × Int)
def slo (s:Sp):Int:=(s.getD (0,0)).1
def shi (s:Sp):Int:=(s.getD (0,0)).2
def mkS (l h:Int):Sp:=if aO l h=true then some (l,h) else none
def fU (s t:Sp):Sp:=s.bind fun p=>t.bind fun q=>mkS (p.1+q.1) (p.2+q.2)
def ch (s t:Sp):Sp:=s.bind fun p=>t.bind fun q=>mkS (p.1 - q.2) (p.2 - q.1)
noncomputable def bc (a b X E:Int):Sp:=if bOk a b X E=true then some (bL a b X E (bN a b X E),bH a b X E (bN a b X E)) else none
def gd (f:Bool) (s:Sp):Sp:=if f=true then s else none
def okS (s:Sp):Prop:=∀ p,s=some p→aO p.1 p.2=true
theorem fB:okS none:=fun _ h=>by cases h
theorem tk (l h:Int):okS (mkS l h):=by
 intro p hp
 unfold mkS at hp
 split at hp
 ·injection hp with hp;subst hp;assumption
 cases hp
theorem mj {f:Bool} {s:Sp} (h:okS s):okS (gd f s):=by
 unfold gd;split
 ·exact h
 exact fB
theorem jk {s t:Sp} {F G:Int × Int→Int × Int→Int}:okS (s.bind fun p=>t.bind fun q=>mkS (F p q) (G p q)):=by
 cases s
 ·exact fB
 cases t
 ·exact fB
 exact tk _ _
theorem sP {s t:Sp}:okS (fU s t):=jk
theorem kK {s t:Sp}:okS (ch s t):=jk
theorem kJ {s:Sp} (h:okS s):slo s≤shi s∧-409600000≤slo s∧shi s≤409600000:=by
 cases s with
 | none=>exact ⟨Int.le_refl _,by decide,by decide⟩
 | some p=>exact bi (h p rfl)
theorem nT {a b X E:Int} (hin:M.bB a b=true) (hX1:-10000≤X) (hX2:X≤10000) (hE1:0≤E) (hE2:E≤20) (h:bOk a b X E=true):aO (bL a b X E (bN a b X E)) (bH a b X E (bN a b X E))=true:=by
 cases hs:aO (bL a b X E (bN a b X E)) (bH a b X E (bN a b X E))
 ·rw [uI hin hX1 hX2 hE1 hE2 (ul _) hs] at h;cases h
 rfl
theorem dw {a b X E:Int} (hin:M.bB a b=true) (hX1:-10000≤X) (hX2:X≤10000) (hE1:0≤E) (hE2:E≤20):okS (bc a b X E):=by
 intro p hp
 unfold bc at hp
 split at hp
 ·rename_i h
  injection hp with hp;subst hp;exact nT hin hX1 hX2 hE1 hE2 h
 cases hp
theorem step2 {ok:Bool} {s t:Sp} {F G:Int→Int→Int→Int→Int} (h1:ok=true→s.isSome=true) (h2:ok=true→t.isSome=true):(ok && aO (F (slo s) (shi s) (slo t) (shi t)) (G (slo s) (shi s) (slo t) (shi t)))=(gd ok (s.bind fun p=>t.bind fun q=>mkS (F p.1 p.2 q.1 q.2) (G p.1 p.2 q.1 q.2))).isSome∧pick (ok && aO (F (slo s) (shi s) (slo t) (shi t)) (G (slo s) (shi s) (slo t) (shi t))) (F (slo s) (shi s) (slo t) (shi t))=slo (gd ok (s.bind fun p=>t.bind fun q=>mkS (F p.1 p.2 q.1 q.2) (G p.1 p.2 q.1 q.2)))∧pick (ok && aO (F (slo s) (shi s) (slo t) (shi t)) (G (slo s) (shi s) (slo t) (shi t))) (G (slo s) (shi s) (slo t) (shi t))=shi (gd ok (s.bind fun p=>t.bind fun q=>mkS (F p.1 p.2 q.1 q.2) (G p.1 p.2 q.1 q.2))):=by
 cases ok with
 | false=>exact ⟨rfl,rfl,rfl⟩
 | true=>
 obtain ⟨p,rfl⟩:=Option.isSome_iff_exists.1 (h1 rfl)
 obtain ⟨q,rfl⟩:=Option.isSome_iff_exists.1 (h2 rfl)
 show (true && aO (F p.1 p.2 q.1 q.2) (G p.1 p.2 q.1 q.2))=(mkS (F p.1 p.2 q.1 q.2) (G p.1 p.2 q.1 q.2)).isSome∧pick (true && aO (F p.1 p.2 q.1 q.2) (G p.1 p.2 q.1 q.2)) (F p.1 p.2 q.1 q.2)=slo (mkS (F p.1 p.2 q.1 q.2) (G p.1 p.2 q.1 q.2))∧pick (true && aO (F p.1 p.2 q.1 q.2) (G p.1 p.2 q.1 q.2)) (G p.1 p.2 q.1 q.2)=shi (mkS (F p.1 p.2 q.1 q.2) (G p.1 p.2 q.1 q.2))
 unfold mkS
 cases aO (F p.1 p.2 q.1 q.2) (G p.1 p.2 q.1 q.2) <;> exact ⟨rfl,rfl,rfl⟩
end M
theorem qf (g:Nat) (ok:Bool) (a b c d:Int) (w:World) (K:aH w g 92 #[.bool ok]) (h1:-4000000000000000000≤a) (h2:a≤4000000000000000000) (h3:-4000000000000000000≤b) (h4:b≤4000000000000000000) (h5:-4000000000000000000≤c) (h6:c≤4000000000000000000) (h7:-4000000000000000000≤d) (h8:d≤4000000000000000000) :
  Calls Tryz.prog 60 #[.pointer (some ⟨g,0,none⟩),.agg #[.int .i64 a,.int .i64 b],.agg #[.int .i64 c,.int .i64 d]] w fun e w'=>e=.returned (.agg #[.int .i64 (M.pick (ok && M.aO (a+c) (b+d)) (a+c)),.int .i64 (M.pick (ok && M.aO (a+c) (b+d)) (b+d))])∧Below w.heap.size (w.setCell ⟨g,0,none⟩ (.bool (ok && M.aO (a+c) (b+d)))) w':=by
 have PP:=fun W=>tl a b c d W h1 h2 h3 h4 h5 h6 h7 h8
 have PK:=fun W (k:aH W g 92 #[.bool ok])=>mh g ok (a+c) (b+d) W k
 generalize (a+c)=lo at *
 generalize (b+d)=hi at *
 generalize (ok && M.aO lo hi)=f at *
 replace PP:=uh PP
 replace PK:=uh PK
 have hgl:=K.lt
 have B:=(((uk w.heap.size w).alloc (ul _) (.cells #[.int .i64 a,.int .i64 b] 61)).alloc (by rw [ui];omega) (.cells #[.int .i64 c,.int .i64 d] 61)).alloc (by rw [ui,ui];omega) (.cells #[.int .i64 0,.int .i64 0] 61)
 have S:=((aH.new w #[.int .i64 a,.int .i64 b] 61).alloc (.cells #[.int .i64 c,.int .i64 d] 61)).alloc (.cells #[.int .i64 0,.int .i64 0] 61)
 have T:=(aH.new (w.alloc (.cells #[.int .i64 a,.int .i64 b] 61)) #[.int .i64 c,.int .i64 d] 61).alloc (.cells #[.int .i64 0,.int .i64 0] 61)
 rw [ui] at T
 have R:=aH.new ((w.alloc (.cells #[.int .i64 a,.int .i64 b] 61)).alloc (.cells #[.int .i64 c,.int .i64 d] 61)) #[.int .i64 0,.int .i64 0] 61
 rw [ui,ui] at R
 have K2:=((K.alloc (.cells #[.int .i64 a,.int .i64 b] 61)).alloc (.cells #[.int .i64 c,.int .i64 d] 61)).alloc (.cells #[.int .i64 0,.int .i64 0] 61)
 generalize hw3:((w.alloc (.cells #[.int .i64 a,.int .i64 b] 61)).alloc (.cells #[.int .i64 c,.int .i64 d] 61)).alloc (.cells #[.int .i64 0,.int .i64 0] 61)=wc at *
 have n1:w.heap.size+1+1≠g:=by omega
 have ⟨s0,s1,_,_,_⟩:=S.box
 have ⟨t0,t1,_,_,_⟩:=T.box
 go_enter Tryz.func60,Tryz.ntmps60
 go_wp2_with first | (go_at_call 73;(with_reducible refine (PP.out _).mono ?_);rintro e w4 ⟨rfl,hb4⟩;(replace B:=B.trans (hb4.mono B.size));(replace R:=R.keep hb4);(replace K2:=K2.keep hb4)) | (go_at_call 72;(with_reducible refine (PK.out _ K2).mono ?_);rintro e w5 ⟨rfl,hb5⟩;(have hz:=B.size);(replace B:=(dp B ⟨g,0,none⟩ (.bool f)).trans (hb5.mono hz));(replace R:=(R.other n1 (.bool f)).keep (cE hb5));(obtain ⟨r0,r1,r2,r3,r4⟩:=R.box))
 exact bodyPost_ret (v:=.agg #[.int .i64 (M.pick f lo),.int .i64 (M.pick f hi)]) (by simp [results,Tryz.results60,go_sem, *]) rfl (⟨rfl,uj (uj B (by simp;omega) _) (by simp;omega) _⟩)
theorem sI (g:Nat) (ok:Bool) (s t:M.Sp) (w:World) (K:aH w g 92 #[.bool ok]) (hs:M.okS s) (ht:M.okS t) (h1:ok=true→s.isSome=true) (h2:ok=true→t.isSome=true) :
  Calls Tryz.prog 60 #[.pointer (some ⟨g,0,none⟩),.agg #[.int .i64 (M.slo s),.int .i64 (M.shi s)],.agg #[.int .i64 (M.slo t),.int .i64 (M.shi t)]] w fun e w'=>e=.returned (.agg #[.int .i64 (M.slo (M.gd ok (M.fU s t))),.int .i64 (M.shi (M.gd ok (M.fU s t)))])∧Below w.heap.size (w.setCell ⟨g,0,none⟩ (.bool (M.gd ok (M.fU s t)).isSome)) w':=by
 obtain ⟨e1,e2,e3⟩:=M.step2 (F:=fun a _ c _=>a+c) (G:=fun _ b _ d=>b+d) h1 h2
 have b1:=M.kJ hs
 have b2:=M.kJ ht
 have h:=qf g ok (M.slo s) (M.shi s) (M.slo t) (M.shi t) w K (by omega) (by omega) (by omega) (by omega) (by omega) (by omega) (by omega) (by omega)
 rw [e2,e3,e1] at h
 exact h
theorem ow (g:Nat) (ok:Bool) (a b c d:Int) (w:World) (K:aH w g 92 #[.bool ok]) (h1:-4000000000000000000≤a) (h2:a≤4000000000000000000) (h3:-4000000000000000000≤b) (h4:b≤4000000000000000000) (h5:-4000000000000000000≤c) (h6:c≤4000000000000000000) (h7:-4000000000000000000≤d) (h8:d≤4000000000000000000) :
  Calls Tryz.prog 62 #[.pointer (some ⟨g,0,none⟩),.agg #[.int .i64 a,.int .i64 b],.agg #[.int .i64 c,.int .i64 d]] w fun e w'=>e=.returned (.agg #[.int .i64 (M.pick (ok && M.aO (a - d) (b - c)) (a - d)),.int .i64 (M.pick (ok && M.aO (a - d) (b - c)) (b - c))])∧Below w.heap.size (w.setCell ⟨g,0,none⟩ (.bool (ok && M.aO (a - d) (b - c)))) w':=by
 have PP:=fun W=>sL a b c d W h1 h2 h3 h4 h5 h6 h7 h8
 have PK:=fun W (k:aH W g 92 #[.bool ok])=>mh g ok (a - d) (b - c) W k
 generalize (a - d)=lo at *
 generalize (b - c)=hi at *
 generalize (ok && M.aO lo hi)=f at *
 replace PP:=uh PP
 replace PK:=uh PK
 have hgl:=K.lt
 have B:=(((uk w.heap.size w).alloc (ul _) (.cells #[.int .i64 a,.int .i64 b] 61)).alloc (by rw [ui];omega) (.cells #[.int .i64 c,.int .i64 d] 61)).alloc (by rw [ui,ui];omega) (.cells #[.int .i64 0,.int .i64 0] 61)
 have S:=((aH.new w #[.int .i64 a,.int .i64 b] 61).alloc (.cells #[.int .i64 c,.int .i64 d] 61)).alloc (.cells #[.int .i64 0,.int .i64 0] 61)
 have T:=(aH.new (w.alloc (.cells #[.int .i64 a,.int .i64 b] 61)) #[.int .i64 c,.int .i64 d] 61).alloc (.cells #[.int .i64 0,.int .i64 0] 61)
 rw [ui] at T
 have R:=aH.new ((w.alloc (.cells #[.int .i64 a,.int .i64 b] 61)).alloc (.cells #[.int .i64 c,.int .i64 d] 61)) #[.int .i64 0,.int .i64 0] 61
 rw [ui,ui] at R
 have K2:=((K.alloc (.cells #[.int .i64 a,.int .i64 b] 61)).alloc (.cells #[.int .i64 c,.int .i64 d] 61)).alloc (.cells #[.int .i64 0,.int .i64 0] 61)
 generalize hw3:((w.alloc (.cells #[.int .i64 a,.int .i64 b] 61)).alloc (.cells #[.int .i64 c,.int .i64 d] 61)).alloc (.cells #[.int .i64 0,.int .i64 0] 61)=wc at *
 have n1:w.heap.size+1+1≠g:=by omega
 have ⟨s0,s1,_,_,_⟩:=S.box
 have ⟨t0,t1,_,_,_⟩:=T.box
 go_enter Tryz.func62,Tryz.ntmps62
 go_wp2_with first | (go_at_call 83;(with_reducible refine (PP.out _).mono ?_);rintro e w4 ⟨rfl,hb4⟩;(replace B:=B.trans (hb4.mono B.size));(replace R:=R.keep hb4);(replace K2:=K2.keep hb4)) | (go_at_call 72;(with_reducible refine (PK.out _ K2).mono ?_);rintro e w5 ⟨rfl,hb5⟩;(have hz:=B.size);(replace B:=(dp B ⟨g,0,none⟩ (.bool f)).trans (hb5.mono hz));(replace R:=(R.other n1 (.bool f)).keep (cE hb5));(obtain ⟨r0,r1,r2,r3,r4⟩:=R.box))
 exact bodyPost_ret (v:=.agg #[.int .i64 (M.pick f lo),.int .i64 (M.pick f hi)]) (by simp [results,Tryz.results62,go_sem, *]) rfl (⟨rfl,uj (uj B (by simp;omega) _) (by simp;omega) _⟩)
theorem lQ (g:Nat) (ok:Bool) (s t:M.Sp) (w:World) (K:aH w g 92 #[.bool ok]) (hs:M.okS s) (ht:M.okS t) (h1:ok=true→s.isSome=true) (h2:ok=true→t.isSome=true) :
  Calls Tryz.prog 62 #[.pointer (some ⟨g,0,none⟩),.agg #[.int .i64 (M.slo s),.int .i64 (M.shi s)],.agg #[.int .i64 (M.slo t),.int .i64 (M.shi t)]] w fun e w'=>e=.returned (.agg #[.int .i64 (M.slo (M.gd ok (M.ch s t))),.int .i64 (M.shi (M.gd ok (M.ch s t)))])∧Below w.heap.size (w.setCell ⟨g,0,none⟩ (.bool (M.gd ok (M.ch s t)).isSome)) w':=by
 obtain ⟨e1,e2,e3⟩:=M.step2 (F:=fun a _ _ d=>a - d) (G:=fun _ b c _=>b - c) h1 h2
 have b1:=M.kJ hs
 have b2:=M.kJ ht
 have h:=ow g ok (M.slo s) (M.shi s) (M.slo t) (M.shi t) w K (by omega) (by omega) (by omega) (by omega) (by omega) (by omega) (by omega) (by omega)
 rw [e2,e3,e1] at h
 exact h
theorem iW {B g:Nat} {w W:World} {T:TypeId} {u v x y:Value} (h:Below B w W) (K:aH w g T #[u]) (K2:aH W g T #[v]):Below B (w.setCell ⟨g,0,none⟩ y) ((W.setCell ⟨g,0,none⟩ x).setCell ⟨g,0,none⟩ y):=
 ⟨h.os,h.tape,h.output,by rw [bO,bO,bO];exact h.size,fun k hk=>by
  by_cases hg:k=g
  ·subst hg
   exact ((K2.one x).one y).trans (K.one y).symm
  rw [Below.heap_setCell _ _ _ _ hg,Below.heap_setCell _ _ _ _ hg,Below.heap_setCell _ _ _ _ hg]
  exact h.block k hk⟩
theorem iH (g:Nat) (ok:Bool) (a b X Y E:Int) (w:World) (K:aH w g 92 #[.bool ok]) (hg:M.good a b=true) (hX1:-10000≤X) (hX2:X≤10000) (hE1:0≤E) (hE2:E≤20) :
  Calls Tryz.prog 59 #[.pointer (some ⟨g,0,none⟩),.agg #[.int .i64 a,.int .i64 b],.agg #[.int .i64 X,.int .i64 Y,.int .i64 E]] w fun e w'=>e=.returned (.agg #[.int .i64 (M.slo (M.gd ok (M.bc a b X E))),.int .i64 (M.shi (M.gd ok (M.bc a b X E)))])∧Below w.heap.size (w.setCell ⟨g,0,none⟩ (.bool (M.gd ok (M.bc a b X E)).isSome)) w':=by
 have PB:=fun W=>jx a b X Y E W hg hX1 hX2 hE1 hE2
 have hbo:=fun h=>M.nT (a:=a) (b:=b) (X:=X) (E:=E) (M.bE hg) hX1 hX2 hE1 hE2 h
 have hv:Hid (M.bc a b X E=if M.bOk a b X E=true then some (M.bL a b X E (M.bN a b X E),M.bH a b X E (M.bN a b X E)) else none):=uh rfl
 rw [hv.out]
 clear hv
 generalize M.bL a b X E (M.bN a b X E)=lo at *
 generalize M.bH a b X E (M.bN a b X E)=hi at *
 generalize M.bOk a b X E=bo at *
 generalize ((M.bN a b X E:Nat):Int)=bn at *
 have PK:=fun W (k:aH W g 92 #[.bool (ok && bo)])=>mh g (ok && bo) lo hi W k
 have e1:(ok && bo && M.aO lo hi)=(M.gd ok (if bo=true then some (lo,hi) else none)).isSome:=by
  cases ok <;> cases bo <;> first | rfl | (rw [hbo rfl];rfl)
 have e2:M.pick (ok && bo && M.aO lo hi) lo=M.slo (M.gd ok (if bo=true then some (lo,hi) else none)):=by
  cases ok <;> cases bo <;> first | rfl | (rw [hbo rfl];rfl)
 have e3:M.pick (ok && bo && M.aO lo hi) hi=M.shi (M.gd ok (if bo=true then some (lo,hi) else none)):=by
  cases ok <;> cases bo <;> first | rfl | (rw [hbo rfl];rfl)
 rw [e2,e3,e1] at PK
 clear e1 e2 e3 hbo
 generalize M.gd ok (if bo=true then some (lo,hi) else none)=r at *
 replace PB:=uh PB
 have hgl:=K.lt
 have B:=(((uk w.heap.size w).alloc (ul _) (.cells #[.int .i64 a,.int .i64 b] 28)).alloc (by rw [ui];omega) (.cells #[.int .i64 X,.int .i64 Y,.int .i64 E] 45)).alloc (by rw [ui,ui];omega) (.cells #[.int .i64 0,.int .i64 0] 61)
 have C:=((aH.new w #[.int .i64 a,.int .i64 b] 28).alloc (.cells #[.int .i64 X,.int .i64 Y,.int .i64 E] 45)).alloc (.cells #[.int .i64 0,.int .i64 0] 61)
 have Q:=(aH.new (w.alloc (.cells #[.int .i64 a,.int .i64 b] 28)) #[.int .i64 X,.int .i64 Y,.int .i64 E] 45).alloc (.cells #[.int .i64 0,.int .i64 0] 61)
 rw [ui] at Q
 have R:=aH.new ((w.alloc (.cells #[.int .i64 a,.int .i64 b] 28)).alloc (.cells #[.int .i64 X,.int .i64 Y,.int .i64 E] 45)) #[.int .i64 0,.int .i64 0] 61
 rw [ui,ui] at R
 have K2:=((K.alloc (.cells #[.int .i64 a,.int .i64 b] 28)).alloc (.cells #[.int .i64 X,.int .i64 Y,.int .i64 E] 45)).alloc (.cells #[.int .i64 0,.int .i64 0] 61)
 generalize hw3:((w.alloc (.cells #[.int .i64 a,.int .i64 b] 28)).alloc (.cells #[.int .i64 X,.int .i64 Y,.int .i64 E] 45)).alloc (.cells #[.int .i64 0,.int .i64 0] 61)=wc at *
 have n1:w.heap.size+1+1≠g:=by omega
 have C_c0:=C.box.c0
 have C_c1:=C.box.c1
 have ⟨q0,q1,q2⟩:=Q.aQ
 have hgm:g≠w.heap.size+1+1:=fun e=>n1 e.symm
 cases ok
 ·replace PK:=uh (show ∀ W,aH W g 92 #[(.bool false)]→_ from PK)
  go_enter Tryz.func59,Tryz.ntmps59
  go_wp2_with first | (go_at_call 71;(with_reducible refine (PB.out _).mono ?_);rintro e w4 ⟨rfl,hb4⟩;(replace B:=(B.trans (hb4.mono B.size)).alloc (Nat.le_trans B.size hb4.size) (.cells #[.int .i64 lo,.int .i64 hi] 61));(replace R:=(R.keep hb4).alloc (.cells #[.int .i64 lo,.int .i64 hi] 61));(replace K2:=K2.keep hb4);(have n3:w4.heap.size≠g:=by have:=K2.lt;omega);(have n4:g≠w4.heap.size:=fun e=>n3 e.symm);(replace K2:=K2.alloc (.cells #[.int .i64 lo,.int .i64 hi] 61));(have k0:=K2.cell 0);(have kf:=K2.frz 0);(have kl:=K2.lt);(have V:=aH.new w4 #[.int .i64 lo,.int .i64 hi] 61);(have v0:=V.cell 0);(have v1:=V.cell 1);(have V2:=V.other (i:=0) n3 (.bool false));(have v2:=V2.cell 0);(have v3:=V2.cell 1)) | (go_at_call 72;(with_reducible refine (PK.out _ (K2.one (.bool false))).mono ?_);rintro e w5 ⟨rfl,hb5⟩;(have hz:=B.size);(replace R:=((R.other n1 (.bool false)).other n1 (.bool r.isSome)).keep (cE hb5));(replace B:=(iW (x:=(.bool false)) (y:=.bool r.isSome) B K K2).trans (hb5.mono (by rw [bO];exact hz)));(obtain ⟨r0,r1,r2,r3,r4⟩:=R.box))
  exact bodyPost_ret (v:=.agg #[.int .i64 (M.slo r),.int .i64 (M.shi r)]) (by simp [results,Tryz.results59,go_sem, *]) rfl (⟨rfl,uj (uj B (by simp;omega) _) (by simp;omega) _⟩)
 replace PK:=uh (show ∀ W,aH W g 92 #[(.bool bo)]→_ from PK)
 go_enter Tryz.func59,Tryz.ntmps59
 go_wp2_with first | (go_at_call 71;(with_reducible refine (PB.out _).mono ?_);rintro e w4 ⟨rfl,hb4⟩;(replace B:=(B.trans (hb4.mono B.size)).alloc (Nat.le_trans B.size hb4.size) (.cells #[.int .i64 lo,.int .i64 hi] 61));(replace R:=(R.keep hb4).alloc (.cells #[.int .i64 lo,.int .i64 hi] 61));(replace K2:=K2.keep hb4);(have n3:w4.heap.size≠g:=by have:=K2.lt;omega);(have n4:g≠w4.heap.size:=fun e=>n3 e.symm);(replace K2:=K2.alloc (.cells #[.int .i64 lo,.int .i64 hi] 61));(have k0:=K2.cell 0);(have kf:=K2.frz 0);(have kl:=K2.lt);(have V:=aH.new w4 #[.int .i64 lo,.int .i64 hi] 61);(have v0:=V.cell 0);(have v1:=V.cell 1);(have V2:=V.other (i:=0) n3 (.bool bo));(have v2:=V2.cell 0);(have v3:=V2.cell 1)) | (go_at_call 72;(with_reducible refine (PK.out _ (K2.one (.bool bo))).mono ?_);rintro e w5 ⟨rfl,hb5⟩;(have hz:=B.size);(replace R:=((R.other n1 (.bool bo)).other n1 (.bool r.isSome)).keep (cE hb5));(replace B:=(iW (x:=(.bool bo)) (y:=.bool r.isSome) B K K2).trans (hb5.mono (by rw [bO];exact hz)));(obtain ⟨r0,r1,r2,r3,r4⟩:=R.box))
 exact bodyPost_ret (v:=.agg #[.int .i64 (M.slo r),.int .i64 (M.shi r)]) (by simp [results,Tryz.results59,go_sem, *]) rfl (⟨rfl,uj (uj B (by simp;omega) _) (by simp;omega) _⟩)
namespace M
noncomputable def d8 (a b X E:Int):Sp:=fU (bc a b X E) (bc a b X E)
noncomputable def dP (a b X1 Y1 E1 X2 Y2 E2:Int):Sp:=if eD a X1 Y1 E1 X2 Y2 E2=true then ch (ch (bc a b (ff a X1 Y1 E1 X2 Y2 E2) (fd a X1 Y1 E1 X2 Y2 E2)) (bc a b X1 E1)) (bc a b X2 E2) else none
theorem jY {f:Bool} {s:Sp} (h:(gd f s).isSome=true):f=true∧s.isSome=true∧gd f s=s:=by
 cases f
 ·cases h
 exact ⟨rfl,h,rfl⟩
theorem j9 (s:Sp):gd true s=s:=rfl
theorem ru (s t:Sp):gd s.isSome (fU s t)=fU s t:=by cases s <;> rfl
end M
theorem jU (a b X Y E:Int) (w:World) (hg:M.good a b=true) (hX1:-10000≤X) (hX2:X≤10000) (hE1:0≤E) (hE2:E≤20) :
  Calls Tryz.prog 40 #[.agg #[.int .i64 a,.int .i64 b],.agg #[.int .i64 X,.int .i64 Y,.int .i64 E]] w fun e w'=>e=.returned (.tuple #[.agg #[.int .i64 (M.slo (M.d8 a b X E)),.int .i64 (M.shi (M.d8 a b X E))],.bool (M.d8 a b X E).isSome])∧Below w.heap.size w w':=by
 have PB:=fun W K=>iH (w.heap.size+1+1+1) true a b X Y E W K hg hX1 hX2 hE1 hE2
 have hr:=M.dw (a:=a) (b:=b) (M.bE hg) hX1 hX2 hE1 hE2
 have hv:M.d8 a b X E=M.gd (M.bc a b X E).isSome (M.fU (M.bc a b X E) (M.bc a b X E)):=(M.ru _ _).symm
 rw [hv]
 clear hv
 rw [M.j9] at PB
 generalize M.bc a b X E=r at *
 have PP:=fun W K=>sI (w.heap.size+1+1+1) r.isSome r r W K hr hr (fun h=>h) (fun h=>h)
 generalize M.gd r.isSome (M.fU r r)=q at *
 generalize r.isSome=f at *
 generalize q.isSome=fq at *
 generalize M.slo q=ql at *
 generalize M.shi q=qh at *
 have PB:=uh PB
 have PP:=uh PP
 obtain ⟨wc,hw3,C,Q,R,K,B⟩:=jt w #[.int .i64 a,.int .i64 b] 28 #[.int .i64 X,.int .i64 Y,.int .i64 E] 45 #[.int .i64 0,.int .i64 0] 61 #[.bool true] 92
 have C_c0:=C.box.c0
 have C_c1:=C.box.c1
 have ⟨q0,q1,q2⟩:=Q.aQ
 go_enter Tryz.func40,Tryz.ntmps40
 go_wp2_with first | (go_at_call 59;(with_reducible refine (PB.out _ K).mono ?_);rintro e w4 ⟨rfl,hb4⟩;(have hb:=cE hb4);(replace R:=(R.other (i:=0) (by omega) (.bool f)).keep hb);(replace K:=(K.one (.bool f)).keep hb);(replace B:=(uj B (by simp;omega) _).trans (hb4.mono B.size));(clear hb hb4 C_c0 C_c1 q0 q1 q2 C Q);(have V:=aH.new w4 #[.int .i64 (M.slo r),.int .i64 (M.shi r)] 61);(have rl:=R.lt);(have kl:=K.lt);(have n1:w.heap.size+1+1≠w4.heap.size:=by omega);(have n2:w.heap.size+1+1+1≠w4.heap.size:=by omega);(have n3:=n1.symm);(have n4:=n2.symm);(replace B:=B.alloc B.size (.cells #[.int .i64 (M.slo r),.int .i64 (M.shi r)] 61));(replace R:=R.alloc (.cells #[.int .i64 (M.slo r),.int .i64 (M.shi r)] 61));(replace K:=K.alloc (.cells #[.int .i64 (M.slo r),.int .i64 (M.shi r)] 61));(have v0:=V.cell 0);(have v1:=V.cell 1)) | (go_at_call 60;(with_reducible refine (PP.out _ K).mono ?_);rintro e w5 ⟨rfl,hb5⟩;(have hb:=cE hb5);(replace R:=(R.other (i:=0) (by omega) (.bool fq)).keep hb);(replace V:=(V.other (i:=0) n4 (.bool fq)).keep hb);(replace K:=(K.one (.bool fq)).keep hb);(replace B:=(uj B (by simp;omega) _).trans (hb5.mono B.size));(clear hb hb5 v0 v1);(have ⟨v0,v1,v2,v3,v4⟩:=V.box);(have V5:=V.set2 (.int .i64 ql) (.int .i64 qh));(have R5:=R.bW n1 (.int .i64 ql) (.int .i64 qh));(have K5:=K.bW n2 (.int .i64 ql) (.int .i64 qh));(have B5:=dC B (k:=w4.heap.size) (by omega) (.int .i64 ql) (.int .i64 qh));(have ⟨z0,z1,_,_,_⟩:=V5.box);(have ⟨r0,r1,r2,r3,r4⟩:=R5.box);(have k0:=K5.cell 0))
 go_region
 all_goals
  go_wp2
  exact bodyPost_ret (v:=.tuple #[.agg #[.int .i64 ql,.int .i64 qh],.bool fq]) (by simp [results,Tryz.results40,go_sem, *]) rfl (⟨rfl,Below.drew (uj (uj B5 (by simp;omega) _) (by simp;omega) _)⟩)
namespace M
noncomputable def in1 (s:Sp):Int:=match s with | some p=>pn p.1 | none=>0
noncomputable def in2 (s:Sp):Int:=match s with | some p=>pd p.1 | none=>0
noncomputable def in3 (s:Sp):Int:=match s with | some p=>pn p.2 | none=>0
noncomputable def in4 (s:Sp):Int:=match s with | some p=>pd p.2 | none=>0
theorem jj (l h:Int):(mkS l h).isSome=aO l h:=by
 unfold mkS
 cases aO l h <;> rfl
theorem qs (l h:Int):pick (aO l h) (pn l)=in1 (mkS l h):=by
 unfold mkS
 cases aO l h <;> rfl
theorem qv (l h:Int):pick (aO l h) (pd l)=in2 (mkS l h):=by
 unfold mkS
 cases aO l h <;> rfl
theorem qw (l h:Int):pick (aO l h) (pn h)=in3 (mkS l h):=by
 unfold mkS
 cases aO l h <;> rfl
theorem qx (l h:Int):pick (aO l h) (pd h)=in4 (mkS l h):=by
 unfold mkS
 cases aO l h <;> rfl
end M
theorem ew (a b X Y E:Int) (w:World) (hg:M.good a b=true) (hX1:-10000≤X) (hX2:X≤10000) (hE1:0≤E) (hE2:E≤20) :
  Calls Tryz.prog 30 #[.agg #[.int .i64 a,.int .i64 b],.agg #[.int .i64 X,.int .i64 Y,.int .i64 E]] w fun e w'=>e=.returned (.tuple #[.agg #[.int .i64 (M.in1 (M.bc a b X E)),.int .i64 (M.in2 (M.bc a b X E)),.int .i64 (M.in3 (M.bc a b X E)),.int .i64 (M.in4 (M.bc a b X E))],.bool (M.bc a b X E).isSome])∧Below w.heap.size w w':=by
 have h:=mc a b X Y E w hg hX1 hX2 hE1 hE2
 unfold M.bc
 cases hb:M.bOk a b X E
 ·rw [hb] at h;exact h
 rw [hb] at h;exact h
theorem qc (p q:Int × Int) (w:World) (hp:M.aO p.1 p.2=true) (hq:M.aO q.1 q.2=true) :
  Calls Tryz.prog 32 #[.agg #[.int .i64 (M.in1 (some p)),.int .i64 (M.in2 (some p)),.int .i64 (M.in3 (some p)),.int .i64 (M.in4 (some p))],.agg #[.int .i64 (M.in1 (some q)),.int .i64 (M.in2 (some q)),.int .i64 (M.in3 (some q)),.int .i64 (M.in4 (some q))]] w fun e w'=>e=.returned (.tuple #[.agg #[.int .i64 (M.in1 (M.fU (some p) (some q))),.int .i64 (M.in2 (M.fU (some p) (some q))),.int .i64 (M.in3 (M.fU (some p) (some q))),.int .i64 (M.in4 (M.fU (some p) (some q)))],.bool (M.fU (some p) (some q)).isSome])∧Below w.heap.size w w':=by
 have h:=rx p.1 p.2 q.1 q.2 w hp hq
 rw [M.qs,M.qv,M.qw,M.qx,←M.jj] at h
 exact h
theorem qd (p q:Int × Int) (w:World) (hp:M.aO p.1 p.2=true) (hq:M.aO q.1 q.2=true) :
  Calls Tryz.prog 52 #[.agg #[.int .i64 (M.in1 (some p)),.int .i64 (M.in2 (some p)),.int .i64 (M.in3 (some p)),.int .i64 (M.in4 (some p))],.agg #[.int .i64 (M.in1 (some q)),.int .i64 (M.in2 (some q)),.int .i64 (M.in3 (some q)),.int .i64 (M.in4 (some q))]] w fun e w'=>e=.returned (.tuple #[.agg #[.int .i64 (M.in1 (M.ch (some p) (some q))),.int .i64 (M.in2 (M.ch (some p) (some q))),.int .i64 (M.in3 (M.ch (some p) (some q))),.int .i64 (M.in4 (M.ch (some p) (some q)))],.bool (M.ch (some p) (some q)).isSome])∧Below w.heap.size w w':=by
 have h:=rz p.1 p.2 q.1 q.2 w hp hq
 rw [M.qs,M.qv,M.qw,M.qx,←M.jj] at h
 exact h
theorem qZ (a b X Y E:Int) (w:World) (hg:M.good a b=true) (hX1:-10000≤X) (hX2:X≤10000) (hE1:0≤E) (hE2:E≤20) :
  Calls Tryz.prog 21 #[.agg #[.int .i64 a,.int .i64 b],.agg #[.int .i64 X,.int .i64 Y,.int .i64 E]] w fun e w'=>e=.returned (.tuple #[.agg #[.int .i64 (M.in1 (M.d8 a b X E)),.int .i64 (M.in2 (M.d8 a b X E)),.int .i64 (M.in3 (M.d8 a b X E)),.int .i64 (M.in4 (M.d8 a b X E))],.bool (M.d8 a b X E).isSome])∧Below w.heap.size w w':=by
 have PH:=fun W=>ew a b X Y E W hg hX1 hX2 hE1 hE2
 have hr:=M.dw (a:=a) (b:=b) (M.bE hg) hX1 hX2 hE1 hE2
 unfold M.d8
 generalize M.bc a b X E=r at *
 clear hg hX1 hX2 hE1 hE2
 cases r with
 | none=>
  have e1:=uh (show M.in1 none=0∧M.in2 none=0∧M.in3 none=0∧M.in4 none=0∧(none:M.Sp).isSome=false from ⟨rfl,rfl,rfl,rfl,rfl⟩)
  have e2:=uh (show M.fU none none=none from rfl)
  rw [e2.out,e1.out.1,e1.out.2.1,e1.out.2.2.1,e1.out.2.2.2.1,e1.out.2.2.2.2]
  rw [e1.out.1,e1.out.2.1,e1.out.2.2.1,e1.out.2.2.2.1,e1.out.2.2.2.2] at PH
  clear e1 e2
  replace PH:=uh PH
  obtain ⟨wc,hw3,C,Q,R,B⟩:=oP w #[.int .i64 a,.int .i64 b] 28 #[.int .i64 X,.int .i64 Y,.int .i64 E] 45 #[.int .i64 0,.int .i64 0,.int .i64 0,.int .i64 0] 42
  have C_c0:=C.box.c0
  have C_c1:=C.box.c1
  have ⟨q0,q1,q2⟩:=Q.aQ
  go_enter Tryz.func21,Tryz.ntmps21
  go_wp2_with (go_at_call 30;(with_reducible refine (PH.out _).mono ?_);rintro e w4 ⟨rfl,hb4⟩;(replace R:=(R.keep hb4).alloc (.cells #[.int .i64 0,.int .i64 0,.int .i64 0,.int .i64 0] 42));(replace B:=(B.trans (hb4.mono B.size)).alloc (Nat.le_trans B.size hb4.size) (.cells #[.int .i64 0,.int .i64 0,.int .i64 0,.int .i64 0] 42));(have V:=aH.new w4 #[.int .i64 0,.int .i64 0,.int .i64 0,.int .i64 0] 42);(have n1:=R.lt);(have ⟨r0,r1,r2,r3,z0,z1,z2,z3,rl⟩:=R.aR);(have ⟨v0,v1,v2,v3,y0,y1,y2,y3,vl⟩:=V.aR))
  exact bodyPost_ret (v:=.tuple #[.agg #[.int .i64 0,.int .i64 0,.int .i64 0,.int .i64 0],.bool false]) (by simp [results,Tryz.results21,go_sem, *]) rfl (⟨rfl,uj (uj (uj (uj B (by simp;omega) _) (by simp;omega) _) (by simp;omega) _) (by simp;omega) _⟩)
 | some p=>
 have hp:=hr p rfl
 have PI:=fun W=>qc p p W hp hp
 have e1:=uh (show (some p:M.Sp).isSome=true from rfl)
 rw [e1.out] at PH
 clear e1 hr hp
 generalize M.in1 (some p)=i1 at *
 generalize M.in2 (some p)=i2 at *
 generalize M.in3 (some p)=i3 at *
 generalize M.in4 (some p)=i4 at *
 generalize M.fU (some p) (some p)=q at *
 generalize M.in1 q=k1 at *
 generalize M.in2 q=k2 at *
 generalize M.in3 q=k3 at *
 generalize M.in4 q=k4 at *
 generalize q.isSome=f at *
 replace PH:=uh PH
 replace PI:=uh PI
 obtain ⟨wc,hw3,C,Q,R,B⟩:=oP w #[.int .i64 a,.int .i64 b] 28 #[.int .i64 X,.int .i64 Y,.int .i64 E] 45 #[.int .i64 0,.int .i64 0,.int .i64 0,.int .i64 0] 42
 have C_c0:=C.box.c0
 have C_c1:=C.box.c1
 have ⟨q0,q1,q2⟩:=Q.aQ
 go_enter Tryz.func21,Tryz.ntmps21
 go_wp2_with first | (go_at_call 30;(with_reducible refine (PH.out _).mono ?_);rintro e w4 ⟨rfl,hb4⟩;(replace R:=(R.keep hb4).alloc (.cells #[.int .i64 i1,.int .i64 i2,.int .i64 i3,.int .i64 i4] 42));(replace B:=(B.trans (hb4.mono B.size)).alloc (Nat.le_trans B.size hb4.size) (.cells #[.int .i64 i1,.int .i64 i2,.int .i64 i3,.int .i64 i4] 42));(have V:=aH.new w4 #[.int .i64 i1,.int .i64 i2,.int .i64 i3,.int .i64 i4] 42);(have n1:=R.lt);(have ⟨r0,r1,r2,r3,z0,z1,z2,z3,rl⟩:=R.aR);(have ⟨v0,v1,v2,v3,y0,y1,y2,y3,vl⟩:=V.aR)) | (go_at_call 32;(with_reducible refine (PI.out _).mono ?_);rintro e w5 ⟨rfl,hb5⟩;(replace R:=R.keep hb5);(replace B:=B.trans (hb5.mono B.size));(have ⟨r0,r1,r2,r3,z0,z1,z2,z3,rl⟩:=R.aR))
 exact bodyPost_ret (v:=.tuple #[.agg #[.int .i64 k1,.int .i64 k2,.int .i64 k3,.int .i64 k4],.bool f]) (by simp [results,Tryz.results21,go_sem, *]) rfl (⟨rfl,uj (uj (uj (uj B (by simp;omega) _) (by simp;omega) _) (by simp;omega) _) (by simp;omega) _⟩)
end
section
open Go Go.RowKit
namespace Rg
variable {P:Program} {Q:Exit→Act→World→Prop}
def upd (l:Nat→Bool) (i:Nat):Nat→Bool:=fun j=>if j=i then true else l j
def eA (v:Nat→Value) (i:Nat) (u:Value):Nat→Value:=fun j=>if j=i then u else v j
def ju (md:Region.Mode) (ops:Array Oper) (l:Nat→Bool):Prop:=∀ i o,ops[i]?=some o→l i=true→∀ e ∈ o.after,Region.binds md e=true→l e.on=true
section
variable (P) (Q) (md:Region.Mode) (ops:Array Oper) (I:(Nat→Bool)→(Nat→Value)→World→Prop) (a0:Act)
def ki (i:Nat) (o:Oper) (a:Act) (w:World) (l:Nat→Bool) (vals:Nat→Value):Prop:=
 if Region.wanted o (yielded ops a.tmps)=true then o.wp P a w (fun a' w'=>∃ v,a'=a.put o.dst v∧I (upd l i) (eA vals i v) w') Q else I (upd l i) (eA vals i undef) w
def uF (i:Nat) (o:Oper):Prop:=∀ (a:Act) (w:World) (l:Nat→Bool) (vals:Nat→Value),I l vals w→l i=false→ju md ops l→(∀ e ∈ o.after,Region.binds md e=true→l e.on=true)→(∀ t ∈ o.looksAt ops,a.tmps[t]?=rd md ops a0 vals o t)→ki P Q ops I i o a w l vals
def ft:List Oper→Nat→Prop
 | [],_=>True
 | o :: os,k=>uF P Q md ops I a0 k o∧ft os (k+1)
theorem ft.at {os:List Oper} {k:Nat} (h:ft P Q md ops I a0 os k):∀ {i:Nat} {o:Oper},os[i]?=some o→uF P Q md ops I a0 (k+i) o:=by
 induction os generalizing k with
 | nil=>intro i o hi;simp at hi
 | cons x os ih=>
 intro i o hi
 cases i with
 | zero=>
  simp only [List.getElem?_cons_zero,Option.some.injEq] at hi
  subst hi
  exact h.1
 | succ i=>
 have:=ih h.2 (i:=i) (o:=o) (by simpa using hi)
 rw [show k+(i+1)=k+1+i from by omega]
 exact this
def uB (L:Array Bool) (a:Act) (w:World):Prop:=
 L.size=ops.size∧ju md ops (fun j=>L.getD j false)∧
 ∃ vals:Nat→Value,I (fun j=>L.getD j false) vals w∧a=fill (fun j=>L.getD j false) vals ops.toList 0 a0
end
theorem sr {md:Region.Mode} {ops:Array Oper} {I:(Nat→Bool)→(Nat→Value)→World→Prop} {a0:Act} (hok:dz md ops a0.tmps.size=true)
  (hR:ft P Q md ops I a0 ops.toList 0) (hF:∀ (l:Nat→Bool) (vals:Nat→Value) (w:World),(∀ i,i<ops.size→l i=true)→I l vals w→Q .normal (fill (fun _=>true) vals ops.toList 0 a0) w) :
  ∀ (fuel:Nat) (L:Array Bool) (a:Act) (w:World),left (fun j=>L.getD j false) ops.size≤fuel→uB md ops I a0 L a w→wpAny P md ops Q fuel L a w:=by
 rw [dz,Bool.and_eq_true,Bool.and_eq_true] at hok
 obtain ⟨⟨hap,hrd⟩,hac⟩:=hok
 have hac':∀ i o,ops[i]?=some o→(∀ e ∈ o.after,Region.binds md e=true→e.on<i)∧∀ d,o.dst=some d→d<a0.tmps.size:=fun i o hi=>by
  have hlt:i<ops.size:=(Array.getElem?_eq_some_iff.1 hi).1
  have:=List.all_eq_true.1 hac i (List.mem_range.2 hlt)
  rw [hi] at this
  simp only [Bool.and_eq_true,List.all_eq_true,Bool.or_eq_true,Bool.not_eq_true',decide_eq_true_eq] at this
  refine ⟨fun e he hb=>?_,fun d hd=>?_⟩
  ·rcases this.1 e (Array.mem_toList_iff.2 he) with q | q
   ·rw [hb] at q;cases q
   exact q
  have:=this.2
  rw [hd] at this
  simpa using this
 have htl:∀ i,ops.toList[i]?=ops[i]?:=fun i=>Array.getElem?_toList
 have hall:∀ L:Array Bool,L.size=ops.size→Region.ready md ops L=[]→∀ i,i<ops.size→L.getD i false=true:=by
  intro L hL hr i
  induction i using Nat.strongRecOn with
  | ind i ih=>
  intro hi
  cases hl:L.getD i false
  ·exfalso
   have hm:i ∈ Region.ready md ops L:=by
    unfold Region.ready
    rw [List.mem_filter]
    refine ⟨List.mem_range.2 hi,?_⟩
    have hg:L.getD i true=false:=by
     rw [Array.getD_eq_getD_getElem?,Array.getElem?_eq_getElem (by omega)] at hl ⊢
     exact hl
    rw [hg,Array.getElem?_eq_getElem hi]
    simp only [Bool.not_false,Bool.true_and,Option.map_some,Option.getD_some]
    rw [Array.all_eq_true_iff_forall_mem]
    intro e he
    cases hb:Region.binds md e
    ·rfl
    have hlt:=(hac' i _ (Array.getElem?_eq_getElem hi)).1 e he hb
    simp [ih e.on hlt (by omega)]
   rw [hr] at hm
   cases hm
  rfl
 have hfin:∀ (L:Array Bool) (a:Act) (w:World),uB md ops I a0 L a w→Region.ready md ops L=[]→Q .normal a w:=by
  rintro L a w ⟨hL,-,vals,hS,rfl⟩ hr
  have h:=hall L hL hr
  rw [cG (l':=fun _=>true) (v':=vals) ops.toList 0 a0 (fun j _ hj=>h j (by simpa using hj)) (fun _ _ _=>rfl)]
  exact hF _ vals w h hS
 intro fuel
 induction fuel with
 | zero=>
  intro L a w hl hI
  have hz:=fS _ (Nat.le_zero.1 hl)
  have hr:Region.ready md ops L=[]:=by
   unfold Region.ready
   rw [List.filter_eq_nil_iff]
   intro i hi
   have hi:=List.mem_range.1 hi
   have h1:=hz i hi
   have hg:L.getD i true=true:=by
    have hsz:=hI.1
    simp only [Array.getD_eq_getD_getElem?] at h1 ⊢
    rw [Array.getElem?_eq_getElem (by omega)] at h1 ⊢
    exact h1
   rw [hg]
   simp
  exact ⟨hr,hfin L a w hI hr⟩
 | succ fuel ih=>
 intro L a w hl hI
 refine ⟨hfin L a w hI,fun i hi=>?_⟩
 obtain ⟨hL,hdc,vals,hS,rfl⟩:=hI
 obtain ⟨hun,o,ho,haf⟩:=mem_ready.1 hi
 have hilt:i<ops.size:=(Array.getElem?_eq_some_iff.1 ho).1
 have hun':L.getD i false=false:=by
  simp only [Array.getD_eq_getD_getElem?] at hun ⊢
  rw [Array.getElem?_eq_getElem (by omega)] at hun ⊢
  exact hun
 have hq:=ft.at P Q md ops I a0 hR (i:=i) (o:=o) (by rw [htl];exact ho)
 rw [Nat.zero_add] at hq
 have hst:=hq (fill (fun j=>L.getD j false) vals ops.toList 0 a0) w (fun j=>L.getD j false) vals hS hun' hdc
  (fun e he hb=>haf e he hb)
  (fun t ht=>by
   unfold rd
   have hr1:fp md ops i o t=true:=by
    have:=List.all_eq_true.1 hrd i (List.mem_range.2 hilt)
    rw [ho] at this
    exact List.all_eq_true.1 this t ht
   cases hf:o.after.toList.find? (fun e=>Region.binds md e && ((ops[e.on]?).bind (·.dst)) == some t) with
   | some e=>
    have h1:=List.find?_some hf
    have h2:=List.mem_of_find?_eq_some hf
    rw [Bool.and_eq_true,beq_iff_eq] at h1
    obtain ⟨x,hx,hxd⟩:=Option.bind_eq_some_iff.1 h1.2
    have h3:=haf e (Array.mem_toList_iff.1 h2) h1.1
    have:=iF (l:=fun j=>L.getD j false) (v:=vals) ops.toList 0 e.on x a0 hap (by rw [htl];exact hx) (by simpa using h3) hxd ((hac' e.on x hx).2 t hxd)
    rw [Nat.zero_add] at this
    exact this
   | none=>
   refine dt ops.toList 0 a0 fun j x hx hlj hxd=>?_
   rw [Nat.zero_add] at hlj
   rw [htl] at hx
   have hjlt:j<ops.size:=(Array.getElem?_eq_some_iff.1 hx).1
   rw [fp,Bool.or_eq_true] at hr1
   rcases hr1 with q | q
   ·obtain ⟨e,he,hp⟩:=List.any_eq_true.1 q
    have:=List.find?_eq_none.1 hf e he
    exact this hp
   have:=List.all_eq_true.1 q j (List.mem_range.2 hjlt)
   rw [hx] at this
   simp only [Bool.or_eq_true,bne_iff_ne,ne_eq,beq_iff_eq,List.any_eq_true,Bool.and_eq_true] at this
   rcases this with (q1 | q1) | ⟨e,he,hb,hon⟩
   ·exact q1 hxd
   ·subst q1
    rw [hun'] at hlj
    cases hlj
   have:L.getD e.on false=true:=hdc j x hx hlj e (Array.mem_toList_iff.1 he) hb
   rw [hon,hun'] at this
   cases this)
 have hnext:∀ (v:Value) (w':World),I (upd (fun j=>L.getD j false) i) (eA vals i v) w'→wpAny P md ops Q fuel (L.setIfInBounds i true) ((fill (fun j=>L.getD j false) vals ops.toList 0 a0).put o.dst v) w':=by
  intro v w' h2
  have e1:∀ j,(L.setIfInBounds i true).getD j false=if j=i then true else L.getD j false:=fun j=>by
   simp only [Array.getD_eq_getD_getElem?]
   by_cases hji:j=i
   ·subst hji
    rw [Array.getElem?_setIfInBounds_self_of_lt (by omega)]
    simp
   rw [Array.getElem?_setIfInBounds_ne (fun e=>hji e.symm),if_neg hji]
  have e2:(fun j=>(L.setIfInBounds i true).getD j false)=upd (fun j=>L.getD j false) i:=funext e1
  refine ih _ _ _ ?_ ⟨by simpa using hL,?_,eA vals i v,by rw [e2];exact h2,?_⟩
  ·have:=gF (l:=fun j=>L.getD j false) (l':=fun j=>(L.setIfInBounds i true).getD j false) hun' (by rw [e1,if_pos rfl]) (fun j hj=>by rw [e1,if_neg hj]) ops.size hilt
   omega
  ·intro j x hx hlj e he hb
   show (L.setIfInBounds i true).getD e.on false=true
   replace hlj:(L.setIfInBounds i true).getD j false=true:=hlj
   rw [e1] at hlj ⊢
   split
   ·rfl
   split at hlj
   ·rename_i hji
    subst hji
    rw [ho] at hx
    cases hx
    exact haf e he hb
   exact hdc j x hx hlj e he hb
  rw [gC ops.toList 0 i o a0 hap (by rw [htl];exact ho) (by simpa using hun')]
  rw [Nat.zero_add]
  exact cG _ _ _ (fun j _ _=>(e1 j).symm) (fun _ _ _=>rfl)
 unfold wpOp
 rw [ho]
 unfold ki at hst
 dsimp only
 split at hst
 ·rename_i hw
  rw [if_pos hw]
  refine Or.inl (Oper.wp_mono ?_ hst)
  rintro a' w' ⟨v,rfl,h2⟩
  exact hnext v w' h2
 rename_i hw
 rw [if_neg hw]
 exact hnext undef w hst
theorem kQ {id:Nat} {ops:Array Oper} {a0:Act} {w:World} (I:(Nat→Bool)→(Nat→Value)→World→Prop) (hm:P.follows .mixedOrders=true) (hok:dz .any ops a0.tmps.size=true)
  (hS:∀ vals,I (fun _=>false) vals { w with drawn:=w.drawn+1 }) (hR:ft P Q .any ops I a0 ops.toList 0)
  (hF:∀ (l:Nat→Bool) (vals:Nat→Value) (w:World),(∀ i,i<ops.size→l i=true)→I l vals w→Q .normal (fill (fun _=>true) vals ops.toList 0 a0) w):(Code.region id ops true).wp P Q a0 w:=by
 have rep:∀ j,(Array.replicate ops.size false).getD j false=false:=fun j=>by
  rw [Array.getD_eq_getD_getElem?,Array.getElem?_replicate]
  split <;> rfl
 refine wp_region_any hm (sr hok hR hF _ _ _ _ ?_ ⟨by simp,?_,fun _=>undef,?_,?_⟩)
 ·have:∀ (l:Nat→Bool) n,left l n≤n:=fun l n=>by
   induction n with
   | zero=>exact ul _
   | succ n ih=>unfold left;split <;> omega
  exact this _ _
 ·intro i o hi hl
  replace hl:(Array.replicate ops.size false).getD i false=true:=hl
  rw [rep] at hl
  cases hl
 ·rw [show (fun j=>(Array.replicate ops.size false).getD j false)=fun _=>false from funext rep]
  exact hS _
 have:∀ (v:Nat→Value) (os:List Oper) (k:Nat) (a:Act),fill (fun _=>false) v os k a=a:=fun v os=>by
  induction os with
  | nil=>intro k a;rfl
  | cons x os ih=>intro k a;unfold fill;simp [ih]
 exact (this _ ops.toList 0 a0).symm.trans (cG _ _ _ (fun j _ hj=>(rep j).symm) (fun _ _ _=>rfl))
end Rg
end
end Go.Proofs.YtgfkcoablfjbcaaGreatDoor
