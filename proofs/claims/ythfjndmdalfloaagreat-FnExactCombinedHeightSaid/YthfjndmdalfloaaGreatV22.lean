/-
  Joined texts: contracts and plain lemmas.
-/
import Derived.Test.YthfjndmdalfloaaGreatV21
import Derived.Test.YthfjndmdalfloaaGreatV17
set_option linter.unusedSimpArgs false
set_option linter.unusedVariables false
set_option maxRecDepth 100000
set_option maxHeartbeats 8000000
namespace Go.Proofs.YthfjndmdalfloaaGreat
section
open Go.RowKit
namespace M
noncomputable def adPOk (a X1 Y1 E1 X2 Y2 E2:Int):Bool:=if E1=0 then true else if E2=0 then true else fnOk a X1 Y1 E1 X2 Y2 E2
noncomputable def adPX (a X1 Y1 E1 X2 Y2 E2:Int):Int:=if E1=0 then X2 else if E2=0 then X1 else fnX a X1 Y1 E1 X2 Y2 E2
noncomputable def adPY (a X1 Y1 E1 X2 Y2 E2:Int):Int:=if E1=0 then Y2 else if E2=0 then Y1 else fnY a X1 Y1 E1 X2 Y2 E2
noncomputable def adPE (a X1 Y1 E1 X2 Y2 E2:Int):Int:=if E1=0 then E2 else if E2=0 then E1 else fnE a X1 Y1 E1 X2 Y2 E2
theorem ptOk_is {a b X Y E:Int} (hin:M.inCurve a b=true) (h:ptOk a b X Y E=true):(E=0∧X=0∧Y=0)∨(1≤E∧E≤20∧-10000≤X∧X≤10000∧Int.gcd X E=1∧Y*Y=cv a b X E∧-3000000≤Y∧Y≤3000000):=by
 obtain ⟨ha1,ha2,hb1,hb2⟩:=M.inCurve_bd hin
 unfold ptOk at h
 split at h
 ·simp only [Bool.and_eq_true,decide_eq_true_eq] at h
  left;exact ⟨by assumption,h.1,h.2⟩
 ·right
  simp only [Bool.and_eq_true,decide_eq_true_eq,M.ins,beq_iff_eq] at h
  obtain ⟨⟨⟨⟨h1,h2⟩,h3,h4⟩,h5⟩,h6⟩:=h
  have hv:=M.cv_bd (a:=a) (b:=b) ha1 ha2 hb1 hb2 h1 h2 (by omega) h4
  have hy:=M.y_bd h6 hv.2
  exact ⟨h3,h4,h1,h2,by unfold M.gcd at h5;omega,h6,hy.1,hy.2⟩
theorem lQ {a b X Y E:Int} (h1:1≤E) (h2:E≤20) (h3:-10000≤X) (h4:X≤10000) (h5:Int.gcd X E=1) (h6:Y*Y=cv a b X E):ptOk a b X Y E=true:=by
 unfold ptOk
 rw [if_neg (by omega)]
 simp only [Bool.and_eq_true,decide_eq_true_eq,M.ins,beq_iff_eq]
 exact ⟨⟨⟨⟨h3,h4⟩,h1,h2⟩,by unfold M.gcd;omega⟩,h6⟩
theorem adP_ok {a b X1 Y1 E1 X2 Y2 E2:Int} (hin:M.inCurve a b=true) (hp:ptOk a b X1 Y1 E1=true) (hq:ptOk a b X2 Y2 E2=true):ptOk a b (adPX a X1 Y1 E1 X2 Y2 E2) (adPY a X1 Y1 E1 X2 Y2 E2) (adPE a X1 Y1 E1 X2 Y2 E2)=true:=by
 unfold adPX adPY adPE
 by_cases h1:E1=0
 ·rw [if_pos h1,if_pos h1,if_pos h1];exact hq
 ·rw [if_neg h1,if_neg h1,if_neg h1]
  by_cases h2:E2=0
  ·rw [if_pos h2,if_pos h2,if_pos h2];exact hp
  ·rw [if_neg h2,if_neg h2,if_neg h2]
   have z0:ptOk a b 0 0 0=true:=rfl
   by_cases h0:sD X1 Y1 E1 X2 Y2 E2=0
   ·unfold fnX fnY fnE
    rw [if_pos h0,if_pos h0,if_pos h0];exact z0
   ·cases hk:fnOk a X1 Y1 E1 X2 Y2 E2
    ·obtain ⟨q1,q2,q3⟩:=fn_none h0 hk
     rw [q1,q2,q3];exact z0
    ·obtain ⟨p1,p2,p3,p4,p5,p6,-⟩:=(ptOk_is hin hp).resolve_left (fun h=>h1 h.1)
     obtain ⟨r1,r2,r3,r4,r5,r6,-⟩:=(ptOk_is hin hq).resolve_left (fun h=>h2 h.1)
     obtain ⟨-,-,H⟩:=fn_core (n:=slN a X1 Y1 E1 X2 Y2 E2) (m:=slD a X1 Y1 E1 X2 Y2 E2) p6 r6 p4 r4 p1 p2 r1 r2 h0 (Or.inl ⟨rfl,rfl⟩)
     obtain ⟨c1,c2,c3,c4,c5,-,-,c8,-⟩:=H hk _ _ _ rfl rfl rfl
     exact lQ c1 c2 c3 c4 c5 c8
theorem ptOk_bd {a b X Y E:Int} (hin:M.inCurve a b=true) (h:ptOk a b X Y E=true):-10000≤X∧X≤10000∧0≤E∧E≤20∧-3000000≤Y∧Y≤3000000:=by
 rcases ptOk_is hin h with ⟨rfl,rfl,rfl⟩ | ⟨h1,h2,h3,h4,-,-,h7,h8⟩ <;> omega
end M
theorem gZ (a b X1 Y1 E1 X2 Y2 E2:Int) (w:World) (hg:M.good a b=true) (hp:M.ptOk a b X1 Y1 E1=true) (hq:M.ptOk a b X2 Y2 E2=true) :
  Calls Tryz.prog 93 #[.agg #[.int .i64 a,.int .i64 b],.agg #[.int .i64 X1,.int .i64 Y1,.int .i64 E1],.agg #[.int .i64 X2,.int .i64 Y2,.int .i64 E2]] w fun e w'=>e=.returned (.tuple #[.agg #[.int .i64 (M.adPX a X1 Y1 E1 X2 Y2 E2),.int .i64 (M.adPY a X1 Y1 E1 X2 Y2 E2),.int .i64 (M.adPE a X1 Y1 E1 X2 Y2 E2)],.bool (M.adPOk a X1 Y1 E1 X2 Y2 E2)])∧Below w.heap.size w w':=by
 have hin:=M.good_in hg
 obtain ⟨ha1,ha2,hb1,hb2⟩:=M.inCurve_bd hin
 by_cases hE1:E1=0
 ·have hf:=Lib.hid (show M.adPX a X1 Y1 E1 X2 Y2 E2=X2∧M.adPY a X1 Y1 E1 X2 Y2 E2=Y2∧M.adPE a X1 Y1 E1 X2 Y2 E2=E2∧M.adPOk a X1 Y1 E1 X2 Y2 E2=true from ⟨if_pos hE1,if_pos hE1,if_pos hE1,if_pos hE1⟩)
  rw [hf.out.1,hf.out.2.1,hf.out.2.2.1,hf.out.2.2.2]
  clear hf hg hp hq hin
  subst hE1
  have C:=(((aG.new w #[.int .i64 a,.int .i64 b] 28).alloc (.cells #[.int .i64 X1,.int .i64 Y1,.int .i64 0] 54)).alloc (.cells #[.int .i64 X2,.int .i64 Y2,.int .i64 E2] 54)).alloc (.cells #[.int .i64 0,.int .i64 0,.int .i64 0] 54)
  have Q:=((aG.new (w.alloc (.cells #[.int .i64 a,.int .i64 b] 28)) #[.int .i64 X1,.int .i64 Y1,.int .i64 0] 54).alloc (.cells #[.int .i64 X2,.int .i64 Y2,.int .i64 E2] 54)).alloc (.cells #[.int .i64 0,.int .i64 0,.int .i64 0] 54)
  rw [World.size_alloc] at Q
  have U:=(aG.new ((w.alloc (.cells #[.int .i64 a,.int .i64 b] 28)).alloc (.cells #[.int .i64 X1,.int .i64 Y1,.int .i64 0] 54)) #[.int .i64 X2,.int .i64 Y2,.int .i64 E2] 54).alloc (.cells #[.int .i64 0,.int .i64 0,.int .i64 0] 54)
  rw [World.size_alloc,World.size_alloc] at U
  have R:=aG.new (((w.alloc (.cells #[.int .i64 a,.int .i64 b] 28)).alloc (.cells #[.int .i64 X1,.int .i64 Y1,.int .i64 0] 54)).alloc (.cells #[.int .i64 X2,.int .i64 Y2,.int .i64 E2] 54)) #[.int .i64 0,.int .i64 0,.int .i64 0] 54
  rw [World.size_alloc,World.size_alloc,World.size_alloc] at R
  have B:=((((Below.refl w.heap.size w).alloc (Nat.le_refl _) (.cells #[.int .i64 a,.int .i64 b] 28)).alloc (by rw [World.size_alloc];omega) (.cells #[.int .i64 X1,.int .i64 Y1,.int .i64 0] 54)).alloc (by rw [World.size_alloc,World.size_alloc];omega) (.cells #[.int .i64 X2,.int .i64 Y2,.int .i64 E2] 54)).alloc (by rw [World.size_alloc,World.size_alloc,World.size_alloc];omega) (.cells #[.int .i64 0,.int .i64 0,.int .i64 0] 54)
  generalize hw3:(((w.alloc (.cells #[.int .i64 a,.int .i64 b] 28)).alloc (.cells #[.int .i64 X1,.int .i64 Y1,.int .i64 0] 54)).alloc (.cells #[.int .i64 X2,.int .i64 Y2,.int .i64 E2] 54)).alloc (.cells #[.int .i64 0,.int .i64 0,.int .i64 0] 54)=wc at *
  have C_c0:=C.box.c0
  have C_c1:=C.box.c1
  have ⟨q0,q1,q2⟩:=Q.box3
  have ⟨u0,u1,u2⟩:=U.box3
  have ⟨r0,r1,r2⟩:=R.box3
  have f0:=R.frz 0
  have f1:=R.frz 1
  have f2:=R.frz 2
  have rl:=R.lt
  go_enter Tryz.func93,Tryz.ntmps93
  go_wp2
  exact bodyPost_ret (v:=.tuple #[.agg #[.int .i64 X2,.int .i64 Y2,.int .i64 E2],.bool true]) (by simp [results,Tryz.results93,go_sem, *]) rfl (⟨rfl,Below.setCell (Below.setCell (Below.setCell B (by simp;omega) _) (by simp;omega) _) (by simp;omega) _⟩)
 obtain ⟨p1,p2,p3,p4,p5,p6,p7,p8⟩:=(M.ptOk_is hin hp).resolve_left (fun h=>hE1 h.1)
 by_cases hE2:E2=0
 ·have hf:=Lib.hid (show M.adPX a X1 Y1 E1 X2 Y2 E2=X1∧M.adPY a X1 Y1 E1 X2 Y2 E2=Y1∧M.adPE a X1 Y1 E1 X2 Y2 E2=E1∧M.adPOk a X1 Y1 E1 X2 Y2 E2=true from ⟨(if_neg hE1).trans (if_pos hE2),(if_neg hE1).trans (if_pos hE2),(if_neg hE1).trans (if_pos hE2),(if_neg hE1).trans (if_pos hE2)⟩)
  rw [hf.out.1,hf.out.2.1,hf.out.2.2.1,hf.out.2.2.2]
  clear hf hg hp hq hin p5 p6
  have hE3:(E1 == 0)=false:=by rw [beq_eq_false_iff_ne];exact hE1
  subst hE2
  have C:=(((aG.new w #[.int .i64 a,.int .i64 b] 28).alloc (.cells #[.int .i64 X1,.int .i64 Y1,.int .i64 E1] 54)).alloc (.cells #[.int .i64 X2,.int .i64 Y2,.int .i64 0] 54)).alloc (.cells #[.int .i64 0,.int .i64 0,.int .i64 0] 54)
  have Q:=((aG.new (w.alloc (.cells #[.int .i64 a,.int .i64 b] 28)) #[.int .i64 X1,.int .i64 Y1,.int .i64 E1] 54).alloc (.cells #[.int .i64 X2,.int .i64 Y2,.int .i64 0] 54)).alloc (.cells #[.int .i64 0,.int .i64 0,.int .i64 0] 54)
  rw [World.size_alloc] at Q
  have U:=(aG.new ((w.alloc (.cells #[.int .i64 a,.int .i64 b] 28)).alloc (.cells #[.int .i64 X1,.int .i64 Y1,.int .i64 E1] 54)) #[.int .i64 X2,.int .i64 Y2,.int .i64 0] 54).alloc (.cells #[.int .i64 0,.int .i64 0,.int .i64 0] 54)
  rw [World.size_alloc,World.size_alloc] at U
  have R:=aG.new (((w.alloc (.cells #[.int .i64 a,.int .i64 b] 28)).alloc (.cells #[.int .i64 X1,.int .i64 Y1,.int .i64 E1] 54)).alloc (.cells #[.int .i64 X2,.int .i64 Y2,.int .i64 0] 54)) #[.int .i64 0,.int .i64 0,.int .i64 0] 54
  rw [World.size_alloc,World.size_alloc,World.size_alloc] at R
  have B:=((((Below.refl w.heap.size w).alloc (Nat.le_refl _) (.cells #[.int .i64 a,.int .i64 b] 28)).alloc (by rw [World.size_alloc];omega) (.cells #[.int .i64 X1,.int .i64 Y1,.int .i64 E1] 54)).alloc (by rw [World.size_alloc,World.size_alloc];omega) (.cells #[.int .i64 X2,.int .i64 Y2,.int .i64 0] 54)).alloc (by rw [World.size_alloc,World.size_alloc,World.size_alloc];omega) (.cells #[.int .i64 0,.int .i64 0,.int .i64 0] 54)
  generalize hw3:(((w.alloc (.cells #[.int .i64 a,.int .i64 b] 28)).alloc (.cells #[.int .i64 X1,.int .i64 Y1,.int .i64 E1] 54)).alloc (.cells #[.int .i64 X2,.int .i64 Y2,.int .i64 0] 54)).alloc (.cells #[.int .i64 0,.int .i64 0,.int .i64 0] 54)=wc at *
  have C_c0:=C.box.c0
  have C_c1:=C.box.c1
  have ⟨q0,q1,q2⟩:=Q.box3
  have ⟨u0,u1,u2⟩:=U.box3
  have ⟨r0,r1,r2⟩:=R.box3
  have f0:=R.frz 0
  have f1:=R.frz 1
  have f2:=R.frz 2
  have rl:=R.lt
  go_enter Tryz.func93,Tryz.ntmps93
  go_wp2
  exact bodyPost_ret (v:=.tuple #[.agg #[.int .i64 X1,.int .i64 Y1,.int .i64 E1],.bool true]) (by simp [results,Tryz.results93,go_sem, *]) rfl (⟨rfl,Below.setCell (Below.setCell (Below.setCell B (by simp;omega) _) (by simp;omega) _) (by simp;omega) _⟩)
 obtain ⟨r1,r2,r3,r4,r5,r6,r7,r8⟩:=(M.ptOk_is hin hq).resolve_left (fun h=>hE2 h.1)
 have hf:=Lib.hid (show M.adPX a X1 Y1 E1 X2 Y2 E2=M.fnX a X1 Y1 E1 X2 Y2 E2∧M.adPY a X1 Y1 E1 X2 Y2 E2=M.fnY a X1 Y1 E1 X2 Y2 E2∧M.adPE a X1 Y1 E1 X2 Y2 E2=M.fnE a X1 Y1 E1 X2 Y2 E2∧M.adPOk a X1 Y1 E1 X2 Y2 E2=M.fnOk a X1 Y1 E1 X2 Y2 E2 from ⟨(if_neg hE1).trans (if_neg hE2),(if_neg hE1).trans (if_neg hE2),(if_neg hE1).trans (if_neg hE2),(if_neg hE1).trans (if_neg hE2)⟩)
 rw [hf.out.1,hf.out.2.1,hf.out.2.2.1,hf.out.2.2.2]
 exact jw a b X1 Y1 E1 X2 Y2 E2 w ha1 ha2 p3 p4 p7 p8 p1 p2 r3 r4 r7 r8 r1 r2 hb1 hb2 p6 r6 p5 r5
theorem lU (a b X1 Y1 E1 X2 Y2 E2:Int) (w:World) (hg:M.good a b=true) (hp:M.ptOk a b X1 Y1 E1=true) (hq:M.ptOk a b X2 Y2 E2=true) :
  Calls Tryz.prog 85 #[.agg #[.int .i64 a,.int .i64 b],.agg #[.int .i64 X1,.int .i64 Y1,.int .i64 E1],.agg #[.int .i64 X2,.int .i64 Y2,.int .i64 E2]] w fun e w'=>e=.returned (.tuple #[.agg #[.int .i64 (M.adPX a X1 Y1 E1 X2 Y2 E2),.int .i64 (M.adPY a X1 Y1 E1 X2 Y2 E2),.int .i64 (M.adPE a X1 Y1 E1 X2 Y2 E2)],.bool (M.adPOk a X1 Y1 E1 X2 Y2 E2)])∧Below w.heap.size w w':=by
 have hin:=M.good_in hg
 obtain ⟨ha1,ha2,hb1,hb2⟩:=M.inCurve_bd hin
 by_cases hE1:E1=0
 ·have hf:=Lib.hid (show M.adPX a X1 Y1 E1 X2 Y2 E2=X2∧M.adPY a X1 Y1 E1 X2 Y2 E2=Y2∧M.adPE a X1 Y1 E1 X2 Y2 E2=E2∧M.adPOk a X1 Y1 E1 X2 Y2 E2=true from ⟨if_pos hE1,if_pos hE1,if_pos hE1,if_pos hE1⟩)
  rw [hf.out.1,hf.out.2.1,hf.out.2.2.1,hf.out.2.2.2]
  clear hf hg hp hq hin
  subst hE1
  have C:=(((aG.new w #[.int .i64 a,.int .i64 b] 28).alloc (.cells #[.int .i64 X1,.int .i64 Y1,.int .i64 0] 54)).alloc (.cells #[.int .i64 X2,.int .i64 Y2,.int .i64 E2] 54)).alloc (.cells #[.int .i64 0,.int .i64 0,.int .i64 0] 54)
  have Q:=((aG.new (w.alloc (.cells #[.int .i64 a,.int .i64 b] 28)) #[.int .i64 X1,.int .i64 Y1,.int .i64 0] 54).alloc (.cells #[.int .i64 X2,.int .i64 Y2,.int .i64 E2] 54)).alloc (.cells #[.int .i64 0,.int .i64 0,.int .i64 0] 54)
  rw [World.size_alloc] at Q
  have U:=(aG.new ((w.alloc (.cells #[.int .i64 a,.int .i64 b] 28)).alloc (.cells #[.int .i64 X1,.int .i64 Y1,.int .i64 0] 54)) #[.int .i64 X2,.int .i64 Y2,.int .i64 E2] 54).alloc (.cells #[.int .i64 0,.int .i64 0,.int .i64 0] 54)
  rw [World.size_alloc,World.size_alloc] at U
  have R:=aG.new (((w.alloc (.cells #[.int .i64 a,.int .i64 b] 28)).alloc (.cells #[.int .i64 X1,.int .i64 Y1,.int .i64 0] 54)).alloc (.cells #[.int .i64 X2,.int .i64 Y2,.int .i64 E2] 54)) #[.int .i64 0,.int .i64 0,.int .i64 0] 54
  rw [World.size_alloc,World.size_alloc,World.size_alloc] at R
  have B:=((((Below.refl w.heap.size w).alloc (Nat.le_refl _) (.cells #[.int .i64 a,.int .i64 b] 28)).alloc (by rw [World.size_alloc];omega) (.cells #[.int .i64 X1,.int .i64 Y1,.int .i64 0] 54)).alloc (by rw [World.size_alloc,World.size_alloc];omega) (.cells #[.int .i64 X2,.int .i64 Y2,.int .i64 E2] 54)).alloc (by rw [World.size_alloc,World.size_alloc,World.size_alloc];omega) (.cells #[.int .i64 0,.int .i64 0,.int .i64 0] 54)
  generalize hw3:(((w.alloc (.cells #[.int .i64 a,.int .i64 b] 28)).alloc (.cells #[.int .i64 X1,.int .i64 Y1,.int .i64 0] 54)).alloc (.cells #[.int .i64 X2,.int .i64 Y2,.int .i64 E2] 54)).alloc (.cells #[.int .i64 0,.int .i64 0,.int .i64 0] 54)=wc at *
  have C_c0:=C.box.c0
  have C_c1:=C.box.c1
  have ⟨q0,q1,q2⟩:=Q.box3
  have ⟨u0,u1,u2⟩:=U.box3
  have ⟨r0,r1,r2⟩:=R.box3
  have f0:=R.frz 0
  have f1:=R.frz 1
  have f2:=R.frz 2
  have rl:=R.lt
  go_enter Tryz.func85,Tryz.ntmps85
  go_wp2
  exact bodyPost_ret (v:=.tuple #[.agg #[.int .i64 X2,.int .i64 Y2,.int .i64 E2],.bool true]) (by simp [results,Tryz.results85,go_sem, *]) rfl (⟨rfl,Below.setCell (Below.setCell (Below.setCell B (by simp;omega) _) (by simp;omega) _) (by simp;omega) _⟩)
 obtain ⟨p1,p2,p3,p4,p5,p6,p7,p8⟩:=(M.ptOk_is hin hp).resolve_left (fun h=>hE1 h.1)
 by_cases hE2:E2=0
 ·have hf:=Lib.hid (show M.adPX a X1 Y1 E1 X2 Y2 E2=X1∧M.adPY a X1 Y1 E1 X2 Y2 E2=Y1∧M.adPE a X1 Y1 E1 X2 Y2 E2=E1∧M.adPOk a X1 Y1 E1 X2 Y2 E2=true from ⟨(if_neg hE1).trans (if_pos hE2),(if_neg hE1).trans (if_pos hE2),(if_neg hE1).trans (if_pos hE2),(if_neg hE1).trans (if_pos hE2)⟩)
  rw [hf.out.1,hf.out.2.1,hf.out.2.2.1,hf.out.2.2.2]
  clear hf hg hp hq hin p5 p6
  have hE3:(E1 == 0)=false:=by rw [beq_eq_false_iff_ne];exact hE1
  subst hE2
  have C:=(((aG.new w #[.int .i64 a,.int .i64 b] 28).alloc (.cells #[.int .i64 X1,.int .i64 Y1,.int .i64 E1] 54)).alloc (.cells #[.int .i64 X2,.int .i64 Y2,.int .i64 0] 54)).alloc (.cells #[.int .i64 0,.int .i64 0,.int .i64 0] 54)
  have Q:=((aG.new (w.alloc (.cells #[.int .i64 a,.int .i64 b] 28)) #[.int .i64 X1,.int .i64 Y1,.int .i64 E1] 54).alloc (.cells #[.int .i64 X2,.int .i64 Y2,.int .i64 0] 54)).alloc (.cells #[.int .i64 0,.int .i64 0,.int .i64 0] 54)
  rw [World.size_alloc] at Q
  have U:=(aG.new ((w.alloc (.cells #[.int .i64 a,.int .i64 b] 28)).alloc (.cells #[.int .i64 X1,.int .i64 Y1,.int .i64 E1] 54)) #[.int .i64 X2,.int .i64 Y2,.int .i64 0] 54).alloc (.cells #[.int .i64 0,.int .i64 0,.int .i64 0] 54)
  rw [World.size_alloc,World.size_alloc] at U
  have R:=aG.new (((w.alloc (.cells #[.int .i64 a,.int .i64 b] 28)).alloc (.cells #[.int .i64 X1,.int .i64 Y1,.int .i64 E1] 54)).alloc (.cells #[.int .i64 X2,.int .i64 Y2,.int .i64 0] 54)) #[.int .i64 0,.int .i64 0,.int .i64 0] 54
  rw [World.size_alloc,World.size_alloc,World.size_alloc] at R
  have B:=((((Below.refl w.heap.size w).alloc (Nat.le_refl _) (.cells #[.int .i64 a,.int .i64 b] 28)).alloc (by rw [World.size_alloc];omega) (.cells #[.int .i64 X1,.int .i64 Y1,.int .i64 E1] 54)).alloc (by rw [World.size_alloc,World.size_alloc];omega) (.cells #[.int .i64 X2,.int .i64 Y2,.int .i64 0] 54)).alloc (by rw [World.size_alloc,World.size_alloc,World.size_alloc];omega) (.cells #[.int .i64 0,.int .i64 0,.int .i64 0] 54)
  generalize hw3:(((w.alloc (.cells #[.int .i64 a,.int .i64 b] 28)).alloc (.cells #[.int .i64 X1,.int .i64 Y1,.int .i64 E1] 54)).alloc (.cells #[.int .i64 X2,.int .i64 Y2,.int .i64 0] 54)).alloc (.cells #[.int .i64 0,.int .i64 0,.int .i64 0] 54)=wc at *
  have C_c0:=C.box.c0
  have C_c1:=C.box.c1
  have ⟨q0,q1,q2⟩:=Q.box3
  have ⟨u0,u1,u2⟩:=U.box3
  have ⟨r0,r1,r2⟩:=R.box3
  have f0:=R.frz 0
  have f1:=R.frz 1
  have f2:=R.frz 2
  have rl:=R.lt
  go_enter Tryz.func85,Tryz.ntmps85
  go_wp2
  exact bodyPost_ret (v:=.tuple #[.agg #[.int .i64 X1,.int .i64 Y1,.int .i64 E1],.bool true]) (by simp [results,Tryz.results85,go_sem, *]) rfl (⟨rfl,Below.setCell (Below.setCell (Below.setCell B (by simp;omega) _) (by simp;omega) _) (by simp;omega) _⟩)
 obtain ⟨r1,r2,r3,r4,r5,r6,r7,r8⟩:=(M.ptOk_is hin hq).resolve_left (fun h=>hE2 h.1)
 have hf:=Lib.hid (show M.adPX a X1 Y1 E1 X2 Y2 E2=M.fnX a X1 Y1 E1 X2 Y2 E2∧M.adPY a X1 Y1 E1 X2 Y2 E2=M.fnY a X1 Y1 E1 X2 Y2 E2∧M.adPE a X1 Y1 E1 X2 Y2 E2=M.fnE a X1 Y1 E1 X2 Y2 E2∧M.adPOk a X1 Y1 E1 X2 Y2 E2=M.fnOk a X1 Y1 E1 X2 Y2 E2 from ⟨(if_neg hE1).trans (if_neg hE2),(if_neg hE1).trans (if_neg hE2),(if_neg hE1).trans (if_neg hE2),(if_neg hE1).trans (if_neg hE2)⟩)
 rw [hf.out.1,hf.out.2.1,hf.out.2.2.1,hf.out.2.2.2]
 exact iY a b X1 Y1 E1 X2 Y2 E2 w ha1 ha2 p3 p4 p7 p8 p1 p2 r3 r4 r7 r8 r1 r2 hb1 hb2 p6 r6
theorem bf {B:Nat} {w w':World} (h:Below B w w') (p:Addr) (x:Value):Below B (w.setCell p x) (w'.setCell p x):=
 ⟨h.os,h.tape,h.output,by simp [World.setCell];exact h.size,fun k hk=>by
  show (w'.heap.modify p.block _)[k]?=(w.heap.modify p.block _)[k]?
  rw [Array.getElem?_modify,Array.getElem?_modify,h.block k hk]⟩
theorem aQ (w:World) (p:Addr) (x:Value):(w.setCell p x).heap.size=w.heap.size:=by simp [World.setCell]
theorem aU {w w':World} {p:Addr} {x:Value} (h:Below w.heap.size (w.setCell p x) w'):Below (w.setCell p x).heap.size (w.setCell p x) w':=h.mono (Nat.le_of_eq (aQ w p x))
theorem gF (g:Nat) (ok:Bool) (lo hi:Int) (w:World) (K:aG w g 72 #[.bool ok]) :
  Calls Tryz.prog 70 #[.pointer (some ⟨g,0,none⟩),.agg #[.int .i64 lo,.int .i64 hi]] w fun e w'=>e=.returned (.agg #[.int .i64 (M.pick (ok && M.spanOk lo hi) lo),.int .i64 (M.pick (ok && M.spanOk lo hi) hi)])∧Below w.heap.size (w.setCell ⟨g,0,none⟩ (.bool (ok && M.spanOk lo hi))) w':=by
 have PV:=Lib.hid fun W=>eR lo hi W
 have hgl:=K.lt
 have B:=((Below.refl w.heap.size w).alloc (Nat.le_refl _) (.cells #[.int .i64 lo,.int .i64 hi] 58)).alloc (by rw [World.size_alloc];omega) (.cells #[.int .i64 0,.int .i64 0] 58)
 have S:=(aG.new w #[.int .i64 lo,.int .i64 hi] 58).alloc (.cells #[.int .i64 0,.int .i64 0] 58)
 have R:=aG.new (w.alloc (.cells #[.int .i64 lo,.int .i64 hi] 58)) #[.int .i64 0,.int .i64 0] 58
 rw [World.size_alloc] at R
 have K2:=(K.alloc (.cells #[.int .i64 lo,.int .i64 hi] 58)).alloc (.cells #[.int .i64 0,.int .i64 0] 58)
 generalize hw3:(w.alloc (.cells #[.int .i64 lo,.int .i64 hi] 58)).alloc (.cells #[.int .i64 0,.int .i64 0] 58)=wc at *
 have k0:=K2.cell 0
 have kf:=K2.frz 0
 have kl:=K2.lt
 have n1:g≠w.heap.size:=by omega
 have n2:g≠w.heap.size+1:=by omega
 have ⟨s0,s1,s2,s3,s4⟩:=S.box
 have ⟨r0,r1,r2,r3,r4⟩:=R.box
 cases ok
 ·go_enter Tryz.func70,Tryz.ntmps70
  go_wp2
  exact bodyPost_ret (v:=.agg #[.int .i64 0,.int .i64 0]) (by simp [results,Tryz.results70,go_sem, *]) rfl (⟨rfl,Below.setCell (Below.setCell (bf B ⟨g,0,none⟩ (.bool false)) (by simp) _) (by simp) _⟩)
 ·cases hv:M.spanOk lo hi
  ·rw [hv] at PV
   go_enter Tryz.func70,Tryz.ntmps70
   go_wp2_with (go_at_call 73;(with_reducible refine (PV.out _).mono ?_);rintro e w4 ⟨rfl,hb4⟩;(replace B:=B.trans (hb4.mono B.size));(replace S:=S.keep hb4);(replace R:=R.keep hb4);(replace K2:=K2.keep hb4);(have k0:=K2.cell 0);(have kf:=K2.frz 0);(have kl:=K2.lt);(obtain ⟨s0,s1,s2,s3,s4⟩:=S.box);(obtain ⟨r0,r1,r2,r3,r4⟩:=R.box))
   exact bodyPost_ret (v:=.agg #[.int .i64 0,.int .i64 0]) (by simp [results,Tryz.results70,go_sem, *]) rfl (⟨rfl,Below.setCell (Below.setCell (bf B ⟨g,0,none⟩ (.bool false)) (by simp) _) (by simp) _⟩)
  ·rw [hv] at PV
   go_enter Tryz.func70,Tryz.ntmps70
   go_wp2_with (go_at_call 73;(with_reducible refine (PV.out _).mono ?_);rintro e w4 ⟨rfl,hb4⟩;(replace B:=B.trans (hb4.mono B.size));(replace S:=S.keep hb4);(replace R:=R.keep hb4);(replace K2:=K2.keep hb4);(have k0:=K2.cell 0);(have kf:=K2.frz 0);(have kl:=K2.lt);(obtain ⟨s0,s1,s2,s3,s4⟩:=S.box);(obtain ⟨r0,r1,r2,r3,r4⟩:=R.box))
   exact bodyPost_ret (v:=.agg #[.int .i64 lo,.int .i64 hi]) (by simp [results,Tryz.results70,go_sem, *]) rfl (⟨rfl,Below.setCell (Below.setCell (bf B ⟨g,0,none⟩ (.bool true)) (by simp) _) (by simp) _⟩)
namespace M
abbrev Sp:=Option (Int × Int)
def slo (s:Sp):Int:=(s.getD (0,0)).1
def shi (s:Sp):Int:=(s.getD (0,0)).2
def mkS (l h:Int):Sp:=if spanOk l h=true then some (l,h) else none
def addS (s t:Sp):Sp:=s.bind fun p=>t.bind fun q=>mkS (p.1+q.1) (p.2+q.2)
def subS (s t:Sp):Sp:=s.bind fun p=>t.bind fun q=>mkS (p.1 - q.2) (p.2 - q.1)
def mulS (s t:Sp):Sp:=s.bind fun p=>t.bind fun q=>mkS (tmin p.1 p.2 q.1 q.2 / 4096) (-(-tmax p.1 p.2 q.1 q.2 / 4096))
noncomputable def bestS (a b X E:Int):Sp:=if bOk a b X E=true then some (bL a b X E (bN a b X E),bH a b X E (bN a b X E)) else none
def gd (f:Bool) (s:Sp):Sp:=if f=true then s else none
def okS (s:Sp):Prop:=∀ p,s=some p→spanOk p.1 p.2=true
theorem dB:okS none:=fun _ h=>by cases h
theorem mT (l h:Int):okS (mkS l h):=by
 intro p hp
 unfold mkS at hp
 split at hp
 ·injection hp with hp;subst hp;assumption
 ·cases hp
theorem okS_gd {f:Bool} {s:Sp} (h:okS s):okS (gd f s):=by
 unfold gd;split
 ·exact h
 ·exact dB
theorem dp {s t:Sp} {F G:Int × Int→Int × Int→Int}:okS (s.bind fun p=>t.bind fun q=>mkS (F p q) (G p q)):=by
 cases s
 ·exact dB
 ·cases t
  ·exact dB
  ·exact mT _ _
theorem jF {s t:Sp}:okS (addS s t):=dp
theorem okS_sub {s t:Sp}:okS (subS s t):=dp
theorem okS_mul {s t:Sp}:okS (mulS s t):=dp
theorem okS_bd {s:Sp} (h:okS s):slo s≤shi s∧-409600000≤slo s∧shi s≤409600000:=by
 cases s with
 | none=>exact ⟨Int.le_refl _,by decide,by decide⟩
 | some p=>exact spanOk_bd (h p rfl)
theorem best_ok {a b X E:Int} (hin:M.inCurve a b=true) (hX1:-10000≤X) (hX2:X≤10000) (hE1:0≤E) (hE2:E≤20) (h:bOk a b X E=true):spanOk (bL a b X E (bN a b X E)) (bH a b X E (bN a b X E))=true:=by
 cases hs:spanOk (bL a b X E (bN a b X E)) (bH a b X E (bN a b X E))
 ·rw [b_no hin hX1 hX2 hE1 hE2 (Nat.le_refl _) hs] at h;cases h
 ·rfl
theorem okS_best {a b X E:Int} (hin:M.inCurve a b=true) (hX1:-10000≤X) (hX2:X≤10000) (hE1:0≤E) (hE2:E≤20):okS (bestS a b X E):=by
 intro p hp
 unfold bestS at hp
 split at hp
 ·rename_i h
  injection hp with hp;subst hp;exact best_ok hin hX1 hX2 hE1 hE2 h
 ·cases hp
theorem step2 {ok:Bool} {s t:Sp} {F G:Int→Int→Int→Int→Int} (h1:ok=true→s.isSome=true) (h2:ok=true→t.isSome=true):(ok && spanOk (F (slo s) (shi s) (slo t) (shi t)) (G (slo s) (shi s) (slo t) (shi t)))=(gd ok (s.bind fun p=>t.bind fun q=>mkS (F p.1 p.2 q.1 q.2) (G p.1 p.2 q.1 q.2))).isSome∧pick (ok && spanOk (F (slo s) (shi s) (slo t) (shi t)) (G (slo s) (shi s) (slo t) (shi t))) (F (slo s) (shi s) (slo t) (shi t))=slo (gd ok (s.bind fun p=>t.bind fun q=>mkS (F p.1 p.2 q.1 q.2) (G p.1 p.2 q.1 q.2)))∧pick (ok && spanOk (F (slo s) (shi s) (slo t) (shi t)) (G (slo s) (shi s) (slo t) (shi t))) (G (slo s) (shi s) (slo t) (shi t))=shi (gd ok (s.bind fun p=>t.bind fun q=>mkS (F p.1 p.2 q.1 q.2) (G p.1 p.2 q.1 q.2))):=by
 cases ok with
 | false=>exact ⟨rfl,rfl,rfl⟩
 | true=>
  obtain ⟨p,rfl⟩:=Option.isSome_iff_exists.1 (h1 rfl)
  obtain ⟨q,rfl⟩:=Option.isSome_iff_exists.1 (h2 rfl)
  show (true && spanOk (F p.1 p.2 q.1 q.2) (G p.1 p.2 q.1 q.2))=(mkS (F p.1 p.2 q.1 q.2) (G p.1 p.2 q.1 q.2)).isSome∧pick (true && spanOk (F p.1 p.2 q.1 q.2) (G p.1 p.2 q.1 q.2)) (F p.1 p.2 q.1 q.2)=slo (mkS (F p.1 p.2 q.1 q.2) (G p.1 p.2 q.1 q.2))∧pick (true && spanOk (F p.1 p.2 q.1 q.2) (G p.1 p.2 q.1 q.2)) (G p.1 p.2 q.1 q.2)=shi (mkS (F p.1 p.2 q.1 q.2) (G p.1 p.2 q.1 q.2))
  unfold mkS
  cases spanOk (F p.1 p.2 q.1 q.2) (G p.1 p.2 q.1 q.2) <;> exact ⟨rfl,rfl,rfl⟩
end M
theorem kh (g:Nat) (ok:Bool) (a b c d:Int) (w:World) (K:aG w g 72 #[.bool ok]) (h1:-4000000000000000000≤a) (h2:a≤4000000000000000000) (h3:-4000000000000000000≤b) (h4:b≤4000000000000000000) (h5:-4000000000000000000≤c) (h6:c≤4000000000000000000) (h7:-4000000000000000000≤d) (h8:d≤4000000000000000000) :
  Calls Tryz.prog 40 #[.pointer (some ⟨g,0,none⟩),.agg #[.int .i64 a,.int .i64 b],.agg #[.int .i64 c,.int .i64 d]] w fun e w'=>e=.returned (.agg #[.int .i64 (M.pick (ok && M.spanOk (a+c) (b+d)) (a+c)),.int .i64 (M.pick (ok && M.spanOk (a+c) (b+d)) (b+d))])∧Below w.heap.size (w.setCell ⟨g,0,none⟩ (.bool (ok && M.spanOk (a+c) (b+d)))) w':=by
 have PP:=fun W=>mM a b c d W h1 h2 h3 h4 h5 h6 h7 h8
 have PK:=fun W (k:aG W g 72 #[.bool ok])=>gF g ok (a+c) (b+d) W k
 generalize (a+c)=lo at *
 generalize (b+d)=hi at *
 generalize (ok && M.spanOk lo hi)=f at *
 replace PP:=Lib.hid PP
 replace PK:=Lib.hid PK
 have hgl:=K.lt
 have B:=(((Below.refl w.heap.size w).alloc (Nat.le_refl _) (.cells #[.int .i64 a,.int .i64 b] 58)).alloc (by rw [World.size_alloc];omega) (.cells #[.int .i64 c,.int .i64 d] 58)).alloc (by rw [World.size_alloc,World.size_alloc];omega) (.cells #[.int .i64 0,.int .i64 0] 58)
 have S:=((aG.new w #[.int .i64 a,.int .i64 b] 58).alloc (.cells #[.int .i64 c,.int .i64 d] 58)).alloc (.cells #[.int .i64 0,.int .i64 0] 58)
 have T:=(aG.new (w.alloc (.cells #[.int .i64 a,.int .i64 b] 58)) #[.int .i64 c,.int .i64 d] 58).alloc (.cells #[.int .i64 0,.int .i64 0] 58)
 rw [World.size_alloc] at T
 have R:=aG.new ((w.alloc (.cells #[.int .i64 a,.int .i64 b] 58)).alloc (.cells #[.int .i64 c,.int .i64 d] 58)) #[.int .i64 0,.int .i64 0] 58
 rw [World.size_alloc,World.size_alloc] at R
 have K2:=((K.alloc (.cells #[.int .i64 a,.int .i64 b] 58)).alloc (.cells #[.int .i64 c,.int .i64 d] 58)).alloc (.cells #[.int .i64 0,.int .i64 0] 58)
 generalize hw3:((w.alloc (.cells #[.int .i64 a,.int .i64 b] 58)).alloc (.cells #[.int .i64 c,.int .i64 d] 58)).alloc (.cells #[.int .i64 0,.int .i64 0] 58)=wc at *
 have n1:w.heap.size+1+1≠g:=by omega
 have ⟨s0,s1,_,_,_⟩:=S.box
 have ⟨t0,t1,_,_,_⟩:=T.box
 go_enter Tryz.func40,Tryz.ntmps40
 go_wp2_with first | (go_at_call 71;(with_reducible refine (PP.out _).mono ?_);rintro e w4 ⟨rfl,hb4⟩;(replace B:=B.trans (hb4.mono B.size));(replace R:=R.keep hb4);(replace K2:=K2.keep hb4)) | (go_at_call 70;(with_reducible refine (PK.out _ K2).mono ?_);rintro e w5 ⟨rfl,hb5⟩;(have hz:=B.size);(replace B:=(bf B ⟨g,0,none⟩ (.bool f)).trans (hb5.mono hz));(replace R:=(R.other n1 (.bool f)).keep (aU hb5));(obtain ⟨r0,r1,r2,r3,r4⟩:=R.box))
 exact bodyPost_ret (v:=.agg #[.int .i64 (M.pick f lo),.int .i64 (M.pick f hi)]) (by simp [results,Tryz.results40,go_sem, *]) rfl (⟨rfl,Below.setCell (Below.setCell B (by simp;omega) _) (by simp;omega) _⟩)
theorem i8 (g:Nat) (ok:Bool) (s t:M.Sp) (w:World) (K:aG w g 72 #[.bool ok]) (hs:M.okS s) (ht:M.okS t) (h1:ok=true→s.isSome=true) (h2:ok=true→t.isSome=true) :
  Calls Tryz.prog 40 #[.pointer (some ⟨g,0,none⟩),.agg #[.int .i64 (M.slo s),.int .i64 (M.shi s)],.agg #[.int .i64 (M.slo t),.int .i64 (M.shi t)]] w fun e w'=>e=.returned (.agg #[.int .i64 (M.slo (M.gd ok (M.addS s t))),.int .i64 (M.shi (M.gd ok (M.addS s t)))])∧Below w.heap.size (w.setCell ⟨g,0,none⟩ (.bool (M.gd ok (M.addS s t)).isSome)) w':=by
 obtain ⟨e1,e2,e3⟩:=M.step2 (F:=fun a _ c _=>a+c) (G:=fun _ b _ d=>b+d) h1 h2
 have b1:=M.okS_bd hs
 have b2:=M.okS_bd ht
 have h:=kh g ok (M.slo s) (M.shi s) (M.slo t) (M.shi t) w K (by omega) (by omega) (by omega) (by omega) (by omega) (by omega) (by omega) (by omega)
 rw [e2,e3,e1] at h
 exact h
theorem jh (g:Nat) (ok:Bool) (a b c d:Int) (w:World) (K:aG w g 72 #[.bool ok]) (h1:-4000000000000000000≤a) (h2:a≤4000000000000000000) (h3:-4000000000000000000≤b) (h4:b≤4000000000000000000) (h5:-4000000000000000000≤c) (h6:c≤4000000000000000000) (h7:-4000000000000000000≤d) (h8:d≤4000000000000000000) :
  Calls Tryz.prog 84 #[.pointer (some ⟨g,0,none⟩),.agg #[.int .i64 a,.int .i64 b],.agg #[.int .i64 c,.int .i64 d]] w fun e w'=>e=.returned (.agg #[.int .i64 (M.pick (ok && M.spanOk (a - d) (b - c)) (a - d)),.int .i64 (M.pick (ok && M.spanOk (a - d) (b - c)) (b - c))])∧Below w.heap.size (w.setCell ⟨g,0,none⟩ (.bool (ok && M.spanOk (a - d) (b - c)))) w':=by
 have PP:=fun W=>l9 a b c d W h1 h2 h3 h4 h5 h6 h7 h8
 have PK:=fun W (k:aG W g 72 #[.bool ok])=>gF g ok (a - d) (b - c) W k
 generalize (a - d)=lo at *
 generalize (b - c)=hi at *
 generalize (ok && M.spanOk lo hi)=f at *
 replace PP:=Lib.hid PP
 replace PK:=Lib.hid PK
 have hgl:=K.lt
 have B:=(((Below.refl w.heap.size w).alloc (Nat.le_refl _) (.cells #[.int .i64 a,.int .i64 b] 58)).alloc (by rw [World.size_alloc];omega) (.cells #[.int .i64 c,.int .i64 d] 58)).alloc (by rw [World.size_alloc,World.size_alloc];omega) (.cells #[.int .i64 0,.int .i64 0] 58)
 have S:=((aG.new w #[.int .i64 a,.int .i64 b] 58).alloc (.cells #[.int .i64 c,.int .i64 d] 58)).alloc (.cells #[.int .i64 0,.int .i64 0] 58)
 have T:=(aG.new (w.alloc (.cells #[.int .i64 a,.int .i64 b] 58)) #[.int .i64 c,.int .i64 d] 58).alloc (.cells #[.int .i64 0,.int .i64 0] 58)
 rw [World.size_alloc] at T
 have R:=aG.new ((w.alloc (.cells #[.int .i64 a,.int .i64 b] 58)).alloc (.cells #[.int .i64 c,.int .i64 d] 58)) #[.int .i64 0,.int .i64 0] 58
 rw [World.size_alloc,World.size_alloc] at R
 have K2:=((K.alloc (.cells #[.int .i64 a,.int .i64 b] 58)).alloc (.cells #[.int .i64 c,.int .i64 d] 58)).alloc (.cells #[.int .i64 0,.int .i64 0] 58)
 generalize hw3:((w.alloc (.cells #[.int .i64 a,.int .i64 b] 58)).alloc (.cells #[.int .i64 c,.int .i64 d] 58)).alloc (.cells #[.int .i64 0,.int .i64 0] 58)=wc at *
 have n1:w.heap.size+1+1≠g:=by omega
 have ⟨s0,s1,_,_,_⟩:=S.box
 have ⟨t0,t1,_,_,_⟩:=T.box
 go_enter Tryz.func84,Tryz.ntmps84
 go_wp2_with first | (go_at_call 100;(with_reducible refine (PP.out _).mono ?_);rintro e w4 ⟨rfl,hb4⟩;(replace B:=B.trans (hb4.mono B.size));(replace R:=R.keep hb4);(replace K2:=K2.keep hb4)) | (go_at_call 70;(with_reducible refine (PK.out _ K2).mono ?_);rintro e w5 ⟨rfl,hb5⟩;(have hz:=B.size);(replace B:=(bf B ⟨g,0,none⟩ (.bool f)).trans (hb5.mono hz));(replace R:=(R.other n1 (.bool f)).keep (aU hb5));(obtain ⟨r0,r1,r2,r3,r4⟩:=R.box))
 exact bodyPost_ret (v:=.agg #[.int .i64 (M.pick f lo),.int .i64 (M.pick f hi)]) (by simp [results,Tryz.results84,go_sem, *]) rfl (⟨rfl,Below.setCell (Below.setCell B (by simp;omega) _) (by simp;omega) _⟩)
theorem iA (g:Nat) (ok:Bool) (s t:M.Sp) (w:World) (K:aG w g 72 #[.bool ok]) (hs:M.okS s) (ht:M.okS t) (h1:ok=true→s.isSome=true) (h2:ok=true→t.isSome=true) :
  Calls Tryz.prog 84 #[.pointer (some ⟨g,0,none⟩),.agg #[.int .i64 (M.slo s),.int .i64 (M.shi s)],.agg #[.int .i64 (M.slo t),.int .i64 (M.shi t)]] w fun e w'=>e=.returned (.agg #[.int .i64 (M.slo (M.gd ok (M.subS s t))),.int .i64 (M.shi (M.gd ok (M.subS s t)))])∧Below w.heap.size (w.setCell ⟨g,0,none⟩ (.bool (M.gd ok (M.subS s t)).isSome)) w':=by
 obtain ⟨e1,e2,e3⟩:=M.step2 (F:=fun a _ _ d=>a - d) (G:=fun _ b c _=>b - c) h1 h2
 have b1:=M.okS_bd hs
 have b2:=M.okS_bd ht
 have h:=jh g ok (M.slo s) (M.shi s) (M.slo t) (M.shi t) w K (by omega) (by omega) (by omega) (by omega) (by omega) (by omega) (by omega) (by omega)
 rw [e2,e3,e1] at h
 exact h
theorem jM (g:Nat) (ok:Bool) (a b c d:Int) (w:World) (K:aG w g 72 #[.bool ok]) (h1:-1000000000≤a) (h2:a≤1000000000) (h3:-1000000000≤b) (h4:b≤1000000000) (h5:-1000000000≤c) (h6:c≤1000000000) (h7:-1000000000≤d) (h8:d≤1000000000) :
  Calls Tryz.prog 41 #[.pointer (some ⟨g,0,none⟩),.agg #[.int .i64 a,.int .i64 b],.agg #[.int .i64 c,.int .i64 d]] w fun e w'=>e=.returned (.agg #[.int .i64 (M.pick (ok && M.spanOk (M.tmin a b c d / 4096) (-(-M.tmax a b c d / 4096))) (M.tmin a b c d / 4096)),.int .i64 (M.pick (ok && M.spanOk (M.tmin a b c d / 4096) (-(-M.tmax a b c d / 4096))) (-(-M.tmax a b c d / 4096)))])∧Below w.heap.size (w.setCell ⟨g,0,none⟩ (.bool (ok && M.spanOk (M.tmin a b c d / 4096) (-(-M.tmax a b c d / 4096))))) w':=by
 have PP:=fun W=>lZ a b c d W h1 h2 h3 h4 h5 h6 h7 h8
 have PK:=fun W (k:aG W g 72 #[.bool ok])=>gF g ok (M.tmin a b c d / 4096) (-(-M.tmax a b c d / 4096)) W k
 generalize (M.tmin a b c d / 4096)=lo at *
 generalize (-(-M.tmax a b c d / 4096))=hi at *
 generalize (ok && M.spanOk lo hi)=f at *
 replace PP:=Lib.hid PP
 replace PK:=Lib.hid PK
 have hgl:=K.lt
 have B:=(((Below.refl w.heap.size w).alloc (Nat.le_refl _) (.cells #[.int .i64 a,.int .i64 b] 58)).alloc (by rw [World.size_alloc];omega) (.cells #[.int .i64 c,.int .i64 d] 58)).alloc (by rw [World.size_alloc,World.size_alloc];omega) (.cells #[.int .i64 0,.int .i64 0] 58)
 have S:=((aG.new w #[.int .i64 a,.int .i64 b] 58).alloc (.cells #[.int .i64 c,.int .i64 d] 58)).alloc (.cells #[.int .i64 0,.int .i64 0] 58)
 have T:=(aG.new (w.alloc (.cells #[.int .i64 a,.int .i64 b] 58)) #[.int .i64 c,.int .i64 d] 58).alloc (.cells #[.int .i64 0,.int .i64 0] 58)
 rw [World.size_alloc] at T
 have R:=aG.new ((w.alloc (.cells #[.int .i64 a,.int .i64 b] 58)).alloc (.cells #[.int .i64 c,.int .i64 d] 58)) #[.int .i64 0,.int .i64 0] 58
 rw [World.size_alloc,World.size_alloc] at R
 have K2:=((K.alloc (.cells #[.int .i64 a,.int .i64 b] 58)).alloc (.cells #[.int .i64 c,.int .i64 d] 58)).alloc (.cells #[.int .i64 0,.int .i64 0] 58)
 generalize hw3:((w.alloc (.cells #[.int .i64 a,.int .i64 b] 58)).alloc (.cells #[.int .i64 c,.int .i64 d] 58)).alloc (.cells #[.int .i64 0,.int .i64 0] 58)=wc at *
 have n1:w.heap.size+1+1≠g:=by omega
 have ⟨s0,s1,_,_,_⟩:=S.box
 have ⟨t0,t1,_,_,_⟩:=T.box
 go_enter Tryz.func41,Tryz.ntmps41
 go_wp2_with first | (go_at_call 72;(with_reducible refine (PP.out _).mono ?_);rintro e w4 ⟨rfl,hb4⟩;(replace B:=B.trans (hb4.mono B.size));(replace R:=R.keep hb4);(replace K2:=K2.keep hb4)) | (go_at_call 70;(with_reducible refine (PK.out _ K2).mono ?_);rintro e w5 ⟨rfl,hb5⟩;(have hz:=B.size);(replace B:=(bf B ⟨g,0,none⟩ (.bool f)).trans (hb5.mono hz));(replace R:=(R.other n1 (.bool f)).keep (aU hb5));(obtain ⟨r0,r1,r2,r3,r4⟩:=R.box))
 exact bodyPost_ret (v:=.agg #[.int .i64 (M.pick f lo),.int .i64 (M.pick f hi)]) (by simp [results,Tryz.results41,go_sem, *]) rfl (⟨rfl,Below.setCell (Below.setCell B (by simp;omega) _) (by simp;omega) _⟩)
theorem gv (g:Nat) (ok:Bool) (s t:M.Sp) (w:World) (K:aG w g 72 #[.bool ok]) (hs:M.okS s) (ht:M.okS t) (h1:ok=true→s.isSome=true) (h2:ok=true→t.isSome=true) :
  Calls Tryz.prog 41 #[.pointer (some ⟨g,0,none⟩),.agg #[.int .i64 (M.slo s),.int .i64 (M.shi s)],.agg #[.int .i64 (M.slo t),.int .i64 (M.shi t)]] w fun e w'=>e=.returned (.agg #[.int .i64 (M.slo (M.gd ok (M.mulS s t))),.int .i64 (M.shi (M.gd ok (M.mulS s t)))])∧Below w.heap.size (w.setCell ⟨g,0,none⟩ (.bool (M.gd ok (M.mulS s t)).isSome)) w':=by
 obtain ⟨e1,e2,e3⟩:=M.step2 (F:=fun a b c d=>M.tmin a b c d / 4096) (G:=fun a b c d=>-(-M.tmax a b c d / 4096)) h1 h2
 have b1:=M.okS_bd hs
 have b2:=M.okS_bd ht
 have h:=jM g ok (M.slo s) (M.shi s) (M.slo t) (M.shi t) w K (by omega) (by omega) (by omega) (by omega) (by omega) (by omega) (by omega) (by omega)
 rw [e2,e3,e1] at h
 exact h
theorem eV {B g:Nat} {w W:World} {T:TypeId} {u v x y:Value} (h:Below B w W) (K:aG w g T #[u]) (K2:aG W g T #[v]):Below B (w.setCell ⟨g,0,none⟩ y) ((W.setCell ⟨g,0,none⟩ x).setCell ⟨g,0,none⟩ y):=
 ⟨h.os,h.tape,h.output,by rw [aQ,aQ,aQ];exact h.size,fun k hk=>by
  by_cases hg:k=g
  ·subst hg
   exact ((K2.one x).one y).trans (K.one y).symm
  ·rw [Below.heap_setCell _ _ _ _ hg,Below.heap_setCell _ _ _ _ hg,Below.heap_setCell _ _ _ _ hg]
   exact h.block k hk⟩
theorem eN (g:Nat) (ok:Bool) (a b X Y E:Int) (w:World) (K:aG w g 72 #[.bool ok]) (hg:M.good a b=true) (hX1:-10000≤X) (hX2:X≤10000) (hE1:0≤E) (hE2:E≤20) :
  Calls Tryz.prog 92 #[.pointer (some ⟨g,0,none⟩),.agg #[.int .i64 a,.int .i64 b],.agg #[.int .i64 X,.int .i64 Y,.int .i64 E]] w fun e w'=>e=.returned (.agg #[.int .i64 (M.slo (M.gd ok (M.bestS a b X E))),.int .i64 (M.shi (M.gd ok (M.bestS a b X E)))])∧Below w.heap.size (w.setCell ⟨g,0,none⟩ (.bool (M.gd ok (M.bestS a b X E)).isSome)) w':=by
 have PB:=fun W=>gC a b X Y E W hg hX1 hX2 hE1 hE2
 have hbo:=fun h=>M.best_ok (a:=a) (b:=b) (X:=X) (E:=E) (M.good_in hg) hX1 hX2 hE1 hE2 h
 have hv:Hid (M.bestS a b X E=if M.bOk a b X E=true then some (M.bL a b X E (M.bN a b X E),M.bH a b X E (M.bN a b X E)) else none):=Lib.hid rfl
 rw [hv.out]
 clear hv
 generalize M.bL a b X E (M.bN a b X E)=lo at *
 generalize M.bH a b X E (M.bN a b X E)=hi at *
 generalize M.bOk a b X E=bo at *
 generalize ((M.bN a b X E:Nat):Int)=bn at *
 have PK:=fun W (k:aG W g 72 #[.bool (ok && bo)])=>gF g (ok && bo) lo hi W k
 have e1:(ok && bo && M.spanOk lo hi)=(M.gd ok (if bo=true then some (lo,hi) else none)).isSome:=by
  cases ok <;> cases bo <;> first | rfl | (rw [hbo rfl];rfl)
 have e2:M.pick (ok && bo && M.spanOk lo hi) lo=M.slo (M.gd ok (if bo=true then some (lo,hi) else none)):=by
  cases ok <;> cases bo <;> first | rfl | (rw [hbo rfl];rfl)
 have e3:M.pick (ok && bo && M.spanOk lo hi) hi=M.shi (M.gd ok (if bo=true then some (lo,hi) else none)):=by
  cases ok <;> cases bo <;> first | rfl | (rw [hbo rfl];rfl)
 rw [e2,e3,e1] at PK
 clear e1 e2 e3 hbo
 generalize M.gd ok (if bo=true then some (lo,hi) else none)=r at *
 replace PB:=Lib.hid PB
 have hgl:=K.lt
 have B:=(((Below.refl w.heap.size w).alloc (Nat.le_refl _) (.cells #[.int .i64 a,.int .i64 b] 28)).alloc (by rw [World.size_alloc];omega) (.cells #[.int .i64 X,.int .i64 Y,.int .i64 E] 54)).alloc (by rw [World.size_alloc,World.size_alloc];omega) (.cells #[.int .i64 0,.int .i64 0] 58)
 have C:=((aG.new w #[.int .i64 a,.int .i64 b] 28).alloc (.cells #[.int .i64 X,.int .i64 Y,.int .i64 E] 54)).alloc (.cells #[.int .i64 0,.int .i64 0] 58)
 have Q:=(aG.new (w.alloc (.cells #[.int .i64 a,.int .i64 b] 28)) #[.int .i64 X,.int .i64 Y,.int .i64 E] 54).alloc (.cells #[.int .i64 0,.int .i64 0] 58)
 rw [World.size_alloc] at Q
 have R:=aG.new ((w.alloc (.cells #[.int .i64 a,.int .i64 b] 28)).alloc (.cells #[.int .i64 X,.int .i64 Y,.int .i64 E] 54)) #[.int .i64 0,.int .i64 0] 58
 rw [World.size_alloc,World.size_alloc] at R
 have K2:=((K.alloc (.cells #[.int .i64 a,.int .i64 b] 28)).alloc (.cells #[.int .i64 X,.int .i64 Y,.int .i64 E] 54)).alloc (.cells #[.int .i64 0,.int .i64 0] 58)
 generalize hw3:((w.alloc (.cells #[.int .i64 a,.int .i64 b] 28)).alloc (.cells #[.int .i64 X,.int .i64 Y,.int .i64 E] 54)).alloc (.cells #[.int .i64 0,.int .i64 0] 58)=wc at *
 have n1:w.heap.size+1+1≠g:=by omega
 have C_c0:=C.box.c0
 have C_c1:=C.box.c1
 have ⟨q0,q1,q2⟩:=Q.box3
 have hgm:g≠w.heap.size+1+1:=fun e=>n1 e.symm
 cases ok
 ·replace PK:=Lib.hid (show ∀ W,aG W g 72 #[(.bool false)]→_ from PK)
  go_enter Tryz.func92,Tryz.ntmps92
  go_wp2_with first | (go_at_call 106;(with_reducible refine (PB.out _).mono ?_);rintro e w4 ⟨rfl,hb4⟩;(replace B:=(B.trans (hb4.mono B.size)).alloc (Nat.le_trans B.size hb4.size) (.cells #[.int .i64 lo,.int .i64 hi] 58));(replace R:=(R.keep hb4).alloc (.cells #[.int .i64 lo,.int .i64 hi] 58));(replace K2:=K2.keep hb4);(have n3:w4.heap.size≠g:=by have:=K2.lt;omega);(have n4:g≠w4.heap.size:=fun e=>n3 e.symm);(replace K2:=K2.alloc (.cells #[.int .i64 lo,.int .i64 hi] 58));(have k0:=K2.cell 0);(have kf:=K2.frz 0);(have kl:=K2.lt);(have V:=aG.new w4 #[.int .i64 lo,.int .i64 hi] 58);(have v0:=V.cell 0);(have v1:=V.cell 1);(have V2:=V.other (i:=0) n3 (.bool false));(have v2:=V2.cell 0);(have v3:=V2.cell 1)) | (go_at_call 70;(with_reducible refine (PK.out _ (K2.one (.bool false))).mono ?_);rintro e w5 ⟨rfl,hb5⟩;(have hz:=B.size);(replace R:=((R.other n1 (.bool false)).other n1 (.bool r.isSome)).keep (aU hb5));(replace B:=(eV (x:=(.bool false)) (y:=.bool r.isSome) B K K2).trans (hb5.mono (by rw [aQ];exact hz)));(obtain ⟨r0,r1,r2,r3,r4⟩:=R.box))
  exact bodyPost_ret (v:=.agg #[.int .i64 (M.slo r),.int .i64 (M.shi r)]) (by simp [results,Tryz.results92,go_sem, *]) rfl (⟨rfl,Below.setCell (Below.setCell B (by simp;omega) _) (by simp;omega) _⟩)
 ·replace PK:=Lib.hid (show ∀ W,aG W g 72 #[(.bool bo)]→_ from PK)
  go_enter Tryz.func92,Tryz.ntmps92
  go_wp2_with first | (go_at_call 106;(with_reducible refine (PB.out _).mono ?_);rintro e w4 ⟨rfl,hb4⟩;(replace B:=(B.trans (hb4.mono B.size)).alloc (Nat.le_trans B.size hb4.size) (.cells #[.int .i64 lo,.int .i64 hi] 58));(replace R:=(R.keep hb4).alloc (.cells #[.int .i64 lo,.int .i64 hi] 58));(replace K2:=K2.keep hb4);(have n3:w4.heap.size≠g:=by have:=K2.lt;omega);(have n4:g≠w4.heap.size:=fun e=>n3 e.symm);(replace K2:=K2.alloc (.cells #[.int .i64 lo,.int .i64 hi] 58));(have k0:=K2.cell 0);(have kf:=K2.frz 0);(have kl:=K2.lt);(have V:=aG.new w4 #[.int .i64 lo,.int .i64 hi] 58);(have v0:=V.cell 0);(have v1:=V.cell 1);(have V2:=V.other (i:=0) n3 (.bool bo));(have v2:=V2.cell 0);(have v3:=V2.cell 1)) | (go_at_call 70;(with_reducible refine (PK.out _ (K2.one (.bool bo))).mono ?_);rintro e w5 ⟨rfl,hb5⟩;(have hz:=B.size);(replace R:=((R.other n1 (.bool bo)).other n1 (.bool r.isSome)).keep (aU hb5));(replace B:=(eV (x:=(.bool bo)) (y:=.bool r.isSome) B K K2).trans (hb5.mono (by rw [aQ];exact hz)));(obtain ⟨r0,r1,r2,r3,r4⟩:=R.box))
  exact bodyPost_ret (v:=.agg #[.int .i64 (M.slo r),.int .i64 (M.shi r)]) (by simp [results,Tryz.results92,go_sem, *]) rfl (⟨rfl,Below.setCell (Below.setCell B (by simp;omega) _) (by simp;omega) _⟩)
namespace M
noncomputable def selfS (a b X E:Int):Sp:=addS (bestS a b X E) (bestS a b X E)
noncomputable def pairS (a b X1 Y1 E1 X2 Y2 E2:Int):Sp:=if adPOk a X1 Y1 E1 X2 Y2 E2=true then subS (subS (bestS a b (adPX a X1 Y1 E1 X2 Y2 E2) (adPE a X1 Y1 E1 X2 Y2 E2)) (bestS a b X1 E1)) (bestS a b X2 E2) else none
theorem gd_isSome {f:Bool} {s:Sp} (h:(gd f s).isSome=true):f=true∧s.isSome=true∧gd f s=s:=by
 cases f
 ·cases h
 ·exact ⟨rfl,h,rfl⟩
theorem gd_true (s:Sp):gd true s=s:=rfl
theorem gd_self (s t:Sp):gd s.isSome (addS s t)=addS s t:=by cases s <;> rfl
end M
theorem fT (a b X Y E:Int) (w:World) (hg:M.good a b=true) (hX1:-10000≤X) (hX2:X≤10000) (hE1:0≤E) (hE2:E≤20) :
  Calls Tryz.prog 68 #[.agg #[.int .i64 a,.int .i64 b],.agg #[.int .i64 X,.int .i64 Y,.int .i64 E]] w fun e w'=>e=.returned (.tuple #[.agg #[.int .i64 (M.slo (M.selfS a b X E)),.int .i64 (M.shi (M.selfS a b X E))],.bool (M.selfS a b X E).isSome])∧Below w.heap.size w w':=by
 have PB:=fun W K=>eN (w.heap.size+1+1+1) true a b X Y E W K hg hX1 hX2 hE1 hE2
 have hr:=M.okS_best (a:=a) (b:=b) (M.good_in hg) hX1 hX2 hE1 hE2
 have hv:M.selfS a b X E=M.gd (M.bestS a b X E).isSome (M.addS (M.bestS a b X E) (M.bestS a b X E)):=(M.gd_self _ _).symm
 rw [hv]
 clear hv
 rw [M.gd_true] at PB
 generalize M.bestS a b X E=r at *
 have PP:=fun W K=>i8 (w.heap.size+1+1+1) r.isSome r r W K hr hr (fun h=>h) (fun h=>h)
 generalize M.gd r.isSome (M.addS r r)=q at *
 generalize r.isSome=f at *
 generalize q.isSome=fq at *
 generalize M.slo q=ql at *
 generalize M.shi q=qh at *
 have PB:=Lib.hid PB
 have PP:=Lib.hid PP
 obtain ⟨wc,hw3,C,Q,R,K,B⟩:=fZ w #[.int .i64 a,.int .i64 b] 28 #[.int .i64 X,.int .i64 Y,.int .i64 E] 54 #[.int .i64 0,.int .i64 0] 58 #[.bool true] 72
 have C_c0:=C.box.c0
 have C_c1:=C.box.c1
 have ⟨q0,q1,q2⟩:=Q.box3
 go_enter Tryz.func68,Tryz.ntmps68
 go_wp2_with first | (go_at_call 92;(with_reducible refine (PB.out _ K).mono ?_);rintro e w4 ⟨rfl,hb4⟩;(have hb:=aU hb4);(replace R:=(R.other (i:=0) (by omega) (.bool f)).keep hb);(replace K:=(K.one (.bool f)).keep hb);(replace B:=(Below.setCell B (by simp;omega) _).trans (hb4.mono B.size));(clear hb hb4 C_c0 C_c1 q0 q1 q2 C Q);(have V:=aG.new w4 #[.int .i64 (M.slo r),.int .i64 (M.shi r)] 58);(have rl:=R.lt);(have kl:=K.lt);(have n1:w.heap.size+1+1≠w4.heap.size:=by omega);(have n2:w.heap.size+1+1+1≠w4.heap.size:=by omega);(have n3:=n1.symm);(have n4:=n2.symm);(replace B:=B.alloc B.size (.cells #[.int .i64 (M.slo r),.int .i64 (M.shi r)] 58));(replace R:=R.alloc (.cells #[.int .i64 (M.slo r),.int .i64 (M.shi r)] 58));(replace K:=K.alloc (.cells #[.int .i64 (M.slo r),.int .i64 (M.shi r)] 58));(have v0:=V.cell 0);(have v1:=V.cell 1)) | (go_at_call 40;(with_reducible refine (PP.out _ K).mono ?_);rintro e w5 ⟨rfl,hb5⟩;(have hb:=aU hb5);(replace R:=(R.other (i:=0) (by omega) (.bool fq)).keep hb);(replace V:=(V.other (i:=0) n4 (.bool fq)).keep hb);(replace K:=(K.one (.bool fq)).keep hb);(replace B:=(Below.setCell B (by simp;omega) _).trans (hb5.mono B.size));(clear hb hb5 v0 v1);(have ⟨v0,v1,v2,v3,v4⟩:=V.box);(have V5:=V.set2 (.int .i64 ql) (.int .i64 qh));(have R5:=R.other2 n1 (.int .i64 ql) (.int .i64 qh));(have K5:=K.other2 n2 (.int .i64 ql) (.int .i64 qh));(have B5:=bP B (k:=w4.heap.size) (by omega) (.int .i64 ql) (.int .i64 qh));(have ⟨z0,z1,_,_,_⟩:=V5.box);(have ⟨r0,r1,r2,r3,r4⟩:=R5.box);(have k0:=K5.cell 0))
 go_region
 all_goals
  go_wp2
  exact bodyPost_ret (v:=.tuple #[.agg #[.int .i64 ql,.int .i64 qh],.bool fq]) (by simp [results,Tryz.results68,go_sem, *]) rfl (⟨rfl,Below.drew (Below.setCell (Below.setCell B5 (by simp;omega) _) (by simp;omega) _)⟩)
namespace M
noncomputable def in1 (s:Sp):Int:=match s with | some p=>pn p.1 | none=>0
noncomputable def in2 (s:Sp):Int:=match s with | some p=>pd p.1 | none=>0
noncomputable def in3 (s:Sp):Int:=match s with | some p=>pn p.2 | none=>0
noncomputable def in4 (s:Sp):Int:=match s with | some p=>pd p.2 | none=>0
theorem mk_isSome (l h:Int):(mkS l h).isSome=spanOk l h:=by
 unfold mkS
 cases spanOk l h <;> rfl
theorem mk_in1 (l h:Int):pick (spanOk l h) (pn l)=in1 (mkS l h):=by
 unfold mkS
 cases spanOk l h <;> rfl
theorem mk_in2 (l h:Int):pick (spanOk l h) (pd l)=in2 (mkS l h):=by
 unfold mkS
 cases spanOk l h <;> rfl
theorem mk_in3 (l h:Int):pick (spanOk l h) (pn h)=in3 (mkS l h):=by
 unfold mkS
 cases spanOk l h <;> rfl
theorem mk_in4 (l h:Int):pick (spanOk l h) (pd h)=in4 (mkS l h):=by
 unfold mkS
 cases spanOk l h <;> rfl
end M
theorem dD (a b X Y E:Int) (w:World) (hg:M.good a b=true) (hX1:-10000≤X) (hX2:X≤10000) (hE1:0≤E) (hE2:E≤20) :
  Calls Tryz.prog 86 #[.agg #[.int .i64 a,.int .i64 b],.agg #[.int .i64 X,.int .i64 Y,.int .i64 E]] w fun e w'=>e=.returned (.tuple #[.agg #[.int .i64 (M.in1 (M.bestS a b X E)),.int .i64 (M.in2 (M.bestS a b X E)),.int .i64 (M.in3 (M.bestS a b X E)),.int .i64 (M.in4 (M.bestS a b X E))],.bool (M.bestS a b X E).isSome])∧Below w.heap.size w w':=by
 have h:=iP a b X Y E w hg hX1 hX2 hE1 hE2
 unfold M.bestS
 cases hb:M.bOk a b X E
 ·rw [hb] at h;exact h
 ·rw [hb] at h;exact h
theorem iF (p q:Int × Int) (w:World) (hp:M.spanOk p.1 p.2=true) (hq:M.spanOk q.1 q.2=true) :
  Calls Tryz.prog 36 #[.agg #[.int .i64 (M.in1 (some p)),.int .i64 (M.in2 (some p)),.int .i64 (M.in3 (some p)),.int .i64 (M.in4 (some p))],.agg #[.int .i64 (M.in1 (some q)),.int .i64 (M.in2 (some q)),.int .i64 (M.in3 (some q)),.int .i64 (M.in4 (some q))]] w fun e w'=>e=.returned (.tuple #[.agg #[.int .i64 (M.in1 (M.addS (some p) (some q))),.int .i64 (M.in2 (M.addS (some p) (some q))),.int .i64 (M.in3 (M.addS (some p) (some q))),.int .i64 (M.in4 (M.addS (some p) (some q)))],.bool (M.addS (some p) (some q)).isSome])∧Below w.heap.size w w':=by
 have h:=lW p.1 p.2 q.1 q.2 w hp hq
 rw [M.mk_in1,M.mk_in2,M.mk_in3,M.mk_in4,←M.mk_isSome] at h
 exact h
theorem kS (p q:Int × Int) (w:World) (hp:M.spanOk p.1 p.2=true) (hq:M.spanOk q.1 q.2=true) :
  Calls Tryz.prog 78 #[.agg #[.int .i64 (M.in1 (some p)),.int .i64 (M.in2 (some p)),.int .i64 (M.in3 (some p)),.int .i64 (M.in4 (some p))],.agg #[.int .i64 (M.in1 (some q)),.int .i64 (M.in2 (some q)),.int .i64 (M.in3 (some q)),.int .i64 (M.in4 (some q))]] w fun e w'=>e=.returned (.tuple #[.agg #[.int .i64 (M.in1 (M.subS (some p) (some q))),.int .i64 (M.in2 (M.subS (some p) (some q))),.int .i64 (M.in3 (M.subS (some p) (some q))),.int .i64 (M.in4 (M.subS (some p) (some q)))],.bool (M.subS (some p) (some q)).isSome])∧Below w.heap.size w w':=by
 have h:=lj p.1 p.2 q.1 q.2 w hp hq
 rw [M.mk_in1,M.mk_in2,M.mk_in3,M.mk_in4,←M.mk_isSome] at h
 exact h
theorem gK (p q:Int × Int) (w:World) (hp:M.spanOk p.1 p.2=true) (hq:M.spanOk q.1 q.2=true) :
  Calls Tryz.prog 37 #[.agg #[.int .i64 (M.in1 (some p)),.int .i64 (M.in2 (some p)),.int .i64 (M.in3 (some p)),.int .i64 (M.in4 (some p))],.agg #[.int .i64 (M.in1 (some q)),.int .i64 (M.in2 (some q)),.int .i64 (M.in3 (some q)),.int .i64 (M.in4 (some q))]] w fun e w'=>e=.returned (.tuple #[.agg #[.int .i64 (M.in1 (M.mulS (some p) (some q))),.int .i64 (M.in2 (M.mulS (some p) (some q))),.int .i64 (M.in3 (M.mulS (some p) (some q))),.int .i64 (M.in4 (M.mulS (some p) (some q)))],.bool (M.mulS (some p) (some q)).isSome])∧Below w.heap.size w w':=by
 have h:=li p.1 p.2 q.1 q.2 w hp hq
 rw [M.mk_in1,M.mk_in2,M.mk_in3,M.mk_in4,←M.mk_isSome] at h
 exact h
theorem kk (a b X Y E:Int) (w:World) (hg:M.good a b=true) (hX1:-10000≤X) (hX2:X≤10000) (hE1:0≤E) (hE2:E≤20) :
  Calls Tryz.prog 59 #[.agg #[.int .i64 a,.int .i64 b],.agg #[.int .i64 X,.int .i64 Y,.int .i64 E]] w fun e w'=>e=.returned (.tuple #[.agg #[.int .i64 (M.in1 (M.selfS a b X E)),.int .i64 (M.in2 (M.selfS a b X E)),.int .i64 (M.in3 (M.selfS a b X E)),.int .i64 (M.in4 (M.selfS a b X E))],.bool (M.selfS a b X E).isSome])∧Below w.heap.size w w':=by
 have PH:=fun W=>dD a b X Y E W hg hX1 hX2 hE1 hE2
 have hr:=M.okS_best (a:=a) (b:=b) (M.good_in hg) hX1 hX2 hE1 hE2
 unfold M.selfS
 generalize M.bestS a b X E=r at *
 clear hg hX1 hX2 hE1 hE2
 cases r with
 | none=>
  have e1:=Lib.hid (show M.in1 none=0∧M.in2 none=0∧M.in3 none=0∧M.in4 none=0∧(none:M.Sp).isSome=false from ⟨rfl,rfl,rfl,rfl,rfl⟩)
  have e2:=Lib.hid (show M.addS none none=none from rfl)
  rw [e2.out,e1.out.1,e1.out.2.1,e1.out.2.2.1,e1.out.2.2.2.1,e1.out.2.2.2.2]
  rw [e1.out.1,e1.out.2.1,e1.out.2.2.1,e1.out.2.2.2.1,e1.out.2.2.2.2] at PH
  clear e1 e2
  replace PH:=Lib.hid PH
  obtain ⟨wc,hw3,C,Q,R,B⟩:=iz w #[.int .i64 a,.int .i64 b] 28 #[.int .i64 X,.int .i64 Y,.int .i64 E] 54 #[.int .i64 0,.int .i64 0,.int .i64 0,.int .i64 0] 38
  have C_c0:=C.box.c0
  have C_c1:=C.box.c1
  have ⟨q0,q1,q2⟩:=Q.box3
  go_enter Tryz.func59,Tryz.ntmps59
  go_wp2_with (go_at_call 86;(with_reducible refine (PH.out _).mono ?_);rintro e w4 ⟨rfl,hb4⟩;(replace R:=(R.keep hb4).alloc (.cells #[.int .i64 0,.int .i64 0,.int .i64 0,.int .i64 0] 38));(replace B:=(B.trans (hb4.mono B.size)).alloc (Nat.le_trans B.size hb4.size) (.cells #[.int .i64 0,.int .i64 0,.int .i64 0,.int .i64 0] 38));(have V:=aG.new w4 #[.int .i64 0,.int .i64 0,.int .i64 0,.int .i64 0] 38);(have n1:=R.lt);(have ⟨r0,r1,r2,r3,z0,z1,z2,z3,rl⟩:=R.boxQ);(have ⟨v0,v1,v2,v3,y0,y1,y2,y3,vl⟩:=V.boxQ))
  exact bodyPost_ret (v:=.tuple #[.agg #[.int .i64 0,.int .i64 0,.int .i64 0,.int .i64 0],.bool false]) (by simp [results,Tryz.results59,go_sem, *]) rfl (⟨rfl,Below.setCell (Below.setCell (Below.setCell (Below.setCell B (by simp;omega) _) (by simp;omega) _) (by simp;omega) _) (by simp;omega) _⟩)
 | some p=>
  have hp:=hr p rfl
  have PI:=fun W=>iF p p W hp hp
  have e1:=Lib.hid (show (some p:M.Sp).isSome=true from rfl)
  rw [e1.out] at PH
  clear e1 hr hp
  generalize M.in1 (some p)=i1 at *
  generalize M.in2 (some p)=i2 at *
  generalize M.in3 (some p)=i3 at *
  generalize M.in4 (some p)=i4 at *
  generalize M.addS (some p) (some p)=q at *
  generalize M.in1 q=k1 at *
  generalize M.in2 q=k2 at *
  generalize M.in3 q=k3 at *
  generalize M.in4 q=k4 at *
  generalize q.isSome=f at *
  replace PH:=Lib.hid PH
  replace PI:=Lib.hid PI
  obtain ⟨wc,hw3,C,Q,R,B⟩:=iz w #[.int .i64 a,.int .i64 b] 28 #[.int .i64 X,.int .i64 Y,.int .i64 E] 54 #[.int .i64 0,.int .i64 0,.int .i64 0,.int .i64 0] 38
  have C_c0:=C.box.c0
  have C_c1:=C.box.c1
  have ⟨q0,q1,q2⟩:=Q.box3
  go_enter Tryz.func59,Tryz.ntmps59
  go_wp2_with first | (go_at_call 86;(with_reducible refine (PH.out _).mono ?_);rintro e w4 ⟨rfl,hb4⟩;(replace R:=(R.keep hb4).alloc (.cells #[.int .i64 i1,.int .i64 i2,.int .i64 i3,.int .i64 i4] 38));(replace B:=(B.trans (hb4.mono B.size)).alloc (Nat.le_trans B.size hb4.size) (.cells #[.int .i64 i1,.int .i64 i2,.int .i64 i3,.int .i64 i4] 38));(have V:=aG.new w4 #[.int .i64 i1,.int .i64 i2,.int .i64 i3,.int .i64 i4] 38);(have n1:=R.lt);(have ⟨r0,r1,r2,r3,z0,z1,z2,z3,rl⟩:=R.boxQ);(have ⟨v0,v1,v2,v3,y0,y1,y2,y3,vl⟩:=V.boxQ)) | (go_at_call 36;(with_reducible refine (PI.out _).mono ?_);rintro e w5 ⟨rfl,hb5⟩;(replace R:=R.keep hb5);(replace B:=B.trans (hb5.mono B.size));(have ⟨r0,r1,r2,r3,z0,z1,z2,z3,rl⟩:=R.boxQ))
  exact bodyPost_ret (v:=.tuple #[.agg #[.int .i64 k1,.int .i64 k2,.int .i64 k3,.int .i64 k4],.bool f]) (by simp [results,Tryz.results59,go_sem, *]) rfl (⟨rfl,Below.setCell (Below.setCell (Below.setCell (Below.setCell B (by simp;omega) _) (by simp;omega) _) (by simp;omega) _) (by simp;omega) _⟩)
end
end Go.Proofs.YthfjndmdalfloaaGreat
