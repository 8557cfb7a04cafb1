/-
  Joined texts: contracts and plain lemmas.
-/
import Derived.Test.YtgfkcoablfjbcaaGreatDoorB1
import Derived.Test.YtgfkcoablfjbcaaGreatDoorB17
import Derived.Laws.FloatArith
import Derived.Laws.Externs
set_option linter.unusedSimpArgs false
set_option linter.unusedVariables false
set_option maxRecDepth 100000
set_option maxHeartbeats 8000000
namespace Go.Proofs.YtgfkcoablfjbcaaGreatDoor
section
open Go.RowKit
namespace M
def slN (a X1 Y1 E1 X2 Y2 E2:Int):Int:=if sD X1 Y1 E1 X2 Y2 E2=0 then 1 else bp (sN a X1 Y1 E1 X2 Y2 E2) (sD X1 Y1 E1 X2 Y2 E2)
def slD (a X1 Y1 E1 X2 Y2 E2:Int):Int:=if sD X1 Y1 E1 X2 Y2 E2=0 then 0 else bP (sN a X1 Y1 E1 X2 Y2 E2) (sD X1 Y1 E1 X2 Y2 E2)
end M
theorem pM (a b X1 Y1 E1 X2 Y2 E2:Int) (w:World) (ha1:-1000≤a) (ha2:a≤1000) (hx1:-10000≤X1) (hx2:X1≤10000) (hy1:-3000000≤Y1) (hy2:Y1≤3000000) (he1:1≤E1) (he2:E1≤20) (hx3:-10000≤X2) (hx4:X2≤10000) (hy3:-3000000≤Y2) (hy4:Y2≤3000000) (he3:1≤E2) (he4:E2≤20) :
  Calls Tryz.prog 48 #[.agg #[.int .i64 a,.int .i64 b],.agg #[.int .i64 X1,.int .i64 Y1,.int .i64 E1],.agg #[.int .i64 X2,.int .i64 Y2,.int .i64 E2]] w fun e w'=>e=.returned (.tuple #[.int .i64 (M.slN a X1 Y1 E1 X2 Y2 E2),.int .i64 (M.slD a X1 Y1 E1 X2 Y2 E2)])∧Below w.heap.size w w':=by
 have hbd:=M.tq (a:=a) ha1 ha2 hx1 hx2 hy1 hy2 he1 he2 hx3 hx4 hy3 hy4 he3 he4
 have PE:=fun (h:M.sD X1 Y1 E1 X2 Y2 E2≠0) W=>gA (M.sN a X1 Y1 E1 X2 Y2 E2) (M.sD X1 Y1 E1 X2 Y2 E2) W (by omega) (by omega) (by omega) (by omega) h
 unfold M.slN M.slD
 have hcase:(X1=X2∧Y1=Y2∧E1=E2)∨¬ (X1=X2∧Y1=Y2∧E1=E2):=Classical.em _
 rcases hcase with hsame | hdif
 ·have e1:=show M.sN a X1 Y1 E1 X2 Y2 E2=3*X1*X1+a*E1*E1*E1*E1 from if_pos hsame
  have e2:=show M.sD X1 Y1 E1 X2 Y2 E2=2*Y1*E1 from if_pos hsame
  rw [e1,e2] at PE hbd
  rw [e1,e2]
  obtain ⟨rfl,rfl,rfl⟩:=hsame
  clear e1 e2 hx3 hx4 hy3 hy4 he3 he4
  have sb1:=M.aL (x:=Y1) (y:=E1) (m:=3000000) (n:=20) (by omega) (by omega) (by omega) (by omega)
  have sb2:=M.aL (x:=Y1*E1) (y:=E1) (m:=60000000) (n:=20) (by omega) (by omega) (by omega) (by omega)
  have sb3:=M.aL (x:=Y1*E1*E1) (y:=E1) (m:=1200000000) (n:=20) (by omega) (by omega) (by omega) (by omega)
  have sb4:=M.aL (x:=E1) (y:=E1) (m:=20) (n:=20) (by omega) (by omega) (by omega) (by omega)
  have sb5:=M.aL (x:=X1) (y:=E1) (m:=10000) (n:=20) (by omega) (by omega) (by omega) (by omega)
  have sb6:=M.aL (x:=X1*E1) (y:=E1) (m:=200000) (n:=20) (by omega) (by omega) (by omega) (by omega)
  have sb7:=M.aL (x:=E1*E1) (y:=X1*E1*E1 - X1*E1*E1) (m:=400) (n:=8000000) (by omega) (by omega) (by omega) (by omega)
  have sb8:=M.aL (x:=3) (y:=X1) (m:=3) (n:=10000) (by omega) (by omega) (by omega) (by omega)
  have sb9:=M.aL (x:=3*X1) (y:=X1) (m:=30000) (n:=10000) (by omega) (by omega) (by omega) (by omega)
  have sb10:=M.aL (x:=a) (y:=E1) (m:=1000) (n:=20) (by omega) (by omega) (by omega) (by omega)
  have sb11:=M.aL (x:=a*E1) (y:=E1) (m:=20000) (n:=20) (by omega) (by omega) (by omega) (by omega)
  have sb12:=M.aL (x:=a*E1*E1) (y:=E1) (m:=400000) (n:=20) (by omega) (by omega) (by omega) (by omega)
  have sb13:=M.aL (x:=a*E1*E1*E1) (y:=E1) (m:=8000000) (n:=20) (by omega) (by omega) (by omega) (by omega)
  have sb14:=M.aL (x:=2) (y:=Y1) (m:=2) (n:=3000000) (by omega) (by omega) (by omega) (by omega)
  have sb15:=M.aL (x:=2*Y1) (y:=E1) (m:=6000000) (n:=20) (by omega) (by omega) (by omega) (by omega)
  have C:=((aH.new w #[.int .i64 a,.int .i64 b] 28).alloc (.cells #[.int .i64 X1,.int .i64 Y1,.int .i64 E1] 45)).alloc (.cells #[.int .i64 X1,.int .i64 Y1,.int .i64 E1] 45)
  have Q:=(aH.new (w.alloc (.cells #[.int .i64 a,.int .i64 b] 28)) #[.int .i64 X1,.int .i64 Y1,.int .i64 E1] 45).alloc (.cells #[.int .i64 X1,.int .i64 Y1,.int .i64 E1] 45)
  rw [ui] at Q
  have U:=aH.new ((w.alloc (.cells #[.int .i64 a,.int .i64 b] 28)).alloc (.cells #[.int .i64 X1,.int .i64 Y1,.int .i64 E1] 45)) #[.int .i64 X1,.int .i64 Y1,.int .i64 E1] 45
  rw [ui,ui] at U
  have B:=(((uk w.heap.size w).alloc (ul _) (.cells #[.int .i64 a,.int .i64 b] 28)).alloc (by rw [ui];omega) (.cells #[.int .i64 X1,.int .i64 Y1,.int .i64 E1] 45)).alloc (by rw [ui,ui];omega) (.cells #[.int .i64 X1,.int .i64 Y1,.int .i64 E1] 45)
  generalize hw3:((w.alloc (.cells #[.int .i64 a,.int .i64 b] 28)).alloc (.cells #[.int .i64 X1,.int .i64 Y1,.int .i64 E1] 45)).alloc (.cells #[.int .i64 X1,.int .i64 Y1,.int .i64 E1] 45)=wc at *
  have ⟨q0,q1,q2⟩:=Q.aQ
  have ⟨u0,u1,u2⟩:=U.aQ
  have C_c0:=C.box.c0
  have C_c1:=C.box.c1
  by_cases h0:2*Y1*E1=0
  ·have h1:(2*Y1*E1 == 0)=true:=by rw [beq_iff_eq];exact h0
   rw [if_pos h0,if_pos h0]
   clear PE
   go_enter Tryz.func48,Tryz.ntmps48
   go_wp2
   all_goals
    go_ret2
    exact ⟨rfl,B⟩
  have h1:(2*Y1*E1 == 0)=false:=by rw [beq_eq_false_iff_ne];exact h0
  rw [if_neg h0,if_neg h0]
  have PE:=PE h0
  generalize bp (3*X1*X1+a*E1*E1*E1*E1) (2*Y1*E1)=pn at *
  generalize bP (3*X1*X1+a*E1*E1*E1*E1) (2*Y1*E1)=pd at *
  have PE:=uh PE
  go_enter Tryz.func48,Tryz.ntmps48
  go_wp2_with (go_at_call 49;(with_reducible refine (PE.out _).mono ?_);rintro e w4 ⟨rfl,hb4⟩;(have B4:=B.trans (hb4.mono B.size)))
  all_goals
   go_ret2
   exact ⟨rfl,B4⟩
 have e1:=show M.sN a X1 Y1 E1 X2 Y2 E2=Y2*E1*E1*E1 - Y1*E2*E2*E2 from if_neg hdif
 have e2:=show M.sD X1 Y1 E1 X2 Y2 E2=E1*E2*(X2*E1*E1 - X1*E2*E2) from if_neg hdif
 rw [e1,e2] at PE hbd
 rw [e1,e2]
 clear e1 e2
 have sb16:=M.aL (x:=Y2) (y:=E1) (m:=3000000) (n:=20) (by omega) (by omega) (by omega) (by omega)
 have sb17:=M.aL (x:=Y2*E1) (y:=E1) (m:=60000000) (n:=20) (by omega) (by omega) (by omega) (by omega)
 have sb18:=M.aL (x:=Y2*E1*E1) (y:=E1) (m:=1200000000) (n:=20) (by omega) (by omega) (by omega) (by omega)
 have sb19:=M.aL (x:=Y1) (y:=E2) (m:=3000000) (n:=20) (by omega) (by omega) (by omega) (by omega)
 have sb20:=M.aL (x:=Y1*E2) (y:=E2) (m:=60000000) (n:=20) (by omega) (by omega) (by omega) (by omega)
 have sb21:=M.aL (x:=Y1*E2*E2) (y:=E2) (m:=1200000000) (n:=20) (by omega) (by omega) (by omega) (by omega)
 have sb22:=M.aL (x:=E1) (y:=E2) (m:=20) (n:=20) (by omega) (by omega) (by omega) (by omega)
 have sb23:=M.aL (x:=X2) (y:=E1) (m:=10000) (n:=20) (by omega) (by omega) (by omega) (by omega)
 have sb24:=M.aL (x:=X2*E1) (y:=E1) (m:=200000) (n:=20) (by omega) (by omega) (by omega) (by omega)
 have sb25:=M.aL (x:=X1) (y:=E2) (m:=10000) (n:=20) (by omega) (by omega) (by omega) (by omega)
 have sb26:=M.aL (x:=X1*E2) (y:=E2) (m:=200000) (n:=20) (by omega) (by omega) (by omega) (by omega)
 have sb27:=M.aL (x:=E1*E2) (y:=X2*E1*E1 - X1*E2*E2) (m:=400) (n:=8000000) (by omega) (by omega) (by omega) (by omega)
 have hne:X1≠X2∨Y1≠Y2∨E1≠E2:=by
  rcases Classical.em (X1=X2) with h1 | h1
  ·rcases Classical.em (Y1=Y2) with h2 | h2
   ·exact Or.inr (Or.inr fun h3=>hdif ⟨h1,h2,h3⟩)
   exact Or.inr (Or.inl h2)
  exact Or.inl h1
 clear hdif
 have hdec:(decide (X1=X2) && (decide (Y1=Y2) && decide (E1=E2)))=false:=by
  rcases hne with h | h | h <;> simp [h]
 have C:=((aH.new w #[.int .i64 a,.int .i64 b] 28).alloc (.cells #[.int .i64 X1,.int .i64 Y1,.int .i64 E1] 45)).alloc (.cells #[.int .i64 X2,.int .i64 Y2,.int .i64 E2] 45)
 have Q:=(aH.new (w.alloc (.cells #[.int .i64 a,.int .i64 b] 28)) #[.int .i64 X1,.int .i64 Y1,.int .i64 E1] 45).alloc (.cells #[.int .i64 X2,.int .i64 Y2,.int .i64 E2] 45)
 rw [ui] at Q
 have U:=aH.new ((w.alloc (.cells #[.int .i64 a,.int .i64 b] 28)).alloc (.cells #[.int .i64 X1,.int .i64 Y1,.int .i64 E1] 45)) #[.int .i64 X2,.int .i64 Y2,.int .i64 E2] 45
 rw [ui,ui] at U
 have B:=(((uk w.heap.size w).alloc (ul _) (.cells #[.int .i64 a,.int .i64 b] 28)).alloc (by rw [ui];omega) (.cells #[.int .i64 X1,.int .i64 Y1,.int .i64 E1] 45)).alloc (by rw [ui,ui];omega) (.cells #[.int .i64 X2,.int .i64 Y2,.int .i64 E2] 45)
 generalize hw3:((w.alloc (.cells #[.int .i64 a,.int .i64 b] 28)).alloc (.cells #[.int .i64 X1,.int .i64 Y1,.int .i64 E1] 45)).alloc (.cells #[.int .i64 X2,.int .i64 Y2,.int .i64 E2] 45)=wc at *
 have ⟨q0,q1,q2⟩:=Q.aQ
 have ⟨u0,u1,u2⟩:=U.aQ
 have C_c0:=C.box.c0
 have C_c1:=C.box.c1
 rcases hne with h | h | h
 all_goals
  have hb:=beq_eq_false_iff_ne.2 h
  by_cases h0:E1*E2*(X2*E1*E1 - X1*E2*E2)=0
  ·have h1:(E1*E2*(X2*E1*E1 - X1*E2*E2) == 0)=true:=by rw [beq_iff_eq];exact h0
   rw [if_pos h0,if_pos h0]
   clear PE
   go_enter Tryz.func48,Tryz.ntmps48
   go_wp2
   all_goals
    go_ret2
    exact ⟨rfl,B⟩
  have h1:(E1*E2*(X2*E1*E1 - X1*E2*E2) == 0)=false:=by rw [beq_eq_false_iff_ne];exact h0
  rw [if_neg h0,if_neg h0]
  have PE:=PE h0
  generalize bp (Y2*E1*E1*E1 - Y1*E2*E2*E2) (E1*E2*(X2*E1*E1 - X1*E2*E2))=pn at *
  generalize bP (Y2*E1*E1*E1 - Y1*E2*E2*E2) (E1*E2*(X2*E1*E1 - X1*E2*E2))=pd at *
  have PE:=uh PE
  go_enter Tryz.func48,Tryz.ntmps48
  go_wp2_with (go_at_call 49;(with_reducible refine (PE.out _).mono ?_);rintro e w4 ⟨rfl,hb4⟩;(have B4:=B.trans (hb4.mono B.size)))
  all_goals
   go_ret2
   exact ⟨rfl,B4⟩
theorem g5 (a b:Int) (va vb:Value) (w:World) (ba bb:Nat) (hoa:aF w ba va (Wh.dig a.natAbs)) (hob:aF w bb vb (Wh.dig b.natAbs)) (hl1:(Wh.dig a.natAbs).length≤100000) (hl2:(Wh.dig b.natAbs).length≤100000) :
  Calls Tryz.prog 99 #[.agg #[.bool (decide (a<0)),va],.agg #[.bool (decide (b<0)),vb]] w fun e w'=>e=.returned (.int .i64 (Wh.sg3 a b))∧Below w.heap.size w w':=by
 obtain ⟨aa,ca,rfl,-,-⟩:=aF.view hoa
 obtain ⟨ab,cb,rfl,-,-⟩:=aF.view hob
 have P1:=fun s r W (h1:aF W ba (.slice aa (Wh.dig a.natAbs).length ca) (Wh.dig a.natAbs)) (h2:aF W bb (.slice ab (Wh.dig b.natAbs).length cb) (Wh.dig b.natAbs))=>dH a.natAbs b.natAbs s r _ _ W ba bb h1 h2 hl1 hl2
 have P2:=fun s r W (h1:aF W ba (.slice aa (Wh.dig a.natAbs).length ca) (Wh.dig a.natAbs)) (h2:aF W bb (.slice ab (Wh.dig b.natAbs).length cb) (Wh.dig b.natAbs))=>dH b.natAbs a.natAbs s r _ _ W bb ba h2 h1 hl2 hl1
 replace hoa:=uh hoa
 replace hob:=uh hob
 generalize (Wh.dig a.natAbs).length=la at *
 generalize (Wh.dig b.natAbs).length=lb at *
 by_cases h1:a<0
 ·by_cases h2:b<0
  ·have hs:=uh (show Wh.sg3 (b.natAbs:Int) (a.natAbs:Int)=Wh.sg3 a b by unfold Wh.sg3;(repeat' split) <;> omega)
   rw [decide_eq_true h1,decide_eq_true h2]
   rw [←hs.out]
   clear h1 h2 P1
   replace P2:=uh P2
   have hBb:=((uk w.heap.size w).alloc (ul _) (.cells #[.bool true,.slice aa la ca] 106)).alloc (by rw [ui];omega) (.cells #[.bool true,.slice ab lb cb] 106)
   go_enter Tryz.func99,Tryz.ntmps99
   go_wp2_with (go_at_call 97;(with_reducible refine (P2.out _ _ _ (aF.below hoa.out hBb) (aF.below hob.out hBb)).mono ?_);rintro e w4 ⟨rfl,hb4⟩)
   go_ret
   exact ⟨rfl,hBb.trans (hb4.mono hBb.size)⟩
  have hs:=uh (show Wh.sg3 a b=-1 by unfold Wh.sg3;(repeat' split) <;> omega)
  rw [decide_eq_true h1,decide_eq_false h2]
  rw [hs.out]
  clear h1 h2 P1 P2
  go_enter Tryz.func99,Tryz.ntmps99
  go_wp2
  go_ret
  exact ⟨rfl,(by repeat (first | exact uk _ _ | refine aP ?_ _ | refine aS ?_ (by assumption) | refine Below.drew ?_ | refine uj ?_ (by first | exact ul _ | exact Nat.le_add_right _ _ | (simp <;> omega)) _ | refine aK ?_ _))⟩
 by_cases h2:b<0
 ·have hs:=uh (show Wh.sg3 a b=1 by unfold Wh.sg3;(repeat' split) <;> omega)
  rw [decide_eq_false h1,decide_eq_true h2]
  rw [hs.out]
  clear h1 h2 P1 P2
  go_enter Tryz.func99,Tryz.ntmps99
  go_wp2
  go_ret
  exact ⟨rfl,(by repeat (first | exact uk _ _ | refine aP ?_ _ | refine aS ?_ (by assumption) | refine Below.drew ?_ | refine uj ?_ (by first | exact ul _ | exact Nat.le_add_right _ _ | (simp <;> omega)) _ | refine aK ?_ _))⟩
 have hs:=uh (show Wh.sg3 (a.natAbs:Int) (b.natAbs:Int)=Wh.sg3 a b by unfold Wh.sg3;(repeat' split) <;> omega)
 rw [decide_eq_false h1,decide_eq_false h2]
 rw [←hs.out]
 clear h1 h2 P2
 replace P1:=uh P1
 have hBb:=((uk w.heap.size w).alloc (ul _) (.cells #[.bool false,.slice aa la ca] 106)).alloc (by rw [ui];omega) (.cells #[.bool false,.slice ab lb cb] 106)
 go_enter Tryz.func99,Tryz.ntmps99
 go_wp2_with (go_at_call 97;(with_reducible refine (P1.out _ _ _ (aF.below hoa.out hBb) (aF.below hob.out hBb)).mono ?_);rintro e w4 ⟨rfl,hb4⟩)
 go_ret
 exact ⟨rfl,hBb.trans (hb4.mono hBb.size)⟩
namespace M
def sq (A D:Int):Int:=max (-10000) (min 10000 (-(-A / D)))
theorem j6 {A D m:Int} (hD:0<D):-(-A / D)≤m ↔ A≤D*m:=by
 have e1:=Int.mul_ediv_add_emod (-A) D
 have e2:=Int.emod_nonneg (-A) (by omega:D≠0)
 have e3:=Int.emod_lt_of_pos (-A) hD
 generalize -A / D=q at *
 constructor
 ·intro h
  have:D*(-q)≤D*m:=Int.mul_le_mul_of_nonneg_left h (by omega)
  rw [Int.mul_neg] at this
  omega
 intro h
 rcases Int.lt_or_le m (-q) with h1 | h1
 ·have:D*(m+1)≤D*(-q):=Int.mul_le_mul_of_nonneg_left (by omega) (by omega)
  rw [Int.mul_neg,Int.mul_add] at this
  omega
 exact h1
theorem ub {A D x:Int} (hD:0<D) (h1:-10000≤x) (h2:x≤10000) (h:D*x=A):sq A D=x:=by
 have q1:=(j6 (A:=A) (m:=x) hD).2 (by omega)
 have q2:¬ -(-A / D)≤x - 1:=fun h3=>by
  have:=(j6 hD).1 h3
  rw [Int.mul_sub] at this
  omega
 unfold sq
 omega
end M
theorem iB (A D:Int) (va vd:Value) (w:World) (ba bd:Nat) (hoa:aF w ba va (Wh.dig A.natAbs)) (hod:aF w bd vd (Wh.dig D.natAbs)) (hA:Wh.sz A 1000) (hD:Wh.sz D 1000) (hD0:0<D) :
  Calls Tryz.prog 80 #[.agg #[.bool (decide (A<0)),va],.agg #[.bool (decide (D<0)),vd],.int .i64 10000] w fun e w'=>e=.returned (.tuple #[.int .i64 (M.sq A D),.bool (decide (D*M.sq A D=A))])∧Below w.heap.size w w':=by
 obtain ⟨aa,ca,rfl,-,-⟩:=aF.view hoa
 obtain ⟨ad,cd,rfl,-,-⟩:=aF.view hod
 have PT:=fun n (h1:-10000≤n) (h2:n≤10000) v W k (h:aF W k v (Wh.dig D.natAbs))=>jN D n v W k h (Wh.aU.2 (Wh.aN hD (by omega))) (by omega) (by omega)
 have PC:=fun n (h1:-10000≤n) (h2:n≤10000) v v' W k k' (h:aF W k v (Wh.dig (D*n).natAbs)) (h':aF W k' v' (Wh.dig A.natAbs))=>g5 (D*n) A v v' W k k' h h' (Wh.aU.2 (Wh.aN (Wh.ag hD (Wh.bS (n:=n) (by omega) (by omega))) (by omega))) (Wh.aU.2 (Wh.aN hA (by omega)))
 generalize decide (A<0)=s1 at *
 generalize decide (D<0)=s2 at *
 replace hoa:=uh hoa
 replace hod:=uh hod
 generalize (Wh.dig A.natAbs).length=la at *
 generalize (Wh.dig D.natAbs).length=ld at *
 have PT:=uh PT
 have PC:=uh PC
 have hsq:-10000≤M.sq A D∧M.sq A D≤10000:=by unfold M.sq;omega
 have hcl:=uh fun m=>M.j6 (A:=A) (D:=D) (m:=m) hD0
 have hsd:Hid (M.sq A D=max (-10000) (min 10000 (-(-A / D)))):=uh rfl
 generalize M.sq A D=L at *
 have V:=(aH.new w #[.bool s1,.slice aa la ca] 106).alloc (.cells #[.bool s2,.slice ad ld cd] 106)
 have U:=aH.new (w.alloc (.cells #[.bool s1,.slice aa la ca] 106)) #[.bool s2,.slice ad ld cd] 106
 rw [ui] at U
 have B:=((uk w.heap.size w).alloc (ul _) (.cells #[.bool s1,.slice aa la ca] 106)).alloc (by rw [ui];omega) (.cells #[.bool s2,.slice ad ld cd] 106)
 generalize hw3:(w.alloc (.cells #[.bool s1,.slice aa la ca] 106)).alloc (.cells #[.bool s2,.slice ad ld cd] 106)=wc at *
 obtain ⟨l1,l2⟩:=hsq
 go_enter Tryz.func80,Tryz.ntmps80
 go_wp2
 go_loopw [8,9] (fun vl vh wr=>∃ lo hi:Int,vl=.int .i64 lo∧vh=.int .i64 hi∧-10000≤lo∧lo≤L∧L≤hi∧hi≤10000∧aH wr w.heap.size 106 #[.bool s1,.slice aa la ca]∧aH wr (w.heap.size+1) 106 #[.bool s2,.slice ad ld cd]∧Below w.heap.size w wr) (fun vl vh _=>(intOf vh - intOf vl).toNat)
 case atStart=>exact ⟨-10000,10000,rfl,rfl,by omega,l1,l2,by omega,V,U,B⟩
 case round=>
 clear V U B hw3
 obtain ⟨lo,hi,rfl,rfl,h1,h2,h3,h4,V,U,B⟩:=hrel
 have oa:=uh (aF.below hoa.out B)
 have od:=uh (aF.below hod.out B)
 by_cases hlt:lo<hi
 ·have hm1:lo≤(lo+hi) / 2:=by omega
  have hm2:(lo+hi) / 2<hi:=by omega
  have PF:=fun W=>gS (lo+hi) 2 W (by omega) (by omega) (by omega) (by omega)
  have hge:=(hcl.out ((lo+hi) / 2))
  generalize (lo+hi) / 2=m at *
  have PF:=uh PF
  have PT1:=uh fun v W k h=>PT.out m (by omega) (by omega) v W k h
  have PC1:=fun v v' W k k' h h'=>PC.out m (by omega) (by omega) v v' W k k' h h'
  have hsg:0≤Wh.sg3 (D*m) A ↔ A≤D*m:=by unfold Wh.sg3;(repeat' split) <;> omega
  have hsn:L≤m ↔ A≤D*m:=by rw [←hge,hsd.out];omega
  generalize Wh.sg3 (D*m) A=sg at *
  have PC1:=uh PC1
  by_cases hL:L≤m
  ·have hs0:0≤sg:=hsg.2 (hsn.1 hL)
   clear hsg hsn hge PC PT
   go_upto_region 4 with (go_at_call 98;(with_reducible refine (PF.out _).mono ?_);rintro e w4 ⟨rfl,rfl⟩)
   refine Rg.bF 6 [.is (.agg #[.bool s2,.slice ad ld cd]),.is (.int .i64 m),.at (aJ (wr.heap.size) (D*m)),.is (.agg #[.bool s1,.slice aa la ca]),.is (.int .i64 sg),.is (.bool true)] (by kernel_rfl) (by kernel_rfl) (by kernel_rfl) ⟨?_,?_,?_,?_,?_,?_,trivial⟩ ?_
   ·intro _ ac_ w_ hB hr
    have e4:ac_.tmps[4]?=some (.pointer (some ⟨w.heap.size+1,0,none⟩)):=hr 4 (by decide)
    have k0:=aE hB U.box.c0
    have k1:=aE hB U.box.c1
    exact Rg.aG rfl (by go_simp)
   ·intro _ ac_ w_ hB hr
    have e10:ac_.tmps[10]?=some (.int .i64 m):=hr 10 (by decide)
    exact Rg.aG rfl (by go_simp)
   ·intro _ ac_ w_ hB hr
    have e21:=Rg.ev1 (hr 21 (by decide))
    have e22:=Rg.ev1 (hr 22 (by decide))
    have ef:=Rg.ef ac_
    refine Rg.aX rfl (by go_simp;exact ⟨rfl,rfl⟩) ?_
    refine (PT1.out _ _ _ (aF.below od.out hB)).mono ?_
    rintro e w5 ⟨sl5,rfl,ho5,hb5⟩
    exact ⟨_,rfl,aJ.at ho5 (by have:=hB.size;omega),hb5⟩
   ·intro _ ac_ w_ hB hr
    have e3:ac_.tmps[3]?=some (.pointer (some ⟨w.heap.size,0,none⟩)):=hr 3 (by decide)
    have k0:=aE hB V.box.c0
    have k1:=aE hB V.box.c1
    exact Rg.aG rfl (by go_simp)
   ·intro _ ac_ w_ hB hr
    obtain ⟨v23,e23,n23⟩:∃ v,ac_.tmps[23]?=some v∧(Rg.Val.at (aJ (wr.heap.size) (D*m))).ok v w_:=hr 23 (by decide)
    obtain ⟨s23,a23,l23,c23,hs23,rfl,o23⟩:=(Rg.aZ n23).view
    have e24:=Rg.ev1 (hr 24 (by decide))
    have ef:=Rg.ef ac_
    obtain rfl:=hs23.out
    exact Rg.bK rfl (by go_simp) (PC1.out _ _ _ _ _ o23 (aF.below oa.out hB))
   ·intro _ ac_ w_ hB hr
    have e25:=Rg.ev1 (hr 25 (by decide))
    have ec:=Rg.ec ac_
    exact Rg.aG rfl (by go_simp;first | done | omega | (simp;omega))
   intro vals wz hB hv hne
   have v_5:vals 5=.bool true:=hv 5 (by decide)
   simp only [Rg.am,Rg.fill,Act.put,Nat.reduceAdd]
   clear hv
   simp only [v_5]
   clear v_5
   replace V:=V.keep hB
   replace U:=U.keep hB
   replace B:=B.trans (hB.mono B.size)
   clear hB
   unfold Rg.aV
   go_wp2
   go_roundw
   case rel=>exact ⟨lo,m,rfl,rfl,h1,h2,hL,by omega,V,U,B⟩
   case measure=>simp [intOf] <;> omega
  have hs0:¬ 0≤sg:=fun h=>hL (hsn.2 (hsg.1 h))
  clear hsg hsn hge PC PT
  go_upto_region 4 with (go_at_call 98;(with_reducible refine (PF.out _).mono ?_);rintro e w4 ⟨rfl,rfl⟩)
  refine Rg.bF 6 [.is (.agg #[.bool s2,.slice ad ld cd]),.is (.int .i64 m),.at (aJ (wr.heap.size) (D*m)),.is (.agg #[.bool s1,.slice aa la ca]),.is (.int .i64 sg),.is (.bool false)] (by kernel_rfl) (by kernel_rfl) (by kernel_rfl) ⟨?_,?_,?_,?_,?_,?_,trivial⟩ ?_
  ·intro _ ac_ w_ hB hr
   have e4:ac_.tmps[4]?=some (.pointer (some ⟨w.heap.size+1,0,none⟩)):=hr 4 (by decide)
   have k0:=aE hB U.box.c0
   have k1:=aE hB U.box.c1
   exact Rg.aG rfl (by go_simp)
  ·intro _ ac_ w_ hB hr
   have e10:ac_.tmps[10]?=some (.int .i64 m):=hr 10 (by decide)
   exact Rg.aG rfl (by go_simp)
  ·intro _ ac_ w_ hB hr
   have e21:=Rg.ev1 (hr 21 (by decide))
   have e22:=Rg.ev1 (hr 22 (by decide))
   have ef:=Rg.ef ac_
   refine Rg.aX rfl (by go_simp;exact ⟨rfl,rfl⟩) ?_
   refine (PT1.out _ _ _ (aF.below od.out hB)).mono ?_
   rintro e w5 ⟨sl5,rfl,ho5,hb5⟩
   exact ⟨_,rfl,aJ.at ho5 (by have:=hB.size;omega),hb5⟩
  ·intro _ ac_ w_ hB hr
   have e3:ac_.tmps[3]?=some (.pointer (some ⟨w.heap.size,0,none⟩)):=hr 3 (by decide)
   have k0:=aE hB V.box.c0
   have k1:=aE hB V.box.c1
   exact Rg.aG rfl (by go_simp)
  ·intro _ ac_ w_ hB hr
   obtain ⟨v23,e23,n23⟩:∃ v,ac_.tmps[23]?=some v∧(Rg.Val.at (aJ (wr.heap.size) (D*m))).ok v w_:=hr 23 (by decide)
   obtain ⟨s23,a23,l23,c23,hs23,rfl,o23⟩:=(Rg.aZ n23).view
   have e24:=Rg.ev1 (hr 24 (by decide))
   have ef:=Rg.ef ac_
   obtain rfl:=hs23.out
   exact Rg.bK rfl (by go_simp) (PC1.out _ _ _ _ _ o23 (aF.below oa.out hB))
  ·intro _ ac_ w_ hB hr
   have e25:=Rg.ev1 (hr 25 (by decide))
   have ec:=Rg.ec ac_
   exact Rg.aG rfl (by go_simp;first | done | omega | (simp;omega))
  intro vals wz hB hv hne
  have v_5:vals 5=.bool false:=hv 5 (by decide)
  simp only [Rg.am,Rg.fill,Act.put,Nat.reduceAdd]
  clear hv
  simp only [v_5]
  clear v_5
  replace V:=V.keep hB
  replace U:=U.keep hB
  replace B:=B.trans (hB.mono B.size)
  clear hB
  unfold Rg.aV
  go_wp2
  go_roundw
  case rel=>exact ⟨m+1,hi,rfl,rfl,by omega,by omega,h3,h4,V,U,B⟩
  case measure=>simp [intOf] <;> omega
 obtain rfl:lo=L:=by omega
 obtain rfl:hi=lo:=by omega
 have PT1:=uh fun v W k h=>PT.out hi (by omega) (by omega) v W k h
 have PC1:=fun v v' W k k' h h'=>PC.out hi (by omega) (by omega) v v' W k k' h h'
 have hsg:Wh.sg3 (D*hi) A=0 ↔ D*hi=A:=by unfold Wh.sg3;(repeat' split) <;> omega
 generalize Wh.sg3 (D*hi) A=sg at *
 have PC1:=uh PC1
 have hdd:=uh (show decide (D*hi=A)=decide (sg=0) by rw [decide_eq_decide];exact hsg.symm)
 clear hsg PC PT
 go_upto_region 7 with fail
 refine Rg.bF 9 [.is (.int .i64 hi),.is (.agg #[.bool s2,.slice ad ld cd]),.is (.int .i64 hi),.at (aJ (wr.heap.size) (D*hi)),.is (.agg #[.bool s1,.slice aa la ca]),.is (.int .i64 sg),.is (.bool (decide (sg=0))),.is (.int .i64 hi),.is (.bool (decide (sg=0)))] (by kernel_rfl) (by kernel_rfl) (by kernel_rfl) ⟨?_,?_,?_,?_,?_,?_,?_,?_,?_,trivial⟩ ?_
 ·intro _ ac_ w_ hB hr
  have e8:ac_.tmps[8]?=some (.int .i64 hi):=hr 8 (by decide)
  exact Rg.aG rfl (by go_simp)
 ·intro _ ac_ w_ hB hr
  have e4:ac_.tmps[4]?=some (.pointer (some ⟨w.heap.size+1,0,none⟩)):=hr 4 (by decide)
  have k0:=aE hB U.box.c0
  have k1:=aE hB U.box.c1
  exact Rg.aG rfl (by go_simp)
 ·intro _ ac_ w_ hB hr
  have e8:ac_.tmps[8]?=some (.int .i64 hi):=hr 8 (by decide)
  exact Rg.aG rfl (by go_simp)
 ·intro _ ac_ w_ hB hr
  have e31:=Rg.ev1 (hr 31 (by decide))
  have e32:=Rg.ev1 (hr 32 (by decide))
  have ef:=Rg.ef ac_
  refine Rg.aX rfl (by go_simp;exact ⟨rfl,rfl⟩) ?_
  refine (PT1.out _ _ _ (aF.below od.out hB)).mono ?_
  rintro e w5 ⟨sl5,rfl,ho5,hb5⟩
  exact ⟨_,rfl,aJ.at ho5 (by have:=hB.size;omega),hb5⟩
 ·intro _ ac_ w_ hB hr
  have e3:ac_.tmps[3]?=some (.pointer (some ⟨w.heap.size,0,none⟩)):=hr 3 (by decide)
  have k0:=aE hB V.box.c0
  have k1:=aE hB V.box.c1
  exact Rg.aG rfl (by go_simp)
 ·intro _ ac_ w_ hB hr
  obtain ⟨v33,e33,n33⟩:∃ v,ac_.tmps[33]?=some v∧(Rg.Val.at (aJ (wr.heap.size) (D*hi))).ok v w_:=hr 33 (by decide)
  obtain ⟨s33,a33,l33,c33,hs33,rfl,o33⟩:=(Rg.aZ n33).view
  have e34:=Rg.ev1 (hr 34 (by decide))
  have ef:=Rg.ef ac_
  obtain rfl:=hs33.out
  exact Rg.bK rfl (by go_simp) (PC1.out _ _ _ _ _ o33 (aF.below oa.out hB))
 ·intro _ ac_ w_ hB hr
  have e35:=Rg.ev1 (hr 35 (by decide))
  have ec:=Rg.ec ac_
  exact Rg.aG rfl (by go_simp;first | done | rfl | (by_cases hv_:sg=0 <;> simp [hv_];done))
 ·intro _ ac_ w_ hB hr
  have e30:=Rg.ev1 (hr 30 (by decide))
  exact Rg.aG rfl (by go_simp)
 ·intro _ ac_ w_ hB hr
  have e36:=Rg.ev1 (hr 36 (by decide))
  exact Rg.aG rfl (by go_simp)
 intro vals wz hB hv hne
 have v_7:vals 7=.int .i64 hi:=hv 7 (by decide)
 have v_8:vals 8=.bool (decide (sg=0)):=hv 8 (by decide)
 simp only [Rg.am,Rg.fill,Act.put,Nat.reduceAdd]
 clear hv
 simp only [v_7,v_8]
 clear v_7 v_8
 unfold Rg.aV
 go_wp2
 go_ret2
 exact ⟨by rw [hdd.out];rfl,B.trans (hB.mono B.size)⟩
namespace M
def top (n m X1 E1 X2 E2:Int):Int:=n*n*(E1*E1*E2*E2) - m*m*(X1*E2*E2+X2*E1*E1)
def bot (m E1 E2:Int):Int:=m*m*(E1*E1*E2*E2)
def ep (n m X1 Y1 E1 x e:Int):Int:=n*(X1*e*e - x*E1*E1)*E1 - Y1*m*e*e
theorem uL {x1 x2 y1 y2 l A B:Int} (h1:y1*y1=x1*x1*x1+A*x1+B) (h2:y2*y2=x2*x2*x2+A*x2+B) (hl:l*(x2 - x1)=y2 - y1) (hne:x2 - x1≠0):(l*(x1 - (l*l - x1 - x2)) - y1)*(l*(x1 - (l*l - x1 - x2)) - y1)=(l*l - x1 - x2)*(l*l - x1 - x2)*(l*l - x1 - x2)+A*(l*l - x1 - x2)+B:=by
 have hU:(x2 - x1)*(A - 2*l*(y1 - l*x1) - (x1*x2+(x1+x2)*(l*l - x1 - x2)))=0:=by grind
 have hU2:A - 2*l*(y1 - l*x1) - (x1*x2+(x1+x2)*(l*l - x1 - x2))=0:=by
  rcases Int.mul_eq_zero.1 hU with h | h
  ·exact absurd h hne
  exact h
 grind
theorem tang {x1 y1 l A B:Int} (h1:y1*y1=x1*x1*x1+A*x1+B) (hl:l*(2*y1)=3*x1*x1+A):(l*(x1 - (l*l - x1 - x1)) - y1)*(l*(x1 - (l*l - x1 - x1)) - y1)=(l*l - x1 - x1)*(l*l - x1 - x1)*(l*l - x1 - x1)+A*(l*l - x1 - x1)+B:=by
 grind
theorem tD {a b X Y E m F:Int} (h:Y*Y=X*X*X+a*X*E*E*E*E+b*E*E*E*E*E*E):(Y*m*m*m*F*F*F)*(Y*m*m*m*F*F*F)=(X*m*m*F*F)*(X*m*m*F*F)*(X*m*m*F*F)+a*((m*E*F)*(m*E*F)*((m*E*F)*(m*E*F)))*(X*m*m*F*F)+b*((m*E*F)*(m*E*F)*((m*E*F)*(m*E*F))*((m*E*F)*(m*E*F))):=by
 have q:(Y*m*m*m*F*F*F)*(Y*m*m*m*F*F*F)=(Y*Y)*(m*m*m*m*m*m*(F*F*F*F*F*F)):=by clear h;grind
 rw [q,h]
 clear h q
 grind
theorem slp {n m u v k l r:Int} (h:n*u=m*v) (e1:l=u*k*n) (e2:r=v*(k*m)):l=r:=by
 rw [e1,e2,show u*k*n=n*u*k by grind,h]
 clear h e1 e2
 grind
theorem ue {a b X1 Y1 E1 X2 Y2 E2 n m:Int} (h1:Y1*Y1=cv a b X1 E1) (h2:Y2*Y2=cv a b X2 E2) (he1:E1≠0) (he2:E2≠0) (hm:m≠0) (hs:n*sD X1 Y1 E1 X2 Y2 E2=m*sN a X1 Y1 E1 X2 Y2 E2) (hd:sD X1 Y1 E1 X2 Y2 E2≠0) :
  (n*E1*E2*(X1*m*m*E2*E2 - top n m X1 E1 X2 E2) - Y1*m*m*m*E2*E2*E2)*(n*E1*E2*(X1*m*m*E2*E2 - top n m X1 E1 X2 E2) - Y1*m*m*m*E2*E2*E2)=top n m X1 E1 X2 E2*top n m X1 E1 X2 E2*top n m X1 E1 X2 E2+a*(bot m E1 E2*bot m E1 E2)*top n m X1 E1 X2 E2+b*(bot m E1 E2*bot m E1 E2*bot m E1 E2):=by
 unfold cv at h1 h2
 have ht:top n m X1 E1 X2 E2=(n*E1*E2)*(n*E1*E2) - X1*m*m*E2*E2 - X2*m*m*E1*E1:=by unfold top;grind
 have hb:bot m E1 E2=(m*E1*E2)*(m*E1*E2):=by unfold bot;grind
 have k1:=tD (m:=m) (F:=E2) h1
 by_cases hc:X1=X2∧Y1=Y2∧E1=E2
 ·unfold sD at hs;rw [if_pos hc] at hs
  unfold sN at hs;rw [if_pos hc] at hs
  obtain ⟨rfl,rfl,rfl⟩:=hc
  have kl:(n*E1*E1)*(2*(Y1*m*m*m*E1*E1*E1))=3*(X1*m*m*E1*E1)*(X1*m*m*E1*E1)+a*((m*E1*E1)*(m*E1*E1)*((m*E1*E1)*(m*E1*E1))):=slp (k:=m*m*m*E1*E1*E1*E1) hs (by clear hs k1;grind) (by clear hs k1;grind)
  have:=tang k1 kl
  rw [ht,hb]
  exact this
 unfold sD at hs hd;rw [if_neg hc] at hs hd
 unfold sN at hs;rw [if_neg hc] at hs
 have k2:=tD (m:=m) (F:=E1) h2
 rw [show m*E2*E1=m*E1*E2 by grind] at k2
 have kl:(n*E1*E2)*(X2*m*m*E1*E1 - X1*m*m*E2*E2)=Y2*m*m*m*E1*E1*E1 - Y1*m*m*m*E2*E2*E2:=slp (k:=m*m) hs (by clear hs k1 k2 hd;grind) (by clear hs k1 k2 hd;grind)
 have kn:X2*m*m*E1*E1 - X1*m*m*E2*E2≠0:=by
  intro h
  have:m*m*(X2*E1*E1 - X1*E2*E2)=0:=by rw [←h];clear h;grind
  rcases Int.mul_eq_zero.1 this with h | h
  ·rcases Int.mul_eq_zero.1 h with h | h <;> exact hm h
  exact hd (by rw [h];simp)
 have:=uL k1 k2 kl kn
 rw [ht,hb]
 exact this
theorem dj {k x y:Int} (hk:k≠0) (h:k*x=k*y):x=y:=Int.eq_of_mul_eq_mul_left hk h
theorem rX {a b X1 Y1 E1 X2 Y2 E2 n m x e:Int} (h1:Y1*Y1=cv a b X1 E1) (h2:Y2*Y2=cv a b X2 E2) (he1:E1≠0) (he2:E2≠0) (hm:m≠0) (hs:n*sD X1 Y1 E1 X2 Y2 E2=m*sN a X1 Y1 E1 X2 Y2 E2) (hd:sD X1 Y1 E1 X2 Y2 E2≠0) (hx:bot m E1 E2*x=top n m X1 E1 X2 E2*(e*e)) :
  (e*ep n m X1 Y1 E1 x e)*(e*ep n m X1 Y1 E1 x e)=(m*E1*E1*E1)*(m*E1*E1*E1)*cv a b x e:=by
 have h3:=ue h1 h2 he1 he2 hm hs hd
 have hy:e*e*(n*E1*E2*(X1*m*m*E2*E2 - top n m X1 E1 X2 E2) - Y1*m*m*m*E2*E2*E2)=m*m*E2*E2*E2*ep n m X1 Y1 E1 x e:=by
  unfold ep
  unfold bot at hx
  have hq:n*E1*E2*(m*m*(E1*E1*E2*E2)*x)=n*E1*E2*(top n m X1 E1 X2 E2*(e*e)):=by rw [hx]
  generalize top n m X1 E1 X2 E2=t at *
  clear h1 h2 he1 he2 hm hs hd h3 hx
  grind
 generalize (n*E1*E2*(X1*m*m*E2*E2 - top n m X1 E1 X2 E2) - Y1*m*m*m*E2*E2*E2)=y3 at *
 generalize ep n m X1 Y1 E1 x e=s at *
 generalize top n m X1 E1 X2 E2=t at *
 have hk:(m*m*m*m)*(E2*E2*E2*E2*E2*E2)≠0:=by
  repeat' apply Int.mul_ne_zero
  all_goals assumption
 apply dj hk
 have q1:(m*m*m*m)*(E2*E2*E2*E2*E2*E2)*((e*s)*(e*s))=e*e*(e*e*y3)*(e*e*y3):=by rw [hy];clear h1 h2 hs h3 hx hy;grind
 have q2:e*e*(e*e*y3)*(e*e*y3)=(e*e)*(e*e)*(e*e)*(y3*y3):=by clear h1 h2 hs h3 hx hy q1;grind
 rw [q1,q2,h3]
 have q3:bot m E1 E2=(m*E1*E2)*(m*E1*E2):=by unfold bot;grind
 have q4:(e*e)*(e*e)*(e*e)*(t*t*t+a*(bot m E1 E2*bot m E1 E2)*t+b*(bot m E1 E2*bot m E1 E2*bot m E1 E2))=(t*(e*e))*(t*(e*e))*(t*(e*e))+a*(bot m E1 E2*bot m E1 E2)*(t*(e*e))*(e*e*(e*e))+b*(bot m E1 E2*bot m E1 E2*bot m E1 E2)*(e*e*(e*e)*(e*e)):=by clear h1 h2 hs h3 hx hy q1 q2 q3;grind
 rw [q4,←hx]
 unfold cv
 rw [q3]
 clear h1 h2 he1 he2 hm hs hd h3 hx hy hk q1 q2 q3 q4
 grind
theorem rS {k c z:Int} (hk:k≠0) (h:z*z=k*k*c):∃ q,z=k*q∧q*q=c:=by
 have h1:k*k ∣ z*z:=⟨c,h⟩
 have h2:k.natAbs ^ 2 ∣ z.natAbs ^ 2:=by
  have:=Int.natAbs_dvd_natAbs.2 h1
  rwa [Int.natAbs_mul,Int.natAbs_mul,←Nat.pow_two,←Nat.pow_two] at this
 have h3:k ∣ z:=Int.natAbs_dvd_natAbs.1 ((Nat.pow_dvd_pow_iff (by decide)).1 h2)
 obtain ⟨q,rfl⟩:=h3
 refine ⟨q,rfl,?_⟩
 have hkk:k*k≠0:=Int.mul_ne_zero hk hk
 apply dj hkk
 rw [←h]
 clear h h1 h2
 grind
theorem sm {a b X1 Y1 E1 X2 Y2 E2 n m x e:Int} (h1:Y1*Y1=cv a b X1 E1) (h2:Y2*Y2=cv a b X2 E2) (he1:E1≠0) (he2:E2≠0) (hm:m≠0) (hs:n*sD X1 Y1 E1 X2 Y2 E2=m*sN a X1 Y1 E1 X2 Y2 E2) (hd:sD X1 Y1 E1 X2 Y2 E2≠0) (hx:bot m E1 E2*x=top n m X1 E1 X2 E2*(e*e)) :
  ∃ y,e*ep n m X1 Y1 E1 x e=m*E1*E1*E1*y∧y*y=cv a b x e:=
 rS (Int.mul_ne_zero (Int.mul_ne_zero (Int.mul_ne_zero hm he1) he1) he1) (rX h1 h2 he1 he2 hm hs hd hx)
theorem pT {X1 E1 X2 E2 n m x e:Int} (hg:Int.gcd n m=1) (hx:bot m E1 E2*x=top n m X1 E1 X2 E2*(e*e)):m ∣ E1*E2*e:=by
 have h1:(n*(E1*E2*e))*(n*(E1*E2*e))=m*m*(E1*E1*E2*E2*x+(X1*E2*E2+X2*E1*E1)*(e*e)):=by
  unfold bot top at hx
  clear hg
  grind
 have h3:m ∣ n*(E1*E2*e):=by
  by_cases hm:m=0
  ·subst hm
   simp only [Int.zero_mul] at h1
   rcases Int.mul_eq_zero.1 h1 with h | h <;> rw [h] <;> exact ⟨0,rfl⟩
  obtain ⟨q,hq,-⟩:=rS hm h1
  exact ⟨q,hq⟩
 have h4:=Int.dvd_gcd_mul_iff_dvd_mul.2 h3
 rw [Int.gcd_comm,hg] at h4
 simpa using h4
theorem rR {X1 E1 X2 E2 n m x e:Int} (he1:1≤E1) (he2:1≤E2) (he:1≤e) (hx1:X1≤10000) (hx2:X2≤10000) (hx3:x≤10000) (hx:bot m E1 E2*x=top n m X1 E1 X2 E2*(e*e)):n*n≤30000*(m*m):=by
 have k1:1≤E1*E1:=by have:=Int.mul_le_mul he1 he1 (by omega) (by omega);omega
 have k2:1≤E2*E2:=by have:=Int.mul_le_mul he2 he2 (by omega) (by omega);omega
 have k3:1≤e*e:=by have:=Int.mul_le_mul he he (by omega) (by omega);omega
 have h1:(E1*E1)*(E2*E2)*(e*e)*(n*n)=m*m*((E1*E1)*(E2*E2)*x+(E2*E2)*(e*e)*X1+(E1*E1)*(e*e)*X2):=by
  unfold bot top at hx
  clear k1 k2 k3
  grind
 have hmm:0≤m*m:=by rcases Int.le_total 0 m with h | h;exact Int.mul_nonneg h h;exact Int.mul_nonneg_of_nonpos_of_nonpos h h
 clear hx he1 he2 he
 generalize E1*E1=u at *
 generalize E2*E2=v at *
 generalize e*e=z at *
 have p1:0≤u*v:=Int.mul_nonneg (by omega) (by omega)
 have p2:0≤v*z:=Int.mul_nonneg (by omega) (by omega)
 have p3:0≤u*z:=Int.mul_nonneg (by omega) (by omega)
 have p4:0<u*v*z:=Int.mul_pos (Int.mul_pos (by omega) (by omega)) (by omega)
 have s1:u*v*x≤u*v*z*10000:=by
  have a1:=Int.mul_le_mul_of_nonneg_left hx3 p1
  have a2:=Int.mul_le_mul_of_nonneg_left k3 p1
  omega
 have s2:v*z*X1≤u*v*z*10000:=by
  have a1:=Int.mul_le_mul_of_nonneg_left hx1 p2
  have a2:=Int.mul_le_mul_of_nonneg_left k1 p2
  have a3:v*z*u=u*v*z:=by clear h1;grind
  omega
 have s3:u*z*X2≤u*v*z*10000:=by
  have a1:=Int.mul_le_mul_of_nonneg_left hx2 p3
  have a2:=Int.mul_le_mul_of_nonneg_left k2 p3
  have a3:u*z*v=u*v*z:=by clear h1;grind
  omega
 have s4:u*v*z*(n*n)≤u*v*z*(30000*(m*m)):=by
  rw [h1]
  have a1:=Int.mul_le_mul_of_nonneg_left (show u*v*x+v*z*X1+u*z*X2≤u*v*z*30000 by omega) hmm
  have a2:m*m*(u*v*z*30000)=u*v*z*(30000*(m*m)):=by clear h1 a1 s1 s2 s3;grind
  omega
 exact Int.le_of_mul_le_mul_left s4 p4
theorem jw {n m:Int} (h:n*n≤30000*(m*m)):(n.natAbs:Int)≤200*(m.natAbs:Int):=by
 rw [←Int.natAbs_mul_self' n,←Int.natAbs_mul_self' m] at h
 have u0:0≤(n.natAbs:Int):=by omega
 have v0:0≤(m.natAbs:Int):=by omega
 generalize (n.natAbs:Int)=u at *
 generalize (m.natAbs:Int)=v at *
 rcases Int.lt_or_le (200*v) u with q | q
 ·exfalso
  have:=Int.mul_le_mul (show 200*v+1≤u by omega) (show 200*v+1≤u by omega) (by omega) (by omega)
  rw [show (200*v+1)*(200*v+1)=40000*(v*v)+400*v+1 by clear this h q;grind] at this
  have vv:=Int.mul_nonneg v0 v0
  omega
 exact q
theorem mo {n m k:Int} (hk:0<k):bp (n*k) (m*k)=bp n m∧bP (n*k) (m*k)=bP n m:=by
 have hg:M.gcd (n*k) (m*k)=M.gcd n m*k:=by
  unfold M.gcd
  rw [Int.gcd_mul_right]
  push_cast
  rw [Int.natAbs_of_nonneg (by omega)]
 have t1:(n*k).tdiv (M.gcd n m*k)=n.tdiv (M.gcd n m):=Int.mul_tdiv_mul_of_pos_left n (M.gcd n m) hk
 have t2:(m*k).tdiv (M.gcd n m*k)=m.tdiv (M.gcd n m):=Int.mul_tdiv_mul_of_pos_left m (M.gcd n m) hk
 by_cases hn:m<0
 ·have hn':m*k<0:=Int.mul_neg_of_neg_of_pos hn hk
  rw [di hn',dh hn',di hn,dh hn,hg,t1,t2]
  exact ⟨rfl,rfl⟩
 have hn':0≤m*k:=Int.mul_nonneg (by omega) (by omega)
 rw [cg (by omega),cf (by omega),cg (by omega),cf (by omega),hg,t1,t2]
 exact ⟨rfl,rfl⟩
theorem kM {t b x f:Int} (hb:0<b) (hf:0<f) (hg:Int.gcd x f=1) (h:b*x=t*f):bp t b=x∧bP t b=f:=by
 have h1:f ∣ x*b:=⟨t,by rw [Int.mul_comm x b,h,Int.mul_comm]⟩
 have h2:=Int.dvd_gcd_mul_iff_dvd_mul.2 h1
 rw [Int.gcd_comm,hg] at h2
 obtain ⟨k,hk⟩:=(by simpa using h2:f ∣ b)
 have hk0:0<k:=by
  rcases Int.lt_or_le 0 k with q | q
  ·exact q
  have:=Int.mul_nonneg_of_nonpos_of_nonpos (show -f≤0 by omega) q
  rw [Int.neg_mul] at this
  omega
 have ht:t=x*k:=by
  apply dj (show f≠0 by omega)
  rw [Int.mul_comm f t,←h,hk]
  clear h h1 h2 hk
  grind
 have hs:=mo (n:=x) (m:=f) hk0
 have hgg:M.gcd x f=1:=by unfold M.gcd;rw [hg];rfl
 rw [ht,hk]
 rw [hs.1,hs.2,cg (by omega),cf (by omega),hgg]
 simp
theorem kN {t b:Int} (hb:0<b):b*bp t b=t*bP t b∧0<bP t b∧Int.gcd (bp t b) (bP t b)=1:=by
 have hg:(0:Int)<M.gcd t b:=by
  unfold M.gcd
  have:=Int.gcd_pos_of_ne_zero_right t (show b≠0 by omega)
  omega
 have d1:(M.gcd t b:Int) ∣ t:=Int.gcd_dvd_left ..
 have d2:(M.gcd t b:Int) ∣ b:=Int.gcd_dvd_right ..
 rw [cg (by omega),cf (by omega)]
 obtain ⟨u,hu⟩:=d1
 obtain ⟨v,hv⟩:=d2
 have e1:t.tdiv (M.gcd t b)=u:=by
                     conv=>lhs;arg 1;rw [hu]
                     exact Int.mul_tdiv_cancel_left u (by omega)
 have e2:b.tdiv (M.gcd t b)=v:=by
                     conv=>lhs;arg 1;rw [hv]
                     exact Int.mul_tdiv_cancel_left v (by omega)
 rw [e1,e2]
 have hgu:M.gcd (M.gcd t b*u) (M.gcd t b*v)=M.gcd t b:=by rw [←hu,←hv]
 generalize M.gcd t b=g at *
 unfold M.gcd at hgu
 rw [Int.gcd_mul_left] at hgu
 push_cast at hgu
 rw [Int.natAbs_of_nonneg (by omega)] at hgu
 refine ⟨?_,?_,?_⟩
 ·rw [hu,hv];clear hu hv e1 e2 hgu;grind
 ·rcases Int.lt_or_le 0 v with q | q
  ·exact q
  have:=Int.mul_nonneg_of_nonpos_of_nonpos (show -g≤0 by omega) q
  rw [Int.neg_mul] at this
  omega
 have:(Int.gcd u v:Int)=1:=by
  apply dj (show g≠0 by omega)
  omega
 omega
theorem j8 {x e:Int}:Int.gcd x (e*e)=1 ↔ Int.gcd x e=1:=by
 unfold Int.gcd
 rw [Int.natAbs_mul]
 constructor
 ·intro h
  exact Nat.Coprime.coprime_mul_left_right (show Nat.Coprime x.natAbs (e.natAbs*e.natAbs) from h)
 intro h
 exact Nat.Coprime.mul_right (show Nat.Coprime x.natAbs e.natAbs from h) h
theorem oH {e:Int} (h:0≤e):root (e*e)=e:=(iK ⟨h,Int.le_refl _,by rw [Int.add_mul,Int.mul_add];omega⟩).symm
noncomputable def adE (n m X1 E1 X2 E2:Int):Int:=root (bP (top n m X1 E1 X2 E2) (bot m E1 E2))
noncomputable def adX (n m X1 E1 X2 E2:Int):Int:=bp (top n m X1 E1 X2 E2) (bot m E1 E2)
noncomputable def adY (n m X1 Y1 E1 X2 E2:Int):Int:=(adE n m X1 E1 X2 E2*ep n m X1 Y1 E1 (adX n m X1 E1 X2 E2) (adE n m X1 E1 X2 E2)) / (m*E1*E1*E1)
noncomputable def dn (n m X1 E1 X2 E2:Int):Bool:=decide (adE n m X1 E1 X2 E2*adE n m X1 E1 X2 E2=bP (top n m X1 E1 X2 E2) (bot m E1 E2)) && decide (adE n m X1 E1 X2 E2≤20) && M.ins (adX n m X1 E1 X2 E2) (-10000) 10000
theorem iD {m E1 E2:Int} (hm:m≠0) (he1:E1≠0) (he2:E2≠0):0<bot m E1 E2:=by
 have h:bot m E1 E2=(m*E1*E2)*(m*E1*E2):=by unfold bot;grind
 have h0:m*E1*E2≠0:=Int.mul_ne_zero (Int.mul_ne_zero hm he1) he2
 rw [h]
 rcases Int.lt_or_gt_of_ne h0 with q | q
 ·exact Int.mul_pos_of_neg_of_neg q q
 exact Int.mul_pos q q
theorem tO {n m X1 E1 X2 E2 x e:Int} (hm:m≠0) (he1:E1≠0) (he2:E2≠0) (h1:1≤e) (h2:e≤20) (h3:-10000≤x) (h4:x≤10000) (hg:Int.gcd x e=1) (hx:bot m E1 E2*x=top n m X1 E1 X2 E2*(e*e)):dn n m X1 E1 X2 E2=true∧adX n m X1 E1 X2 E2=x∧adE n m X1 E1 X2 E2=e:=by
 have hp:=kM (iD hm he1 he2) (Int.mul_pos (by omega) (by omega)) (j8.2 hg) hx
 have hE:adE n m X1 E1 X2 E2=e:=by unfold adE;rw [hp.2];exact oH (by omega)
 have hX:adX n m X1 E1 X2 E2=x:=hp.1
 refine ⟨?_,hX,hE⟩
 unfold dn
 rw [hE,hX,hp.2]
 simp [M.ins,h2,h3,h4]
theorem nO {n m X1 E1 X2 E2:Int} (hm:m≠0) (he1:E1≠0) (he2:E2≠0) (h:dn n m X1 E1 X2 E2=true):1≤adE n m X1 E1 X2 E2∧adE n m X1 E1 X2 E2≤20∧-10000≤adX n m X1 E1 X2 E2∧adX n m X1 E1 X2 E2≤10000∧Int.gcd (adX n m X1 E1 X2 E2) (adE n m X1 E1 X2 E2)=1∧bot m E1 E2*adX n m X1 E1 X2 E2=top n m X1 E1 X2 E2*(adE n m X1 E1 X2 E2*adE n m X1 E1 X2 E2):=by
 have hp:=kN (t:=top n m X1 E1 X2 E2) (iD hm he1 he2)
 unfold dn at h
 simp only [Bool.and_eq_true,decide_eq_true_eq,M.ins] at h
 obtain ⟨⟨k1,k2⟩,k3,k4⟩:=h
 rw [←k1] at hp
 have hE:0≤adE n m X1 E1 X2 E2:=(gZ (by have:=hp.2.1;omega)).1
 refine ⟨?_,k2,k3,k4,j8.1 hp.2.2,hp.1⟩
 rcases Int.lt_or_le 0 (adE n m X1 E1 X2 E2) with q | q
 ·omega
 have:adE n m X1 E1 X2 E2=0:=by omega
 have:=hp.2.1
 rw [‹adE n m X1 E1 X2 E2=0›] at this
 omega
end M
end
section
namespace M
open Ieee
theorem cut0 (neg:Bool) (n:Nat):Toward.even.cut neg n 0=n:=by
 unfold Toward.cut
 simp [Nat.mod_one]
theorem tS {neg:Bool} {n drop k:Nat} (h:n<2 ^ (drop+k)):Toward.even.cut neg n drop≤2 ^ k:=by
 unfold Toward.cut
 dsimp only
 rw [Nat.one_shiftLeft]
 have hb:∀ b:Bool,b.toNat≤1:=fun b=>by cases b <;> decide
 have hp:0<2 ^ k:=Nat.two_pow_pos k
 refine Nat.le_trans (Nat.add_le_add_left (hb _) _) ?_
 by_cases hd:drop≤n.log2+2
 ·rw [Nat.min_eq_left hd]
  have:n / 2 ^ drop<2 ^ k:=by
   rw [Nat.div_lt_iff_lt_mul (Nat.two_pow_pos _),←Nat.pow_add,Nat.add_comm k];exact h
  omega
 rw [Nat.min_eq_right (by omega)]
 have h1:n<2 ^ (n.log2+2):=Nat.lt_of_lt_of_le Nat.lt_log2_self (Nat.pow_le_pow_right (by decide) (by omega))
 rw [Nat.div_eq_of_lt h1]
 omega
theorem rk {neg:Bool} {n drop k:Nat} (h:n<2 ^ (drop+k)):Toward.zero.cut neg n drop≤2 ^ k:=by
 unfold Toward.cut
 dsimp only
 rw [Nat.one_shiftLeft]
 by_cases hd:drop≤n.log2+2
 ·rw [Nat.min_eq_left hd]
  have:n / 2 ^ drop<2 ^ k:=by
   rw [Nat.div_lt_iff_lt_mul (Nat.two_pow_pos _),←Nat.pow_add,Nat.add_comm k];exact h
  simp
  omega
 rw [Nat.min_eq_right (by omega)]
 have h1:n<2 ^ (n.log2+2):=Nat.lt_of_lt_of_le Nat.lt_log2_self (Nat.pow_le_pow_right (by decide) (by omega))
 rw [Nat.div_eq_of_lt h1]
 simp
theorem fF (n:Nat):∀ todo root:Nat,Datum.rootFrom n todo root<root+2 ^ todo
 | 0,root=>by simp [Datum.rootFrom]
 | todo+1,root=>by
  unfold Datum.rootFrom
  dsimp only
  have h1:=fF n todo (root+1 <<< todo)
  have h2:=fF n todo root
  have h3:(1 <<< todo:Nat)=2 ^ todo:=Nat.one_shiftLeft todo
  have h4:2 ^ (todo+1)=2*2 ^ todo:=by rw [Nat.pow_succ];omega
  rw [h3] at h1 ⊢
  split <;> omega
theorem jG {ρ:Nat} (h:ρ<9218868437227405312):double.read ρ=if ρ<4503599627370496 then .number false ρ (-1074) else .number false (4503599627370496+ρ % 4503599627370496) (-1074+(ρ / 4503599627370496 - 1:Nat)):=by
 unfold Format.read
 have e1:double.signWeight=9223372036854775808:=rfl
 have e2:double.binade=4503599627370496:=rfl
 have e3:double.infRung=9218868437227405312:=rfl
 have e4:double.leastPlace=-1074:=by decide
 rw [e1,e2,e3,e4]
 have h1:ρ % 9223372036854775808=ρ:=Nat.mod_eq_of_lt (by omega)
 have h2:ρ / 9223372036854775808=0:=Nat.div_eq_of_lt (by omega)
 dsimp only
 rw [h1,h2]
 simp only [h,if_true]
 rfl
theorem gV {n k:Nat} (h:n≠0):(n <<< k).log2=n.log2+k:=by
 rw [Nat.shiftLeft_eq]
 have h0:n*2 ^ k≠0:=Nat.mul_ne_zero h (Nat.pos_iff_ne_zero.1 (Nat.two_pow_pos k))
 refine Nat.le_antisymm ?_ ?_
 ·refine Nat.lt_succ_iff.1 ((Nat.log2_lt h0).2 ?_)
  rw [show (n.log2+k).succ=(n.log2+1)+k from by omega,Nat.pow_add]
  exact Nat.mul_lt_mul_of_pos_right Nat.lt_log2_self (Nat.two_pow_pos k)
 refine (Nat.le_log2 h0).2 ?_
 rw [Nat.pow_add]
 exact Nat.mul_le_mul_right _ (Nat.log2_self_le h)
theorem jT {n:Nat} (h0:n≠0) (h:n<9007199254740992):double.read (double.nearest false n 0)=.number false (n <<< (52 - n.log2)) ((n.log2:Int) - 52):=by
 have hL:n.log2≤52:=Nat.lt_succ_iff.1 ((Nat.log2_lt h0).2 h)
 have hK:=gV (k:=52 - n.log2) h0
 rw [show n.log2+(52 - n.log2)=52 from by omega] at hK
 have hK0:n <<< (52 - n.log2)≠0:=by rw [Nat.shiftLeft_eq];exact Nat.mul_ne_zero h0 (Nat.pos_iff_ne_zero.1 (Nat.two_pow_pos _))
 have k1:=Nat.log2_self_le hK0
 have k2:=Nat.lt_log2_self (n:=n <<< (52 - n.log2))
 rw [hK] at k1 k2
 generalize hk:n <<< (52 - n.log2)=K at *
 have e:double.nearest false n 0=(n.log2+1022)*4503599627370496+K:=by
  unfold Format.nearest
  have e2:double.binade=4503599627370496:=rfl
  have e3:double.infRung=9218868437227405312:=rfl
  have e4:double.leastPlace=-1074:=by decide
  have e5:double.fractionBits=52:=rfl
  rw [if_neg h0,e2,e3,e4,e5]
  dsimp only
  have m1:max ((0:Int)+(n.log2:Int) - ((52:Nat):Int)) (-1074)=(n.log2:Int) - 52:=by omega
  rw [m1]
  have m2:((0:Int) - ((n.log2:Int) - 52)).toNat=52 - n.log2:=by omega
  have m3:((n.log2:Int) - 52 - 0).toNat=0:=by omega
  have m4:((n.log2:Int) - 52 - -1074).toNat=n.log2+1022:=by omega
  rw [m2,m3,hk,cut0,m4,Nat.min_eq_left (by omega)]
  rfl
 rw [e,jG (by omega),if_neg (by omega)]
 have d1:((n.log2+1022)*4503599627370496+K) % 4503599627370496=K - 4503599627370496:=by omega
 have d2:((n.log2+1022)*4503599627370496+K) / 4503599627370496=n.log2+1023:=by omega
 rw [d1,d2,show 4503599627370496+(K - 4503599627370496)=K from by omega,show -1074+((n.log2+1023 - 1:Nat):Int)=(n.log2:Int) - 52 from by omega]
theorem nr {m:Nat} {i:Int} (hm:m<2 ^ 53) (hi:i≤-30):∃ R:Int,(Datum.number false m i).toInt .zero=some R∧0≤R∧R≤8388608:=by
 have hz:i.toNat=0:=by omega
 have h1:=rk (neg:=false) (n:=m) (drop:=(-i).toNat) (k:=23) (Nat.lt_of_lt_of_le hm (Nat.pow_le_pow_right (by decide) (by omega)))
 rw [show (2:Nat) ^ 23=8388608 from rfl] at h1
 refine ⟨(Toward.zero.cut false m (-i).toNat:Nat),?_,by omega,by omega⟩
 unfold Datum.toInt Datum.integral
 dsimp only
 rw [hz,Nat.shiftLeft_zero]
 simp [signed]
theorem qa {ρ:Nat} (hρ:ρ≤4706261610602168320):∃ R:Int,(double.read ρ).toInt .zero=some R∧0≤R∧R≤8388608:=by
 have hmd:=Nat.mod_lt ρ (show 0<4503599627370496 from by decide)
 rw [jG (by omega)]
 have e53:(9007199254740992:Nat)=2 ^ 53:=rfl
 by_cases hs:ρ<4503599627370496
 ·rw [if_pos hs]
  exact nr (by rw [←e53];omega) (by omega)
 rw [if_neg hs]
 exact nr (by rw [←e53];omega) (by omega)
theorem sH {mag:Nat} {cJ:Int}:Toward.even.cut false (mag <<< (cJ - (cJ+mag.log2 - 52)).toNat) (cJ+mag.log2 - 52 - cJ).toNat≤2 ^ 53:=by
 refine tS ?_
 have h3:=Nat.lt_log2_self (n:=mag)
 rw [Nat.shiftLeft_eq]
 rcases Nat.lt_or_ge mag.log2 53 with q | q
 ·have z1:(cJ - (cJ+mag.log2 - 52)).toNat=52 - mag.log2:=by omega
  have z2:(cJ+mag.log2 - 52 - cJ).toNat=0:=by omega
  have h4:=Nat.mul_lt_mul_of_pos_right h3 (Nat.two_pow_pos (52 - mag.log2))
  rw [←Nat.pow_add,show mag.log2+1+(52 - mag.log2)=53 from by omega] at h4
  rw [z1,z2,Nat.zero_add]
  exact h4
 have z1:(cJ - (cJ+mag.log2 - 52)).toNat=0:=by omega
 have z2:(cJ+mag.log2 - 52 - cJ).toNat=mag.log2 - 52:=by omega
 rw [z1,z2,Nat.pow_zero,Nat.mul_one,show mag.log2 - 52+53=mag.log2+1 from by omega]
 exact h3
theorem pB {mag:Nat} {cJ:Int} (h:mag<2 ^ 56) (h1:-200≤cJ) (h2:cJ≤-34):double.nearest false mag cJ≤4706261610602168320:=by
 unfold Format.nearest
 have e2:double.binade=4503599627370496:=rfl
 have e4:double.leastPlace=-1074:=by decide
 have e5:double.fractionBits=52:=rfl
 have w0:∀ x,double.word false x=x:=fun x=>rfl
 by_cases h0:mag=0
 ·rw [if_pos h0,w0];omega
 rw [if_neg h0,e2,e4,e5,w0]
 have hl:mag.log2≤55:=Nat.lt_succ_iff.1 ((Nat.log2_lt h0).2 h)
 have m1:max (cJ+(mag.log2:Int) - ((52:Nat):Int)) (-1074)=cJ+mag.log2 - 52:=by omega
 rw [m1]
 refine Nat.le_trans (Nat.min_le_left _ _) ?_
 have hc:=sH (mag:=mag) (cJ:=cJ)
 rw [show (2:Nat) ^ 53=9007199254740992 from rfl] at hc
 have hb:(cJ+mag.log2 - 52 - -1074).toNat≤1043:=by omega
 have hb2:=Nat.mul_le_mul_right 4503599627370496 hb
 exact Nat.le_trans (Nat.add_le_add hb2 hc) (by decide)
theorem ot {mag:Nat} {cJ:Int} (h:mag<2 ^ 56) (h1:-200≤cJ) (h2:cJ≤-34) :
  ∃ R:Int,(double.read (double.nearest false mag cJ)).toInt .zero=some R∧0≤R∧R≤8388608:=qa (pB h h1 h2)
theorem mu {n:Nat} (h:n<8796093022208):∃ r:Nat,double.sqrt (double.nearest false n 0)=some r∧∃ R:Int,(double.read r).toInt .zero=some R∧0≤R∧R≤8388608:=by
 by_cases h0:n=0
 ·subst h0
  exact ⟨_,rfl,_,rfl,by decide,by decide⟩
 have hL:n.log2≤42:=Nat.lt_succ_iff.1 ((Nat.log2_lt h0).2 h)
 have hK:=gV (k:=52 - n.log2) h0
 rw [show n.log2+(52 - n.log2)=52 from by omega] at hK
 have hK0:n <<< (52 - n.log2)≠0:=by rw [Nat.shiftLeft_eq];exact Nat.mul_ne_zero h0 (Nat.pos_iff_ne_zero.1 (Nat.two_pow_pos _))
 unfold Format.sqrt
 rw [jT h0 (by omega)]
 generalize n <<< (52 - n.log2)=K at *
 generalize hn:n.log2=l at *
 unfold Datum.root
 dsimp only
 have e5:double.fractionBits=52:=rfl
 rw [if_neg hK0,e5,hK]
 simp only [Bool.false_eq_true,if_false,Option.map_some]
 refine ⟨_,rfl,?_⟩
 have hr:(((l:Int) - 52 - ((2*(52+2) - 52:Nat):Int)) % 2).toNat≤1:=by omega
 generalize hmm:(((l:Int) - 52 - ((2*(52+2) - 52:Nat):Int)) % 2).toNat=b at *
 unfold Format.write
 dsimp only
 refine ot ?_ ?_ ?_
 ·have hx:=fF (K <<< (2*(52+2) - 52+b)) ((K <<< (2*(52+2) - 52+b)).log2 / 2+1) 0
  have hy:(K <<< (2*(52+2) - 52+b)).log2 / 2+1≤55:=by rw [gV hK0];omega
  have hz:=Nat.pow_le_pow_right (n:=2) (by decide) hy
  have hb:∀ c:Bool,c.toNat≤1:=fun c=>by cases c <;> decide
  rw [show (2:Nat) ^ 55=36028797018963968 from rfl] at hz
  rw [show (2:Nat) ^ 56=72057594037927936 from rfl]
  have:=hb (Datum.rootFrom (K <<< (2*(52+2) - 52+b)) ((K <<< (2*(52+2) - 52+b)).log2 / 2+1) 0*Datum.rootFrom (K <<< (2*(52+2) - 52+b)) ((K <<< (2*(52+2) - 52+b)).log2 / 2+1) 0 != K <<< (2*(52+2) - 52+b))
  omega
 ·omega
 omega
end M
theorem mw {n:Int} (h0:0≤n) (h:n≤8000000000000):∃ r:Nat,FloatKind.f64.format.sqrt (FloatKind.f64.nearest n)=some r∧∃ R:Int,floatToIntVal .f64 r .i64=some R∧0≤R∧R≤8388608:=by
 obtain ⟨r,h1,R,h2,h3,h4⟩:=M.mu (n:=n.natAbs) (by omega)
 refine ⟨r,?_,R,?_,h3,h4⟩
 ·have e:FloatKind.f64.nearest n=Ieee.double.nearest false n.natAbs 0:=by
   unfold FloatKind.nearest FloatKind.encode Ieee.Format.write
   dsimp only
   rw [show decide (n<0)=false from by simp;omega]
   rfl
  rw [e]
  exact h1
 unfold floatToIntVal
 rw [show (FloatKind.f64.decode r).toInt .zero=some R from h2]
 dsimp only
 rw [if_pos]
 have a1:IntKind.i64.min=-9223372036854775808:=by decide
 have a2:IntKind.i64.max=9223372036854775807:=by decide
 omega
end
section
open Go.RowKit
noncomputable def M.kE (n:Int):Bool:=decide (0≤n) && (M.root n*M.root n == n)
theorem M.ix {n r:Int} (h:r*r=n):M.kE n=true:=by
 have h0:0≤n:=by
  rw [←h]
  rcases Int.le_total 0 r with q | q
  ·exact Int.mul_nonneg q q
  exact Int.mul_nonneg_of_nonpos_of_nonpos q q
 have hr:=M.iK (n:=n) (r:=(r.natAbs:Int)) ⟨by omega,by rw [←h];exact Int.le_of_eq (Int.natAbs_mul_self' r),by
  have:(r.natAbs:Int)*(r.natAbs:Int)=r*r:=Int.natAbs_mul_self' r
  rw [←h,←this,Int.mul_add,Int.add_mul]
  omega⟩
 unfold M.kE
 rw [←hr,Int.natAbs_mul_self',h]
 simp [h0]
theorem M.rv {n r:Int} (h0:0≤r) (h1:r*r<n) (h2:n<(r+1)*(r+1)):M.kE n=false:=by
 have h3:0≤r*r:=Int.mul_nonneg h0 h0
 have hr:=M.iK (n:=n) (r:=r) ⟨h0,by omega,h2⟩
 unfold M.kE
 rw [←hr,show (r*r == n)=false from by simp;omega]
 simp
theorem M.qb {n:Int} (h:n<0):M.kE n=false:=by
 unfold M.kE
 rw [show decide (0≤n)=false from by simp;omega]
 rfl
theorem pU (x r:Nat) (h:FloatKind.f64.format.sqrt x=some r) (W:World):(callFunc 118 #[.float .f64 x]).run Tryz.prog W=.ok (.value (.float .f64 r)) W:=by
 rw [run_callFunc_extern Tryz.func118 (by kernel_rfl) (by kernel_rfl) (by kernel_rfl) (e:=Extern.MathSqrt.sqrt) (by kernel_rfl)]
 have e:(Extern.MathSqrt.sqrt #[.float .f64 x]).run Tryz.prog W=.ok (.float .f64 r) W:=by
  change Sem.run Tryz.prog (match FloatKind.f64.format.sqrt x with
   | some r=>pure (Value.float .f64 r)
   | none=>do pure (Value.float .f64 (←choose (.nanBits .f64 x x)))) W=_
  rw [h]
  rfl
 rw [e]
 rfl
theorem tM (x r:Nat) (h:FloatKind.f64.format.sqrt x=some r) (w:World) :
  Calls Tryz.prog 100 #[.float .f64 x] w fun e w'=>e=.returned (.float .f64 r)∧w=w':=by
 have hd:=pU x r h
 go_enter Tryz.func100,Tryz.ntmps100
 go_wp2
 go_ret
 exact ⟨rfl,rfl⟩
noncomputable def M.rt (n:Int):Int:=if M.kE n then M.root n else 0
theorem M.rL {n r:Int} (h0:0≤r) (h:r*r=n):M.rt n=r:=by
 unfold M.rt
 rw [M.ix h,if_pos rfl,←h]
 exact M.oH h0
theorem M.tC {n:Int} (h:M.kE n=false):M.rt n=0:=by
 unfold M.rt
 rw [h]
 rfl
theorem j7 (n:Int) (w:World) (h1:n≤8000000000000) :
  Calls Tryz.prog 82 #[.int .i64 n] w fun e w'=>e=.returned (.tuple #[.int .i64 (M.rt n),.bool (M.kE n)])∧w=w':=by
 by_cases h0:n<0
 ·have hz:=M.qb h0
  have hv:=M.tC hz
  go_enter Tryz.func82,Tryz.ntmps82
  go_wp2
  go_ret2
  exact ⟨by rw [hz,hv];rfl,rfl⟩
 obtain ⟨r,hs,R,hR,R0,R1⟩:=mw (n:=n) (by omega) h1
 have hc:=fun W=>run_convert_float_int (P:=Tryz.prog) W 126 3 .f64 .i64 r R (by kernel_rfl) (by kernel_rfl) hR
 have hs':FloatKind.f64.format.sqrt (floatOfInt .f64 n)=some r:=hs
 have hcall:=fun W=>tM (floatOfInt .f64 n) r hs' W
 clear hs hs' hR
 have HH:=uh hcall
 clear hcall
 go_enter Tryz.func82,Tryz.ntmps82
 go_wp2_with (go_at_call 100;refine (HH.out _).mono ?_;rintro e w' ⟨rfl,rfl⟩)
 go_loop [4] (fun vr=>∃ a:Int,vr=.int .i64 a∧0≤a∧a≤8388608) (fun vr=>(intOf vr).toNat)
 case atStart=>exact ⟨R,rfl,R0,R1⟩
 case round=>
 obtain ⟨a,rfl,a0,a1⟩:=hrel
 have hb:=M.kI (x:=a) (y:=a) (m:=8388608) (n:=8388608) a0 a1 a0 a1
 by_cases c:n<a*a
 ·have ha:1≤a:=by
   rcases Int.lt_or_le a 1 with q | q
   ·obtain rfl:a=0:=by omega
    simp at c
    omega
   exact q
  go_wp2
  go_round
  case rel=>exact ⟨a - 1,rfl,by omega,by omega⟩
  case measure=>simp [intOf];omega
 clear HH hc
 go_wp2
 go_loop [4] (fun vr=>∃ a:Int,vr=.int .i64 a∧0≤a∧a≤8388608∧a*a≤n) (fun vr=>(8388608 - intOf vr).toNat)
 case atStart=>exact ⟨a,rfl,a0,a1,by omega⟩
 case round=>
 obtain ⟨b,rfl,b0,b1,b2⟩:=hrel
 have hbb:=M.kI (x:=b+1) (y:=b+1) (m:=8388609) (n:=8388609) (by omega) (by omega) (by omega) (by omega)
 have hb3:=M.kI (x:=b) (y:=b) (m:=8388608) (n:=8388608) b0 b1 b0 b1
 by_cases d:(b+1)*(b+1)≤n
 ·have hlt:b+1<8388608:=by
   rcases Int.lt_or_le (b+1) 8388608 with q | q
   ·exact q
   have:=Int.mul_le_mul q q (by omega) (by omega)
   omega
  go_wp2
  go_round
  case rel=>exact ⟨b+1,rfl,by omega,by omega,d⟩
  case measure=>simp [intOf];omega
 by_cases f:b*b=n
 ·have hz:=M.ix f
  have hv:=M.rL b0 f
  go_wp2
  go_ret2
  first | (rw [hz,hv];exact ⟨rfl,rfl⟩) | (rw [hv];exact ⟨rfl,rfl⟩) | (rw [hv];rfl) | exact ⟨rfl,rfl⟩ | rfl
 have hz:=M.rv (n:=n) b0 (by omega) (by omega)
 have hv:=M.tC hz
 go_wp2
 go_ret2
 first | (rw [hz,hv];exact ⟨rfl,rfl⟩) | (rw [hv];exact ⟨rfl,rfl⟩) | (rw [hv];rfl) | exact ⟨rfl,rfl⟩ | rfl
namespace M
theorem pE {t b:Int} (hb:b<0):bp t b=bp (-t) (-b)∧bP t b=bP (-t) (-b):=by
 have hg:M.gcd (-t) (-b)=M.gcd t b:=by unfold M.gcd;rw [Int.gcd_neg,Int.neg_gcd]
 rw [di hb,dh hb,cg (by omega),cf (by omega),hg,Int.neg_tdiv,Int.neg_tdiv]
 exact ⟨rfl,rfl⟩
theorem fC {t b:Int} (hb:b≠0):b*bp t b=t*bP t b∧0<bP t b∧Int.gcd (bp t b) (bP t b)=1:=by
 rcases Int.lt_or_gt_of_ne hb with h | h
 ·obtain ⟨e1,e2⟩:=pE (t:=t) h
  obtain ⟨k1,k2,k3⟩:=kN (t:=-t) (b:=-b) (by omega)
  rw [e1,e2]
  refine ⟨?_,k2,k3⟩
  rw [Int.neg_mul,Int.neg_mul] at k1
  omega
 exact kN h
theorem fT {t b:Int} (hb:b≠0):(bp t b).natAbs≤t.natAbs∧(bP t b).natAbs≤b.natAbs:=by
 obtain ⟨k1,k2,k3⟩:=fC (t:=t) hb
 have d1:bP t b ∣ b:=by
  have:bP t b ∣ bp t b*b:=⟨t,by rw [Int.mul_comm,k1,Int.mul_comm]⟩
  have h:=Int.dvd_gcd_mul_iff_dvd_mul.2 this
  rw [Int.gcd_comm,k3] at h
  simpa using h
 have d2:bp t b ∣ t:=by
  have:bp t b ∣ bP t b*t:=⟨b,by rw [Int.mul_comm,←k1,Int.mul_comm]⟩
  have h:=Int.dvd_gcd_mul_iff_dvd_mul.2 this
  rw [k3] at h
  simpa using h
 refine ⟨?_,Nat.le_of_dvd (by omega) (Int.natAbs_dvd_natAbs.2 d1)⟩
 by_cases ht:t=0
 ·subst ht
  have:b*bp 0 b=0:=by rw [k1];simp
  rcases Int.mul_eq_zero.1 this with h | h
  ·exact absurd h hb
  rw [h];simp
 exact Nat.le_of_dvd (by omega) (Int.natAbs_dvd_natAbs.2 d2)
theorem rQ {a X1 Y1 E1 X2 Y2 E2:Int} (h:sD X1 Y1 E1 X2 Y2 E2≠0):slN a X1 Y1 E1 X2 Y2 E2*sD X1 Y1 E1 X2 Y2 E2=slD a X1 Y1 E1 X2 Y2 E2*sN a X1 Y1 E1 X2 Y2 E2∧0<slD a X1 Y1 E1 X2 Y2 E2∧Int.gcd (slN a X1 Y1 E1 X2 Y2 E2) (slD a X1 Y1 E1 X2 Y2 E2)=1∧(slN a X1 Y1 E1 X2 Y2 E2).natAbs≤(sN a X1 Y1 E1 X2 Y2 E2).natAbs∧(slD a X1 Y1 E1 X2 Y2 E2).natAbs≤(sD X1 Y1 E1 X2 Y2 E2).natAbs:=by
 unfold slN slD
 rw [if_neg h,if_neg h]
 obtain ⟨k1,k2,k3⟩:=fC (t:=sN a X1 Y1 E1 X2 Y2 E2) h
 obtain ⟨k4,k5⟩:=fT (t:=sN a X1 Y1 E1 X2 Y2 E2) h
 exact ⟨by rw [Int.mul_comm,k1,Int.mul_comm],k2,k3,k4,k5⟩
theorem kj {n m X1 E1 X2 E2:Int} (hm:m≠0) (he1:1≤E1) (he2:E1≤20) (he3:1≤E2) (he4:E2≤20) (hx1:X1≤10000) (hx2:X2≤10000) (hg:Int.gcd n m=1) (h:dn n m X1 E1 X2 E2=true):(m.natAbs:Int)≤8000∧(n.natAbs:Int)≤200*(m.natAbs:Int):=by
 obtain ⟨k1,k2,k3,k4,k5,k6⟩:=nO hm (by omega) (by omega) h
 refine ⟨?_,jw (rR he1 he3 k1 hx1 hx2 k4 k6)⟩
 have hd:=pT hg k6
 generalize adE n m X1 E1 X2 E2=e at *
 have p1:=M.aL (x:=E1) (y:=E2) (m:=20) (n:=20) (by omega) (by omega) (by omega) (by omega)
 have p2:=M.aL (x:=E1*E2) (y:=e) (m:=400) (n:=20) (by omega) (by omega) (by omega) (by omega)
 have p3:0<E1*E2*e:=Int.mul_pos (Int.mul_pos (by omega) (by omega)) (by omega)
 have:=Nat.le_of_dvd (by omega) (Int.natAbs_dvd_natAbs.2 hd)
 omega
theorem uG {a b X1 Y1 E1 X2 Y2 E2 n m:Int} (h1:Y1*Y1=cv a b X1 E1) (h2:Y2*Y2=cv a b X2 E2) (he1:E1≠0) (he2:E2≠0) (hm:m≠0) (hs:n*sD X1 Y1 E1 X2 Y2 E2=m*sN a X1 Y1 E1 X2 Y2 E2) (hd:sD X1 Y1 E1 X2 Y2 E2≠0) (h:dn n m X1 E1 X2 E2=true) :
  adE n m X1 E1 X2 E2*ep n m X1 Y1 E1 (adX n m X1 E1 X2 E2) (adE n m X1 E1 X2 E2)=m*E1*E1*E1*adY n m X1 Y1 E1 X2 E2∧adY n m X1 Y1 E1 X2 E2*adY n m X1 Y1 E1 X2 E2=cv a b (adX n m X1 E1 X2 E2) (adE n m X1 E1 X2 E2):=by
 obtain ⟨k1,k2,k3,k4,k5,k6⟩:=nO hm he1 he2 h
 obtain ⟨y,hy1,hy2⟩:=sm h1 h2 he1 he2 hm hs hd k6
 have:adY n m X1 Y1 E1 X2 E2=y:=by
  unfold adY
  rw [hy1]
  exact Int.mul_ediv_cancel_left y (Int.mul_ne_zero (Int.mul_ne_zero (Int.mul_ne_zero hm he1) he1) he1)
 rw [this]
 exact ⟨hy1,hy2⟩
theorem uY {n d X1 Y1 E1 x e Y up under y bottom:Int} (hd:0<d) (he1:0<E1) (he:0<e) (hY:e*ep n d X1 Y1 E1 x e=d*E1*E1*E1*Y) (k1:d*(E1*E1)*e*e*up=n*(X1*e*e - x*(E1*E1))*under) (ku:0<under) (k2:under*(E1*E1)*E1*y=(up*(E1*E1)*E1 - Y1*under)*bottom) (kb:0<bottom) (kg:Int.gcd y bottom=1):y*(e*e*e).tdiv bottom=Y:=by
 have q1:(d*E1*E1*E1*under*E1*E1)*(e*e*e*y)=(d*E1*E1*E1*under*E1*E1)*(Y*bottom):=by
  unfold ep at hY
  have s1:(d*E1*E1*E1*under*E1*E1)*(e*e*e*y)=d*E1*E1*e*e*e*(under*(E1*E1)*E1*y):=by clear hY k1 k2;grind
  have s2:d*E1*E1*e*e*e*((up*(E1*E1)*E1 - Y1*under)*bottom)=e*bottom*E1*E1*E1*(d*(E1*E1)*e*e*up) - d*E1*E1*e*e*e*Y1*under*bottom:=by clear hY k1 k2 s1;grind
  have s3:e*bottom*E1*E1*E1*(n*(X1*e*e - x*(E1*E1))*under) - d*E1*E1*e*e*e*Y1*under*bottom=bottom*under*E1*E1*(e*(n*(X1*e*e - x*E1*E1)*E1 - Y1*d*e*e)):=by clear hY k1 k2 s1 s2;grind
  rw [s1,k2,s2,k1,s3,hY]
  clear hY k1 k2 s1 s2 s3
  grind
 have q2:e*e*e*y=Y*bottom:=dj (by
                            repeat' apply Int.mul_ne_zero
                            all_goals omega) q1
 have q3:bottom ∣ y*(e*e*e):=⟨Y,by rw [Int.mul_comm y,q2,Int.mul_comm]⟩
 have q4:=Int.dvd_gcd_mul_iff_dvd_mul.2 q3
 rw [Int.gcd_comm,kg] at q4
 obtain ⟨k,hk⟩:=(by simpa using q4:bottom ∣ e*e*e)
 rw [hk,Int.mul_tdiv_cancel_left k (by omega)]
 rw [hk] at q2
 apply dj (show bottom≠0 by omega)
 rw [Int.mul_comm bottom Y,←q2]
 clear q1 q2 q3 q4 hk hY k1 k2
 grind
theorem tm {m E1 e s Y r:Int} (hm:m≠0) (he1:0<E1) (he:0<e) (hY:e*s=m*E1*E1*E1*Y) (hr:0≤r) (h:r*r=Y*Y):(if decide (s<0) != decide (m<0) then -r else r)=Y:=by
 have hE:0<E1*E1*E1:=Int.mul_pos (Int.mul_pos he1 he1) he1
 have hY2:e*s=E1*E1*E1*(m*Y):=by rw [hY];clear hY h;grind
 have hr2:r=Y∨r=-Y:=by
  have:(r - Y)*(r+Y)=0:=by clear hY hY2;grind
  rcases Int.mul_eq_zero.1 this with h | h
  ·left;omega
  right;omega
 have hs1:s<0 ↔ m*Y<0:=by
  constructor
  ·intro q
   rcases Int.lt_or_le (m*Y) 0 with p | p
   ·exact p
   have a1:=Int.mul_nonneg (show 0≤E1*E1*E1 by omega) p
   have a2:=Int.mul_neg_of_pos_of_neg he q
   omega
  intro q
  rcases Int.lt_or_le s 0 with p | p
  ·exact p
  have a1:=Int.mul_nonneg (show 0≤e by omega) p
  have a2:=Int.mul_neg_of_pos_of_neg hE q
  omega
 have hs2:decide (s<0)=decide (m*Y<0):=by simpa using hs1
 rw [hs2]
 clear hY hY2 hs2 hs1 h
 rcases Int.lt_or_gt_of_ne hm with q | q
 ·rw [decide_eq_true q]
  rcases Int.lt_trichotomy Y 0 with p | p | p
  ·rw [decide_eq_false (by have:=Int.mul_pos_of_neg_of_neg q p;omega)]
   simp;omega
  ·subst p;rw [Int.mul_zero];simp;omega
  rw [decide_eq_true (Int.mul_neg_of_neg_of_pos q p)]
  simp;omega
 rw [decide_eq_false (show ¬ m<0 by omega)]
 rcases Int.lt_trichotomy Y 0 with p | p | p
 ·rw [decide_eq_true (Int.mul_neg_of_pos_of_neg q p)]
  simp;omega
 ·subst p;rw [Int.mul_zero];simp;omega
 rw [decide_eq_false (by have:=Int.mul_pos q p;omega)]
 simp;omega
end M
end
end Go.Proofs.YtgfkcoablfjbcaaGreatDoor
