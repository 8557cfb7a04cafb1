/-
  Joined texts: contracts and plain lemmas.
-/
import Derived.Test.YthfjndmdalfloaaGreatV15
import Derived.Test.YthfjndmdalfloaaGreatV8
set_option linter.unusedSimpArgs false
set_option linter.unusedVariables false
set_option maxRecDepth 100000
set_option maxHeartbeats 8000000
namespace Go.Proofs.YthfjndmdalfloaaGreat
section
open Go.RowKit
namespace M
def hL (C:Nat) (n:Nat) (o:Out):Int:=match o with
 | .val x z=>max 0 (3*(bitsV (.val x z) - 1) - C)*4096 / p4 n
 | _=>0
def hH (C:Nat) (n:Nat) (o:Out):Int:=match o with
 | .val x z=>-(-((3*bitsV (.val x z)+C)*4096) / p4 n)
 | _=>0
theorem nO {a b x z:Int} {o:Out} (h:nx a b o=.val x z):Wh.sz x 1000∧Wh.sz z 1000:=by
 cases o with
 | inf=>cases h
 | bad=>cases h
 | val u v=>
  unfold nx at h
  dsimp only at h
  split at h
  ·cases h
  ·split at h
   ·rename_i hok
    injection h with h1 h2
    subst h1 h2
    exact Wh.ratOk_sz (Wh.dbOk_rat hok)
   ·cases h
theorem outAt_sz {a b X E x z:Int} (hX1:-10000≤X) (hX2:X≤10000) (hE1:0≤E) (hE2:E≤20) {n:Nat} (h:outAt a b X E n=.val x z):Wh.sz x 1000∧Wh.sz z 1000:=by
 unfold outAt at h
 split at h
 ·cases h
 ·cases n with
  | zero=>
   have hEE:0≤E*E∧E*E≤400:=⟨Int.mul_nonneg hE1 hE1,by have:=Int.mul_le_mul hE2 hE2 hE1 (by omega);omega⟩
   injection h with h1 h2
   subst h1 h2
   exact ⟨Wh.sz_mono (Wh.sz_num (by omega) (by omega)) (by omega),Wh.sz_mono (Wh.sz_num (by omega) (by omega)) (by omega)⟩
  | succ n=>exact nO h
theorem bits_bd {x z:Int} (h:Wh.sz x 1000∧Wh.sz z 1000):0≤bitsV (.val x z)∧bitsV (.val x z)≤14000:=by
 have h1:=Wh.sz_bl h.1
 have h2:=Wh.sz_bl h.2
 show 0≤max ((Wh.bl x.natAbs:Nat):Int) ((Wh.bl z.natAbs:Nat):Int)∧max ((Wh.bl x.natAbs:Nat):Int) ((Wh.bl z.natAbs:Nat):Int)≤14000
 omega
theorem h_span {C n:Nat} {B:Int} (hC:C≤60) (hn:n≤5) (h1:0≤B) (h2:B≤14000):spanOk (max 0 (3*(B - 1) - C)*4096 / p4 n) (-(-((3*B+C)*4096) / p4 n))=true:=by
 have hp:=p4_bd n hn
 generalize p4 n=d at *
 have q1:=bU (a:=max 0 (3*(B - 1) - C)*4096) (b:=d) (k:=300000000) (by omega) (by omega) (by omega) (by omega)
 have q2:=bU (a:=-((3*B+C)*4096)) (b:=d) (k:=300000000) (by omega) (by omega) (by omega) (by omega)
 have q3:max 0 (3*(B - 1) - C)*4096 / d≤(3*B+C)*4096 / d:=Int.ediv_le_ediv (by omega) (by omega)
 have q4:(3*B+C)*4096 / d≤-(-((3*B+C)*4096) / d):=by
  have e1:=Int.mul_ediv_add_emod ((3*B+C)*4096) d
  have e2:=Int.emod_nonneg ((3*B+C)*4096) (by omega:d≠0)
  have e3:=Int.mul_ediv_add_emod (-((3*B+C)*4096)) d
  have e4:=Int.emod_nonneg (-((3*B+C)*4096)) (by omega:d≠0)
  generalize (3*B+C)*4096 / d=u at *
  generalize -((3*B+C)*4096) / d=v at *
  rcases Int.lt_or_le (-v) u with h | h
  ·have:d*(u+v)≥d*1:=Int.mul_le_mul_of_nonneg_left (by omega) (by omega)
   rw [Int.mul_add] at this
   omega
  ·exact h
 unfold spanOk
 simp only [Bool.and_eq_true,decide_eq_true_eq]
 omega
theorem h_ok {a b X E:Int} {C n:Nat} (hC:C≤60) (hn:n≤5) (hX1:-10000≤X) (hX2:X≤10000) (hE1:0≤E) (hE2:E≤20):spanOk (hL C n (outAt a b X E n)) (hH C n (outAt a b X E n))=true:=by
 cases h:outAt a b X E n with
 | inf=>show spanOk 0 0=true;decide
 | bad=>show spanOk 0 0=true;decide
 | val x z=>
  have hb:=bits_bd (outAt_sz hX1 hX2 hE1 hE2 h)
  exact h_span hC hn hb.1 hb.2
end M
theorem gT (a b d:Int) (w:World) (h1:-100000000000≤a) (h2:a≤100000000000) (h3:-100000000000≤b) (h4:b≤100000000000) (h5:1≤d) (h6:d≤100000) :
  Calls Tryz.prog 126 #[.int .i64 a,.int .i64 b,.int .i64 d] w fun e w'=>e=.returned (.tuple #[.agg #[.int .i64 (M.pick (M.spanOk (a*4096 / d) (-(-(b*4096) / d))) (M.pn (a*4096 / d))),.int .i64 (M.pick (M.spanOk (a*4096 / d) (-(-(b*4096) / d))) (M.pd (a*4096 / d))),.int .i64 (M.pick (M.spanOk (a*4096 / d) (-(-(b*4096) / d))) (M.pn (-(-(b*4096) / d)))),.int .i64 (M.pick (M.spanOk (a*4096 / d) (-(-(b*4096) / d))) (M.pd (-(-(b*4096) / d))))],.bool (M.spanOk (a*4096 / d) (-(-(b*4096) / d)))])∧Below w.heap.size w w':=by
 have P1:=fun W=>eh (a*4096) d W (by omega) (by omega) (by omega) (by omega)
 have P2:=fun W=>kH (b*4096) d W (by omega) (by omega) (by omega) (by omega)
 have f1:=bU (a:=a*4096) (b:=d) (k:=1000000000000000) (by omega) (by omega) (by omega) (by omega)
 have f2:=bU (a:=-(b*4096)) (b:=d) (k:=1000000000000000) (by omega) (by omega) (by omega) (by omega)
 have PM:=fun W=>dC (a*4096 / d) (-(-(b*4096) / d)) W (by omega) (by omega) (by omega) (by omega)
 generalize M.pick (M.spanOk (a*4096 / d) (-(-(b*4096) / d))) (M.pn (a*4096 / d))=p1 at *
 generalize M.pick (M.spanOk (a*4096 / d) (-(-(b*4096) / d))) (M.pd (a*4096 / d))=p2 at *
 generalize M.pick (M.spanOk (a*4096 / d) (-(-(b*4096) / d))) (M.pn (-(-(b*4096) / d)))=p3 at *
 generalize M.pick (M.spanOk (a*4096 / d) (-(-(b*4096) / d))) (M.pd (-(-(b*4096) / d)))=p4 at *
 generalize M.spanOk (a*4096 / d) (-(-(b*4096) / d))=s at *
 generalize a*4096 / d=lo at *
 generalize -(-(b*4096) / d)=hi at *
 replace P1:=Lib.hid P1
 replace P2:=Lib.hid P2
 replace PM:=Lib.hid PM
 clear f1 f2
 have R:=aG.new w #[.int .i64 0,.int .i64 0,.int .i64 0,.int .i64 0] 38
 have B:=(Below.refl w.heap.size w).alloc (Nat.le_refl _) (.cells #[.int .i64 0,.int .i64 0,.int .i64 0,.int .i64 0] 38)
 go_enter Tryz.func126,Tryz.ntmps126
 go_wp2_with (first
  | (go_at_call 64;(with_reducible refine (P1.out _).mono ?_);rintro e w4 ⟨rfl,rfl⟩)
  | (go_at_call 65;(with_reducible refine (P2.out _).mono ?_);rintro e w5 ⟨rfl,rfl⟩)
  | (go_at_call 61;(with_reducible refine (PM.out _).mono ?_);rintro e w6 ⟨rfl,hb6⟩;(replace R:=R.keep hb6);(replace B:=B.trans (hb6.mono B.size));(replace ⟨R_c0,R_c1,R_c2,R_c3,R_f0,R_f1,R_f2,R_f3⟩:=R.b4f)))
 exact bodyPost_ret (v:=.tuple #[.agg #[.int .i64 p1,.int .i64 p2,.int .i64 p3,.int .i64 p4],.bool s]) (by simp [results,Tryz.results126,go_sem, *]) rfl (⟨rfl,Below.setCell (Below.setCell (Below.setCell (Below.setCell B (by simp <;> omega) _) (by simp <;> omega) _) (by simp <;> omega) _) (by simp <;> omega) _⟩)
theorem el (a b X Y E:Int) (n:Nat) (w:World) (hg:M.good a b=true) (hX1:-10000≤X) (hX2:X≤10000) (hE1:0≤E) (hE2:E≤20) (hn:n≤5) :
  Calls Tryz.prog 118 #[.agg #[.int .i64 a,.int .i64 b],.agg #[.int .i64 X,.int .i64 Y,.int .i64 E],.int .i64 (n:Int)] w fun e w'=>e=.returned (.tuple #[.agg #[.int .i64 (M.hL (M.hC a b) n (M.outAt a b X E n)),.int .i64 (M.hH (M.hC a b) n (M.outAt a b X E n))],.bool (M.isOk (M.outAt a b X E n))])∧Below w.heap.size w w':=by
 have hin:=M.good_in hg
 have PB:=fun W=>kW a b X Y E n W hg hX1 hX2 hE1 hE2 hn
 have PC:=Lib.hid fun W=>dX a b W hin
 have hC:=M.hC_bd hin
 have hsz:=fun x z (h:M.outAt a b X E n=.val x z)=>M.bits_bd (M.outAt_sz hX1 hX2 hE1 hE2 h)
 have hp:=M.p4_bd n hn
 have hip:M.p4 n=3*M.ipow 4 n:=by
  match n,hn with
  | 0,_=>decide
  | 1,_=>decide
  | 2,_=>decide
  | 3,_=>decide
  | 4,_=>decide
  | 5,_=>decide
 have PP:=Lib.hid fun W=>gN 4 n W (by omega) (by omega) (by omega)
 generalize M.ipow 4 n=ip at *
 generalize M.hC a b=k at *
 clear hg hin
 have C:=((aG.new w #[.int .i64 a,.int .i64 b] 28).alloc (.cells #[.int .i64 X,.int .i64 Y,.int .i64 E] 54)).alloc (.cells #[.int .i64 0,.int .i64 0] 58)
 have Q:=(aG.new (w.alloc (.cells #[.int .i64 a,.int .i64 b] 28)) #[.int .i64 X,.int .i64 Y,.int .i64 E] 54).alloc (.cells #[.int .i64 0,.int .i64 0] 58)
 rw [World.size_alloc] at Q
 have R:=aG.new ((w.alloc (.cells #[.int .i64 a,.int .i64 b] 28)).alloc (.cells #[.int .i64 X,.int .i64 Y,.int .i64 E] 54)) #[.int .i64 0,.int .i64 0] 58
 rw [World.size_alloc,World.size_alloc] at R
 have B:=(((Below.refl w.heap.size w).alloc (Nat.le_refl _) (.cells #[.int .i64 a,.int .i64 b] 28)).alloc (by rw [World.size_alloc];omega) (.cells #[.int .i64 X,.int .i64 Y,.int .i64 E] 54)).alloc (by rw [World.size_alloc,World.size_alloc];omega) (.cells #[.int .i64 0,.int .i64 0] 58)
 generalize hw3:((w.alloc (.cells #[.int .i64 a,.int .i64 b] 28)).alloc (.cells #[.int .i64 X,.int .i64 Y,.int .i64 E] 54)).alloc (.cells #[.int .i64 0,.int .i64 0] 58)=wc at *
 have ⟨q0,q1,q2⟩:=Q.box3
 have C_c0:=C.box.c0
 have C_c1:=C.box.c1
 cases ho:M.outAt a b X E n with
 | inf=>
  rw [ho] at PB
  replace PB:=Lib.hid PB
  clear hsz hp hip
  go_enter Tryz.func118,Tryz.ntmps118
  go_wp2_with (go_at_call 131;(with_reducible refine (PB.out _).mono ?_);rintro e w4 ⟨rfl,hb4⟩;(replace C:=C.keep hb4);(replace R:=R.keep hb4);(replace B:=B.trans (hb4.mono B.size));(replace ⟨C_c0,C_c1⟩:=C.b2);(replace ⟨R_c0,R_c1,R_f0,R_f1⟩:=R.b2f))
  exact bodyPost_ret (v:=.tuple #[.agg #[.int .i64 0,.int .i64 0],.bool true]) (by simp [results,Tryz.results118,go_sem, *]) rfl (⟨rfl,Below.setCell (Below.setCell B (by simp <;> omega) _) (by simp <;> omega) _⟩)
 | bad=>
  rw [ho] at PB
  replace PB:=Lib.hid PB
  clear hsz hp hip
  go_enter Tryz.func118,Tryz.ntmps118
  go_wp2_with (go_at_call 131;(with_reducible refine (PB.out _).mono ?_);rintro e w4 ⟨rfl,hb4⟩;(replace C:=C.keep hb4);(replace R:=R.keep hb4);(replace B:=B.trans (hb4.mono B.size));(replace ⟨C_c0,C_c1⟩:=C.b2);(replace ⟨R_c0,R_c1,R_f0,R_f1⟩:=R.b2f))
  exact bodyPost_ret (v:=.tuple #[.agg #[.int .i64 0,.int .i64 0],.bool false]) (by simp [results,Tryz.results118,go_sem, *]) rfl (⟨rfl,Below.setCell (Below.setCell B (by simp <;> omega) _) (by simp <;> omega) _⟩)
 | val x z=>
  rw [ho] at PB
  have hb:=hsz x z ho
  have e1:M.hL k n (.val x z)=max 0 (3*(M.bitsV (.val x z) - 1) - k)*4096 / M.p4 n:=rfl
  have e2:M.hH k n (.val x z)=-(-((3*M.bitsV (.val x z)+k)*4096) / M.p4 n):=rfl
  rw [e1,e2]
  clear e1 e2 hsz ho
  rw [show M.isInf (.val x z)=false from rfl,show M.isOk (.val x z)=true from rfl] at PB
  rw [show M.isOk (.val x z)=true from rfl]
  generalize M.bitsV (.val x z)=bt at *
  rw [hip]
  rw [hip] at hp
  have hm:max 0 (3*(bt - 1) - (k:Int))=max (3*(bt - 1) - (k:Int)) 0:=by omega
  rw [hm]
  have F1:=fun W=>cV (max (3*(bt - 1) - (k:Int)) 0*4096) (3*ip) W (by omega) (by omega) (by omega) (by omega)
  have F2:=fun W=>cV (-((3*bt+(k:Int))*4096)) (3*ip) W (by omega) (by omega) (by omega) (by omega)
  have F2:=fun x W (h:x=-((3*bt+(k:Int))*4096))=>(by subst h;exact F2 W:Calls Tryz.prog 94 #[.int .i64 x,.int .i64 (3*ip)] W fun e w'=>e=.returned (.int .i64 (-((3*bt+(k:Int))*4096) / (3*ip)))∧W=w')
  have F1:=fun x W (h:x=max (3*(bt - 1) - (k:Int)) 0*4096)=>(by subst h;exact F1 W:Calls Tryz.prog 94 #[.int .i64 x,.int .i64 (3*ip)] W fun e w'=>e=.returned (.int .i64 (max (3*(bt - 1) - (k:Int)) 0*4096 / (3*ip)))∧W=w')
  have g2:=bU (a:=-((3*bt+(k:Int))*4096)) (b:=3*ip) (k:=1000000000000000) (by omega) (by omega) (by omega) (by omega)
  generalize max (3*(bt - 1) - (k:Int)) 0*4096 / (3*ip)=lo at *
  generalize -((3*bt+(k:Int))*4096) / (3*ip)=hi at *
  obtain ⟨g2,g3⟩:=g2
  obtain ⟨hb1,hb2⟩:=hb
  obtain ⟨hp1,hp2⟩:=hp
  have hk2:(k:Int)≤60:=by omega
  clear hm hip hC
  replace F1:=Lib.hid F1
  replace F2:=Lib.hid F2
  replace PB:=Lib.hid PB
  go_enter Tryz.func118,Tryz.ntmps118
  go_wp2_with (first
   | (go_at_call 131;(with_reducible refine (PB.out _).mono ?_);rintro e w4 ⟨rfl,hb4⟩;(replace C:=C.keep hb4);(replace R:=R.keep hb4);(replace B:=B.trans (hb4.mono B.size));(replace ⟨C_c0,C_c1⟩:=C.b2);(replace ⟨R_c0,R_c1,R_f0,R_f1⟩:=R.b2f))
   | (go_at_call 132;(with_reducible refine (PC.out _).mono ?_);rintro e w5 ⟨rfl,hb5⟩;(replace C:=C.keep hb5);(replace R:=R.keep hb5);(replace B:=B.trans (hb5.mono B.size));(replace ⟨C_c0,C_c1⟩:=C.b2);(replace ⟨R_c0,R_c1,R_f0,R_f1⟩:=R.b2f))
   | (go_at_call 133;(with_reducible refine (PP.out _).mono ?_);rintro e w6 ⟨rfl,rfl⟩)
   | (go_at_call 94;first | ((with_reducible refine (F1.out _ _ (by omega)).mono ?_);rintro e w7 ⟨rfl,rfl⟩) | ((with_reducible refine (F2.out _ _ (by omega)).mono ?_);rintro e w8 ⟨rfl,rfl⟩)))
  exact bodyPost_ret (v:=.tuple #[.agg #[.int .i64 lo,.int .i64 (-hi)],.bool true]) (by simp [results,Tryz.results118,go_sem, *]) rfl (⟨rfl,Below.setCell (Below.setCell B (by simp <;> omega) _) (by simp <;> omega) _⟩)
theorem fF (a b X Y E:Int) (n:Nat) (w:World) (hg:M.good a b=true) (hX1:-10000≤X) (hX2:X≤10000) (hE1:0≤E) (hE2:E≤20) (hn:n≤5) :
  Calls Tryz.prog 116 #[.agg #[.int .i64 a,.int .i64 b],.agg #[.int .i64 X,.int .i64 Y,.int .i64 E],.int .i64 (n:Int)] w fun e w'=>e=.returned (.tuple #[.agg #[.int .i64 (M.pick (M.isOk (M.outAt a b X E n)) (M.pn (M.hL (M.hC a b) n (M.outAt a b X E n)))),.int .i64 (M.pick (M.isOk (M.outAt a b X E n)) (M.pd (M.hL (M.hC a b) n (M.outAt a b X E n)))),.int .i64 (M.pick (M.isOk (M.outAt a b X E n)) (M.pn (M.hH (M.hC a b) n (M.outAt a b X E n)))),.int .i64 (M.pick (M.isOk (M.outAt a b X E n)) (M.pd (M.hH (M.hC a b) n (M.outAt a b X E n))))],.bool (M.isOk (M.outAt a b X E n))])∧Below w.heap.size w w':=by
 have hin:=M.good_in hg
 have PB:=fun W=>iJ a b X Y E n W hg hX1 hX2 hE1 hE2 hn
 have PC:=Lib.hid fun W=>fx a b W hin
 have hC:=M.hC_bd hin
 have hp:=M.p4_bd n hn
 have PP:=Lib.hid fun W=>jp n W hn
 have PX:=Lib.hid fun x y W=>bi x y W
 have hsp:=fun B h1 h2=>M.h_span (B:=B) hC hn h1 h2
 generalize M.hC a b=k at *
 clear hg hin
 have C:=((aG.new w #[.int .i64 a,.int .i64 b] 28).alloc (.cells #[.int .i64 X,.int .i64 Y,.int .i64 E] 54)).alloc (.cells #[.int .i64 0,.int .i64 0,.int .i64 0,.int .i64 0] 38)
 have Q:=(aG.new (w.alloc (.cells #[.int .i64 a,.int .i64 b] 28)) #[.int .i64 X,.int .i64 Y,.int .i64 E] 54).alloc (.cells #[.int .i64 0,.int .i64 0,.int .i64 0,.int .i64 0] 38)
 rw [World.size_alloc] at Q
 have R:=aG.new ((w.alloc (.cells #[.int .i64 a,.int .i64 b] 28)).alloc (.cells #[.int .i64 X,.int .i64 Y,.int .i64 E] 54)) #[.int .i64 0,.int .i64 0,.int .i64 0,.int .i64 0] 38
 rw [World.size_alloc,World.size_alloc] at R
 have B:=(((Below.refl w.heap.size w).alloc (Nat.le_refl _) (.cells #[.int .i64 a,.int .i64 b] 28)).alloc (by rw [World.size_alloc];omega) (.cells #[.int .i64 X,.int .i64 Y,.int .i64 E] 54)).alloc (by rw [World.size_alloc,World.size_alloc];omega) (.cells #[.int .i64 0,.int .i64 0,.int .i64 0,.int .i64 0] 38)
 generalize hw3:((w.alloc (.cells #[.int .i64 a,.int .i64 b] 28)).alloc (.cells #[.int .i64 X,.int .i64 Y,.int .i64 E] 54)).alloc (.cells #[.int .i64 0,.int .i64 0,.int .i64 0,.int .i64 0] 38)=wc at *
 have ⟨q0,q1,q2⟩:=Q.box3
 have C_c0:=C.box.c0
 have C_c1:=C.box.c1
 cases ho:M.outAt a b X E n with
 | inf=>
  rw [ho] at PB
  have PM:=fun W=>gT 0 0 1 W (by omega) (by omega) (by omega) (by omega) (by omega) (by omega)
  rw [show (0:Int)*4096 / 1=0 by decide,show -(-((0:Int)*4096) / 1)=0 by decide,show M.spanOk 0 0=true by decide] at PM
  rw [show M.hL k n .inf=0 from rfl,show M.hH k n .inf=0 from rfl,show M.isOk .inf=true from rfl]
  generalize M.pick true (M.pn 0)=p1 at *
  generalize M.pick true (M.pd 0)=p2 at *
  replace PB:=Lib.hid PB
  replace PM:=Lib.hid PM
  clear hsp hp
  go_enter Tryz.func116,Tryz.ntmps116
  go_wp2_with (first
   | (go_at_call 125;(with_reducible refine (PB.out _).mono ?_);rintro e w4 ⟨v4,en,rfl,ho4,hb4⟩;obtain ⟨rfl,A4,l4,c4,rfl⟩:=ho4;(replace C:=C.keep hb4);(replace R:=R.keep hb4);(replace B:=B.trans (hb4.mono B.size));(replace ⟨C_c0,C_c1⟩:=C.b2);(replace ⟨R_c0,R_c1,R_c2,R_c3,R_f0,R_f1,R_f2,R_f3⟩:=R.b4f))
   | (go_at_call 126;(with_reducible refine (PM.out _).mono ?_);rintro e w5 ⟨rfl,hb5⟩;(replace C:=C.keep hb5);(replace R:=R.keep hb5);(replace B:=B.trans (hb5.mono B.size));(replace ⟨C_c0,C_c1⟩:=C.b2);(replace ⟨R_c0,R_c1,R_c2,R_c3,R_f0,R_f1,R_f2,R_f3⟩:=R.b4f)))
  exact bodyPost_ret (v:=.tuple #[.agg #[.int .i64 p1,.int .i64 p2,.int .i64 p1,.int .i64 p2],.bool true]) (by simp [results,Tryz.results116,go_sem, *]) rfl (⟨rfl,Below.setCell (Below.setCell (Below.setCell (Below.setCell B (by simp <;> omega) _) (by simp <;> omega) _) (by simp <;> omega) _) (by simp <;> omega) _⟩)
 | bad=>
  rw [ho] at PB
  rw [show M.isOk .bad=false from rfl]
  replace PB:=Lib.hid PB
  clear hsp hp
  go_enter Tryz.func116,Tryz.ntmps116
  go_wp2_with (go_at_call 125;(with_reducible refine (PB.out _).mono ?_);rintro e w4 ⟨v4,en,rfl,ho4,hb4⟩;obtain ⟨rfl,A4,l4,c4,rfl,hl4⟩:=ho4;(have hl5:(l4:Int)≤n:=by omega);(replace C:=C.keep hb4);(replace R:=R.keep hb4);(replace B:=B.trans (hb4.mono B.size));(replace ⟨C_c0,C_c1⟩:=C.b2);(replace ⟨R_c0,R_c1,R_c2,R_c3,R_f0,R_f1,R_f2,R_f3⟩:=R.b4f))
  exact bodyPost_ret (v:=.tuple #[.agg #[.int .i64 0,.int .i64 0,.int .i64 0,.int .i64 0],.bool false]) (by simp [results,Tryz.results116,go_sem, *]) rfl (⟨rfl,Below.setCell (Below.setCell (Below.setCell (Below.setCell B (by simp <;> omega) _) (by simp <;> omega) _) (by simp <;> omega) _) (by simp <;> omega) _⟩)
 | val x z=>
  rw [ho] at PB
  have hb:=M.bits_bd (M.outAt_sz hX1 hX2 hE1 hE2 ho)
  have e1:M.hL k n (.val x z)=max 0 (3*(M.bitsV (.val x z) - 1) - k)*4096 / M.p4 n:=rfl
  have e2:M.hH k n (.val x z)=-(-((3*M.bitsV (.val x z)+k)*4096) / M.p4 n):=rfl
  rw [e1,e2,show M.isOk (.val x z)=true from rfl]
  have hs:=hsp _ hb.1 hb.2
  clear e1 e2 ho hsp
  have PD:=Lib.hid fun (s r:Bool) v v' W i j (h1:aF W i v (Wh.dig x.natAbs)) (h2:aF W j v' (Wh.dig z.natAbs)) (hx:Wh.sz x 1000) (hz:Wh.sz z 1000) (hs:s=decide (x<0)) (hr:r=decide (z<0))=>(hs ▸ hr ▸ kd x z v v' W i j h1 h2 (Wh.sz_len.2 (Wh.sz_mono hx (by omega))) (Wh.sz_len.2 (Wh.sz_mono hz (by omega))) (Nat.le_trans (Wh.sz_bl hx) (by omega)) (Nat.le_trans (Wh.sz_bl hz) (by omega)):Calls Tryz.prog 127 #[.agg #[.bool s,v,.bool r,v']] W fun e w'=>e=.returned (.int .i64 (M.bitsV (.val x z)))∧Below W.heap.size W w')
  generalize M.bitsV (.val x z)=bt at *
  have PM:=fun W=>gT (max 0 (3*(bt - 1) - (k:Int))) (3*bt+(k:Int)) (M.p4 n) W (by omega) (by omega) (by omega) (by omega) (by omega) (by omega)
  rw [hs] at PM
  generalize M.pick true (M.pn (max 0 (3*(bt - 1) - (k:Int))*4096 / M.p4 n))=p1 at *
  generalize M.pick true (M.pd (max 0 (3*(bt - 1) - (k:Int))*4096 / M.p4 n))=p2 at *
  generalize M.pick true (M.pn (-(-((3*bt+(k:Int))*4096) / M.p4 n)))=p3 at *
  generalize M.pick true (M.pd (-(-((3*bt+(k:Int))*4096) / M.p4 n)))=p4 at *
  obtain ⟨hb1,hb2⟩:=hb
  have hk2:(k:Int)≤60:=by omega
  have PM:=Lib.hid fun x W (h:x=max 0 (3*(bt - 1) - (k:Int)))=>(by subst h;exact PM W:Calls Tryz.prog 126 #[.int .i64 x,.int .i64 (3*bt+(k:Int)),.int .i64 (M.p4 n)] W fun e w'=>e=.returned (.tuple #[.agg #[.int .i64 p1,.int .i64 p2,.int .i64 p3,.int .i64 p4],.bool true])∧Below W.heap.size W w')
  clear hs hC hp
  generalize M.p4 n=pp at *
  replace PB:=Lib.hid PB
  go_enter Tryz.func116,Tryz.ntmps116
  go_upto_region 6 with (go_at_call 125;(with_reducible refine (PB.out _).mono ?_);rintro e w4 ⟨v4,en,rfl,ho4,hb4⟩;obtain ⟨rfl,zx,zz,g,cap,s,av,lv,cv,r,bv,mv,dv,rfl,h_c0,h_c1,h_c2,h_c3,hss,hrr,ox,oz⟩:=ho4;(have ox:=Lib.hid ox);(have oz:=Lib.hid oz);(have zx:=Lib.hid zx);(have zz:=Lib.hid zz);(replace C:=C.keep hb4);(replace R:=R.keep hb4);(replace B:=B.trans (hb4.mono B.size));(replace ⟨C_c0,C_c1⟩:=C.b2);(replace ⟨R_c0,R_c1,R_c2,R_c3,R_f0,R_f1,R_f2,R_f3⟩:=R.b4f))
  refine Rg.walkT 9 [.is (.slice (some ⟨g,0,none⟩) (n+1) cap),.is (.int .i64 (n:Int)),.is (.pointer (some ⟨g,n*4,none⟩)),.is (.agg #[.bool s,.slice av lv cv,.bool r,.slice bv mv dv]),.is (.int .i64 bt),.is (.agg #[.int .i64 a,.int .i64 b]),.is (.int .i64 (k:Int)),.is (.int .i64 bt),.is (.int .i64 (k:Int))] (by kernel_rfl) (by kernel_rfl) (by kernel_rfl) ⟨?_,?_,?_,?_,?_,?_,?_,?_,?_,trivial⟩ ?_
  ·intro _ ac_ w_ hB hr
   have e8:ac_.tmps[8]?=some (.slice (some ⟨g,0,none⟩) (n+1) cap):=hr 8 (by decide)
   exact Rg.pure1 rfl (by go_simp)
  ·intro _ ac_ w_ hB hr
   have e2:ac_.tmps[2]?=some (.int .i64 (n:Int)):=hr 2 (by decide)
   exact Rg.pure1 rfl (by go_simp)
  ·intro _ ac_ w_ hB hr
   have e28:=Rg.ev1 (hr 28 (by decide))
   have e29:=Rg.ev1 (hr 29 (by decide))
   have hlt_:(n:Int)<((n+1:Nat):Int):=by omega
   have hlt2_:n<n+1:=by omega
   exact Rg.pure1 rfl (by first | (go_simp;done) | (go_simp;omega))
  ·intro _ ac_ w_ hB hr
   have e30:=Rg.ev1 (hr 30 (by decide))
   have k0:=aE hB h_c0
   have k1:=aE hB h_c1
   have k2:=aE hB h_c2
   have k3:=aE hB h_c3
   exact Rg.pure1 rfl (by first | (go_simp;done))
  ·intro _ ac_ w_ hB hr
   have e31:=Rg.ev1 (hr 31 (by decide))
   have ef:=Rg.ef ac_
   exact Rg.callIs rfl (by go_simp) (PD.out s r _ _ _ _ _ (aF.below ox.out hB) (aF.below oz.out hB) zx.out zz.out hss.out hrr.out)
  ·intro _ ac_ w_ hB hr
   have e3:ac_.tmps[3]?=some (.pointer (some ⟨w.heap.size,0,none⟩)):=hr 3 (by decide)
   have k0:=aE hB C.box.c0
   have k1:=aE hB C.box.c1
   exact Rg.pure1 rfl (by go_simp)
  ·intro _ ac_ w_ hB hr
   have e33:=Rg.ev1 (hr 33 (by decide))
   have ef:=Rg.ef ac_
   exact Rg.callIs rfl (by go_simp) (PC.out _)
  ·intro _ ac_ w_ hB hr
   have e32:=Rg.ev1 (hr 32 (by decide))
   exact Rg.pure1 rfl (by go_simp)
  ·intro _ ac_ w_ hB hr
   have e34:=Rg.ev1 (hr 34 (by decide))
   exact Rg.pure1 rfl (by go_simp)
  ·intro vals wz hB hv hne
   have v_7:vals 7=.int .i64 bt:=hv 7 (by decide)
   have v_8:vals 8=.int .i64 (k:Int):=hv 8 (by decide)
   simp only [List.take_succ_cons,List.take_zero,List.drop_succ_cons,List.drop_zero,Rg.fill,if_true,Act.put,List.setIfInBounds_toArray,List.set_cons_zero,List.set_cons_succ,Nat.zero_add,Nat.reduceAdd]
   clear hv
   simp only [v_7,v_8]
   clear v_7 v_8
   have C2:=C.keep hB
   have R2:=R.keep hB
   have B2:=B.trans (hB.mono B.size)
   clear C R B C_c0 C_c1 R_c0 R_c1 R_c2 R_c3 R_f0 R_f1 R_f2 R_f3
   unfold Rg.tailWp
   have ⟨y0,y1,y2,y3,x0,x1,x2,x3,_⟩:=R2.boxQ
   go_wp2_with (first
    | (go_at_call 63;(with_reducible refine (PX.out _ _ _).mono ?_);rintro e w5 ⟨rfl,rfl⟩)
    | (go_at_call 129;(with_reducible refine (PP.out _).mono ?_);rintro e w6 ⟨rfl,rfl⟩)
    | (go_at_call 126;(with_reducible refine (PM.out _ _ (by omega)).mono ?_);rintro e w7 ⟨rfl,hb7⟩;(replace R2:=R2.keep hb7);(replace B2:=B2.trans (hb7.mono B2.size));(replace ⟨R2_c0,R2_c1,R2_c2,R2_c3,R2_f0,R2_f1,R2_f2,R2_f3⟩:=R2.b4f)))
   exact bodyPost_ret (v:=.tuple #[.agg #[.int .i64 p1,.int .i64 p2,.int .i64 p3,.int .i64 p4],.bool true]) (by simp [results,Tryz.results116,go_sem, *]) rfl (⟨rfl,Below.setCell (Below.setCell (Below.setCell (Below.setCell B2 (by simp <;> omega) _) (by simp <;> omega) _) (by simp <;> omega) _) (by simp <;> omega) _⟩)
end
section
open Go Go.RowKit
namespace Rg
variable {P:Program} {Q:Exit→Act→World→Prop}
def Val.pure:Val→Bool
 | .is _=>true
 | .num _=>true
 | .such _=>true
 | _=>false
theorem Val.pure_keep {V:Val} (h:V.pure=true) {u:Value} {w w':World} (hu:V.ok u w):V.ok u w':=by
 cases V with
 | is _=>exact hu
 | num _=>exact hu
 | such _=>exact hu
 | _=>cases h
def kN (P:Program) (ops:Array Oper) (Q:Exit→Act→World→Prop) (a0:Act) (T:List Val) (J:World→Prop) (k0:Nat):List Oper→Nat→Prop
 | [],_=>True
 | o
   :: os,k=>(∀ (a:Act) (w:World),J w→(∀ t ∈ o.looksAt ops,jX ops a0 T o a w t)→
   if k=k0 then Region.wanted o (yielded ops a.tmps)=true∧o.wp P a w (fun a' w'=>(∃ v,a'=a.put o.dst v)∧J w'∧∀ v,(tbl T k).ok v w') Q else Does P ops Q (tbl T k) o a w)∧kN P ops Q a0 T J k0 os (k+1)
theorem kP {ops:Array Oper} {a0:Act} {T:List Val} {J:World→Prop} {k0:Nat} (hJ:∀ w w',J w→Below w.heap.size w w'→J w') (hp:∀ j,j≠k0→(tbl T j).pure=true):∀ (os:List Oper) (k:Nat),kN P ops Q a0 T J k0 os k→iN P Q .any ops J (fun i v w=>(tbl T i).ok v w) a0 os k
 | [],_,_=>trivial
 | o :: os,k,h=>by
  refine ⟨fun a w vals hS hv hr=>?_,kP hJ hp os (k+1) h.2⟩
  have h1:=h.1 a w hS (fun t ht=>by
   have:=hr t ht
   unfold rd at this
   unfold jX
   split
   ·rename_i e he
    rw [he] at this
    have h2:=List.find?_some he
    rw [Bool.and_eq_true] at h2
    exact ⟨_,this,hv e (Array.mem_toList_iff.1 (List.mem_of_find?_eq_some he)) h2.1⟩
   ·rename_i he
    rw [he] at this
    exact this)
  unfold mg
  split at h1
  ·rename_i hk
   rw [if_pos h1.1]
   refine Oper.wp_mono ?_ h1.2
   rintro a' w' ⟨⟨v,e⟩,h2,h3⟩
   refine ⟨v,e,h3 v,h2,fun j u hu=>?_⟩
   by_cases hj:j=k0
   ·subst hj
    subst hk
    exact h3 u
   ·exact Val.pure_keep (hp j hj) hu
  ·unfold Does at h1
   split
   ·rename_i hw
    rw [if_pos hw] at h1
    refine Oper.wp_mono ?_ h1
    rintro a' w' ⟨v,e1,e2,e3⟩
    exact ⟨v,e1,e2,hJ _ _ hS e3,fun j u hu=>Val.keep e3 _ _ hu⟩
   ·rename_i hw
    rw [if_neg hw] at h1
    exact h1
theorem walkJ {id:Nat} {ops:Array Oper} {a0:Act} {w:World} (k0:Nat) (T:List Val) (J:World→Prop) (hm:P.follows .mixedOrders=true) (hok:cM .any ops a0.tmps.size=true)
  (hJ:∀ w w',J w→Below w.heap.size w w'→J w') (hp:∀ j,j≠k0→(tbl T j).pure=true) (h0:J w)
  (hR:kN P ops Q a0 T J k0 ops.toList 0)
  (hF:∀ (vals:Nat→Value) (w':World),J w'→(∀ i,i<ops.size→(tbl T i).ok (vals i) w')→Q .normal (fill (fun _=>true) vals ops.toList 0 a0) w'):(Code.region id ops true).wp P Q a0 w:=
 region J (fun i v w'=>(tbl T i).ok v w') hm hok (hJ _ _ h0 ((Below.refl _ w).drew)) (kP hJ hp _ _ hR) hF
end Rg
end
section
open Go.RowKit
namespace M
def bL (a b X E:Int):Nat→Int
 | 0=>hL (hC a b) 0 (outAt a b X E 0)
 | k+1=>max (bL a b X E k) (hL (hC a b) (k+1) (outAt a b X E (k+1)))
def bH (a b X E:Int):Nat→Int
 | 0=>hH (hC a b) 0 (outAt a b X E 0)
 | k+1=>min (bH a b X E k) (hH (hC a b) (k+1) (outAt a b X E (k+1)))
def bNf (a b X E:Int):Nat→Nat→Nat
 | 0,k=>k
 | f+1,k=>if isOk (outAt a b X E (k+1))=true then bNf a b X E f (k+1) else k
def bN (a b X E:Int):Nat:=bNf a b X E 5 0
def bOk (a b X E:Int):Bool:=spanOk (bL a b X E (bN a b X E)) (bH a b X E (bN a b X E))
theorem bNf_ge {a b X E:Int}:∀ f k:Nat,k≤bNf a b X E f k
 | 0,_=>Nat.le_refl _
 | f+1,k=>by
  unfold bNf
  split
  ·exact Nat.le_of_succ_le (bNf_ge f (k+1))
  ·exact Nat.le_refl _
theorem kG {a b X E:Int}:∀ f k:Nat,bNf a b X E f k≤k+f
 | 0,_=>Nat.le_refl _
 | f+1,k=>by
  unfold bNf
  split
  ·have:=kG (a:=a) (b:=b) (X:=X) (E:=E) f (k+1);omega
  ·omega
theorem mu {a b X E:Int}:bN a b X E≤5:=kG 5 0
theorem isOk0 {a b X E:Int}:isOk (outAt a b X E 0)=true:=by
 unfold outAt
 split <;> rfl
theorem hL_bd {a b X E:Int} {n:Nat} (hin:M.inCurve a b=true) (hn:n≤5) (hX1:-10000≤X) (hX2:X≤10000) (hE1:0≤E) (hE2:E≤20):-409600000≤hL (hC a b) n (outAt a b X E n)∧hL (hC a b) n (outAt a b X E n)≤409600000∧-409600000≤hH (hC a b) n (outAt a b X E n)∧hH (hC a b) n (outAt a b X E n)≤409600000:=by
 have:=spanOk_bd (h_ok (a:=a) (b:=b) (C:=hC a b) (hC_bd hin) hn hX1 hX2 hE1 hE2)
 omega
theorem b_bd {a b X E:Int} (hin:M.inCurve a b=true) (hX1:-10000≤X) (hX2:X≤10000) (hE1:0≤E) (hE2:E≤20):∀ k:Nat,k≤5→-409600000≤bL a b X E k∧bL a b X E k≤409600000∧-409600000≤bH a b X E k∧bH a b X E k≤409600000
 | 0,h=>hL_bd hin h hX1 hX2 hE1 hE2
 | k+1,h=>by
  have h1:=b_bd hin hX1 hX2 hE1 hE2 k (by omega)
  have h2:=hL_bd (n:=k+1) hin h hX1 hX2 hE1 hE2
  unfold bL bH
  omega
theorem kj {a b X E:Int} {k:Nat}:∀ n:Nat,k≤n→bL a b X E k≤bL a b X E n∧bH a b X E n≤bH a b X E k
 | 0,h=>by
        obtain rfl:k=0:=by omega
        exact ⟨Int.le_refl _,Int.le_refl _⟩
 | n+1,h=>by
  by_cases e:k=n+1
  ·subst e;exact ⟨Int.le_refl _,Int.le_refl _⟩
  ·have:=kj (a:=a) (b:=b) (X:=X) (E:=E) (k:=k) n (by omega)
   have e1:bL a b X E (n+1)=max (bL a b X E n) (hL (hC a b) (n+1) (outAt a b X E (n+1))):=rfl
   have e2:bH a b X E (n+1)=min (bH a b X E n) (hH (hC a b) (n+1) (outAt a b X E (n+1))):=rfl
   omega
theorem b_no {a b X E:Int} (hin:M.inCurve a b=true) (hX1:-10000≤X) (hX2:X≤10000) (hE1:0≤E) (hE2:E≤20) {k:Nat} (hk:k≤bN a b X E) (h:spanOk (bL a b X E k) (bH a b X E k)=false):bOk a b X E=false:=by
 cases hb:bOk a b X E with
 | false=>rfl
 | true=>
  have hN:=mu (a:=a) (b:=b) (X:=X) (E:=E)
  have h1:=spanOk_bd hb
  have h2:=kj (a:=a) (b:=b) (X:=X) (E:=E) _ hk
  have h3:=b_bd hin hX1 hX2 hE1 hE2 k (by omega)
  exfalso
  have:spanOk (bL a b X E k) (bH a b X E k)=true:=by
   unfold spanOk
   simp only [Bool.and_eq_true,decide_eq_true_eq]
   omega
  rw [this] at h
  cases h
end M
theorem gC (a b X Y E:Int) (w:World) (hg:M.good a b=true) (hX1:-10000≤X) (hX2:X≤10000) (hE1:0≤E) (hE2:E≤20) :
  Calls Tryz.prog 106 #[.agg #[.int .i64 a,.int .i64 b],.agg #[.int .i64 X,.int .i64 Y,.int .i64 E]] w fun e w'=>e=.returned (.tuple #[.agg #[.int .i64 (M.bL a b X E (M.bN a b X E)),.int .i64 (M.bH a b X E (M.bN a b X E))],.int .i64 ((M.bN a b X E:Nat):Int),.bool (M.bOk a b X E)])∧Below w.heap.size w w':=by
 have P0:=fun W=>el a b X Y E 0 W hg hX1 hX2 hE1 hE2 (by omega)
 rw [M.isOk0,show ((0:Nat):Int)=0 from rfl] at P0
 have PK:=Lib.hid fun (k:Nat) W (hk:k≤5)=>el a b X Y E k W hg hX1 hX2 hE1 hE2 hk
 have P0:=Lib.hid P0
 have hL0:=Lib.hid (show M.hL (M.hC a b) 0 (M.outAt a b X E 0)=M.bL a b X E 0 from rfl)
 have hH0:=Lib.hid (show M.hH (M.hC a b) 0 (M.outAt a b X E 0)=M.bH a b X E 0 from rfl)
 have hin:=M.good_in hg
 have hbd:=Lib.hid fun k hk=>M.hL_bd (a:=a) (b:=b) (X:=X) (E:=E) (n:=k) hin hk hX1 hX2 hE1 hE2
 have hbb:=Lib.hid fun k hk=>M.b_bd (a:=a) (b:=b) (X:=X) (E:=E) hin hX1 hX2 hE1 hE2 k hk
 clear hg hin
 have C:=((aG.new w #[.int .i64 a,.int .i64 b] 28).alloc (.cells #[.int .i64 X,.int .i64 Y,.int .i64 E] 54)).alloc (.cells #[.int .i64 0,.int .i64 0] 58)
 have Q:=(aG.new (w.alloc (.cells #[.int .i64 a,.int .i64 b] 28)) #[.int .i64 X,.int .i64 Y,.int .i64 E] 54).alloc (.cells #[.int .i64 0,.int .i64 0] 58)
 rw [World.size_alloc] at Q
 have R:=aG.new ((w.alloc (.cells #[.int .i64 a,.int .i64 b] 28)).alloc (.cells #[.int .i64 X,.int .i64 Y,.int .i64 E] 54)) #[.int .i64 0,.int .i64 0] 58
 rw [World.size_alloc,World.size_alloc] at R
 have B:=(((Below.refl w.heap.size w).alloc (Nat.le_refl _) (.cells #[.int .i64 a,.int .i64 b] 28)).alloc (by rw [World.size_alloc];omega) (.cells #[.int .i64 X,.int .i64 Y,.int .i64 E] 54)).alloc (by rw [World.size_alloc,World.size_alloc];omega) (.cells #[.int .i64 0,.int .i64 0] 58)
 generalize hw3:((w.alloc (.cells #[.int .i64 a,.int .i64 b] 28)).alloc (.cells #[.int .i64 X,.int .i64 Y,.int .i64 E] 54)).alloc (.cells #[.int .i64 0,.int .i64 0] 58)=wc at *
 have ⟨q0,q1,q2⟩:=Q.box3
 have C_c0:=C.box.c0
 have C_c1:=C.box.c1
 generalize hu0:M.hL (M.hC a b) 0 (M.outAt a b X E 0)=u0 at *
 generalize hv0:M.hH (M.hC a b) 0 (M.outAt a b X E 0)=v0 at *
 clear hu0 hv0
 go_enter Tryz.func106,Tryz.ntmps106
 go_wp2_with (go_at_call 118;(with_reducible refine (P0.out _).mono ?_);rintro e w4 ⟨rfl,hb4⟩;(replace C:=C.keep hb4);(replace R:=R.keep hb4);(replace B:=B.trans (hb4.mono B.size));(replace Q:=Q.keep hb4);(have hR8:=Lib.hid R.lt);(replace Q:=Q.alloc (.cells #[.int .i64 u0,.int .i64 v0] 58));(have T:=aG.new w4 #[.int .i64 u0,.int .i64 v0] 58);(have b_:=bA w4 (.cells #[.int .i64 u0,.int .i64 v0] 58));(replace C:=C.keep b_);(replace R:=R.keep b_);(replace B:=B.trans (b_.mono B.size));(clear b_);(replace ⟨C_c0,C_c1⟩:=C.b2);(replace ⟨R_c0,R_c1,R_f0,R_f1⟩:=R.b2f);(replace ⟨T_c0,T_c1⟩:=T.b2))
 go_loopw [9] (fun vi wr=>∃ k:Nat,k≤5∧vi=.int .i64 k∧Hid (M.bNf a b X E (5 - k) k=M.bN a b X E)∧aG wr w4.heap.size 58 #[.int .i64 (M.bL a b X E k),.int .i64 (M.bH a b X E k)]∧aG wr w.heap.size 28 #[.int .i64 a,.int .i64 b]∧aG wr (w.heap.size+1) 54 #[.int .i64 X,.int .i64 Y,.int .i64 E]∧aG wr (w.heap.size+1+1) 58 #[.int .i64 0,.int .i64 0]∧Below w.heap.size w wr) (fun vi _=>5 - (intOf vi).toNat)
 case atStart=>exact ⟨0,by omega,rfl,Lib.hid rfl,by rw [←hL0.out,←hH0.out];exact T,C,Q,R,B⟩
 case round=>
  clear C Q R B T P0 hL0 hH0 C_c0 C_c1 R_c0 R_c1 R_f0 R_f1 T_c0 T_c1 q0 q1 q2
  have hR9:=hR8.out
  obtain ⟨k,hk,rfl,hN,T,C,Q,R,B⟩:=hrel
  have T_c0:=T.box.c0
  have T_c1:=T.box.c1
  have T_f0:=T.box.f0
  have T_f1:=T.box.f1
  have C_c0:=C.box.c0
  have C_c1:=C.box.c1
  have R_c0:=R.box.c0
  have R_c1:=R.box.c1
  have R_f0:=R.box.f0
  have R_f1:=R.box.f1
  have ⟨q0,q1,q2⟩:=Q.box3
  by_cases hlt:k<5
  ·have P1:=fun W=>PK.out (k+1) W (by omega)
   have hNs:M.bNf a b X E (5 - k) k=if M.isOk (M.outAt a b X E (k+1))=true then M.bNf a b X E (5 - (k+1)) (k+1) else k:=by
    rw [show 5 - k=(5 - (k+1))+1 by omega];rfl
   have eL:M.bL a b X E (k+1)=max (M.bL a b X E k) (M.hL (M.hC a b) (k+1) (M.outAt a b X E (k+1))):=rfl
   have eH:M.bH a b X E (k+1)=min (M.bH a b X E k) (M.hH (M.hC a b) (k+1) (M.outAt a b X E (k+1))):=rfl
   generalize M.hL (M.hC a b) (k+1) (M.outAt a b X E (k+1))=hl at *
   generalize M.hH (M.hC a b) (k+1) (M.outAt a b X E (k+1))=hh at *
   have PC:=Lib.hid fun W=>kL (M.bL a b X E k) (M.bH a b X E k) hl hh W
   cases hok:M.isOk (M.outAt a b X E (k+1)) with
   | false=>
    rw [hok,if_neg (by decide)] at hNs
    have hNk:=Lib.hid (show M.bN a b X E=k by rw [←hN.out,hNs])
    rw [hok] at P1
    have PV:=Lib.hid fun W=>eR (M.bL a b X E k) (M.bH a b X E k) W
    have hOk:=Lib.hid (show M.bOk a b X E=M.spanOk (M.bL a b X E k) (M.bH a b X E k) by unfold M.bOk;rw [hNk.out])
    clear hNs eL eH hok hN PC
    have P1:=Lib.hid P1
    have hk1:=Lib.hid (show ((k+1:Nat):Int)=(k:Int)+1 by omega)
    have P1:=P1.out
    rw [hk1.out] at P1
    have P1:=Lib.hid P1
    go_upto_region 8 with (go_at_call 118;(with_reducible refine (P1.out _).mono ?_);rintro e w5 ⟨rfl,hb5⟩;(replace C:=C.keep hb5);(replace R:=R.keep hb5);(replace T:=T.keep hb5);(replace B:=B.trans (hb5.mono B.size));(replace Q:=Q.keep hb5);(replace Q:=Q.alloc (.cells #[.int .i64 hl,.int .i64 hh] 58));(have S:=aG.new w5 #[.int .i64 hl,.int .i64 hh] 58);(have b_:=bA w5 (.cells #[.int .i64 hl,.int .i64 hh] 58));(replace C:=C.keep b_);(replace R:=R.keep b_);(replace T:=T.keep b_);(replace B:=B.trans (b_.mono B.size));(clear b_);(replace ⟨C_c0,C_c1⟩:=C.b2);(replace ⟨R_c0,R_c1,R_f0,R_f1⟩:=R.b2f);(replace ⟨T_c0,T_c1⟩:=T.b2);(replace ⟨S_c0,S_c1⟩:=S.b2))
    generalize w5.alloc (.cells #[.int .i64 hl,.int .i64 hh] 58)=wd at *
    generalize hbk:M.bL a b X E k=bl at *
    generalize hbh:M.bH a b X E k=bh at *
    replace hbk:=Lib.hid hbk
    replace hbh:=Lib.hid hbh
    refine Rg.walkJ 7 [.is (.agg #[.int .i64 bl,.int .i64 bh]),.is (.int .i64 (k:Int)),.is (.bool true),.is (.bool true),.is (.agg #[.int .i64 bl,.int .i64 bh]),.is (.bool (M.spanOk bl bh)),.is (.bool (M.spanOk bl bh)),.at (fun _ W=>aG W (w.heap.size+1+1) 58 #[.int .i64 bl,.int .i64 bh]),.is (.int .i64 (k:Int)),.is (.bool (M.spanOk bl bh))] (fun W=>aG W w4.heap.size 58 #[.int .i64 bl,.int .i64 bh]∧(∃ u v,aG W (w.heap.size+1+1) 58 #[u,v])∧Below w.heap.size w W) (by kernel_rfl) (by kernel_rfl) ?_ (fun j hj=>match j,hj with | 0,hj=>rfl | 1,hj=>rfl | 2,hj=>rfl | 3,hj=>rfl | 4,hj=>rfl | 5,hj=>rfl | 6,hj=>rfl | 7,hj=>absurd rfl hj | 8,hj=>rfl | 9,hj=>rfl | n+10,_=>rfl) ?_ ⟨?_,?_,?_,?_,?_,?_,?_,?_,?_,?_,trivial⟩ ?_
    ·exact fun W W_ h hb=>⟨h.1.keep hb,⟨_,_,h.2.1.choose_spec.choose_spec.keep hb⟩,h.2.2.trans (hb.mono h.2.2.size)⟩
    ·exact ⟨T,⟨_,_,R⟩,B⟩
    ·intro ac_ w_ hJ hr
     rw [if_neg (by decide)]
     have e7:ac_.tmps[7]?=some (.pointer (some ⟨w4.heap.size,0,none⟩)):=hr 7 (by decide)
     have k0:=hJ.1.box.c0
     have k1:=hJ.1.box.c1
     exact Rg.pure1 rfl (by go_simp)
    ·intro ac_ w_ hJ hr
     rw [if_neg (by decide)]
     have e9:ac_.tmps[9]?=some (.int .i64 (k:Int)):=hr 9 (by decide)
     exact Rg.pure1 rfl (by go_simp)
    ·intro ac_ w_ hJ hr
     rw [if_neg (by decide)]
     have e8:ac_.tmps[8]?=some (.bool true):=hr 8 (by decide)
     exact Rg.pure1 rfl (by go_simp)
    ·intro ac_ w_ hJ hr
     rw [if_neg (by decide)]
     have e37:=Rg.ev1 (hr 37 (by decide))
     exact Rg.pure1 rfl (by go_simp)
    ·intro ac_ w_ hJ hr
     rw [if_neg (by decide)]
     have e7:ac_.tmps[7]?=some (.pointer (some ⟨w4.heap.size,0,none⟩)):=hr 7 (by decide)
     have e38:=Rg.ev1 (hr 38 (by decide))
     have k0:=hJ.1.box.c0
     have k1:=hJ.1.box.c1
     exact Rg.pure1 (Rg.wantedT (j:=3) (b:=true) rfl (Rg.yld rfl e38)) (by go_simp)
    ·intro ac_ w_ hJ hr
     rw [if_neg (by decide)]
     have e38:=Rg.ev1 (hr 38 (by decide))
     have e39:=Rg.ev1 (hr 39 (by decide))
     have ef:=Rg.ef ac_
     exact Rg.callIs (Rg.wantedT (j:=3) (b:=true) rfl (Rg.yld rfl e38)) (by go_simp) (PV.out _)
    ·intro ac_ w_ hJ hr
     rw [if_neg (by decide)]
     have e38:=Rg.ev1 (hr 38 (by decide))
     have e40:=Rg.ev1 (hr 40 (by decide))
     have ec:=Rg.ec ac_
     exact Rg.pure1 rfl (by first | (go_simp;done))
    ·intro ac_ w_ hJ hr
     rw [if_pos rfl]
     have e4:ac_.tmps[4]?=some (.pointer (some ⟨w.heap.size+1+1,0,none⟩)):=hr 4 (by decide)
     have e35:=Rg.ev1 (hr 35 (by decide))
     obtain ⟨hJ1,⟨u_,v_,hJ2⟩,hJ3⟩:=hJ
     have e35:ac_.tmps[35]?=some (.agg #[.int .i64 bl,.int .i64 bh]):=Rg.ev1 (hr 35 (by decide))
     have e4:ac_.tmps[4]?=some (.pointer (some ⟨w.heap.size+1+1,0,none⟩)):=hr 4 (by decide)
     have ⟨y0,y1,x0,x1,_⟩:=hJ2.box
     refine ⟨rfl,?_⟩
     unfold Oper.wp
     go_simp
     exact ⟨⟨hJ1.other2 (show w4.heap.size≠w.heap.size+1+1 by omega) _ _,⟨_,_,aG.set2 hJ2 _ _⟩,bP hJ3 (by omega) _ _⟩,fun _ _ hb=>(aG.set2 hJ2 _ _).keep hb⟩
    ·intro ac_ w_ hJ hr
     rw [if_neg (by decide)]
     have e36:=Rg.ev1 (hr 36 (by decide))
     exact Rg.pure1 rfl (by go_simp)
    ·intro ac_ w_ hJ hr
     rw [if_neg (by decide)]
     have e41:=Rg.ev1 (hr 41 (by decide))
     exact Rg.pure1 rfl (by go_simp)
    ·intro vals wz hJ2 hv
     have v_8:vals 8=.int .i64 (k:Int):=hv 8 (by decide)
     have v_9:vals 9=.bool (M.spanOk bl bh):=hv 9 (by decide)
     have hst:=hv 7 (by decide)
     simp only [Rg.fill,if_true,Act.put,List.setIfInBounds_toArray,List.set_cons_zero,List.set_cons_succ,Nat.zero_add,Nat.reduceAdd]
     clear hv
     simp only [v_8,v_9]
     clear v_8 v_9
     have ⟨y0,y1,x0,x1,_⟩:=aG.box (Rg.atNow hst)
     have B2:=hJ2.2.2
     clear hst hJ2
     go_wp2
     exact bodyPost_ret (v:=.tuple #[.agg #[.int .i64 bl,.int .i64 bh],.int .i64 (k:Int),.bool (M.spanOk bl bh)]) (by simp [results,Tryz.results106,go_sem, *]) rfl (⟨by rw [hNk.out,hOk.out,hbk.out,hbh.out],B2⟩)
   | true=>
    rw [hok,if_pos rfl] at hNs
    have hN2:=Lib.hid (hNs.symm.trans hN.out)
    rw [hok] at P1
    have eL:=Lib.hid eL
    have eH:=Lib.hid eH
    clear hNs hok hN
    have hk1:=Lib.hid (show ((k+1:Nat):Int)=(k:Int)+1 by omega)
    rw [hk1.out] at P1
    have P1:=Lib.hid P1
    generalize hbk:M.bL a b X E k=bl at *
    generalize hbh:M.bH a b X E k=bh at *
    clear hbk hbh
    go_wp2_with (first
     | (go_at_call 118;(with_reducible refine (P1.out _).mono ?_);rintro e w5 ⟨rfl,hb5⟩;(replace C:=C.keep hb5);(replace R:=R.keep hb5);(replace T:=T.keep hb5);(replace B:=B.trans (hb5.mono B.size));(replace Q:=Q.keep hb5);(replace Q:=Q.alloc (.cells #[.int .i64 hl,.int .i64 hh] 58));(have S:=aG.new w5 #[.int .i64 hl,.int .i64 hh] 58);(have b_:=bA w5 (.cells #[.int .i64 hl,.int .i64 hh] 58));(replace C:=C.keep b_);(replace R:=R.keep b_);(replace T:=T.keep b_);(replace B:=B.trans (b_.mono B.size));(clear b_);(replace ⟨C_c0,C_c1⟩:=C.b2);(replace ⟨R_c0,R_c1,R_f0,R_f1⟩:=R.b2f);(replace ⟨T_c0,T_c1,T_f0,T_f1⟩:=T.b2f);(replace ⟨S_c0,S_c1⟩:=S.b2))
     | (go_at_call 119;(with_reducible refine (PC.out _).mono ?_);rintro e w6 ⟨rfl,hb6⟩;(replace C:=C.keep hb6);(replace R:=R.keep hb6);(replace T:=T.keep hb6);(replace S:=S.keep hb6);(replace B:=B.trans (hb6.mono B.size));(replace Q:=Q.keep hb6);(replace ⟨C_c0,C_c1⟩:=C.b2);(replace ⟨R_c0,R_c1,R_f0,R_f1⟩:=R.b2f);(replace ⟨T_c0,T_c1,T_f0,T_f1⟩:=T.b2f);(replace ⟨S_c0,S_c1⟩:=S.b2)))
    go_roundw
    case rel=>exact ⟨k+1,by omega,by go_num,hN2,by rw [eL.out,eH.out];exact aG.set2 T _ _,(C.other (show w.heap.size≠w4.heap.size by omega) _).other (show w.heap.size≠w4.heap.size by omega) _,(Q.other (show w.heap.size+1≠w4.heap.size by omega) _).other (show w.heap.size+1≠w4.heap.size by omega) _,(R.other (show w.heap.size+1+1≠w4.heap.size by omega) _).other (show w.heap.size+1+1≠w4.heap.size by omega) _,Below.setCell (Below.setCell B (by simp <;> omega) _) (by simp <;> omega) _⟩
    case measure=>simp [intOf] <;> omega
  ·obtain rfl:k=5:=by omega
   have hNk:=Lib.hid (show M.bN a b X E=5 by rw [←hN.out];rfl)
   have PV:=Lib.hid fun W=>eR (M.bL a b X E 5) (M.bH a b X E 5) W
   have hOk:=Lib.hid (show M.bOk a b X E=M.spanOk (M.bL a b X E 5) (M.bH a b X E 5) by unfold M.bOk;rw [hNk.out])
   clear hN PK
   obtain ⟨k,hk5⟩:∃ k:Nat,k=5:=⟨5,rfl⟩
   rw [←hk5] at hNk PV hOk T ⊢
   rw [←hk5] at T_c0 T_c1
   have hlt5:¬ (k:Int)<5:=by omega
   go_upto_region 8 with fail
   generalize hbk:M.bL a b X E k=bl at *
   generalize hbh:M.bH a b X E k=bh at *
   replace hbk:=Lib.hid hbk
   replace hbh:=Lib.hid hbh
   refine Rg.walkJ 7 [.is (.agg #[.int .i64 bl,.int .i64 bh]),.is (.int .i64 (k:Int)),.is (.bool true),.is (.bool true),.is (.agg #[.int .i64 bl,.int .i64 bh]),.is (.bool (M.spanOk bl bh)),.is (.bool (M.spanOk bl bh)),.at (fun _ W=>aG W (w.heap.size+1+1) 58 #[.int .i64 bl,.int .i64 bh]),.is (.int .i64 (k:Int)),.is (.bool (M.spanOk bl bh))] (fun W=>aG W w4.heap.size 58 #[.int .i64 bl,.int .i64 bh]∧(∃ u v,aG W (w.heap.size+1+1) 58 #[u,v])∧Below w.heap.size w W) (by kernel_rfl) (by kernel_rfl) ?_ (fun j hj=>match j,hj with | 0,hj=>rfl | 1,hj=>rfl | 2,hj=>rfl | 3,hj=>rfl | 4,hj=>rfl | 5,hj=>rfl | 6,hj=>rfl | 7,hj=>absurd rfl hj | 8,hj=>rfl | 9,hj=>rfl | n+10,_=>rfl) ?_ ⟨?_,?_,?_,?_,?_,?_,?_,?_,?_,?_,trivial⟩ ?_
   ·exact fun W W_ h hb=>⟨h.1.keep hb,⟨_,_,h.2.1.choose_spec.choose_spec.keep hb⟩,h.2.2.trans (hb.mono h.2.2.size)⟩
   ·exact ⟨T,⟨_,_,R⟩,B⟩
   ·intro ac_ w_ hJ hr
    rw [if_neg (by decide)]
    have e7:ac_.tmps[7]?=some (.pointer (some ⟨w4.heap.size,0,none⟩)):=hr 7 (by decide)
    have k0:=hJ.1.box.c0
    have k1:=hJ.1.box.c1
    exact Rg.pure1 rfl (by go_simp)
   ·intro ac_ w_ hJ hr
    rw [if_neg (by decide)]
    have e9:ac_.tmps[9]?=some (.int .i64 (k:Int)):=hr 9 (by decide)
    exact Rg.pure1 rfl (by go_simp)
   ·intro ac_ w_ hJ hr
    rw [if_neg (by decide)]
    have e8:ac_.tmps[8]?=some (.bool true):=hr 8 (by decide)
    exact Rg.pure1 rfl (by go_simp)
   ·intro ac_ w_ hJ hr
    rw [if_neg (by decide)]
    have e37:=Rg.ev1 (hr 37 (by decide))
    exact Rg.pure1 rfl (by go_simp)
   ·intro ac_ w_ hJ hr
    rw [if_neg (by decide)]
    have e7:ac_.tmps[7]?=some (.pointer (some ⟨w4.heap.size,0,none⟩)):=hr 7 (by decide)
    have e38:=Rg.ev1 (hr 38 (by decide))
    have k0:=hJ.1.box.c0
    have k1:=hJ.1.box.c1
    exact Rg.pure1 (Rg.wantedT (j:=3) (b:=true) rfl (Rg.yld rfl e38)) (by go_simp)
   ·intro ac_ w_ hJ hr
    rw [if_neg (by decide)]
    have e38:=Rg.ev1 (hr 38 (by decide))
    have e39:=Rg.ev1 (hr 39 (by decide))
    have ef:=Rg.ef ac_
    exact Rg.callIs (Rg.wantedT (j:=3) (b:=true) rfl (Rg.yld rfl e38)) (by go_simp) (PV.out _)
   ·intro ac_ w_ hJ hr
    rw [if_neg (by decide)]
    have e38:=Rg.ev1 (hr 38 (by decide))
    have e40:=Rg.ev1 (hr 40 (by decide))
    have ec:=Rg.ec ac_
    exact Rg.pure1 rfl (by first | (go_simp;done))
   ·intro ac_ w_ hJ hr
    rw [if_pos rfl]
    have e4:ac_.tmps[4]?=some (.pointer (some ⟨w.heap.size+1+1,0,none⟩)):=hr 4 (by decide)
    have e35:=Rg.ev1 (hr 35 (by decide))
    obtain ⟨hJ1,⟨u_,v_,hJ2⟩,hJ3⟩:=hJ
    have e35:ac_.tmps[35]?=some (.agg #[.int .i64 bl,.int .i64 bh]):=Rg.ev1 (hr 35 (by decide))
    have e4:ac_.tmps[4]?=some (.pointer (some ⟨w.heap.size+1+1,0,none⟩)):=hr 4 (by decide)
    have ⟨y0,y1,x0,x1,_⟩:=hJ2.box
    refine ⟨rfl,?_⟩
    unfold Oper.wp
    go_simp
    exact ⟨⟨hJ1.other2 (show w4.heap.size≠w.heap.size+1+1 by omega) _ _,⟨_,_,aG.set2 hJ2 _ _⟩,bP hJ3 (by omega) _ _⟩,fun _ _ hb=>(aG.set2 hJ2 _ _).keep hb⟩
   ·intro ac_ w_ hJ hr
    rw [if_neg (by decide)]
    have e36:=Rg.ev1 (hr 36 (by decide))
    exact Rg.pure1 rfl (by go_simp)
   ·intro ac_ w_ hJ hr
    rw [if_neg (by decide)]
    have e41:=Rg.ev1 (hr 41 (by decide))
    exact Rg.pure1 rfl (by go_simp)
   ·intro vals wz hJ2 hv
    have v_8:vals 8=.int .i64 (k:Int):=hv 8 (by decide)
    have v_9:vals 9=.bool (M.spanOk bl bh):=hv 9 (by decide)
    have hst:=hv 7 (by decide)
    simp only [Rg.fill,if_true,Act.put,List.setIfInBounds_toArray,List.set_cons_zero,List.set_cons_succ,Nat.zero_add,Nat.reduceAdd]
    clear hv
    simp only [v_8,v_9]
    clear v_8 v_9
    have ⟨y0,y1,x0,x1,_⟩:=aG.box (Rg.atNow hst)
    have B2:=hJ2.2.2
    clear hst hJ2
    go_wp2
    exact bodyPost_ret (v:=.tuple #[.agg #[.int .i64 bl,.int .i64 bh],.int .i64 (k:Int),.bool (M.spanOk bl bh)]) (by simp [results,Tryz.results106,go_sem, *]) rfl (⟨by rw [hNk.out,hOk.out,hbk.out,hbh.out],B2⟩)
end
end Go.Proofs.YthfjndmdalfloaaGreat
