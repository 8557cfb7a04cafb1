/-
  Joined texts: contracts and plain lemmas.
-/
import Derived.Test.YtggekfbfechonaaGreatU1
import Derived.Test.YtggekfbfechonaaGreatU17
import Derived.Deep.DeepCutAuto
import Derived.Deep.CutRange
import Derived.Outline
import Derived.Test.YtggekfbfechonaaGreatRows
import Derived.WalkKit
import Derived.ProofKit
import Derived.OpenShut
import Derived.Lib.SmallJoins
import Derived.Below
import Derived.Carry
set_option linter.unusedSimpArgs false
set_option linter.unusedVariables false
set_option maxRecDepth 100000
set_option maxHeartbeats 8000000
namespace Go.Proofs.YtggekfbfechonaaGreat
section
open Go.RowKit
theorem M.tD {x y:Int} (h:M.aR x y=true):(0<M.pn x ↔ 0<x)∧(M.pn x<0 ↔ x<0):=by
 obtain ⟨g1,g2,g3⟩:=M.b6 h;obtain ⟨-,-,-,-,h3,h4,-,-,-⟩:=M.gV (M.bs (a:=x) (by omega) (by omega));generalize M.pn x=n,4096 / M.pd x=t at *;subst h3
 rcases Int.lt_trichotomy n 0 with q | q | q
 ·have:=Int.mul_neg_of_neg_of_pos q (show 0<t by omega)
  omega
 ·subst q
  rw [Int.zero_mul];omega
 have:=Int.mul_pos q (show 0<t by omega);omega
def sU (n m:Nat):Bool:=decide ((1048576:Int)<n) || decide (1048576 - (n:Int)<m)
theorem vM (v u:Value) (n m:Nat) (w:World) (hv:b7 w w.heap.size v n) (hu:b7 w w.heap.size u m) :
  Calls Tryz.prog 6 #[v,u] w fun e w'=>e=.returned (.bool (sU n m))∧w=w':=by
 obtain ⟨A,c,rfl,hn,-⟩:=hv;obtain ⟨A',c',rfl,hm,-⟩:=hu
 by_cases h1:(1048576:Int)<n
 ·go_enter Tryz.func6,Tryz.ntmps6
  go_wp2;go_ret;exact ⟨dJ (by simp [sU,h1]),rfl⟩
 by_cases h2:1048576 - (n:Int)<m
 all_goals
  go_enter Tryz.func6,Tryz.ntmps6
  go_wp2;go_ret;exact ⟨dJ (by simp [sU,h1,h2]),rfl⟩
theorem law_Heights (v u:Value) (n m:Nat) (w:World) (hv:b7 w w.heap.size v n) (hu:b7 w w.heap.size u m) :
  Calls Tryz.prog 3 #[v,u] w fun e w'=>e=.returned (.bool true)∧Below w.heap.size w w':=by
 have Hv:=wM hv;have Hu:=wM hu
 have PB:=fun W h1 h2=>vM v u n m W h1 h2
 obtain ⟨Av,cv,rfl,hn,-⟩:=hv;obtain ⟨Au,cu,rfl,hm,-⟩:=hu;have BX:Below w.heap.size w w:=wP _ _
 cases hbig:sU n m <;> rw [hbig] at PB <;> replace PB:=wM PB
 case true=>
  go_enter Tryz.func3,Tryz.ntmps3
  go_wp2_with (go_at_call 6;(refine (PB.out _ Hv.out Hu.out).mono ?_);rintro r w0 ⟨rfl,rfl⟩)
  go_ret;exact ⟨rfl,BX⟩
 case false=>
 clear hbig hn hm;go_enter Tryz.func3,Tryz.ntmps3
 go_wp2_with fail
 (refine (PB.out _ Hv.out Hu.out).mono ?_);rintro r w0 ⟨rfl,rfl⟩
 clear PB
 go_wp2_with fail
 (refine (iy _ n _ Hv.out).mono ?_);rintro r_ w1 ⟨a,b,X,Y,E,nn,rfl,wg⟩
 replace BX:=d_ BX wg;clear wg Hv;have yE:=BX.size;replace BX:=BX.alloc yE (.cells #[.int .i64 a,.int .i64 b] 25);clear yE;have C:=aH.new w1 #[.int .i64 a,.int .i64 b] 25;have yE:=BX.size;replace BX:=BX.alloc yE (.cells #[.int .i64 X,.int .i64 Y,.int .i64 E] 27);clear yE;replace C:=C.alloc (.cells #[.int .i64 X,.int .i64 Y,.int .i64 E] 27);have Q:=aH.new (w1.alloc (.cells #[.int .i64 a,.int .i64 b] 25)) #[.int .i64 X,.int .i64 Y,.int .i64 E] 27;simp only [wN] at Q
 obtain ⟨vH,G1⟩:∃ v,M.du a b X Y E nn=v:=⟨_,rfl⟩
 obtain ⟨vB,hvB⟩:∃ v,M.cw a b X Y E=v:=⟨_,rfl⟩
 obtain ⟨kB,hkB⟩:∃ v,M.ik a b X Y E=v:=⟨_,rfl⟩
 have F9:=fun w=>jA a b X Y E nn w
 rw [G1] at F9;replace F9:=wM F9
 have F_:=fun w=>jL a b X Y E nn w
 rw [G1] at F_;replace F_:=wM F_
 have GA:=fun w=>gW a b X Y E w
 rw [hvB,hkB] at GA;replace GA:=wM GA
 have GB:=fun w=>gp a b X Y E w
 rw [hvB,hkB] at GB;replace GB:=wM GB
 have EP:=fun w=>cE a b X Y E nn w
 rw [G1] at EP;replace EP:=wM EP
 have Fs:=fun w=>dV a b X Y E w
 have Ft:=fun w=>fO a b X Y E w
 replace Fs:=wM Fs;replace Ft:=wM Ft
 have hH:=fun l h (e:vH=some (l,h))=>M.q8 (G1.trans e)
 rw [hvB,hkB] at hH;clear G1 hvB hkB;replace hH:=wM hH;have ⟨xd,xe,_,_,_⟩:=C.box;have ⟨xf,xg,xh⟩:=Q.aO
 go_wp2_with fail
 (with_reducible refine (F9.out _).mono ?_);rintro r_ w2 ⟨rfl,wg⟩
 clear xd xe xf xg xh;replace C:=C.keep wg;replace Q:=Q.keep wg;replace BX:=d_ BX wg;clear wg;have yE:=BX.size;replace BX:=BX.alloc yE (.cells #[.int .i64 (M.yY vH),.int .i64 (M.yZ vH),.int .i64 (M.ya vH),.int .i64 (M.yc vH)] 33);clear yE;replace C:=C.alloc (.cells #[.int .i64 (M.yY vH),.int .i64 (M.yZ vH),.int .i64 (M.ya vH),.int .i64 (M.yc vH)] 33);replace Q:=Q.alloc (.cells #[.int .i64 (M.yY vH),.int .i64 (M.yZ vH),.int .i64 (M.ya vH),.int .i64 (M.yc vH)] 33);have J1:=aH.new w2 #[.int .i64 (M.yY vH),.int .i64 (M.yZ vH),.int .i64 (M.ya vH),.int .i64 (M.yc vH)] 33;have ⟨xd,xe,_,_,_⟩:=C.box;have ⟨xf,xg,xh⟩:=Q.aO
 go_wp2_with fail
 (with_reducible refine (F_.out _).mono ?_);rintro r_ w3 ⟨rfl,wg⟩
 clear xd xe xf xg xh;replace C:=C.keep wg;replace Q:=Q.keep wg;replace J1:=J1.keep wg;replace BX:=d_ BX wg;clear wg;have yE:=BX.size;replace BX:=BX.alloc yE (.cells #[.int .i64 (M.yY vH),.int .i64 (M.yZ vH),.int .i64 (M.ya vH),.int .i64 (M.yc vH)] 33);clear yE;replace C:=C.alloc (.cells #[.int .i64 (M.yY vH),.int .i64 (M.yZ vH),.int .i64 (M.ya vH),.int .i64 (M.yc vH)] 33);replace Q:=Q.alloc (.cells #[.int .i64 (M.yY vH),.int .i64 (M.yZ vH),.int .i64 (M.ya vH),.int .i64 (M.yc vH)] 33);replace J1:=J1.alloc (.cells #[.int .i64 (M.yY vH),.int .i64 (M.yZ vH),.int .i64 (M.ya vH),.int .i64 (M.yc vH)] 33);have J2:=aH.new w3 #[.int .i64 (M.yY vH),.int .i64 (M.yZ vH),.int .i64 (M.ya vH),.int .i64 (M.yc vH)] 33;have ⟨xd,xe,_,_,_⟩:=C.box;have ⟨xf,xg,xh⟩:=Q.aO
 go_wp2_with fail
 (with_reducible refine (GA.out _).mono ?_);rintro r_ w4 ⟨rfl,wg⟩
 clear xd xe xf xg xh;replace C:=C.keep wg;replace Q:=Q.keep wg;replace J1:=J1.keep wg;replace J2:=J2.keep wg;replace BX:=d_ BX wg;clear wg;have yE:=BX.size;replace BX:=BX.alloc yE (.cells #[.int .i64 (M.yY vB),.int .i64 (M.yZ vB),.int .i64 (M.ya vB),.int .i64 (M.yc vB)] 33);clear yE;replace C:=C.alloc (.cells #[.int .i64 (M.yY vB),.int .i64 (M.yZ vB),.int .i64 (M.ya vB),.int .i64 (M.yc vB)] 33);replace Q:=Q.alloc (.cells #[.int .i64 (M.yY vB),.int .i64 (M.yZ vB),.int .i64 (M.ya vB),.int .i64 (M.yc vB)] 33);replace J1:=J1.alloc (.cells #[.int .i64 (M.yY vB),.int .i64 (M.yZ vB),.int .i64 (M.ya vB),.int .i64 (M.yc vB)] 33);replace J2:=J2.alloc (.cells #[.int .i64 (M.yY vB),.int .i64 (M.yZ vB),.int .i64 (M.ya vB),.int .i64 (M.yc vB)] 33);have B1:=aH.new w4 #[.int .i64 (M.yY vB),.int .i64 (M.yZ vB),.int .i64 (M.ya vB),.int .i64 (M.yc vB)] 33;have ⟨xd,xe,_,_,_⟩:=C.box;have ⟨xf,xg,xh⟩:=Q.aO
 go_wp2_with fail
 (with_reducible refine (GB.out _).mono ?_);rintro r_ w5 ⟨rfl,wg⟩
 clear xd xe xf xg xh;replace C:=C.keep wg;replace Q:=Q.keep wg;replace J1:=J1.keep wg;replace J2:=J2.keep wg;replace B1:=B1.keep wg;replace BX:=d_ BX wg;clear wg;have yE:=BX.size;replace BX:=BX.alloc yE (.cells #[.int .i64 (M.yY vB),.int .i64 (M.yZ vB),.int .i64 (M.ya vB),.int .i64 (M.yc vB)] 33);clear yE;replace C:=C.alloc (.cells #[.int .i64 (M.yY vB),.int .i64 (M.yZ vB),.int .i64 (M.ya vB),.int .i64 (M.yc vB)] 33);replace Q:=Q.alloc (.cells #[.int .i64 (M.yY vB),.int .i64 (M.yZ vB),.int .i64 (M.ya vB),.int .i64 (M.yc vB)] 33);replace J1:=J1.alloc (.cells #[.int .i64 (M.yY vB),.int .i64 (M.yZ vB),.int .i64 (M.ya vB),.int .i64 (M.yc vB)] 33);replace J2:=J2.alloc (.cells #[.int .i64 (M.yY vB),.int .i64 (M.yZ vB),.int .i64 (M.ya vB),.int .i64 (M.yc vB)] 33);replace B1:=B1.alloc (.cells #[.int .i64 (M.yY vB),.int .i64 (M.yZ vB),.int .i64 (M.ya vB),.int .i64 (M.yc vB)] 33);have B2:=aH.new w5 #[.int .i64 (M.yY vB),.int .i64 (M.yZ vB),.int .i64 (M.ya vB),.int .i64 (M.yc vB)] 33;clear F9 F_ GA GB
 go_upto_region 8 with fail
 generalize (w5.alloc (.cells #[.int .i64 (M.yY vB),.int .i64 (M.yZ vB),.int .i64 (M.ya vB),.int .i64 (M.yc vB)] 33))=wp at *
 go_cut [103] from 81 to 103 (fun s wx=>s=.bool false∧wp=wx)
 case first=>as_aux_lemma=>
  have ⟨yz,y6,y7,y8,_,_,_,_,_⟩:=J1.aP;have ⟨AJ,AK,AM,AN,_,_,_,_,_⟩:=J2.aP;have ⟨Cq,Cr,Cs,Ct,_,_,_,_,_⟩:=B1.aP;have ⟨BH,BI,BJ,BK,_,_,_,_,_⟩:=B2.aP;clear EP Fs Ft hH BX Hu C Q J1 J2 B1 B2;generalize vB.isSome=sB,vH.isSome=sH,M.yc vB=g4,M.ya vB=g3,M.yZ vB=g2,M.yY vB=g1,M.yc vH=p4,M.ya vH=p3,M.yZ vH=p2,M.yY vH=p1 at *
  cases sH <;> cases sB <;> (go_wp2_with fail;go_meet;exact ⟨rfl,rfl⟩)
 case rest=>as_aux_lemma=>
 obtain ⟨rfl,rfl⟩:=hcut
 go_upto_if 104 with fail
 go_cut [18,19,20,21,22,23,24,25] from 105 to 181 (fun _ _ _ _ _ _ _ _ wx=>Below wp.heap.size wp wx)
 case first=>as_aux_lemma=>
  clear Hu;have Bq:Below wp.heap.size wp wp:=wP _ _
  cases vH with
  | none=>
   go_wp2
   go_meet
   exact wP _ _
  | some p=>
  obtain ⟨l,h⟩:=p;obtain ⟨hpt,hto,hl0,hsp,hnk,⟨L,H,rfl,hlL,hHh,hsp2⟩,htl⟩:=hH.out l h rfl
  have hmx:max l L=L:=by omega
  have hmn:min h H=H:=by omega
  have PM:=fun W=>gX l h L H W hsp hsp2 (by rw [hmx,hmn];exact hsp2)
  rw [hmx,hmn] at PM
  have PI:=fun W=>jt l h W hsp
  have E8:=Fs.out;have E9:=Ft.out;rw [hto] at E8;rw [hpt] at E8 E9;simp only [Bool.true_and] at E8 E9;have hps:=M.tD hsp;have E6:=EP.out;rw [show M.F6 (some (l,h))=l from rfl,show (some (l,h)).isSome=true from rfl] at E6;clear EP Fs Ft hH hmx hmn hsp hsp2 hto hpt;replace J1:aH wp _ 33 #[.int .i64 (M.pn l),.int .i64 (M.pd l),.int .i64 (M.pn h),.int .i64 (M.pd h)]:=J1;replace J2:aH wp _ 33 #[.int .i64 (M.pn l),.int .i64 (M.pd l),.int .i64 (M.pn h),.int .i64 (M.pd h)]:=J2;replace B1:aH wp _ 33 #[.int .i64 (M.pn L),.int .i64 (M.pd L),.int .i64 (M.pn H),.int .i64 (M.pd H)]:=B1;replace B2:aH wp _ 33 #[.int .i64 (M.pn L),.int .i64 (M.pd L),.int .i64 (M.pn H),.int .i64 (M.pd H)]:=B2;generalize (M.dc a X Y E).isSome=t,M.pd H=y4,M.pn H=y3,M.pd L=y2,M.pn L=y1,M.pd h=x4,M.pn h=x3,M.pd l=x2,M.pn l=x1 at *;replace PM:=wM PM;replace PI:=wM PI;replace E6:=wM E6;replace E8:=wM E8;replace E9:=wM E9;clear hlL hHh
  have hnk2:¬ kB<nn:=by omega
  have ⟨yz,y6,y7,y8,_,_,_,_,_⟩:=J1.aP;have ⟨Cq,Cr,Cs,Ct,_,_,_,_,_⟩:=B1.aP
  go_wp2_with fail
  (with_reducible refine (PM.out _).mono ?_);rintro r_ w6 ⟨rfl,wg⟩
  clear yz y6 y7 y8 Cq Cr Cs Ct;replace C:=C.keep wg;replace Q:=Q.keep wg;replace J1:=J1.keep wg;replace J2:=J2.keep wg;replace B2:=B2.keep wg;replace B1:=B1.keep wg;replace Bq:=d_ Bq wg;clear wg;have yE:=Bq.size;replace Bq:=Bq.alloc yE (.cells #[.int .i64 y1,.int .i64 y2,.int .i64 y3,.int .i64 y4] 33);clear yE;replace C:=C.alloc (.cells #[.int .i64 y1,.int .i64 y2,.int .i64 y3,.int .i64 y4] 33);replace Q:=Q.alloc (.cells #[.int .i64 y1,.int .i64 y2,.int .i64 y3,.int .i64 y4] 33);replace J1:=J1.alloc (.cells #[.int .i64 y1,.int .i64 y2,.int .i64 y3,.int .i64 y4] 33);replace J2:=J2.alloc (.cells #[.int .i64 y1,.int .i64 y2,.int .i64 y3,.int .i64 y4] 33);replace B2:=B2.alloc (.cells #[.int .i64 y1,.int .i64 y2,.int .i64 y3,.int .i64 y4] 33);replace B1:=B1.alloc (.cells #[.int .i64 y1,.int .i64 y2,.int .i64 y3,.int .i64 y4] 33);have K1:=aH.new w6 #[.int .i64 y1,.int .i64 y2,.int .i64 y3,.int .i64 y4] 33;clear PM;have ⟨Cu,Cv,Cw,Cx,_,_,_,_,_⟩:=K1.aP;have ⟨BH,BI,BJ,BK,_,_,_,_,_⟩:=B2.aP
  by_cases hl:0<l
  ·skip
   have hx:0<x1:=hps.1.2 hl
   have hx2:¬ x1<0:=by omega
   rw [decide_eq_true hl] at E6
   have ht:t=false:=by cases t;rfl;exact absurd (htl rfl) (by omega)
   subst ht;clear hps htl hl0;have ⟨xd,xe,_,_,_⟩:=C.box;have ⟨xf,xg,xh⟩:=Q.aO
   go_wp2_with fail
   (with_reducible refine (E6.out _).mono ?_);rintro r_ w7 ⟨rfl,wg⟩
   clear xd xe xf xg xh;replace C:=C.keep wg;replace Q:=Q.keep wg;replace J1:=J1.keep wg;replace J2:=J2.keep wg;replace B2:=B2.keep wg;replace B1:=B1.keep wg;replace K1:=K1.keep wg;replace Bq:=d_ Bq wg;clear wg;clear Cu Cv Cw Cx BH BI BJ BK;have ⟨AJ,AK,AM,AN,_,_,_,_,_⟩:=J2.aP;have ⟨yz,y6,y7,y8,_,_,_,_,_⟩:=J1.aP
   go_wp2_with fail
   (with_reducible refine (PI.out _).mono ?_);rintro r_ w8 ⟨rfl,wg⟩
   clear yz y6 y7 y8;replace C:=C.keep wg;replace Q:=Q.keep wg;replace J1:=J1.keep wg;replace J2:=J2.keep wg;replace B2:=B2.keep wg;replace B1:=B1.keep wg;replace K1:=K1.keep wg;replace Bq:=d_ Bq wg;clear wg;clear AJ AK AM AN;have ⟨xd,xe,_,_,_⟩:=C.box;have ⟨xf,xg,xh⟩:=Q.aO
   go_wp2_with fail
   (with_reducible refine (E8.out _).mono ?_);rintro r_ w9 ⟨rfl,wg⟩
   clear xd xe xf xg xh;replace C:=C.keep wg;replace Q:=Q.keep wg;replace J1:=J1.keep wg;replace J2:=J2.keep wg;replace B2:=B2.keep wg;replace B1:=B1.keep wg;replace K1:=K1.keep wg;replace Bq:=d_ Bq wg;clear wg;have ⟨xd,xe,_,_,_⟩:=C.box;have ⟨xf,xg,xh⟩:=Q.aO
   go_wp2_with fail
   (with_reducible refine (E9.out _).mono ?_);rintro r_ D7 ⟨rfl,wg⟩
   clear xd xe xf xg xh;replace C:=C.keep wg;replace Q:=Q.keep wg;replace J1:=J1.keep wg;replace J2:=J2.keep wg;replace B2:=B2.keep wg;replace B1:=B1.keep wg;replace K1:=K1.keep wg;replace Bq:=d_ Bq wg;clear wg;go_wp2
   go_meet
   exact Bq
  skip
  have hx:¬ 0<x1:=fun h=>hl (hps.1.1 h)
  have hx2:¬ x1<0:=fun h=>by have:=hps.2.1 h;omega
  rw [decide_eq_false hl] at E6;clear hps htl hl0;have ⟨xd,xe,_,_,_⟩:=C.box;have ⟨xf,xg,xh⟩:=Q.aO
  go_wp2_with fail
  (with_reducible refine (E6.out _).mono ?_);rintro r_ w7 ⟨rfl,wg⟩
  clear xd xe xf xg xh;replace C:=C.keep wg;replace Q:=Q.keep wg;replace J1:=J1.keep wg;replace J2:=J2.keep wg;replace B2:=B2.keep wg;replace B1:=B1.keep wg;replace K1:=K1.keep wg;replace Bq:=d_ Bq wg;clear wg;clear Cu Cv Cw Cx BH BI BJ BK;have ⟨AJ,AK,AM,AN,_,_,_,_,_⟩:=J2.aP;have ⟨yz,y6,y7,y8,_,_,_,_,_⟩:=J1.aP
  go_wp2_with fail
  (with_reducible refine (PI.out _).mono ?_);rintro r_ w8 ⟨rfl,wg⟩
  clear yz y6 y7 y8;replace C:=C.keep wg;replace Q:=Q.keep wg;replace J1:=J1.keep wg;replace J2:=J2.keep wg;replace B2:=B2.keep wg;replace B1:=B1.keep wg;replace K1:=K1.keep wg;replace Bq:=d_ Bq wg;clear wg;clear AJ AK AM AN;have ⟨xd,xe,_,_,_⟩:=C.box;have ⟨xf,xg,xh⟩:=Q.aO
  go_wp2_with fail
  (with_reducible refine (E8.out _).mono ?_);rintro r_ w9 ⟨rfl,wg⟩
  clear xd xe xf xg xh;replace C:=C.keep wg;replace Q:=Q.keep wg;replace J1:=J1.keep wg;replace J2:=J2.keep wg;replace B2:=B2.keep wg;replace B1:=B1.keep wg;replace K1:=K1.keep wg;replace Bq:=d_ Bq wg;clear wg;have ⟨xd,xe,_,_,_⟩:=C.box;have ⟨xf,xg,xh⟩:=Q.aO
  go_wp2_with fail
  (with_reducible refine (E9.out _).mono ?_);rintro r_ D7 ⟨rfl,wg⟩
  clear xd xe xf xg xh;replace C:=C.keep wg;replace Q:=Q.keep wg;replace J1:=J1.keep wg;replace J2:=J2.keep wg;replace B2:=B2.keep wg;replace B1:=B1.keep wg;replace K1:=K1.keep wg;replace Bq:=d_ Bq wg;clear wg
  cases t <;> (go_wp2_with fail;go_meet;exact Bq)
 case rest=>as_aux_lemma=>
 replace BX:=d_ BX hcut;clear hcut EP Fs Ft hH C Q J1 J2 B1 B2
 go_wp2_with fail
 (refine (fF _ m _ ((Hu.out.keepW BX).nu BX.size)).mono ?_);rintro r_ w11 ⟨c,d,X4,Y4,E4,rfl,wg⟩
 replace BX:=d_ BX wg;clear wg;have yE:=BX.size;replace BX:=BX.alloc yE (.cells #[.int .i64 c,.int .i64 d] 25);clear yE;have C2:=aH.new w11 #[.int .i64 c,.int .i64 d] 25;have yE:=BX.size;replace BX:=BX.alloc yE (.cells #[.int .i64 X4,.int .i64 Y4,.int .i64 E4] 27);clear yE;replace C2:=C2.alloc (.cells #[.int .i64 X4,.int .i64 Y4,.int .i64 E4] 27);have Q2:=aH.new (w11.alloc (.cells #[.int .i64 c,.int .i64 d] 25)) #[.int .i64 X4,.int .i64 Y4,.int .i64 E4] 27;simp only [wN] at Q2
 obtain ⟨vP,IC⟩:∃ v,M.kT c d X4 Y4 E4=v:=⟨_,rfl⟩
 have Bd:=fun w=>fH c d X4 Y4 E4 w
 rw [IC] at Bd;replace Bd:=wM Bd
 have Be:=fun w=>fP c d X4 Y4 E4 w
 rw [IC] at Be;replace Be:=wM Be
 have hP:=fun r (e:vP=some r)=>M.uh (IC.trans e)
 clear IC;replace hP:=wM hP
 obtain ⟨kP,FD⟩:∃ x:Int,((vP.getD 0:Nat):Int)=x:=⟨_,rfl⟩
 rw [FD] at Bd Be;replace FD:=wM FD;have ⟨yN,yO,_,_,_⟩:=C2.box;have ⟨yP,yQ,yR⟩:=Q2.aO
 go_wp2_with fail
 (with_reducible refine (Bd.out _).mono ?_);rintro r_ w12 ⟨rfl,wg⟩
 clear yN yO yP yQ yR;replace C2:=C2.keep wg;replace Q2:=Q2.keep wg;replace BX:=d_ BX wg;clear wg;have ⟨yN,yO,_,_,_⟩:=C2.box;have ⟨yP,yQ,yR⟩:=Q2.aO
 go_wp2_with fail
 (with_reducible refine (Be.out _).mono ?_);rintro r_ F7 ⟨rfl,wg⟩
 clear yN yO yP yQ yR;replace C2:=C2.keep wg;replace Q2:=Q2.keep wg;replace BX:=d_ BX wg;clear wg;clear Bd Be
 go_upto_region 26 with fail
 go_cut [206] from 199 to 206 (fun s wx=>s=.bool false∧F7=wx)
 case first=>as_aux_lemma=>
  clear hP BX Hu FD C2 Q2;generalize vP.isSome=sP at *
  cases sP <;> (go_wp2_with fail;go_meet;exact ⟨rfl,rfl⟩)
 case rest=>as_aux_lemma=>
 obtain ⟨rfl,rfl⟩:=hcut
 go_upto_if 207 with fail
 go_cut [32,33,34,35,36,37] from 208 to 248 (fun _ _ _ _ _ _ wx=>Below F7.heap.size F7 wx)
 case first=>as_aux_lemma=>
  clear Hu;have Bq:Below F7.heap.size F7 F7:=wP _ _
  cases vP with
  | none=>
   go_wp2
   go_meet
   exact wP _ _
  | some r=>
  obtain ⟨hpt,EG,⟨l,h,e1,hl⟩,hlast,hto⟩:=hP.out r rfl;have hk:=FD.out;replace hk:(r:Int)=kP:=hk;rw [hk] at e1 hlast
  have F1:=fun w=>cE c d X4 Y4 E4 kP w
  rw [e1,show M.F6 (some (l,h))=l from rfl,show (some (l,h)).isSome=true from rfl,decide_eq_true hl] at F1
  have F2:=fun w=>dV c d X4 Y4 E4 w
  rw [hto,hpt,Bool.and_false] at F2
  have F3:=fun w=>cE c d X4 Y4 E4 (kP - 1) w
  have hk1:0≤kP:=by omega
  have hk2:kP≤5:=by omega
  clear hP FD hk e1 hl hto hpt;replace F1:=wM F1;replace F2:=wM F2;have ⟨yN,yO,_,_,_⟩:=C2.box;have ⟨yP,yQ,yR⟩:=Q2.aO
  go_wp2_with fail
  (with_reducible refine (F1.out _).mono ?_);rintro r_ w14 ⟨rfl,wg⟩
  clear yN yO yP yQ yR;replace C2:=C2.keep wg;replace Q2:=Q2.keep wg;replace Bq:=d_ Bq wg;clear wg;have ⟨yN,yO,_,_,_⟩:=C2.box;have ⟨yP,yQ,yR⟩:=Q2.aO
  go_wp2_with fail
  (with_reducible refine (F2.out _).mono ?_);rintro r_ w15 ⟨rfl,wg⟩
  clear yN yO yP yQ yR;replace C2:=C2.keep wg;replace Q2:=Q2.keep wg;replace Bq:=d_ Bq wg;clear wg
  by_cases hp:0<kP
  ·obtain ⟨l2,h2,e2,hl2⟩:=hlast hp
   rw [e2,show M.F6 (some (l2,h2))=l2 from rfl,show (some (l2,h2)).isSome=true from rfl,decide_eq_false (by omega)] at F3;clear hlast e2 hl2;replace F3:=wM F3;have ⟨yN,yO,_,_,_⟩:=C2.box;have ⟨yP,yQ,yR⟩:=Q2.aO
   go_wp2_with fail
   (with_reducible refine (F3.out _).mono ?_);rintro r_ w16 ⟨rfl,wg⟩
   clear yN yO yP yQ yR;replace C2:=C2.keep wg;replace Q2:=Q2.keep wg;replace Bq:=d_ Bq wg;clear wg;go_wp2
   go_meet
   exact Bq
  clear F3 hlast;go_wp2
  go_meet
  exact Bq
 case rest=>as_aux_lemma=>
 replace BX:=d_ BX hcut;clear hcut hP FD C2 Q2
 go_wp2_with fail
 (refine (f6 _ m _ ((Hu.out.keepW BX).nu BX.size)).mono ?_);rintro r_ w17 ⟨c2,d2,m2,rfl,wg⟩
 replace BX:=d_ BX wg;clear wg Hu;have yE:=BX.size;replace BX:=BX.alloc yE (.cells #[.int .i64 c2,.int .i64 d2] 25);clear yE;have C3:=aH.new w17 #[.int .i64 c2,.int .i64 d2] 25
 obtain ⟨vW,Lk⟩:∃ v,M.kF c2 d2 m2=v:=⟨_,rfl⟩
 have DN:=fun w=>gE c2 d2 m2 w
 rw [Lk] at DN;replace DN:=wM DN
 have DO:=fun w=>gI c2 d2 m2 w
 rw [Lk] at DO;replace DO:=wM DO;clear Lk;generalize vW.isSome=ow,M.fD vW=f2,M.fN vW=f1 at *;have ⟨BL,BM,_,_,_⟩:=C3.box
 go_wp2_with fail
 (with_reducible refine (DN.out _).mono ?_);rintro r_ w18 ⟨rfl,wg⟩
 clear BL BM;replace C3:=C3.keep wg;replace BX:=d_ BX wg;clear wg;have yE:=BX.size;replace BX:=BX.alloc yE (.cells #[.int .i64 f1,.int .i64 f2] 31);clear yE;replace C3:=C3.alloc (.cells #[.int .i64 f1,.int .i64 f2] 31);have F1:=aH.new w18 #[.int .i64 f1,.int .i64 f2] 31;have ⟨BL,BM,_,_,_⟩:=C3.box
 go_wp2_with fail
 (with_reducible refine (DO.out _).mono ?_);rintro r_ w19 ⟨rfl,wg⟩
 clear BL BM;replace C3:=C3.keep wg;replace F1:=F1.keep wg;replace BX:=d_ BX wg;clear wg;have yE:=BX.size;replace BX:=BX.alloc yE (.cells #[.int .i64 f1,.int .i64 f2] 31);clear yE;replace C3:=C3.alloc (.cells #[.int .i64 f1,.int .i64 f2] 31);replace F1:=F1.alloc (.cells #[.int .i64 f1,.int .i64 f2] 31);have F2:=aH.new w19 #[.int .i64 f1,.int .i64 f2] 31;have ⟨MG,MH,_,_,_⟩:=F1.box;have ⟨MI,MJ,_,_,_⟩:=F2.box
 cases ow <;> (go_wp2_with fail;go_ret;exact ⟨by first | rfl | simp,BX⟩)
end
section
open Go.ChangeShapes Go.WideShapes Go.ChangeAt Go.RowKit Go.Joins Go.Deep
theorem own:ownKnob Tryz.prog.godebug=none:=by kernel_rfl
theorem laidOut:laidOutB Tryz.prog=true:=by kernel_rfl
section
variable {H:Type} {enc:TypeId × Value→H} {P:Program} {w:World} {base:Nat} {spare:Nat→Bool} {held:Bool}
theorem fl (hl:laidOutB P=true):∀ (ts:List TypeId) (hts:∀ t ∈ ts,P.readableRec t=true∧t<P.types.size) {W W':World} {vs:List Value} {ds:List (DataW H)} {ps:List MemPlace}
  (_:DataW.TrodAll enc P W 0 (fun _=>true) true ts vs ds ps) (_:Below W.heap.size W W') (_:∀ x ∈ ps,x.block<W.heap.size),DataW.TrodAll enc P W' 0 (fun b=>decide (b<W.heap.size)) true ts vs ds ps
 | [],_,_,_,_,_,_,h,_,_=>by
  obtain ⟨rfl,rfl,rfl⟩:=trodAll_nil h;exact trodAll_mk0
 | t :: ts,hts,_,_,_,_,_,h,hb,hlt=>by
  obtain ⟨v,vs',d,ds',p,q,rfl,rfl,rfl,h1,h2⟩:=trodAll_cons h;refine ⟨p,q,Below.trod hl (hts t List.mem_cons_self).1 (hts t List.mem_cons_self).2 h1 hb fun x hx=>hlt x (List.mem_append_left _ hx),?_,rfl⟩
  exact fl hl ts (fun t' ht'=>hts t' (List.mem_cons_of_mem _ ht')) h2 hb fun x hx=>hlt x (List.mem_append_right _ hx)
theorem law_post {f:Func} {s:ChangeSpec} {W W':World} {args:Array Value} {ds:List (DataW H)} {before:List MemPlace} {tb:TypeId}
  (hl:laidOutB P=true) (hts:∀ t ∈ f.params.toList,P.readableRec t=true∧t<P.types.size)
  (hvars:s.vars=[]) (hf:s.fn H ds={ results:=[.lit (.bool true)],args:=ds }) (hrt:f.resultTypes=#[tb]) (Gs:P.underlying tb=some .bool)
  (hW:DataW.Whole enc P f.params.toList s.vars false W args.toList ds [] before) (hb:Below W.heap.size W W') :
  s.post enc P f false true false false W args (.bool true) W':=by
 have hlt:∀ p ∈ before,p.block<W.heap.size:=fun p hp=>hW.lt p hp
 obtain ⟨p,q,hA,hV,hpq,hz,hn⟩:=id hW;rw [hvars] at hV;obtain ⟨_,rfl⟩:=trodVars_none hV
 have hbp:before=p:=by simpa using hpq
 subst hbp
 have e1:s.fn H (ds ++ [])={ results:=[.lit (.bool true)],args:=ds }:=by rw [List.append_nil];exact hf
 refine ⟨ds,[],before,[],before,[],hW,?_,?_,?_,World.keptBut_mono (fun x hx=>⟨hx,Or.inr (Or.inl hx)⟩) (hb.frame (· ∈ before)),fun h=>by cases h⟩
 ·rw [e1,hrt]
  exact trodAll_mk1 (shut_bool Gs true)
 ·rw [e1]
  exact fl hl _ hts hA hb hlt
 rw [e1,hvars];exact rfl
end
theorem open_bytes {H:Type} {enc:TypeId × Value→H} {P:Program} {w:World} {base b0:Nat} {held:Bool} {r:Reach} {t te:TypeId} {v:Value} {d:DataW H} {ps:List MemPlace}
  (ht:P.underlying t=some (.slice te)) (he:P.underlying te=some (.int .u8)) (hc:P.cellsOf te=1) (hv:Value.okWide P w r b0 t v) (h:DataW.Trod enc P w base (fun _=>true) held t v d ps) :
  ∃ n:Nat,b7 w w.heap.size v n:=by
 obtain ⟨a1,len,cap,rfl⟩:=okWide_slice ht hv;obtain ⟨fuel,hf⟩:=h
 rcases open_ints ht he hc hf with ⟨hcs,hx⟩ | ⟨a,len',cap',zs,hcs,_,hl,hm,hz,hx,hcell,hwz⟩
 ·simp [Value.cells] at hcs
  obtain ⟨rfl,rfl,rfl⟩:=hcs;exact ⟨0,none,0,rfl,by omega,fun j hj=>absurd hj (by omega)⟩
 simp [Value.cells] at hcs
 obtain ⟨rfl,rfl,rfl⟩:=hcs;simp only [if_true] at hz;refine ⟨len,some a,cap,rfl,by unfold maxLen at hm;omega,fun j hj=>?_⟩;obtain ⟨ab,ao,spot⟩:=a
 have hspot:spot=none:=by simpa [Addr.add] using World.cell?_spot (hcell 0 (by omega))
 subst hspot;have hcj:=hcell j (by omega);rw [Addr.add_lit] at hcj
 have hb:0≤zs.getD j 0∧zs.getD j 0≤255:=by
  have:=range_u8 hwz j;simp only [List.getD_eq_getElem?_getD] at this ⊢;omega
 exact ⟨ab,ao,zs.getD j 0,rfl,World.block_lt_of_cell? w _ hcj,hcj,hb.1,hb.2⟩
end
end Go.Proofs.YtggekfbfechonaaGreat
