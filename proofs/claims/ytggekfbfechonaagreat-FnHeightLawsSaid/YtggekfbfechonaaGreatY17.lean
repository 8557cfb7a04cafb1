/-
  Joined texts: contracts and plain lemmas.
-/
import Derived.Test.YtggekfbfechonaaGreatY1
import Derived.Test.YtggekfbfechonaaGreatY16
import Derived.Test.YtggekfbfechonaaGreatY9
set_option linter.unusedSimpArgs false
set_option linter.unusedVariables false
set_option maxRecDepth 100000
set_option maxHeartbeats 8000000
namespace Go.Proofs.YtggekfbfechonaaGreat
section
open Go.RowKit
namespace M
noncomputable def Cz (a b X Y E n:Int):Option Ax:=if (bW a b X Y E && ins n (-12) 12)=true then gT a X Y E n else none
end M
theorem Rw.Own.lN {α:Type} {E:Rw.Enc α} {w:World} {base k i:Nat} {v:Value} {xs:List α} (h:Rw.Own E w base v xs) (hk:k<base) (x:Value):Rw.Own E (w.setCell ⟨k,i,none⟩ x) base v xs:=
 h.kept (Gr.set (World.grownBy.refl _ _) _ _) (fun g hg e=>by
  injection hg with hg
  have:=(h.lt _ e).1
  omega)
def uC (k:Nat) (r:Option M.Ax) (v:Value) (base:Nat) (W:World):Prop:=∃ l,Rw.Own DC W base v l∧(r.isSome=true→l.length=k∧(1≤k→l[k - 1]?=r))
theorem mZ (a b X Y E:Int) (k:Nat) (w:World) (hg:M.good a b=true) (hp:M.bG a b X Y E=true) (hk:k≤12) :
  Calls Tryz.prog 103 #[.agg #[.int .i64 a,.int .i64 b],.agg #[.int .i64 X,.int .i64 Y,.int .i64 E],.int .i64 (k:Int)] w fun e w'=>∃ v',e=.returned (.tuple #[v',.bool (M.z6 a X Y E k).isSome])∧uC k (M.z6 a X Y E k) v' w.heap.size w'∧Below w.heap.size w w':=by
 have PA:=fun (p:M.Ax) (h:M.bG a b p.1 p.2.1 p.2.2=true) W=>ll a b p.1 p.2.1 p.2.2 X Y E W hg h hp
 have HT:=M.ju hg hp
 obtain ⟨res,hres⟩:∃ r,M.z6 a X Y E k=r:=⟨_,rfl⟩
 rw [hres];replace hres:=wH hres;replace PA:=wH PA;replace HT:=wH HT
 have hnext:=wH fun (n:Nat) (p:M.Ax) (h:M.z6 a X Y E n=some p)=>M.iE h
 have hnone:=wH fun (n:Nat) (h:M.z6 a X Y E n=none) (hn:n≤k)=>M.fq h k hn
 clear hg hp;obtain ⟨wc,hw3,C,Q,B⟩:=el w #[.int .i64 a,.int .i64 b] 25 #[.int .i64 X,.int .i64 Y,.int .i64 E] 27;have O:=aH.new wc #[.int .i64 0,.int .i64 0,.int .i64 0] 27;have IQ:=B.size;have Mf:=Q.lt;replace B:=B.alloc IQ (.cells #[.int .i64 0,.int .i64 0,.int .i64 0] 27);replace C:=C.alloc (.cells #[.int .i64 0,.int .i64 0,.int .i64 0] 27);replace Q:=Q.alloc (.cells #[.int .i64 0,.int .i64 0,.int .i64 0] 27);have hol:=O.lt;go_enter Tryz.func103,Tryz.ntmps103
 go_wp2;generalize wc.heap.size=ko at *
 go_loopw [8,14] (fun vs vi wq=>∃ (j:Nat) (p:M.Ax) (l:List M.Ax),j≤k∧vi=.int .i64 j∧Hid (M.z6 a X Y E j=some p)∧Hid (l.length=j∧(1≤j→l[j - 1]?=some p))∧Hid (Rw.Own DC wq (ko+1) vs l)∧Below w.heap.size w wq∧aH wq ko 27 #[.int .i64 p.1,.int .i64 p.2.1,.int .i64 p.2.2]∧aH wq w.heap.size 25 #[.int .i64 a,.int .i64 b]∧aH wq (w.heap.size+1) 27 #[.int .i64 X,.int .i64 Y,.int .i64 E]∧ko+1≤wq.heap.size) (fun _ vi _=>k - (intOf vi).toNat)
 case atStart=>exact ⟨0,(0,0,0),[],by omega,rfl,wH rfl,wH ⟨rfl,fun h=>by omega⟩,wH (Rw.Own.nil DC _ _),B,O,C,Q,hol⟩
 case round=>
 clear B O C Q;obtain ⟨j,⟨px,py,pe⟩,l,hj,rfl,ht,hl,hown,B,O,C,Q,hko⟩:=hrel
 by_cases hlt:j<k
 ·have hnx:=hnext.out _ _ ht.out
  have hno:=hnone.out (j+1);replace PA:=PA.out _ (HT.out _ _ ht.out)
  dsimp only at hnx PA O
  generalize M.dq a px py pe X Y E=o3,M.fP a px py pe X Y E=E3,M.fR a px py pe X Y E=Y3,M.fQ a px py pe X Y E=X3 at *;have ⟨c0,c1,_,_,_⟩:=C.box;have ⟨q0,q1,q2⟩:=Q.aK;have ⟨o0,o1,o2⟩:=O.aK;replace PA:=wH PA;clear hnext hnone
  have hie:(j:Int)<(k:Int):=by omega
  cases o3 with
  | false=>
   have hnn:res=none:=hres.out.symm.trans (hno (hnx.trans (if_neg (by decide))) (by omega));subst hnn;clear hno hres hnx ht
   go_wp2_with (go_at_call 87;(with_reducible refine (PA.out _).mono ?_);rintro e w4 ⟨rfl,hb4⟩;have AN:=(d_ B hb4).size;replace B:=(d_ B hb4).alloc AN (.cells #[.int .i64 X3,.int .i64 Y3,.int .i64 E3] 27))
   go_ret2;exact ⟨.slice none 0 0,rfl,⟨[],Rw.Own.nil DC _ _,fun h=>by cases h⟩,B⟩
  | true=>
  replace hnx:=wH (hnx.trans (if_pos rfl));clear hno ht;have hol:=O.lt;obtain ⟨Av,cv,rfl,-,-,-⟩:=hown.out.seen;have hll:=hl.out.1;rw [hll] at hown ⊢;replace hll:=wH hll;clear hl;have A3:=B.size
  go_upto_region 9 with (go_at_call 87;(with_reducible refine (PA.out _).mono ?_);rintro e w4 ⟨rfl,hb4⟩;have AN:=hb4.size;have Nh:=(d_ B hb4).size;replace B:=(d_ B hb4).alloc Nh (.cells #[.int .i64 X3,.int .i64 Y3,.int .i64 E3] 27);replace C:=(C.keep hb4).alloc (.cells #[.int .i64 X3,.int .i64 Y3,.int .i64 E3] 27);replace Q:=(Q.keep hb4).alloc (.cells #[.int .i64 X3,.int .i64 Y3,.int .i64 E3] 27);replace O:=(O.keep hb4).alloc (.cells #[.int .i64 X3,.int .i64 Y3,.int .i64 E3] 27);replace hown:=wH ((hown.out.below hb4).alloc (.cells #[.int .i64 X3,.int .i64 Y3,.int .i64 E3] 27));have V:=aH.new w4 #[.int .i64 X3,.int .i64 Y3,.int .i64 E3] 27;(have ⟨v0,v1,v2⟩:=V.aK);(have ⟨o0,o1,o2,z0,z1,z2⟩:=O.bF))
  have hw4:ko+1≤(w4.alloc (.cells #[.int .i64 X3,.int .i64 Y3,.int .i64 E3] 27)).heap.size:=by rw [wI];omega
  replace B:Below w.heap.size w _:=wJ (wJ (wJ B (p:=⟨ko,0,none⟩) (by dsimp only;omega) (.int .i64 X3)) (p:=⟨ko,1,none⟩) (by dsimp only;omega) (.int .i64 Y3)) (p:=⟨ko,2,none⟩) (by dsimp only;omega) (.int .i64 E3);replace C:=((C.other (k:=ko) (i:=0) (by omega) (.int .i64 X3)).other (k:=ko) (i:=1) (by omega) (.int .i64 Y3)).other (k:=ko) (i:=2) (by omega) (.int .i64 E3);replace Q:=((Q.other (k:=ko) (i:=0) (by omega) (.int .i64 X3)).other (k:=ko) (i:=1) (by omega) (.int .i64 Y3)).other (k:=ko) (i:=2) (by omega) (.int .i64 E3);replace O:=O.qM (.int .i64 X3) (.int .i64 Y3) (.int .i64 E3);replace hown:=wH (((hown.out.lN (k:=ko) (by omega) (i:=0) (.int .i64 X3)).lN (k:=ko) (by omega) (i:=1) (.int .i64 Y3)).lN (k:=ko) (by omega) (i:=2) (.int .i64 E3));clear v0 v1 v2 o0 o1 o2 z0 z1 z2 V c0 c1 q0 q1 q2
  replace hw4:ko+1≤((((w4.alloc (.cells #[.int .i64 X3,.int .i64 Y3,.int .i64 E3] 27)).setCell ⟨ko,0,none⟩ (.int .i64 X3)).setCell ⟨ko,1,none⟩ (.int .i64 Y3)).setCell ⟨ko,2,none⟩ (.int .i64 E3)).heap.size:=by simpa [World.setCell] using hw4
  generalize (((w4.alloc (.cells #[.int .i64 X3,.int .i64 Y3,.int .i64 E3] 27)).setCell ⟨ko,0,none⟩ (.int .i64 X3)).setCell ⟨ko,1,none⟩ (.int .i64 Y3)).setCell ⟨ko,2,none⟩ (.int .i64 E3)=w8 at *;have ⟨o0,o1,o2⟩:=O.aK;have BG:=B.size
  go_wp2_with (at_builtin;refine Rw.mh ni (ko+1) [(X3,Y3,E3)] l _ ⟨_,0,none⟩ 1 1 (by rfl) (by rfl) (.tmp 26) (.tmp 28) (by rfl) (by rfl) (by rfl) (ks X3 Y3 E3 (by simp)) (hown.out.alloc _) (by simp;omega) (by have:=hll.out;simp;omega) ?_;intro v6 w6 hown6 zL E7)
  have BF:=zL.size;rw [wI] at BF
  go_roundw
  case rel=>
   refine ⟨j+1,(X3,Y3,E3),l ++ [(X3,Y3,E3)],by omega,by go_num,hnx,wH ⟨by rw [List.length_append,hll.out];rfl,fun _=>by rw [show j+1 - 1=l.length from by have:=hll.out;omega];simp⟩,wH hown6,?_,(O.alloc _).fI zL ?_,(C.alloc _).fI zL ?_,(Q.alloc _).fI zL ?_,by omega⟩
   ·exact Below.grown (B.alloc BG _) zL (by rw [wI];omega) fun k hk=>by have:=(hown.out.lt k hk).1;omega
   all_goals exact fun k hk=>by have:=(hown.out.lt k hk).1;omega
  case measure=>simp [intOf];omega
 obtain rfl:j=k:=by omega
 obtain rfl:res=some (px,py,pe):=hres.out.symm.trans ht.out;obtain ⟨Av,cv,rfl,-,-,-⟩:=hown.out.seen;go_wp2;go_ret2;exact ⟨_,rfl,⟨l,hown.out.down (by omega),fun _=>hl.out⟩,B⟩
theorem df (a b X Y E n:Int) (w:World) :
  Calls Tryz.prog 39 #[.agg #[.int .i64 a,.int .i64 b],.agg #[.int .i64 X,.int .i64 Y,.int .i64 E],.int .i64 n] w fun e w'=>e=.returned (.tuple #[.agg #[.int .i64 (M.pX (M.Cz a b X Y E n)),.int .i64 (M.pY (M.Cz a b X Y E n)),.int .i64 (M.pE (M.Cz a b X Y E n))],.bool (M.Cz a b X Y E n).isSome])∧Below w.heap.size w w':=by
 have PT:∀ W,Calls Tryz.prog 62 #[.agg #[.int .i64 a,.int .i64 b],.agg #[.int .i64 X,.int .i64 Y,.int .i64 E]] W fun e w'=>e=.returned (.bool (M.bW a b X Y E))∧Below W.heap.size W w':=fun W=>cX a b X Y E W
 have PN:∀ W,Calls Tryz.prog 78 #[.int .i64 n,.int .i64 (-12),.int .i64 12] W fun e w'=>e=.returned (.bool (M.ins n (-12) 12))∧W=w':=fun W=>ch n (-12) 12 W
 unfold M.Cz;obtain ⟨wc,hw3,C,Q,R,B⟩:=eJ w #[.int .i64 a,.int .i64 b] 25 #[.int .i64 X,.int .i64 Y,.int .i64 E] 27 #[.int .i64 0,.int .i64 0,.int .i64 0] 27;have f_:=C.box.c0;have g_:=C.box.c1;have ⟨q0,q1,q2,y0,y1,y2⟩:=Q.bF
 have zQ:w.heap.size+1≠w.heap.size+1+1:=by omega
 cases h0:M.bW a b X Y E with
 | false=>
  simp only [h0,Bool.true_and,Bool.false_and,Bool.and_false] at PT PN ⊢;replace PT:=wH PT;replace PN:=wH PN;rw [if_neg (by decide)];go_enter Tryz.func39,Tryz.ntmps39
  go_wp2_with (first | (go_at_call 62;(with_reducible refine (PT.out _).mono ?_);rintro e w4 ⟨rfl,hb4⟩;replace B:=d_ B hb4;replace C:=C.keep hb4;replace Q:=Q.keep hb4;replace R:=R.keep hb4;have f_:=C.box.c0;have g_:=C.box.c1;(have ⟨q0,q1,q2,y0,y1,y2⟩:=Q.bF);(have ⟨r0,r1,r2,z0,z1,z2⟩:=R.bF)) | (go_at_call 78;(with_reducible refine (PN.out _).mono ?_);rintro e w5 ⟨rfl,rfl⟩))
  exact bodyPost_ret (v:=.tuple #[.agg #[.int .i64 0,.int .i64 0,.int .i64 0],.bool false]) (by simp [results,Tryz.results39,go_sem, *]) rfl (⟨rfl,wJ (wJ (wJ B (by dsimp only;omega) _) (by dsimp only;omega) _) (by dsimp only;omega) _⟩)
 | true=>
 cases h1:M.ins n (-12) 12 with
 | false=>
  simp only [h0,h1,Bool.true_and,Bool.false_and,Bool.and_false] at PT PN ⊢;replace PT:=wH PT;replace PN:=wH PN;rw [if_neg (by decide)];go_enter Tryz.func39,Tryz.ntmps39
  go_wp2_with (first | (go_at_call 62;(with_reducible refine (PT.out _).mono ?_);rintro e w4 ⟨rfl,hb4⟩;replace B:=d_ B hb4;replace C:=C.keep hb4;replace Q:=Q.keep hb4;replace R:=R.keep hb4;have f_:=C.box.c0;have g_:=C.box.c1;(have ⟨q0,q1,q2,y0,y1,y2⟩:=Q.bF);(have ⟨r0,r1,r2,z0,z1,z2⟩:=R.bF)) | (go_at_call 78;(with_reducible refine (PN.out _).mono ?_);rintro e w5 ⟨rfl,rfl⟩))
  exact bodyPost_ret (v:=.tuple #[.agg #[.int .i64 0,.int .i64 0,.int .i64 0],.bool false]) (by simp [results,Tryz.results39,go_sem, *]) rfl (⟨rfl,wJ (wJ (wJ B (by dsimp only;omega) _) (by dsimp only;omega) _) (by dsimp only;omega) _⟩)
 | true=>
 simp only [h0,h1,Bool.and_self] at PT PN ⊢;rw [if_pos trivial];obtain ⟨hg,hp⟩:=M.bP h0;obtain ⟨n1,n2⟩:=M.cO.1 h1;replace PT:=wH PT;replace PN:=wH PN;clear h0 h1
 have PP:=fun W=>iZ a b X Y E n W hg hp (by omega) (by omega)
 generalize (M.gT a X Y E n).isSome=ok,M.pE (M.gT a X Y E n)=x3,M.pY (M.gT a X Y E n)=x2,M.pX (M.gT a X Y E n)=x1 at *;replace PP:=wH PP;clear hg hp;go_enter Tryz.func39,Tryz.ntmps39
 go_wp2_with (first | (go_at_call 62;(with_reducible refine (PT.out _).mono ?_);rintro e w4 ⟨rfl,hb4⟩;replace B:=d_ B hb4;replace C:=C.keep hb4;replace Q:=Q.keep hb4;replace R:=R.keep hb4;have f_:=C.box.c0;have g_:=C.box.c1;(have ⟨q0,q1,q2,y0,y1,y2⟩:=Q.bF);(have ⟨r0,r1,r2,z0,z1,z2⟩:=R.bF)) | (go_at_call 78;(with_reducible refine (PN.out _).mono ?_);rintro e w5 ⟨rfl,rfl⟩) | (go_at_call 104;(with_reducible refine (PP.out _).mono ?_);rintro e w6 ⟨rfl,hb6⟩;replace B:=d_ B hb6;replace C:=C.keep hb6;replace Q:=Q.keep hb6;replace R:=R.keep hb6;have f_:=C.box.c0;have g_:=C.box.c1;(have ⟨q0,q1,q2,y0,y1,y2⟩:=Q.bF);(have ⟨r0,r1,r2,z0,z1,z2⟩:=R.bF)))
 exact bodyPost_ret (v:=.tuple #[.agg #[.int .i64 x1,.int .i64 x2,.int .i64 x3],.bool ok]) (by simp [results,Tryz.results39,go_sem, *]) rfl (⟨rfl,wJ (wJ (wJ B (by dsimp only;omega) _) (by dsimp only;omega) _) (by dsimp only;omega) _⟩)
theorem gD (a b X Y E n:Int) (w:World) :
  Calls Tryz.prog 38 #[.agg #[.int .i64 a,.int .i64 b],.agg #[.int .i64 X,.int .i64 Y,.int .i64 E],.int .i64 n] w fun e w'=>e=.returned (.tuple #[.agg #[.int .i64 (M.pX (M.Cz a b X Y E n)),.int .i64 (M.pY (M.Cz a b X Y E n)),.int .i64 (M.pE (M.Cz a b X Y E n))],.bool (M.Cz a b X Y E n).isSome])∧Below w.heap.size w w':=by
 have PT:∀ W,Calls Tryz.prog 55 #[.agg #[.int .i64 a,.int .i64 b],.agg #[.int .i64 X,.int .i64 Y,.int .i64 E]] W fun e w'=>e=.returned (.bool (M.bW a b X Y E))∧Below W.heap.size W w':=fun W=>dL a b X Y E W
 have PN:∀ W,Calls Tryz.prog 56 #[.int .i64 n,.int .i64 (-12),.int .i64 12] W fun e w'=>e=.returned (.bool (M.ins n (-12) 12))∧W=w':=fun W=>cK n (-12) 12 W
 unfold M.Cz;obtain ⟨wc,hw3,C,Q,R,B⟩:=eJ w #[.int .i64 a,.int .i64 b] 25 #[.int .i64 X,.int .i64 Y,.int .i64 E] 27 #[.int .i64 0,.int .i64 0,.int .i64 0] 27;have f_:=C.box.c0;have g_:=C.box.c1;have ⟨q0,q1,q2,y0,y1,y2⟩:=Q.bF
 have zQ:w.heap.size+1≠w.heap.size+1+1:=by omega
 cases h0:M.bW a b X Y E with
 | false=>
  simp only [h0,Bool.true_and,Bool.false_and,Bool.and_false] at PT PN ⊢;replace PT:=wH PT;replace PN:=wH PN;rw [if_neg (by decide)];go_enter Tryz.func38,Tryz.ntmps38
  go_wp2_with (first | (go_at_call 55;(with_reducible refine (PT.out _).mono ?_);rintro e w4 ⟨rfl,hb4⟩;replace B:=d_ B hb4;replace C:=C.keep hb4;replace Q:=Q.keep hb4;replace R:=R.keep hb4;have f_:=C.box.c0;have g_:=C.box.c1;(have ⟨q0,q1,q2,y0,y1,y2⟩:=Q.bF);(have ⟨r0,r1,r2,z0,z1,z2⟩:=R.bF)) | (go_at_call 56;(with_reducible refine (PN.out _).mono ?_);rintro e w5 ⟨rfl,rfl⟩))
  exact bodyPost_ret (v:=.tuple #[.agg #[.int .i64 0,.int .i64 0,.int .i64 0],.bool false]) (by simp [results,Tryz.results38,go_sem, *]) rfl (⟨rfl,wJ (wJ (wJ B (by dsimp only;omega) _) (by dsimp only;omega) _) (by dsimp only;omega) _⟩)
 | true=>
 cases h1:M.ins n (-12) 12 with
 | false=>
  simp only [h0,h1,Bool.true_and,Bool.false_and,Bool.and_false] at PT PN ⊢;replace PT:=wH PT;replace PN:=wH PN;rw [if_neg (by decide)];go_enter Tryz.func38,Tryz.ntmps38
  go_wp2_with (first | (go_at_call 55;(with_reducible refine (PT.out _).mono ?_);rintro e w4 ⟨rfl,hb4⟩;replace B:=d_ B hb4;replace C:=C.keep hb4;replace Q:=Q.keep hb4;replace R:=R.keep hb4;have f_:=C.box.c0;have g_:=C.box.c1;(have ⟨q0,q1,q2,y0,y1,y2⟩:=Q.bF);(have ⟨r0,r1,r2,z0,z1,z2⟩:=R.bF)) | (go_at_call 56;(with_reducible refine (PN.out _).mono ?_);rintro e w5 ⟨rfl,rfl⟩))
  exact bodyPost_ret (v:=.tuple #[.agg #[.int .i64 0,.int .i64 0,.int .i64 0],.bool false]) (by simp [results,Tryz.results38,go_sem, *]) rfl (⟨rfl,wJ (wJ (wJ B (by dsimp only;omega) _) (by dsimp only;omega) _) (by dsimp only;omega) _⟩)
 | true=>
 simp only [h0,h1,Bool.and_self] at PT PN ⊢;rw [if_pos trivial];obtain ⟨hg,hp⟩:=M.bP h0;obtain ⟨n1,n2⟩:=M.cO.1 h1;replace PT:=wH PT;replace PN:=wH PN;clear h0 h1;obtain ⟨-,-,-,-,Bg,Cf⟩:=M.be (M.ag hg) hp
 obtain ⟨k,hk⟩:∃ k:Nat,k=n.natAbs:=⟨_,rfl⟩
 obtain ⟨Z,hZ⟩:∃ Z,Z=M.EO n Y:=⟨_,rfl⟩
 have hpz:M.bG a b X Z E=true:=by
  rw [hZ];unfold M.EO
  split
  ·exact M.mf hp
  exact hp
 have Mr:k≤12:=by omega
 have PM:=fun W=>mZ a b X Z E k W hg hpz Mr
 have hr:M.gT a X Y E n=M.z6 a X Z E k:=by unfold M.gT;rw [←hZ,←hk]
 rw [hr]
 have ht0:k=0→M.z6 a X Z E k=some (0,0,0):=fun h=>by rw [h];rfl
 generalize M.z6 a X Z E k=tk at *;replace PM:=wH PM;replace ht0:=wH ht0
 have PO:=fun W=>jq X Y E W (by omega) (by omega)
 clear hr hg hp hpz
 by_cases hneg:n<0
 ·have hkn:-n=(k:Int):=by omega
  have JT:-Y=Z:=by rw [hZ];unfold M.EO;exact (if_pos hneg).symm
  rw [JT] at PO
  have hk1:1≤k:=by omega
  have hkz:((k:Int) == 0)=false:=by simpa using (show ¬ (k:Int)=0 by omega)
  replace PO:=wH PO;clear hZ JT hk;go_enter Tryz.func38,Tryz.ntmps38
  go_upto_region 5 with (first | (go_at_call 55;(with_reducible refine (PT.out _).mono ?_);rintro e w4 ⟨rfl,hb4⟩;replace B:=d_ B hb4;replace C:=C.keep hb4;replace Q:=Q.keep hb4;replace R:=R.keep hb4;have f_:=C.box.c0;have g_:=C.box.c1;(have ⟨q0,q1,q2,y0,y1,y2⟩:=Q.bF);(have ⟨r0,r1,r2,z0,z1,z2⟩:=R.bF)) | (go_at_call 56;(with_reducible refine (PN.out _).mono ?_);rintro e w5 ⟨rfl,rfl⟩) | (go_at_call 88;(with_reducible refine (PO.out _).mono ?_);rintro e w6 ⟨rfl,hb6⟩;replace B:=d_ B hb6;replace C:=C.keep hb6;replace Q:=Q.keep hb6;replace R:=R.keep hb6;have f_:=C.box.c0;have g_:=C.box.c1;(have ⟨q0,q1,q2,y0,y1,y2⟩:=Q.bF);(have ⟨r0,r1,r2,z0,z1,z2⟩:=R.bF)))
  replace B:Below w.heap.size w _:=wJ (wJ (wJ B (p:=⟨w.heap.size+1,0,none⟩) (by dsimp only;omega) (.int .i64 X)) (p:=⟨w.heap.size+1,1,none⟩) (by dsimp only;omega) (.int .i64 Z)) (p:=⟨w.heap.size+1,2,none⟩) (by dsimp only;omega) (.int .i64 E);replace C:=((C.other (k:=w.heap.size+1) (i:=0) (by omega) (.int .i64 X)).other (k:=w.heap.size+1) (i:=1) (by omega) (.int .i64 Z)).other (k:=w.heap.size+1) (i:=2) (by omega) (.int .i64 E);replace R:=((R.other (k:=w.heap.size+1) (i:=0) (by omega) (.int .i64 X)).other (k:=w.heap.size+1) (i:=1) (by omega) (.int .i64 Z)).other (k:=w.heap.size+1) (i:=2) (by omega) (.int .i64 E);replace Q:=Q.qM (.int .i64 X) (.int .i64 Z) (.int .i64 E);clear f_ g_ q0 q1 q2 y0 y1 y2 r0 r1 r2 z0 z1 z2;generalize ((w6.setCell ⟨w.heap.size+1,0,none⟩ (.int .i64 X)).setCell ⟨w.heap.size+1,1,none⟩ (.int .i64 Z)).setCell ⟨w.heap.size+1,2,none⟩ (.int .i64 E)=w8 at *
  try rw [hkn]
  have f_:=C.box.c0;have g_:=C.box.c1;have ⟨q0,q1,q2⟩:=Q.aK
  cases tk with
  | none=>
   go_upto_region 6 with (go_at_call 103;(refine (PM.out _).mono ?_);rintro e w9 ⟨v9,rfl,hM,wb⟩;replace B:=d_ B wb;replace R:=R.keep wb;(have ⟨r0,r1,r2,z0,z1,z2⟩:=R.bF))
   obtain ⟨l,hown,-⟩:=hM;obtain ⟨A9,c9,rfl,-,-,-⟩:=hown.seen;go_wp2;exact bodyPost_ret (v:=.tuple #[.agg #[.int .i64 0,.int .i64 0,.int .i64 0],.bool false]) (by simp [results,Tryz.results38,go_sem, *]) rfl (⟨rfl,wJ (wJ (wJ B (by dsimp only;omega) _) (by dsimp only;omega) _) (by dsimp only;omega) _⟩)
  | some p=>
  obtain ⟨px,py,pe⟩:=p
  go_upto_region 6 with (go_at_call 103;(refine (PM.out _).mono ?_);rintro e w9 ⟨v9,rfl,hM,wb⟩;replace B:=d_ B wb;replace R:=R.keep wb;(have ⟨r0,r1,r2,z0,z1,z2⟩:=R.bF))
  obtain ⟨l,hown,hl⟩:=hM;obtain ⟨hl1,hl2⟩:=hl rfl;have hpv:=hown.seen.Jm;obtain ⟨A9,c9,rfl,hA⟩:=hpv;rw [hl1]
  by_cases hk0:k=0
  ·exact absurd hk0 (by omega)
  have hkb:((k:Int) == 0)=false:=by simpa using (show ¬ (k:Int)=0 by omega)
  have hg:=hl2 (by omega)
  obtain ⟨g,rfl,hpa⟩:∃ g,A9=some ⟨g,0,none⟩∧ij w9 g l:=by
   rcases hA with h | h
   ·rw [h] at hg;simp at hg
   exact h
  obtain ⟨d0,d1,d2⟩:=hpa _ _ hg
  obtain ⟨j,rfl⟩:∃ j,k=j+1:=⟨k - 1,by omega⟩
  rw [show j+1 - 1=j from rfl] at d0 d1 d2
  have hje:((j+1:Nat):Int) - 1=(j:Int):=by omega
  have hjl:(j:Int)<((j+1:Nat):Int):=by omega
  have Mq:j<j+1:=by omega
  dsimp only at d0 d1 d2
  clear hl2 hA hown hl1 hg hpa;go_wp2;exact bodyPost_ret (v:=.tuple #[.agg #[.int .i64 px,.int .i64 py,.int .i64 pe],.bool true]) (by simp [results,Tryz.results38,go_sem, *]) rfl (⟨rfl,wJ (wJ (wJ B (by dsimp only;omega) _) (by dsimp only;omega) _) (by dsimp only;omega) _⟩)
 have hkn:n=(k:Int):=by omega
 have JT:Z=Y:=by rw [hZ];unfold M.EO;exact if_neg hneg
 subst JT hkn;clear hZ hk PO;go_enter Tryz.func38,Tryz.ntmps38
 go_upto_region 5 with (first | (go_at_call 55;(with_reducible refine (PT.out _).mono ?_);rintro e w4 ⟨rfl,hb4⟩;replace B:=d_ B hb4;replace C:=C.keep hb4;replace Q:=Q.keep hb4;replace R:=R.keep hb4;have f_:=C.box.c0;have g_:=C.box.c1;(have ⟨q0,q1,q2,y0,y1,y2⟩:=Q.bF);(have ⟨r0,r1,r2,z0,z1,z2⟩:=R.bF)) | (go_at_call 56;(with_reducible refine (PN.out _).mono ?_);rintro e w5 ⟨rfl,rfl⟩))
 clear f_ g_ q0 q1 q2 y0 y1 y2 r0 r1 r2 z0 z1 z2;have f_:=C.box.c0;have g_:=C.box.c1;have ⟨q0,q1,q2⟩:=Q.aK
 cases tk with
 | none=>
  go_upto_region 6 with (go_at_call 103;(refine (PM.out _).mono ?_);rintro e w9 ⟨v9,rfl,hM,wb⟩;replace B:=d_ B wb;replace R:=R.keep wb;(have ⟨r0,r1,r2,z0,z1,z2⟩:=R.bF))
  obtain ⟨l,hown,-⟩:=hM;obtain ⟨A9,c9,rfl,-,-,-⟩:=hown.seen;go_wp2;exact bodyPost_ret (v:=.tuple #[.agg #[.int .i64 0,.int .i64 0,.int .i64 0],.bool false]) (by simp [results,Tryz.results38,go_sem, *]) rfl (⟨rfl,wJ (wJ (wJ B (by dsimp only;omega) _) (by dsimp only;omega) _) (by dsimp only;omega) _⟩)
 | some p=>
 obtain ⟨px,py,pe⟩:=p
 go_upto_region 6 with (go_at_call 103;(refine (PM.out _).mono ?_);rintro e w9 ⟨v9,rfl,hM,wb⟩;replace B:=d_ B wb;replace R:=R.keep wb;(have ⟨r0,r1,r2,z0,z1,z2⟩:=R.bF))
 obtain ⟨l,hown,hl⟩:=hM;obtain ⟨hl1,hl2⟩:=hl rfl;have hpv:=hown.seen.Jm;obtain ⟨A9,c9,rfl,hA⟩:=hpv;rw [hl1]
 by_cases hk0:k=0
 ·have hp0:=ht0.out hk0
  cases hp0
  have hkb:((k:Int) == 0)=true:=by simpa using (show (k:Int)=0 by omega)
  clear hl2 hA hown hl1;go_wp2;exact bodyPost_ret (v:=.tuple #[.agg #[.int .i64 0,.int .i64 0,.int .i64 0],.bool true]) (by simp [results,Tryz.results38,go_sem, *]) rfl (⟨rfl,wJ (wJ (wJ B (by dsimp only;omega) _) (by dsimp only;omega) _) (by dsimp only;omega) _⟩)
 have hkb:((k:Int) == 0)=false:=by simpa using (show ¬ (k:Int)=0 by omega)
 have hg:=hl2 (by omega)
 obtain ⟨g,rfl,hpa⟩:∃ g,A9=some ⟨g,0,none⟩∧ij w9 g l:=by
  rcases hA with h | h
  ·rw [h] at hg;simp at hg
  exact h
 obtain ⟨d0,d1,d2⟩:=hpa _ _ hg
 obtain ⟨j,rfl⟩:∃ j,k=j+1:=⟨k - 1,by omega⟩
 rw [show j+1 - 1=j from rfl] at d0 d1 d2
 have hje:((j+1:Nat):Int) - 1=(j:Int):=by omega
 have hjl:(j:Int)<((j+1:Nat):Int):=by omega
 have Mq:j<j+1:=by omega
 dsimp only at d0 d1 d2
 clear hl2 hA hown hl1 hg hpa;go_wp2;exact bodyPost_ret (v:=.tuple #[.agg #[.int .i64 px,.int .i64 py,.int .i64 pe],.bool true]) (by simp [results,Tryz.results38,go_sem, *]) rfl (⟨rfl,wJ (wJ (wJ B (by dsimp only;omega) _) (by dsimp only;omega) _) (by dsimp only;omega) _⟩)
def dG (W:World) (a b X Z:Int) (xs:List dC) (k:Nat):Prop:=
 ∀ i,i<k→∃ (x z:Int) (q:dC),M.run a b i (.val X Z)=.val x z∧xs[i]?=some q∧Wh.sz x 1000∧Wh.sz z 1000∧q.1=decide (x<0)∧q.2.2.1=decide (z<0)∧aF W 0 (.slice q.2.1.1 q.2.1.2.1 q.2.1.2.2) (Wh.a_ x.natAbs)∧aF W 0 (.slice q.2.2.2.1 q.2.2.2.2.1 q.2.2.2.2.2) (Wh.a_ z.natAbs)
theorem dG.zero (W:World) (a b X Z:Int) (xs:List dC):dG W a b X Z xs 0:=fun i hi=>by omega
theorem dG.below {W W':World} {a b X Z:Int} {xs:List dC} {k:Nat} (h:dG W a b X Z xs k) (hb:Below W.heap.size W W'):dG W' a b X Z xs k:=fun i hi=>by
 obtain ⟨x,z,q,h1,h2,h3,h4,h5,h6,h7,h8⟩:=h i hi;exact ⟨x,z,q,h1,h2,h3,h4,h5,h6,aF.below h7 hb,aF.below h8 hb⟩
theorem dG.push {W W':World} {a b X Z:Int} {xs ys xs':List dC} {k b2:Nat} {v:Value} (h:dG W a b X Z xs k) (ho:Rw.Own ER W b2 v xs') (hg:W.grownBy W' v.ownBlock):dG W' a b X Z (xs ++ ys) k:=fun i hi=>by
 obtain ⟨x,z,q,h1,h2,h3,h4,h5,h6,h7,h8⟩:=h i hi;exact ⟨x,z,q,h1,by rw [List.getElem?_append_left (List.getElem?_eq_some_iff.1 h2).1];exact h2,h3,h4,h5,h6,aF.fu h7 ho hg,aF.fu h8 ho hg⟩
theorem dG.next {W:World} {a b X Z x z:Int} {xs:List dC} {k:Nat} {q:dC} (h:dG W a b X Z xs k) (h1:M.run a b k (.val X Z)=.val x z) (h2:xs[k]?=some q) (h3:Wh.sz x 1000) (h4:Wh.sz z 1000) (h5:q.1=decide (x<0)) (h6:q.2.2.1=decide (z<0)) (h7:aF W 0 (.slice q.2.1.1 q.2.1.2.1 q.2.1.2.2) (Wh.a_ x.natAbs)) (h8:aF W 0 (.slice q.2.2.2.1 q.2.2.2.2.1 q.2.2.2.2.2) (Wh.a_ z.natAbs)):dG W a b X Z xs (k+1):=fun i hi=>by
 by_cases e:i=k
 ·subst e;exact ⟨x,z,q,h1,h2,h3,h4,h5,h6,h7,h8⟩
 exact h i (by omega)
def uE (W:World) (a b X Z:Int) (n:Nat) (o:M.Out) (v:Value) (en:Bool):Prop:=match o with
 | .inf=>en=true∧∃ A l c,v=.slice A l c
 | .bad=>en=false∧∃ A l c,v=.slice A l c∧l≤n
 | .val _ _=>en=false∧∃ (g cap:Nat) (xs:List dC),v=.slice (some ⟨g,0,none⟩) (n+1) cap∧xs.length=n+1∧(∀ (i:Nat) (q:dC),xs[i]?=some q→∀ (j:Nat) (u:Value),(ER.cells q)[j]?=some u→j<4→W.cell? ⟨g,i*4+j,none⟩=some u)∧dG W a b X Z xs (n+1)
theorem jz (a b X Y E:Int) (n:Nat) (w:World) (hg:M.good a b=true) (hX1:-10000≤X) (hX2:X≤10000) (hE1:0≤E) (hE2:E≤20) (hn:n≤5) :
  Calls Tryz.prog 106 #[.agg #[.int .i64 a,.int .i64 b],.agg #[.int .i64 X,.int .i64 Y,.int .i64 E],.int .i64 (n:Int)] w fun e w'=>∃ v,∃ en:Bool,e=.returned (.tuple #[v,.bool en])∧uE w' a b X (E*E) n (M.aX a b X E n) v en∧Below w.heap.size w w':=by
 have C:=(aH.new w #[.int .i64 a,.int .i64 b] 25).alloc (.cells #[.int .i64 X,.int .i64 Y,.int .i64 E] 27)
 have Q:=(aH.new (w.alloc (.cells #[.int .i64 a,.int .i64 b] 25)) #[.int .i64 X,.int .i64 Y,.int .i64 E] 27)
 rw [wI] at Q;have B:=((wK w.heap.size w).alloc (wL _) (.cells #[.int .i64 a,.int .i64 b] 25)).alloc (by rw [wI];omega) (.cells #[.int .i64 X,.int .i64 Y,.int .i64 E] 27)
 have BG:w.heap.size+2≤((w.alloc (.cells #[.int .i64 a,.int .i64 b] 25)).alloc (.cells #[.int .i64 X,.int .i64 Y,.int .i64 E] 27)).heap.size:=by rw [wI,wI];omega
 generalize hw3:(w.alloc (.cells #[.int .i64 a,.int .i64 b] 25)).alloc (.cells #[.int .i64 X,.int .i64 Y,.int .i64 E] 27)=wc at *;have ⟨q0,q1,q2⟩:=Q.aK;have f_:=C.box.c0;have g_:=C.box.c1
 by_cases h0:E=0
 ·subst h0
  have hz0:=wH (show M.aX a b X 0 n=.inf from rfl);go_enter Tryz.func106,Tryz.ntmps106
  go_wp2;exact bodyPost_ret (v:=.tuple #[.slice none 0 0,.bool true]) (by simp [results,Tryz.results106,go_sem, *]) rfl (⟨_,_,rfl,(by rw [hz0.out];exact ⟨rfl,_,_,_,rfl⟩),B⟩)
 have hE:1≤E:=by omega
 have Fd:1≤E*E∧E*E≤400:=⟨by have:=Int.mul_le_mul hE hE (by omega) (by omega);omega,by have:=Int.mul_le_mul hE2 hE2 (by omega) (by omega);omega⟩
 have hE0:(E == 0)=false:=by rw [beq_eq_false_iff_ne];exact h0
 have hout:=wH (show M.aX a b X E n=M.run a b n (.val X (E*E)) from if_neg h0);clear h0;obtain ⟨e1,e2⟩:=Fd
 have P1:=fun W=>oK X (E*E) W (by omega) (by omega) (by omega) (by omega)
 have zX:Wh.sz X 1000:=Wh.aN (Wh.bc (by omega) (by omega)) (by omega);have zE:Wh.sz (E*E) 1000:=Wh.aN (Wh.bc (by omega) (by omega)) (by omega);have zX:=wH zX;have zE:=wH zE
 have hb2:-10000≤b∧b≤10000:=⟨(M.an (M.ag hg)).2.2.1,(M.an (M.ag hg)).2.2.2⟩
 have ha2:-1000≤a∧a≤1000:=⟨(M.an (M.ag hg)).1,(M.an (M.ag hg)).2.1⟩
 obtain ⟨hb1,hb2⟩:=hb2;obtain ⟨ha1,ha2⟩:=ha2;have hg:=wH hg
 have PG:=wH fun (x z:Int) (s r:Bool) v v' W k k' (h1:aF W k v (Wh.a_ x.natAbs)) (h2:aF W k' v' (Wh.a_ z.natAbs)) (hx:Wh.sz x 1000) (hz:Wh.sz z 1000) (hs:s=decide (x<0)) (hr:r=decide (z<0))=>(hs ▸ hr ▸ gU a b x z v v' W k k' h1 h2 hx hz ha1 ha2 hb1 hb2:Calls Tryz.prog 157 #[.agg #[.int .i64 a,.int .i64 b],.agg #[.bool s,v,.bool r,v']] W fun e w'=>∃ sl,e=.returned (.agg #[.bool (decide (Wh.am a b x z<0)),sl])∧ak w' W.heap.size sl (Wh.am a b x z)∧Below W.heap.size W w')
 have PD:=wH fun (x z:Int) (s r:Bool) v v' W k k' (h1:aF W k v (Wh.a_ x.natAbs)) (h2:aF W k' v' (Wh.a_ z.natAbs)) (hx:Wh.sz x 1000) (hz:Wh.sz z 1000) (hs:s=decide (x<0)) (hr:r=decide (z<0))=>(hs ▸ hr ▸ jy a b x z v v' W k k' hg.out h1 h2 hx hz:Calls Tryz.prog 158 #[.agg #[.int .i64 a,.int .i64 b],.agg #[.bool s,v,.bool r,v']] W fun e w'=>∃ v1 v2,e=.returned (.tuple #[.agg #[.bool (decide (Wh.AE (M.ae a b) (Wh.aw a b x z) (Wh.am a b x z)<0)),v1,.bool (decide (Wh.AF (M.ae a b) (Wh.aw a b x z) (Wh.am a b x z)<0)),v2],.bool (Wh.dU (M.ae a b) (Wh.aw a b x z) (Wh.am a b x z))])∧ak w' W.heap.size v1 (Wh.AE (M.ae a b) (Wh.aw a b x z) (Wh.am a b x z))∧ak w' W.heap.size v2 (Wh.AF (M.ae a b) (Wh.aw a b x z) (Wh.am a b x z))∧Below W.heap.size W w')
 clear ha1 ha2 hb1 hb2
 have IF:=fun q A L C W=>ft q A L C W
 have Ao:=wH (show M.run a b 0 (.val X (E*E))=.val X (E*E) from rfl);generalize hZ:E*E=Z at *;replace hZ:=wH hZ;generalize hs1:decide (X<0)=s1 at *;generalize hs2:decide (Z<0)=s2 at *;replace hs1:=wH hs1.symm;replace hs2:=wH hs2.symm;have P1:=wH P1;have hQ:=wH Q;have Mi:=hZ.out;go_enter Tryz.func106,Tryz.ntmps106
 go_wp2_with (go_at_call 113;(with_reducible refine (P1.out _).mono ?_);rintro e w4 ⟨v4,u4,rfl,xF,FE,hb4⟩;obtain ⟨a4,c4,rfl,xD,wS⟩:=aF.view xF;clear xD wS;obtain ⟨b4,d4,rfl,xD,wS⟩:=aF.view FE;clear xD wS;(generalize (Wh.a_ X.natAbs).length=l4 at *);(generalize (Wh.a_ Z.natAbs).length=m4 at *);replace C:=C.keep hb4;replace B:=d_ B hb4;(replace ⟨f_,g_⟩:=C.b2))
 have AN:w.heap.size+2≤w4.heap.size:=Nat.le_trans BG hb4.size;have L:=Rw.Own.ug ER ((s1,(a4,l4,c4),s2,(b4,m4,d4)):dC) w4 (w.heap.size+2) AN;have ox:=aF.base (aF.alloc (show aF _ _ _ _ from xF) (.cells #[.bool s1,.slice a4 l4 c4,.bool s2,.slice b4 m4 d4] 127)) (Nat.zero_le _);have oz:=aF.base (aF.alloc (show aF _ _ _ _ from FE) (.cells #[.bool s1,.slice a4 l4 c4,.bool s2,.slice b4 m4 d4] 127)) (Nat.zero_le _);have C2:=C.alloc (.cells #[.bool s1,.slice a4 l4 c4,.bool s2,.slice b4 m4 d4] 127);have B2:=B.alloc B.size (.cells #[.bool s1,.slice a4 l4 c4,.bool s2,.slice b4 m4 d4] 127);have L:=wH L;have ox:=wH ox;have oz:=wH oz;clear xF FE C B f_ g_ q0 q1 q2 Q hQ hb4 P1 BG Mi
 go_loopw [2,8] (fun vi vl wr=>∃ (k:Nat) (x z:Int) (xs:List dC) (q:dC),k≤n∧vi=.int .i64 ((n - k:Nat):Int)∧Hid (M.run a b k (.val X Z)=.val x z)∧Rw.Own ER wr (w.heap.size+2) vl xs∧Hid (xs.length=k+1)∧Hid (xs[k]?=some q)∧aF wr 0 (.slice q.2.1.1 q.2.1.2.1 q.2.1.2.2) (Wh.a_ x.natAbs)∧aF wr 0 (.slice q.2.2.2.1 q.2.2.2.2.1 q.2.2.2.2.2) (Wh.a_ z.natAbs)∧Hid (q.1=decide (x<0))∧Hid (q.2.2.1=decide (z<0))∧Hid (dG wr a b X Z xs k)∧Wh.sz x 1000∧Wh.sz z 1000∧aH wr w.heap.size 25 #[.int .i64 a,.int .i64 b]∧Below w.heap.size w wr∧w.heap.size+2≤wr.heap.size) (fun vi _ _=>(intOf vi).toNat)
 case atStart=>exact ⟨0,X,Z,[((s1,(a4,l4,c4),s2,(b4,m4,d4)):dC)],((s1,(a4,l4,c4),s2,(b4,m4,d4)):dC),Nat.zero_le _,rfl,Ao,L.out,wH rfl,wH rfl,ox.out,oz.out,hs1,hs2,wH (dG.zero _ _ _ _ _ _),zX.out,zE.out,C2,B2,by rw [wI];omega⟩
 case round=>
 clear L ox oz C2 B2 Ao hs1 hs2 zX zE AN;obtain ⟨k,x,z,xs,q,hk,rfl,hrun,L,hlen,hq,ox,oz,hs,hr,al,zx,zz,C,B,hz⟩:=hrel;obtain ⟨s,⟨av,lv,cv⟩,r,⟨bv,mv,dv⟩⟩:=q
 dsimp only at ox oz hs hr
 rcases L.forms with ⟨rfl,rfl⟩ | ⟨g,cap,rfl,hg1,hg2,hcp1,hcp2⟩
 ·exact absurd hlen.out (by simp)
 have hcl:=fun i u (hu:(ER.cells (s,(av,lv,cv),r,(bv,mv,dv)))[i]?=some u) (hi:i<4)=>Rw.Own.cellAt rfl L (k*4+i) u ((Rw.flat_get ER xs k i _ hq.out hi).trans hu)
 have Ew:wr.cell? ⟨g,k*4,none⟩=some (.bool s):=(hcl 0 _ rfl (by omega)).1;have Ex:wr.cell? ⟨g,k*4+1,none⟩=some (.slice av lv cv):=(hcl 1 _ rfl (by omega)).1;have Ey:wr.cell? ⟨g,k*4+2,none⟩=some (.bool r):=(hcl 2 _ rfl (by omega)).1;have Ez:wr.cell? ⟨g,k*4+3,none⟩=some (.slice bv mv dv):=(hcl 3 _ rfl (by omega)).1;clear hcl
 have hall:∀ (i:Nat) (q:dC),xs[i]?=some q→∀ (j:Nat) (u:Value),(ER.cells q)[j]?=some u→j<4→wr.cell? ⟨g,i*4+j,none⟩=some u:=fun i q hq j u hu hi=>(Rw.Own.cellAt rfl L (i*4+j) u ((Rw.flat_get ER xs i j _ hq hi).trans hu)).1
 replace hall:=wH hall;have hlen1:=hlen.out;rw [hlen1] at hcp1 L ⊢;have ox:=wH ox;have oz:=wH oz;have zx:=wH zx;have zz:=wH zz;have L:=wH L;replace al:=wH (dG.next al.out hrun.out hq.out zx.out zz.out hs.out hr.out ox.out oz.out);have f_:=C.box.c0;have g_:=C.box.c1;clear hlen1
 by_cases hlt:k<n
 ·obtain ⟨j,hj⟩:∃ j:Nat,n - k=j+1:=⟨n - k - 1,by omega⟩
  have hj2:=wH (show n - (k+1)=j by omega)
  have hjb:(j:Int)≤4:=by omega
  rw [hj];clear hj
  have DS:=wH fun v v' W i j h1 h2=>PG.out x z s r v v' W i j h1 h2 zx.out zz.out hs.out hr.out
  have AD:=wH fun v v' W i j h1 h2=>PD.out x z s r v v' W i j h1 h2 zx.out zz.out hs.out hr.out
  have hnx:M.run a b (k+1) (.val X Z)=M.nx a b (.val x z):=by show M.nx a b (M.run a b k (.val X Z))=_;rw [hrun.out]
  unfold M.nx at hnx
  dsimp only at hnx
  clear PG PD hs hr hall
  have zM:=fun h=>Wh.gy (Wh.gc (D:=M.ae a b) (F:=Wh.aw a b x z) (G:=Wh.am a b x z) h)
  have Ca:Wh.dU (M.ae a b) (Wh.aw a b x z) (Wh.am a b x z)=true→Wh.AE (M.ae a b) (Wh.aw a b x z) (Wh.am a b x z)=Wh.Bd (M.ae a b) (Wh.aw a b x z) (Wh.am a b x z)∧Wh.AF (M.ae a b) (Wh.aw a b x z) (Wh.am a b x z)=Wh.Bc (M.ae a b) (Wh.aw a b x z) (Wh.am a b x z):=fun h=>by unfold Wh.AE Wh.AF;rw [if_pos h,if_pos h];exact ⟨rfl,rfl⟩
  generalize Wh.dU (M.ae a b) (Wh.aw a b x z) (Wh.am a b x z)=ok,Wh.Bc (M.ae a b) (Wh.aw a b x z) (Wh.am a b x z)=dd,Wh.Bd (M.ae a b) (Wh.aw a b x z) (Wh.am a b x z)=nn,Wh.AF (M.ae a b) (Wh.aw a b x z) (Wh.am a b x z)=z',Wh.AE (M.ae a b) (Wh.aw a b x z) (Wh.am a b x z)=x' at *;have hG0:=@Wh.dx (Wh.am a b x z);generalize Wh.am a b x z=G at *;generalize decide (G<0)=sg at *;have N:=aH.new wr #[.bool s,.slice av lv cv,.bool r,.slice bv mv dv] 127;have C3:=C.alloc (.cells #[.bool s,.slice av lv cv,.bool r,.slice bv mv dv] 127);have yg:=wH (aF.alloc ox.out (.cells #[.bool s,.slice av lv cv,.bool r,.slice bv mv dv] 127));have yh:=wH (aF.alloc oz.out (.cells #[.bool s,.slice av lv cv,.bool r,.slice bv mv dv] 127));have Cs:=wH (al.out.below (bA wr (.cells #[.bool s,.slice av lv cv,.bool r,.slice bv mv dv] 127)));have L3:=wH (Rw.Own.alloc L.out (.cells #[.bool s,.slice av lv cv,.bool r,.slice bv mv dv] 127));have B3:=B.alloc B.size (.cells #[.bool s,.slice av lv cv,.bool r,.slice bv mv dv] 127);have yX:=C3.box.c0;have yY:=C3.box.c1;have zY:=N.aP.c0;have zf:=N.aP.c1;have zh:=N.aP.c2;have zk:=N.aP.c3
  by_cases hG:G=0
  ·rw [if_pos hG] at hnx
   have hfin:=wH (M.iB hnx n (by omega));have hl0:=hG0.2 hG;clear hnx hG hG0 zM Ca AD;generalize DI:(Wh.a_ G.natAbs).length=lg at *;subst hl0;replace DI:=wH DI
   go_wp2_with (go_at_call 157;(with_reducible refine (DS.out _ _ _ _ _ yg.out yh.out).mono ?_);rintro e w4 ⟨v4,rfl,xF,hb4⟩;obtain ⟨a4,c4,rfl,xD,wS⟩:=aF.view xF;clear xD wS;(rw [DI.out] at xF ⊢);replace C3:=C3.keep hb4;replace N:=N.keep hb4;replace B3:=d_ B3 hb4;(replace ⟨yX,yY⟩:=C3.b2);(replace ⟨zY,zf,zh,zk⟩:=N.b4))
   exact bodyPost_ret (v:=.tuple #[.slice (some ⟨g,0,none⟩) (k+1) cap,.bool true]) (by simp [results,Tryz.results106,go_sem, *]) rfl (⟨_,_,rfl,(by rw [hout.out,hfin.out];exact ⟨rfl,_,_,_,rfl⟩),B3⟩)
  rw [if_neg hG] at hnx
  have hl0:¬ (Wh.a_ G.natAbs).length=0:=fun h=>hG (hG0.1 h)
  have hlq:(((Wh.a_ G.natAbs).length:Int) == 0)=false:=by rw [beq_eq_false_iff_ne];omega
  clear hG hG0
  cases ok with
  | false=>
   have hfin:=wH (M.iA hnx n (by omega));clear hnx zM Ca;generalize decide (z'<0)=r',decide (x'<0)=s' at *
   go_wp2_with (first
    | (go_at_call 157;(with_reducible refine (DS.out _ _ _ _ _ yg.out yh.out).mono ?_);rintro e w4 ⟨v4,rfl,xF,hb4⟩;obtain ⟨a4,c4,rfl,xD,wS⟩:=aF.view xF;clear xD wS xF;(generalize (Wh.a_ G.natAbs).length=lg at *);replace L3:=wH (Rw.Own.below L3.out hb4);replace Cs:=wH (Cs.out.below hb4);replace C3:=C3.keep hb4;replace N:=N.keep hb4;replace yg:=kO yg hb4;replace yh:=kO yh hb4;replace B3:=d_ B3 hb4;(replace ⟨yX,yY⟩:=C3.b2);(replace ⟨zY,zf,zh,zk⟩:=N.b4))
    | (go_at_call 158;(with_reducible refine (AD.out _ _ _ _ _ yg.out yh.out).mono ?_);rintro e w5 ⟨v5,u5,rfl,wW,AH,hb5⟩;replace C3:=C3.keep hb5;replace N:=N.keep hb5;replace yg:=kO yg hb5;replace yh:=kO yh hb5;replace B3:=d_ B3 hb5;replace L3:=wH (Rw.Own.below L3.out hb5);replace Cs:=wH (Cs.out.below hb5);obtain ⟨a5,c5,rfl,xD,wS⟩:=aF.view wW;clear xD wS;obtain ⟨b5,d5,rfl,xD,wS⟩:=aF.view AH;clear xD wS;have on:=wH (aF.alloc (show aF _ _ _ _ from wW) (.cells #[.bool s',.slice a5 (Wh.a_ x'.natAbs).length c5,.bool r',.slice b5 (Wh.a_ z'.natAbs).length d5] 127));have om:=wH (aF.alloc (show aF _ _ _ _ from AH) (.cells #[.bool s',.slice a5 (Wh.a_ x'.natAbs).length c5,.bool r',.slice b5 (Wh.a_ z'.natAbs).length d5] 127));clear wW AH;(generalize (Wh.a_ x'.natAbs).length=l5 at *);(generalize (Wh.a_ z'.natAbs).length=m5 at *);replace L3:=wH (Rw.Own.alloc L3.out (.cells #[.bool s',.slice a5 l5 c5,.bool r',.slice b5 m5 d5] 127));replace Cs:=wH (Cs.out.below (bA w5 (.cells #[.bool s',.slice a5 l5 c5,.bool r',.slice b5 m5 d5] 127)));have M_:=aH.new w5 #[.bool s',.slice a5 l5 c5,.bool r',.slice b5 m5 d5] 127;have b_:=bA w5 (.cells #[.bool s',.slice a5 l5 c5,.bool r',.slice b5 m5 d5] 127);replace C3:=C3.keep b_;replace N:=N.keep b_;replace yg:=kO yg b_;replace yh:=kO yh b_;replace B3:=d_ B3 b_;clear b_;(replace ⟨yX,yY⟩:=C3.b2);(replace ⟨zY,zf,zh,zk⟩:=N.b4);(replace ⟨DO,DP,DQ,DR⟩:=M_.b4)))
   exact bodyPost_ret (v:=.tuple #[.slice (some ⟨g,0,none⟩) (k+1) cap,.bool false]) (by simp [results,Tryz.results106,go_sem, *]) rfl (⟨_,_,rfl,(by rw [hout.out,hfin.out];exact ⟨rfl,_,_,_,rfl,by omega⟩),B3⟩)
  | true=>
  rw [if_pos rfl] at hnx;obtain ⟨hxn,hzn⟩:=Ca rfl;obtain ⟨zn,zd⟩:=zM rfl;subst hxn hzn;clear Ca zM;have zn:=wH zn;have zd:=wH zd;have hnx:=wH hnx;generalize hs5:decide (x'<0)=s' at *;generalize Dp:decide (z'<0)=r' at *;replace hs5:=wH hs5.symm;replace Dp:=wH Dp.symm;clear hrun zx zz
  go_wp2_with (first
   | (go_at_call 157;(with_reducible refine (DS.out _ _ _ _ _ yg.out yh.out).mono ?_);rintro e w4 ⟨v4,rfl,xF,hb4⟩;obtain ⟨a4,c4,rfl,xD,wS⟩:=aF.view xF;clear xD wS xF;(generalize (Wh.a_ G.natAbs).length=lg at *);replace L3:=wH (Rw.Own.below L3.out hb4);replace Cs:=wH (Cs.out.below hb4);replace C3:=C3.keep hb4;replace N:=N.keep hb4;replace yg:=kO yg hb4;replace yh:=kO yh hb4;replace B3:=d_ B3 hb4;(replace ⟨yX,yY⟩:=C3.b2);(replace ⟨zY,zf,zh,zk⟩:=N.b4))
   | (go_at_call 158;(with_reducible refine (AD.out _ _ _ _ _ yg.out yh.out).mono ?_);rintro e w5 ⟨v5,u5,rfl,wW,AH,hb5⟩;replace C3:=C3.keep hb5;replace N:=N.keep hb5;replace yg:=kO yg hb5;replace yh:=kO yh hb5;replace B3:=d_ B3 hb5;replace L3:=wH (Rw.Own.below L3.out hb5);replace Cs:=wH (Cs.out.below hb5);obtain ⟨a5,c5,rfl,xD,wS⟩:=aF.view wW;clear xD wS;obtain ⟨b5,d5,rfl,xD,wS⟩:=aF.view AH;clear xD wS;have on:=wH (aF.alloc (show aF _ _ _ _ from wW) (.cells #[.bool s',.slice a5 (Wh.a_ x'.natAbs).length c5,.bool r',.slice b5 (Wh.a_ z'.natAbs).length d5] 127));have om:=wH (aF.alloc (show aF _ _ _ _ from AH) (.cells #[.bool s',.slice a5 (Wh.a_ x'.natAbs).length c5,.bool r',.slice b5 (Wh.a_ z'.natAbs).length d5] 127));clear wW AH;(generalize (Wh.a_ x'.natAbs).length=l5 at *);(generalize (Wh.a_ z'.natAbs).length=m5 at *);replace L3:=wH (Rw.Own.alloc L3.out (.cells #[.bool s',.slice a5 l5 c5,.bool r',.slice b5 m5 d5] 127));replace Cs:=wH (Cs.out.below (bA w5 (.cells #[.bool s',.slice a5 l5 c5,.bool r',.slice b5 m5 d5] 127)));have M_:=aH.new w5 #[.bool s',.slice a5 l5 c5,.bool r',.slice b5 m5 d5] 127;have b_:=bA w5 (.cells #[.bool s',.slice a5 l5 c5,.bool r',.slice b5 m5 d5] 127);replace C3:=C3.keep b_;replace N:=N.keep b_;replace yg:=kO yg b_;replace yh:=kO yh b_;replace B3:=d_ B3 b_;clear b_;(replace ⟨yX,yY⟩:=C3.b2);(replace ⟨zY,zf,zh,zk⟩:=N.b4);(replace ⟨DO,DP,DQ,DR⟩:=M_.b4))
   | (at_builtin;refine Rw.mh tz (w.heap.size+2) [((s',(a5,l5,c5),r',(b5,m5,d5)):dC)] xs _ ⟨w5.heap.size+1,0,none⟩ 1 1 (by rfl) (by rfl) (.tmp 50) (.tmp 52) (by rfl) (by rfl) (by rfl) (Rw.From.lit ER _ ((s',(a5,l5,c5),r',(b5,m5,d5)):dC) (w5.heap.size+1) (wI _ _)) (by have:=Rw.Own.alloc L3.out (.cells #[.bool s',.slice a5 l5 c5,.bool r',.slice b5 m5 d5] 127);exact this) (by have CZ:=hb4.size;have Dh:=hb5.size;(try simp only [wI] at CZ Dh ⊢);omega) (by rw [hlen.out];simp;omega) ?_;intro v6 w6 hown6 zL E7;have C6:=aH.grown (C3.alloc (.cells #[.bool s',.slice a5 l5 c5,.bool r',.slice b5 m5 d5] 127)) zL (fun e=>by have e2:g=w.heap.size:=Option.some.inj e;omega);have Nz:=wH (aF.fu (aF.alloc on.out (.cells #[.bool s',.slice a5 l5 c5,.bool r',.slice b5 m5 d5] 127)) (Rw.Own.alloc L3.out (.cells #[.bool s',.slice a5 l5 c5,.bool r',.slice b5 m5 d5] 127)) zL);have Ny:=wH (aF.fu (aF.alloc om.out (.cells #[.bool s',.slice a5 l5 c5,.bool r',.slice b5 m5 d5] 127)) (Rw.Own.alloc L3.out (.cells #[.bool s',.slice a5 l5 c5,.bool r',.slice b5 m5 d5] 127)) zL);have B6:=Below.grown (B3.alloc B3.size (.cells #[.bool s',.slice a5 l5 c5,.bool r',.slice b5 m5 d5] 127)) zL (B3.alloc B3.size (.cells #[.bool s',.slice a5 l5 c5,.bool r',.slice b5 m5 d5] 127)).size (fun k_ Ms=>by have e2:g=k_:=Option.some.inj Ms;omega);have al6:=wH ((Cs.out.below (bA _ (.cells #[.bool s',.slice a5 l5 c5,.bool r',.slice b5 m5 d5] 127))).push (ys:=[((s',(a5,l5,c5),r',(b5,m5,d5)):dC)]) (Rw.Own.alloc L3.out (.cells #[.bool s',.slice a5 l5 c5,.bool r',.slice b5 m5 d5] 127)) zL);have hown6:=wH hown6;have BF:=zL.size;have yK:=hb4.size;have HQ:=hb5.size))
  go_roundw
  case rel=>exact ⟨k+1,x',z',xs ++ [((s',(a5,l5,c5),r',(b5,m5,d5)):dC)],((s',(a5,l5,c5),r',(b5,m5,d5)):dC),by omega,(by first | (rw [hj2.out];done) | (rw [hj2.out];go_num)),hnx,hown6.out,wH (by rw [List.length_append,hlen.out];rfl),wH (by rw [List.getElem?_append_right (by rw [hlen.out];omega),hlen.out,Nat.sub_self];rfl),aF.base Nz.out (Nat.zero_le _),aF.base Ny.out (Nat.zero_le _),hs5,Dp,al6,zn.out,zd.out,C6,B6,by (try simp only [wI] at BF yK HQ);omega⟩
  case measure=>simp [intOf] <;> omega
 obtain rfl:k=n:=by omega
 rw [Nat.sub_self];go_wp2;exact bodyPost_ret (v:=.tuple #[.slice (some ⟨g,0,none⟩) (k+1) cap,.bool false]) (by simp [results,Tryz.results106,go_sem, *]) rfl (⟨_,_,rfl,(by rw [hout.out,hrun.out];exact ⟨rfl,g,cap,xs,rfl,hlen.out,hall.out,al.out⟩),B⟩)
namespace M
def isVal:Out→Bool
 | .val _ _=>true
 | _=>false
def dM (a b X E:Int):Nat→List Int
 | 0=>[]
 | n+1=>dM a b X E n ++ [bk (aX a b X E n)]
noncomputable def ep (a b X Y E n:Int):Bool:=bW a b X Y E && ins n 0 5 && isVal (aX a b X E n.toNat)
def N4 (b:Bool) (l:List Int):List Int:=if b then l else []
noncomputable def BZ (a b X Y E n:Int):List Int:=N4 (ep a b X Y E n) (dM a b X E (n.toNat+1))
theorem cY {a b X E:Int}:∀ n,(dM a b X E n).length=n
 | 0=>rfl
 | n+1=>by
  show (dM a b X E n ++ [bk (aX a b X E n)]).length=n+1
  rw [List.length_append,cY n];rfl
theorem jn {a b X E:Int} {n k:Nat} (h:isVal (aX a b X E n)=true) (hk:k≤n):isVal (aX a b X E k)=true:=by
 unfold aX at *
 split at h
 ·cases h
 rename_i hE
 rw [if_neg hE]
 cases hr:run a b k (.val X (E*E)) with
 | inf=>rw [iB hr n hk] at h;cases h
 | bad=>rw [iA hr n hk] at h;cases h
 | val x z=>rfl
theorem mV (o:Out):isVal o=(isOk o && !isInf o):=by cases o <;> rfl
theorem jF {a b X Y E n:Int} (h:ep a b X Y E n=false):BZ a b X Y E n=[]:=by unfold BZ;rw [h];rfl
theorem gX {a b X Y E n:Int} (h:ep a b X Y E n=true):BZ a b X Y E n=dM a b X E (n.toNat+1):=by unfold BZ;rw [h];rfl
end M
theorem rO {w:World} {H:Nat} (c:Int) (hH:w.heap.size=H):Rw.From EI (w.alloc (.cells #[.int .i64 c] 3)) (some ⟨H,0,none⟩) [c]:=Rw.From.lit EI w c H hH
theorem jA (a b X Y E n:Int) (w:World) :
  Calls Tryz.prog 41 #[.agg #[.int .i64 a,.int .i64 b],.agg #[.int .i64 X,.int .i64 Y,.int .i64 E],.int .i64 n] w fun e w'=>∃ v',e=.returned (.tuple #[v',.bool (M.ep a b X Y E n)])∧aF w' w.heap.size v' (M.BZ a b X Y E n)∧Below w.heap.size w w':=by
 have PT:∀ W,Calls Tryz.prog 55 #[.agg #[.int .i64 a,.int .i64 b],.agg #[.int .i64 X,.int .i64 Y,.int .i64 E]] W fun e w'=>e=.returned (.bool (M.bW a b X Y E))∧Below W.heap.size W w':=fun W=>dL a b X Y E W
 have PN:∀ W,Calls Tryz.prog 56 #[.int .i64 n,.int .i64 0,.int .i64 5] W fun e w'=>e=.returned (.bool (M.ins n 0 5))∧W=w':=fun W=>cK n 0 5 W
 obtain ⟨wc,hw3,C,Q,B⟩:=el w #[.int .i64 a,.int .i64 b] 25 #[.int .i64 X,.int .i64 Y,.int .i64 E] 27;have ⟨c0,c1,_,_,_⟩:=C.box;have ⟨q0,q1,q2⟩:=Q.aK
 have xw:∀ W,M.ep a b X Y E n=false→Below w.heap.size w W→∃ v',Ending.returned (.tuple #[.slice none 0 0,.bool false])=.returned (.tuple #[v',.bool (M.ep a b X Y E n)])∧aF W w.heap.size v' (M.BZ a b X Y E n)∧Below w.heap.size w W:=fun W h hB=>⟨_,by rw [h],by rw [M.jF h];exact aF.nil _ _,hB⟩
 have hok:M.ep a b X Y E n=(M.bW a b X Y E && M.ins n 0 5 && M.isVal (M.aX a b X E n.toNat)):=rfl
 cases h0:M.bW a b X Y E with
 | false=>
  rw [h0] at PT hok;rw [Bool.false_and,Bool.false_and] at hok;replace PT:=wH PT;replace PN:=wH PN
  replace xw:=wH fun W=>xw W hok
  go_enter Tryz.func41,Tryz.ntmps41
  go_wp2_with (go_at_call 55;(with_reducible refine (PT.out _).mono ?_);rintro e w4 ⟨rfl,hb4⟩;replace B:=d_ B hb4;replace C:=C.keep hb4;replace Q:=Q.keep hb4;(have ⟨c0,c1,_,_,_⟩:=C.box);(have ⟨q0,q1,q2⟩:=Q.aK))
  go_ret2;exact xw.out _ B
 | true=>
 rw [h0] at PT hok;rw [Bool.true_and] at hok;replace PT:=wH PT
 by_cases hE:E=0
 ·have hb:M.isVal (M.aX a b X E n.toNat)=false:=by unfold M.aX;rw [if_pos hE];rfl
  rw [hb,Bool.and_false] at hok
  replace xw:=wH fun W=>xw W hok
  replace PN:=wH PN;clear hb hok;subst hE;go_enter Tryz.func41,Tryz.ntmps41
  go_wp2_with (go_at_call 55;(with_reducible refine (PT.out _).mono ?_);rintro e w4 ⟨rfl,hb4⟩;replace B:=d_ B hb4;replace C:=C.keep hb4;replace Q:=Q.keep hb4;(have ⟨c0,c1,_,_,_⟩:=C.box);(have ⟨q0,q1,q2⟩:=Q.aK))
  go_ret2;exact xw.out _ B
 have EH:(E == 0)=false:=by simpa using hE
 cases h1:M.ins n 0 5 with
 | false=>
  rw [h1] at PN hok;rw [Bool.false_and] at hok
  replace xw:=wH fun W=>xw W hok
  replace PN:=wH PN;clear hok;go_enter Tryz.func41,Tryz.ntmps41
  go_wp2_with (first | (go_at_call 55;(with_reducible refine (PT.out _).mono ?_);rintro e w4 ⟨rfl,hb4⟩;replace B:=d_ B hb4;replace C:=C.keep hb4;replace Q:=Q.keep hb4;(have ⟨c0,c1,_,_,_⟩:=C.box);(have ⟨q0,q1,q2⟩:=Q.aK)) | (go_at_call 56;(with_reducible refine (PN.out _).mono ?_);rintro e w5 ⟨rfl,rfl⟩))
  go_ret2;exact xw.out _ B
 | true=>
 rw [h1] at PN hok;rw [Bool.true_and] at hok;replace PN:=wH PN;obtain ⟨hg,hp1⟩:=M.bP h0;obtain ⟨p1,p2,p3,p4,-,-⟩:=M.be (M.ag hg) hp1;obtain ⟨n1,n2⟩:=M.cO.1 h1
 obtain ⟨N,rfl⟩:∃ k:Nat,n=k:=⟨n.toNat,by omega⟩
 rw [Int.toNat_natCast] at hok
 have PB:=fun (k:Nat) (hk:k≤5) W=>jZ a b X Y E k W hg p1 p2 p3 p4 hk
 have hdn:∀ (k:Nat),k≤N→M.isVal (M.aX a b X E k)=false→M.ep a b X Y E (N:Int)=false:=fun k hk h=>by
  cases hv:M.isVal (M.aX a b X E N) with
  | false=>exact hok.trans hv
  | true=>
  rw [M.jn hv hk] at h;cases h
 have hyes:=fun (h:M.isVal (M.aX a b X E N)=true)=>hok.trans h
 replace PB:=wH PB;replace hdn:=wH hdn;replace hyes:=wH hyes;replace xw:=wH xw;clear h0 h1 hg hp1 p1 p2 p3 p4 hok
 have hN5:N≤5:=by omega
 go_enter Tryz.func41,Tryz.ntmps41
 go_wp2_with (first | (go_at_call 55;(with_reducible refine (PT.out _).mono ?_);rintro e w4 ⟨rfl,hb4⟩;replace B:=d_ B hb4;replace C:=C.keep hb4;replace Q:=Q.keep hb4;(have ⟨c0,c1,_,_,_⟩:=C.box);(have ⟨q0,q1,q2⟩:=Q.aK)) | (go_at_call 56;(with_reducible refine (PN.out _).mono ?_);rintro e w5 ⟨rfl,rfl⟩))
 have AN:=B.size
 go_loopw [8,29] (fun vs vi wq=>∃ i:Nat,i≤N+1∧vi=.int .i64 i∧Hid (Rw.Own EI wq w4.heap.size vs (M.dM a b X E i))∧Hid (0<i→M.isVal (M.aX a b X E (i - 1))=true)∧Below w4.heap.size w4 wq) (fun _ vi _=>N+1 - (intOf vi).toNat)
 case atStart=>exact ⟨0,by omega,rfl,wH (Rw.Own.nil EI _ _),wH (fun h=>by omega),wK _ _⟩
 case round=>
 clear PT PN c0 c1 q0 q1 q2;obtain ⟨i,hi,rfl,hown,hlast,hbr⟩:=hrel;have A3:=hbr.size
 by_cases hlt:i<N+1
 ·have JL:=PB.out i (by omega)
  have GL:=hdn.out i (by omega);have hpt:=M.mV (M.aX a b X E i);have hnx:M.dM a b X E (i+1)=M.dM a b X E i ++ [M.bk (M.aX a b X E i)]:=rfl;have hln:=M.cY (a:=a) (b:=b) (X:=X) (E:=E) i
  have hsub:i+1 - 1=i:=by omega
  generalize hv:M.isVal (M.aX a b X E i)=vl at *;generalize M.isOk (M.aX a b X E i)=fo,M.isInf (M.aX a b X E i)=fi,M.bk (M.aX a b X E i)=bt at *;obtain ⟨Av,cv,rfl,-,-,-⟩:=hown.out.seen;rw [hln] at hown ⊢;replace hln:=wH hln;replace hnx:=wH hnx;replace hv:=wH hv;have C2:=C.keep hbr;have Q2:=Q.keep hbr;have ⟨k0,k1,_,_,_⟩:=C2.box;have ⟨v0,v1,v2⟩:=Q2.aK
  have hie:(i:Int)<(N:Int)+1:=by omega
  replace JL:=wH JL;have B2:=B.trans (hbr.mono AN)
  cases vl with
  | false=>
   have hf0:=xw.out;have hd:=GL rfl
   replace hf0:=wH fun W=>hf0 W hd
   clear GL hd xw hdn hyes
   cases fo <;> cases fi <;> first
    | (exact absurd hpt (by decide))
    | (clear hpt;go_wp2_with (go_at_call 105;(with_reducible refine (JL.out _).mono ?_);rintro e w7 ⟨rfl,wg⟩;replace B2:=d_ B2 wg);go_ret2;exact hf0.out _ B2)
  | true=>
  obtain ⟨rfl,rfl⟩:fo=true∧fi=false:=by revert hpt;cases fo <;> cases fi <;> decide
  clear hpt GL
  go_wp2_with (first | (go_at_call 105;(with_reducible refine (JL.out _).mono ?_);rintro e w7 ⟨rfl,wg⟩;have yK:=wg.size) | (at_builtin;refine Rw.push tw (W:=w4) w4.heap.size [bt] _ _ (some ⟨_,0,none⟩) 1 1 (by rfl) (by rfl) (.tmp 45) (.tmp 47) (by rfl) (by rfl) (by rfl) (rO bt (by simp)) ((hown.out.below wg).alloc _) ((hbr.trans (wg.mono A3)).alloc (by omega) _) (by simp;omega) (by have:=hln.out;simp;omega) ?_;intro v8 w8 Do xB))
  go_roundw
  case rel=>exact ⟨i+1,by omega,by go_num,wH (by rw [hnx.out];exact Do),wH (fun _=>by rw [hsub];exact hv.out),xB⟩
  case measure=>simp [intOf];omega
 obtain rfl:i=N+1:=by omega
 have hge:¬ (((N+1:Nat):Int)<(N:Int)+1):=by omega
 have hy:=hyes.out (hlast.out (by omega));replace hy:=wH hy;go_wp2;go_ret2;exact ⟨_,by rw [hy.out];rfl,by rw [M.gX hy.out];exact mc.2 (hown.out.down AN),B.trans (hbr.mono AN)⟩
theorem jD (a b X Y E n:Int) (w:World) :
  Calls Tryz.prog 42 #[.agg #[.int .i64 a,.int .i64 b],.agg #[.int .i64 X,.int .i64 Y,.int .i64 E],.int .i64 n] w fun e w'=>∃ v',e=.returned (.tuple #[v',.bool (M.ep a b X Y E n)])∧aF w' w.heap.size v' (M.BZ a b X Y E n)∧Below w.heap.size w w':=by
 have PT:=fun W=>pj a b X Y E n W
 obtain ⟨wc,hw3,C,Q,B⟩:=el w #[.int .i64 a,.int .i64 b] 25 #[.int .i64 X,.int .i64 Y,.int .i64 E] 27;have ⟨c0,c1,_,_,_⟩:=C.box;have ⟨q0,q1,q2⟩:=Q.aK
 have xw:∀ W,M.ep a b X Y E n=false→Below w.heap.size w W→∃ v',Ending.returned (.tuple #[.slice none 0 0,.bool false])=.returned (.tuple #[v',.bool (M.ep a b X Y E n)])∧aF W w.heap.size v' (M.BZ a b X Y E n)∧Below w.heap.size w W:=fun W h hB=>⟨_,by rw [h],by rw [M.jF h];exact aF.nil _ _,hB⟩
 have hok:M.ep a b X Y E n=(M.bW a b X Y E && M.ins n 0 5 && M.isVal (M.aX a b X E n.toNat)):=rfl
 cases hc:M.bW a b X Y E && M.ins n 0 5 with
 | false=>
  rw [hc] at PT hok;rw [Bool.false_and] at hok;replace PT:=wH PT
  replace xw:=wH fun W=>xw W hok
  go_enter Tryz.func42,Tryz.ntmps42
  go_wp2_with (go_at_call 59;(with_reducible refine (PT.out _).mono ?_);rintro e w4 ⟨rfl,hb4⟩;replace B:=d_ B hb4)
  go_ret2;exact xw.out _ B
 | true=>
 rw [hc] at PT hok;rw [Bool.true_and] at hok;replace PT:=wH PT;rw [Bool.and_eq_true] at hc;obtain ⟨hg,hp1⟩:=M.bP hc.1;obtain ⟨p1,p2,p3,p4,-,-⟩:=M.be (M.ag hg) hp1;obtain ⟨n1,n2⟩:=M.cO.1 hc.2
 obtain ⟨N,rfl⟩:∃ k:Nat,n=k:=⟨n.toNat,by omega⟩
 rw [Int.toNat_natCast] at hok
 have PR:=fun W=>jz a b X Y E N W hg p1 p2 p3 p4 (by omega)
 have hout:M.isVal (M.aX a b X E N)=true→∀ i,M.aX a b X E i=M.run a b i (.val X (E*E)):=fun h i=>by
  unfold M.aX at h ⊢
  split at h
  ·cases h
  rename_i hE;rw [if_neg hE]
 have hval:M.isVal (M.aX a b X E N)=true→M.BZ a b X Y E (N:Int)=M.dM a b X E (N+1):=fun h=>M.gX (hok.trans h)
 have hbt:∀ k,M.dM a b X E (k+1)=M.dM a b X E k ++ [M.bk (M.aX a b X E k)]:=fun _=>rfl
 have GV:=fun k=>M.cY (a:=a) (b:=b) (X:=X) (E:=E) k
 generalize hoN:M.aX a b X E N=oN at *;replace PR:=wH PR;replace hout:=wH hout;replace hval:=wH hval;replace hbt:=wH hbt;replace GV:=wH GV
 have hN5:N≤5:=by omega
 clear hc hg hp1 p1 p2 p3 p4 hoN
 cases oN with
 | inf=>
  replace xw:=wH fun W=>xw W hok
  clear hok;go_enter Tryz.func42,Tryz.ntmps42
  go_wp2_with (first | (go_at_call 59;(with_reducible refine (PT.out _).mono ?_);rintro e w4 ⟨rfl,hb4⟩;replace B:=d_ B hb4;replace C:=C.keep hb4;replace Q:=Q.keep hb4;(have ⟨c0,c1,_,_,_⟩:=C.box);(have ⟨q0,q1,q2⟩:=Q.aK)) | (go_at_call 106;(refine (PR.out _).mono ?_);rintro e w7 ⟨v7,en,rfl,EL,wg⟩;replace B:=d_ B wg;obtain ⟨rfl,A7,l7,c7,rfl⟩:=EL))
  go_ret2;exact xw.out _ B
 | bad=>
  replace xw:=wH fun W=>xw W hok
  clear hok;go_enter Tryz.func42,Tryz.ntmps42
  go_wp2_with (first | (go_at_call 59;(with_reducible refine (PT.out _).mono ?_);rintro e w4 ⟨rfl,hb4⟩;replace B:=d_ B hb4;replace C:=C.keep hb4;replace Q:=Q.keep hb4;(have ⟨c0,c1,_,_,_⟩:=C.box);(have ⟨q0,q1,q2⟩:=Q.aK)) | (go_at_call 106;(refine (PR.out _).mono ?_);rintro e w7 ⟨v7,en,rfl,EL,wg⟩;replace B:=d_ B wg;obtain ⟨rfl,A7,l7,c7,rfl,hl7⟩:=EL;(have hl8:(l7:Int)≤(N:Int):=by omega)))
  go_ret2;exact xw.out _ B
 | val x z=>
 have hok1:M.ep a b X Y E (N:Int)=true:=hok;replace hok1:=wH hok1;replace hval:=wH (hval.out rfl);replace hout:=wH (hout.out rfl);clear hok xw;go_enter Tryz.func42,Tryz.ntmps42
 go_upto_region 6 with (first | (go_at_call 59;(with_reducible refine (PT.out _).mono ?_);rintro e w4 ⟨rfl,hb4⟩;replace B:=d_ B hb4;replace C:=C.keep hb4;replace Q:=Q.keep hb4;(have ⟨c0,c1,_,_,_⟩:=C.box);(have ⟨q0,q1,q2⟩:=Q.aK)) | (go_at_call 106;(refine (PR.out _).mono ?_);rintro e w7 ⟨v7,en,rfl,EL,wg⟩;replace B:=d_ B wg;obtain ⟨rfl,g,cap,xs,rfl,hlen,hcl,hrt⟩:=EL;(have hnl:¬ (N:Int)+1≤(N:Int):=by omega)))
 replace hcl:=wH hcl;replace hrt:=wH hrt;replace hlen:=wH hlen;have yK:=B.size;clear PT PR c0 c1 q0 q1 q2 C Q;go_wp2
 go_loopw [10,34] (fun vs vi wq=>∃ i:Nat,i≤N+1∧vi=.int .i64 i∧Hid (Rw.Own EI wq w7.heap.size vs (M.dM a b X E i))∧Below w7.heap.size w7 wq) (fun _ vi _=>N+1 - (intOf vi).toNat)
 case atStart=>exact ⟨0,by omega,rfl,wH (Rw.Own.nil EI _ _),wK _ _⟩
 case round=>
 obtain ⟨i,hi,rfl,hown,hbr⟩:=hrel;have A3:=hbr.size
 by_cases hlt:i<N+1
 ·obtain ⟨xi,zi,q,r1,r2,r3,r4,r5,r6,r7,r8⟩:=(hrt.out.below hbr) i hlt
  obtain ⟨s,⟨av,lv,cv⟩,r,⟨bv,mv,dv⟩⟩:=q
  dsimp only at r5 r6 r7 r8
  have d0:wr.cell? ⟨g,i*4,none⟩=some (.bool s):=aE hbr (hcl.out i _ r2 0 _ rfl (by omega));have d1:wr.cell? ⟨g,i*4+1,none⟩=some (.slice av lv cv):=aE hbr (hcl.out i _ r2 1 _ rfl (by omega));have d2:wr.cell? ⟨g,i*4+2,none⟩=some (.bool r):=aE hbr (hcl.out i _ r2 2 _ rfl (by omega));have d3:wr.cell? ⟨g,i*4+3,none⟩=some (.slice bv mv dv):=aE hbr (hcl.out i _ r2 3 _ rfl (by omega));have hoi:M.aX a b X E i=.val xi zi:=(hout.out i).trans r1;have hnx:=hbt.out i;rw [hoi] at hnx;have hln:=GV.out i
  have PD:=wH fun v v' W k1 k2 (h1:aF W k1 v (Wh.a_ xi.natAbs)) (h2:aF W k2 v' (Wh.a_ zi.natAbs))=>(show Calls Tryz.prog 107 #[.agg #[.bool s,v,.bool r,v']] W fun e w'=>e=.returned (.int .i64 (M.bk (.val xi zi)))∧Below W.heap.size W w' from by rw [r5,r6];exact jx xi zi v v' W k1 k2 h1 h2 (Wh.aY.2 (Wh.aN r3 (by omega))) (Wh.aY.2 (Wh.aN r4 (by omega))) (Nat.le_trans (Wh.fp r3) (by omega)) (Nat.le_trans (Wh.fp r4) (by omega)))
  generalize M.bk (.val xi zi)=bt at *;have OB:=aF.alloc r7 (.cells #[.bool s,.slice av lv cv,.bool r,.slice bv mv dv] 127);have OD:=aF.alloc r8 (.cells #[.bool s,.slice av lv cv,.bool r,.slice bv mv dv] 127);have V:=aH.new wr #[.bool s,.slice av lv cv,.bool r,.slice bv mv dv] 127;have IE:=hbr.alloc A3 (.cells #[.bool s,.slice av lv cv,.bool r,.slice bv mv dv] 127);have hown2:=Rw.Own.alloc hown.out (.cells #[.bool s,.slice av lv cv,.bool r,.slice bv mv dv] 127);have ⟨t0,t1,t2,t3,_,_,_,_,_⟩:=V.aP;obtain ⟨Av,c9,rfl,-,-,-⟩:=hown.out.seen;rw [hln] at hown2 ⊢;replace hln:=wH hln;replace hnx:=wH hnx;replace OB:=wH OB;replace OD:=wH OD;replace hown2:=wH hown2
  have hie:(i:Int)<(N:Int)+1:=by omega
  have hz2:=IE.size;clear r1 r2 r3 r4 r5 r6 r7 r8 hoi
  go_wp2_with (first | (go_at_call 107;(refine (PD.out _ _ _ _ _ OB.out OD.out).mono ?_);rintro e w9 ⟨rfl,wb⟩;have hz9:=wb.size) | (at_builtin;refine Rw.push tw (W:=w7) w7.heap.size [bt] _ _ (some ⟨_,0,none⟩) 1 1 (by rfl) (by rfl) (.tmp 38) (.tmp 41) (by rfl) (by rfl) (by rfl) (rO bt (by simp)) ((hown2.out.below wb).alloc _) ((IE.trans (wb.mono hz2)).alloc (by omega) _) (by simp;omega) (by have:=hln.out;simp;omega) ?_;intro v8 w8 Do xB))
  go_roundw
  case rel=>exact ⟨i+1,by omega,by go_num,wH (by rw [hnx.out];exact Do),xB⟩
  case measure=>simp [intOf];omega
 obtain rfl:i=N+1:=by omega
 have hge:¬ (((N+1:Nat):Int)<(N:Int)+1):=by omega
 go_wp2;go_ret2;exact ⟨_,by rw [hok1.out];rfl,by rw [hval.out];exact mc.2 (hown.out.down yK),B.trans (hbr.mono yK)⟩
end
section
namespace M
theorem ql {a b X Y E:Int} (hg:good a b=true) (hp:bG a b X Y E=true):dW a b X Y E=some (cW a b X E,cR a b X E)∧aQ (cW a b X E) (cR a b X E)=true:=by
 have h:bW a b X Y E=true:=by unfold bW;rw [hg,hp];rfl
 refine ⟨?_,(dI h).2.2.2.1⟩;unfold dW gd;rw [h,if_pos rfl];exact du hg hp
theorem tI {a b X Y E m l h:Int} {q:Ax} (e:CC a b X Y E m=some (l,h)) (f:Cz a b X Y E m=some q) :
  aQ l h=true∧∃ L H,dW a b q.1 q.2.1 q.2.2=some (L,H)∧aQ L H=true∧aQ (max l L) (min h H)=true:=by
 unfold CC gd at e
 split at e
 ·rename_i hc
  rw [Bool.and_eq_true] at hc;obtain ⟨hg,hp⟩:=bP hc.1;obtain ⟨m1,m2⟩:=cO.1 hc.2
  obtain ⟨k,rfl⟩:∃ k:Nat,m=k:=⟨m.toNat,by omega⟩
  unfold mkS at e
  split at e
  ·rename_i hs
   obtain ⟨rfl,rfl⟩:cW a b X E*k*k=l∧cR a b X E*k*k=h:=⟨congrArg Prod.fst (Option.some.inj e),congrArg Prod.snd (Option.some.inj e)⟩
   unfold Cz at f
   split at f
   ·rw [sV] at f
    have hq:=ju hg hp k q f;obtain ⟨hb,hsb⟩:=ql hg hq;have hd:=eR hg;have H1:=((fT hd hp).scale k).scale k;have H2:=fT hd hq;have hm:=ws.ub hd (gA hp) k;rw [←pR hg hp k q f] at hm
    have he:(fun n=>(k:Int)*((k:Int)*ws.hs a (eA X Y E) n))=fun n=>(k:Int)*k*ws.hs a (eA X Y E) n:=by
     funext n
     rw [Int.mul_assoc]
    rw [he] at H1;have h1:=H1.meet H2 hm.symm;have h2:=H2.meet H1 hm;refine ⟨hs,_,_,hb,hsb,?_⟩;obtain ⟨s1,s2,s3⟩:=b8 hs;obtain ⟨t1,t2,t3⟩:=b8 hsb;have h1:cW a b X E*k*k≤cR a b q.1 q.2.2:=h1;have h2:cW a b q.1 q.2.2≤cR a b X E*k*k:=h2;exact qO (by omega) (by omega) (by omega)
   cases f
  cases e
 cases e
theorem kE {a b X E:Int}:∀ n i:Nat,i<n→(dM a b X E n)[i]?=some (bk (aX a b X E i))
 | n+1,i,h=>by
  show (dM a b X E n ++ [bk (aX a b X E n)])[i]?=_
  by_cases e:i<n
  ·rw [List.getElem?_append_left (by rw [cY];exact e)]
   exact kE n i e
  obtain rfl:i=n:=by omega
  rw [List.getElem?_append_right (by rw [cY];omega),cY,Nat.sub_self];rfl
theorem qk {a b X Y E n:Int} (h:ep a b X Y E n=true):0≤n∧n≤5∧((BZ a b X Y E n).length:Int)=n+1:=by
 rw [gX h,cY];unfold ep at h;rw [Bool.and_eq_true,Bool.and_eq_true] at h;obtain ⟨h1,h2⟩:=cO.1 h.1.2;omega
theorem sj (a b X Y E n:Int):(BZ a b X Y E n).length≤6:=by
 cases h:ep a b X Y E n with
 | false=>rw [jF h];exact Nat.zero_le _
 | true=>have:=qk h;omega
theorem uN {a b X Y E n x y:Int} {i:Nat} (hx:(BZ a b X Y E n)[i]?=some x) (hy:(BZ a b X Y E n)[i+1]?=some y):4*x - 3 - (hC a b:Nat)≤y∧y≤4*x+(hC a b:Nat):=by
 cases h:ep a b X Y E n with
 | false=>rw [jF h] at hx;cases hx
 | true=>
 have hl:=(List.getElem?_eq_some_iff.1 hy).1;rw [gX h] at hx hy hl;rw [cY] at hl;rw [kE _ _ (by omega)] at hx hy;obtain rfl:=Option.some.inj hx;obtain rfl:=Option.some.inj hy;unfold ep at h;rw [Bool.and_eq_true,Bool.and_eq_true] at h;obtain ⟨hg,hp⟩:=bP h.1.1;have hd:=eR hg
 have hv:∀ k,k≤n.toNat→bk (aX a b X E k)=ws.hs a (eA X Y E) k:=fun k hk=>by
  have h1:=jn h.2 hk;have h2:=rZ hd hp k
  cases ho:aX a b X E k with
  | val u v=>rw [ho] at h2;exact oQ h2
  | inf=>rw [ho] at h1;cases h1
  | bad=>rw [ho] at h1;cases h1
 rw [hv i (by omega),hv (i+1) (by omega)];obtain ⟨-,w1,w2⟩:=np hd (gA hp) i;omega
theorem qy {a b X1 Y1 E1 X2 Y2 E2:Int} (h1:bW a b X1 Y1 E1=true) (h2:bW a b X2 Y2 E2=true):iK a b X2 E2 X1 E1=-iK a b X1 E1 X2 E2:=by
 have b1:=dI h1;have b2:=dI h2;unfold iK
 by_cases c1:cR a b X1 E1<cW a b X2 E2
 ·have c2:¬ cR a b X2 E2<cW a b X1 E1:=by omega
  simp only [if_pos c1,if_neg c2];rfl
 by_cases c2:cR a b X2 E2<cW a b X1 E1 <;> simp [c1,c2]
theorem qx {a b X Y E:Int} (h:bW a b X Y E=true):iK a b X E X E=0:=by
 have b1:=dI h;unfold iK;rw [if_neg (by omega)]
 split <;> first | omega | rfl
theorem uP (a b X1 E1 X2 E2:Int):-1≤iK a b X1 E1 X2 E2∧iK a b X1 E1 X2 E2≤1:=by
 unfold iK
 split
 ·omega
 split <;> omega
end M
end
section
open Go.RowKit
structure DV (w:World) (r1 r2:Nat) (L:List (Nat × TypeId × Array Value)) (T1 T2:TypeId) (xs ys:Array Value) (W:World):Prop where
 B:Below w.heap.size w W
 hV:∀ x ∈ L,aH W x.1 x.2.1 x.2.2
 R:aH W r1 T1 xs
 Q:aH W r2 T2 ys
 hn:w.heap.size≤r1∧r1<r2
 hL:∀ x ∈ L,r2<x.1
theorem DV.drew {w W:World} {r1 r2:Nat} {L:List (Nat × TypeId × Array Value)} {T1 T2:TypeId} {xs ys:Array Value} (h:DV w r1 r2 L T1 T2 xs ys W):DV w r1 r2 L T1 T2 xs ys W.drew:=
 ⟨h.B.drew,h.hV,h.R,h.Q,h.hn,h.hL⟩
theorem DV.gQ {w W:World} {r1 r2:Nat} {L:List (Nat × TypeId × Array Value)} {T1 T2:TypeId} {u1 u2:Value} {ys:Array Value} (h:DV w r1 r2 L T1 T2 #[u1,u2] ys W) (x y:Value):DV w r1 r2 L T1 T2 #[x,y] ys ((W.setCell ⟨r1,0,none⟩ x).setCell ⟨r1,1,none⟩ y):=by
 have hn:=h.hn
 have hL:∀ y ∈ L,r1<y.1:=fun y hy=>Nat.lt_trans hn.2 (h.hL y hy)
 exact ⟨wJ (wJ h.B hn.1 _) hn.1 _,aH.cm (aH.cm h.hV hL) hL,h.R.set2 _ _,(h.Q.other (by omega) _).other (by omega) _,hn,h.hL⟩
theorem DV.gE {w W:World} {r1 r2:Nat} {L:List (Nat × TypeId × Array Value)} {T1 T2:TypeId} {u1 u2:Value} {xs:Array Value} (h:DV w r1 r2 L T1 T2 xs #[u1,u2] W) (x y:Value):DV w r1 r2 L T1 T2 xs #[x,y] ((W.setCell ⟨r2,0,none⟩ x).setCell ⟨r2,1,none⟩ y):=by
 have hn:=h.hn;have hL:=h.hL
 have h2:w.heap.size≤r2:=by omega
 exact ⟨wJ (wJ h.B h2 _) h2 _,aH.cm (aH.cm h.hV hL) hL,(h.R.other (by omega) _).other (by omega) _,h.Q.set2 _ _,hn,hL⟩
theorem oJ (a b c d:Int) (w:World) (hab:M.aQ a b=true) (hcd:M.aQ c d=true) :
  Calls Tryz.prog 64 #[.agg #[.int .i64 (M.pn a),.int .i64 (M.pd a),.int .i64 (M.pn b),.int .i64 (M.pd b)],.agg #[.int .i64 (M.pn c),.int .i64 (M.pd c),.int .i64 (M.pn d),.int .i64 (M.pd d)]] w fun e w'=>e=.returned (.tuple #[.agg #[.int .i64 a,.int .i64 b],.agg #[.int .i64 c,.int .i64 d],.bool true])∧Below w.heap.size w w':=by
 have P1:=fun W=>mw a b W hab
 have P2:=fun W=>mw c d W hcd
 clear hab hcd;generalize M.pd d=y4,M.pn d=y3,M.pd c=y2,M.pn c=y1,M.pd b=x4,M.pn b=x3,M.pd a=x2,M.pn a=x1 at *;replace P1:=wH P1;replace P2:=wH P2;obtain ⟨wc,hw3,C,U,R,R2,B⟩:=wF w #[.int .i64 x1,.int .i64 x2,.int .i64 x3,.int .i64 x4] 33 #[.int .i64 y1,.int .i64 y2,.int .i64 y3,.int .i64 y4] 33 #[.int .i64 0,.int .i64 0] 74 #[.int .i64 0,.int .i64 0] 74;have ⟨c0,c1,c2,c3,_,_,_,_,_⟩:=C.aP;have ⟨u0,u1,u2,u3,_,_,_,_,_⟩:=U.aP;have zl:=R2.lt;go_enter Tryz.func64,Tryz.ntmps64
 go_upto_region 2 with (first | (go_at_call 66;(with_reducible refine (P1.out _).mono ?_);rintro e w4 ⟨rfl,hb4⟩;replace B:=d_ B hb4;replace C:=C.keep hb4;replace U:=U.keep hb4;replace R:=R.keep hb4;replace R2:=R2.keep hb4;(have ⟨c0,c1,c2,c3,_,_,_,_,_⟩:=C.aP);(have ⟨u0,u1,u2,u3,_,_,_,_,_⟩:=U.aP);(skip);(skip);have zr4:=R2.lt;have B0:=B;have AN:=B.size;replace B:=B.alloc AN (.cells #[.int .i64 a,.int .i64 b] 74);replace C:=C.alloc (.cells #[.int .i64 a,.int .i64 b] 74);replace U:=U.alloc (.cells #[.int .i64 a,.int .i64 b] 74);replace R:=R.alloc (.cells #[.int .i64 a,.int .i64 b] 74);replace R2:=R2.alloc (.cells #[.int .i64 a,.int .i64 b] 74);have V:=aH.new w4 #[.int .i64 a,.int .i64 b] 74;(have ⟨c0,c1,c2,c3,_,_,_,_,_⟩:=C.aP);(have ⟨u0,u1,u2,u3,_,_,_,_,_⟩:=U.aP);(skip);(skip)))
 have hv1:=V.lt
 go_upto_region 5 with (first | (go_at_call 66;(with_reducible refine (P2.out _).mono ?_);rintro e w5 ⟨rfl,hb5⟩;replace B:=d_ B hb5;replace R:=R.keep hb5;replace R2:=R2.keep hb5;replace V:=V.keep hb5;(skip);(skip);(have ⟨v0,v1,_,_,_⟩:=V.box);have zr5:=R2.lt;have B0:=B;have Nh:=B.size;replace B:=B.alloc Nh (.cells #[.int .i64 c,.int .i64 d] 74);replace R:=R.alloc (.cells #[.int .i64 c,.int .i64 d] 74);replace R2:=R2.alloc (.cells #[.int .i64 c,.int .i64 d] 74);replace V:=V.alloc (.cells #[.int .i64 c,.int .i64 d] 74);have V2:=aH.new w5 #[.int .i64 c,.int .i64 d] 74;(skip);(skip);(have ⟨v0,v1,_,_,_⟩:=V.box)))
 have TW:DV w (w.heap.size+1+1) (w.heap.size+1+1+1) [(w4.heap.size,74,#[.int .i64 a,.int .i64 b]),(w5.heap.size,74,#[.int .i64 c,.int .i64 d])] 74 74 _ _ _:=⟨B,fun x hx=>(by rcases List.mem_cons.1 hx with rfl | hx;exact V;rcases List.mem_cons.1 hx with rfl | hx;exact V2;cases hx),R,R2,⟨by omega,by omega⟩,fun x hx=>(by rcases List.mem_cons.1 hx with rfl | hx;(show w.heap.size+1+1+1<w4.heap.size;omega);rcases List.mem_cons.1 hx with rfl | hx;(show w.heap.size+1+1+1<w5.heap.size;omega);cases hx)⟩
 clear B V V2 R R2 C U;refine Rg.eB (fun l W=>DV w (w.heap.size+1+1) (w.heap.size+1+1+1) [(w4.heap.size,74,#[.int .i64 a,.int .i64 b]),(w5.heap.size,74,#[.int .i64 c,.int .i64 d])] 74 74 (bif l 2 then #[.int .i64 a,.int .i64 b] else #[.int .i64 0,.int .i64 0]) (bif l 3 then #[.int .i64 c,.int .i64 d] else #[.int .i64 0,.int .i64 0]) W) (fun _ _ _=>True) (fun _ _=>True) [2,3] [.agg #[.int .i64 a,.int .i64 b],.agg #[.int .i64 c,.int .i64 d],undef,undef,.bool true] (by kernel_rfl) (by kernel_rfl) (by decide) (fun l l2 W h q=>by rw [←h 2 (by decide),←h 3 (by decide)];exact q) (fun _ _ _ _ _ _=>trivial) TW.drew ⟨?_,?_,?_,?_,?_,trivial⟩ ?_
 ·unfold Rg.aS
  intro zZ w_ l_ i_ s_ wu xA xE ww t_ hr;refine ⟨rfl,?_⟩;rw [if_neg (by decide)];have e7:zZ.tmps[7]?=some (.pointer (some ⟨w4.heap.size,0,none⟩)):=hr 7 (by decide);have wS:aH w_ w4.heap.size 74 #[.int .i64 a,.int .i64 b]:=s_.hV (w4.heap.size,74,#[.int .i64 a,.int .i64 b]) (by simp);have ⟨k0,k1,_,_,_⟩:=wS.box
  (first | (go_simp;done) | (go_simp;exact Rg.wr (by omega) (by omega)) | (go_simp;omega) | (go_simp;rfl) | (go_simp;exact ⟨rfl,rfl⟩))
 ·unfold Rg.aS
  intro zZ w_ l_ i_ s_ wu xA xE ww t_ hr;refine ⟨rfl,?_⟩;rw [if_neg (by decide)];have e9:zZ.tmps[9]?=some (.pointer (some ⟨w5.heap.size,0,none⟩)):=hr 9 (by decide);have wS:aH w_ w5.heap.size 74 #[.int .i64 c,.int .i64 d]:=s_.hV (w5.heap.size,74,#[.int .i64 c,.int .i64 d]) (by simp);have ⟨k0,k1,_,_,_⟩:=wS.box
  (first | (go_simp;done) | (go_simp;exact Rg.wr (by omega) (by omega)) | (go_simp;omega) | (go_simp;rfl) | (go_simp;exact ⟨rfl,rfl⟩))
 ·unfold Rg.aS
  intro zZ w_ l_ i_ s_ wu xA xE ww t_ hr;have e4:zZ.tmps[4]?=some (.pointer (some ⟨w.heap.size+1+1,0,none⟩)):=hr 4 (by decide);have e29:zZ.tmps[29]?=some (.agg #[.int .i64 a,.int .i64 b]):=hr 29 (by decide);refine ⟨rfl,?_⟩;rw [if_pos (by decide)];have q_:=s_;simp only [xA,cond_false] at q_;have p_:=And.intro (q_.gQ (.int .i64 a) (.int .i64 b)) (And.intro True.intro True.intro)
  skip
  have ⟨yz,y6,y7,ym,_⟩:=q_.R.box;unfold Oper.wp
  go_simp
  all_goals first | exact p_ | exact p_.1 | exact ⟨undef,p_⟩ | exact ⟨_,rfl,p_⟩
 ·unfold Rg.aS
  intro zZ w_ l_ i_ s_ wu xA xE ww t_ hr;have e5:zZ.tmps[5]?=some (.pointer (some ⟨w.heap.size+1+1+1,0,none⟩)):=hr 5 (by decide);have e30:zZ.tmps[30]?=some (.agg #[.int .i64 c,.int .i64 d]):=hr 30 (by decide);refine ⟨rfl,?_⟩;rw [if_pos (by decide)];have q_:=s_;simp only [xA,cond_false] at q_;have p_:=And.intro (q_.gE (.int .i64 c) (.int .i64 d)) (And.intro True.intro True.intro);have ⟨yz,y6,y7,ym,_⟩:=q_.Q.box;unfold Oper.wp
  go_simp
  all_goals first | exact p_ | exact p_.1 | exact ⟨undef,p_⟩ | exact ⟨_,rfl,p_⟩
 ·unfold Rg.aS
  intro zZ w_ l_ i_ s_ wu xA xE ww t_ hr;refine ⟨rfl,?_⟩;rw [if_neg (by decide)];have ec:=Rg.ec zZ
  go_simp
 intro vals wz s_ hF hv;have As:vals 4=.bool true:=hv 4 (by decide) (by decide);simp only [Rg.ay,Rg.fill,Act.put,Nat.reduceAdd];clear hv hF;simp only [As];clear As;simp only [cond_true] at s_;obtain ⟨B,-,R,R2,-,-⟩:=s_;have ⟨r0,r1,_,_,_⟩:=R.box;have ⟨s0,s1,_,_,_⟩:=R2.box;go_wp2;exact bodyPost_ret (v:=.tuple #[.agg #[.int .i64 a,.int .i64 b],.agg #[.int .i64 c,.int .i64 d],.bool true]) (by simp [results,Tryz.results64,go_sem, *]) rfl (⟨rfl,B⟩)
theorem iS (a b c d:Int) (w:World) (hab:M.aQ a b=true) (hcd:M.aQ c d=true) (hm:M.aQ (max a c) (min b d)=true) :
  Calls Tryz.prog 12 #[.agg #[.int .i64 (M.pn a),.int .i64 (M.pd a),.int .i64 (M.pn b),.int .i64 (M.pd b)],.agg #[.int .i64 (M.pn c),.int .i64 (M.pd c),.int .i64 (M.pn d),.int .i64 (M.pd d)]] w fun e w'=>e=.returned (.tuple #[.agg #[.int .i64 (M.pn (max a c)),.int .i64 (M.pd (max a c)),.int .i64 (M.pn (min b d)),.int .i64 (M.pd (min b d))],.bool true])∧Below w.heap.size w w':=by
 have PT:=fun W=>oJ a b c d W hab hcd
 have PC:=fun W=>mF a b c d W
 have PI:=fun W=>eu (max a c) (min b d) true W
 rw [hm,Bool.and_true] at PI;simp only [M.bn] at PI;clear hab hcd hm;generalize min b d=hi,max a c=lo,M.pd d=y4,M.pn d=y3,M.pd c=y2,M.pn c=y1,M.pd b=x4,M.pn b=x3,M.pd a=x2,M.pn a=x1,M.pd (min b d)=z4,M.pn (min b d)=z3,M.pd (max a c)=z2,M.pn (max a c)=z1 at *;replace PT:=wH PT;replace PC:=wH PC;replace PI:=wH PI;obtain ⟨wc,hw3,C,U,R,B⟩:=eJ w #[.int .i64 x1,.int .i64 x2,.int .i64 x3,.int .i64 x4] 33 #[.int .i64 y1,.int .i64 y2,.int .i64 y3,.int .i64 y4] 33 #[.int .i64 0,.int .i64 0,.int .i64 0,.int .i64 0] 33;have ⟨c0,c1,c2,c3,_,_,_,_,_⟩:=C.aP;have ⟨u0,u1,u2,u3,_,_,_,_,_⟩:=U.aP;go_enter Tryz.func12,Tryz.ntmps12
 go_wp2_with (first | (go_at_call 64;(with_reducible refine (PT.out _).mono ?_);rintro e w4 ⟨rfl,hb4⟩;replace B:=d_ B hb4;replace R:=R.keep hb4;(have ⟨r0,r1,r2,r3,z0,Jy,Jz,J0,rl⟩:=R.aP);have B0:=B;have AN:=B.size;replace B:=B.alloc AN (.cells #[.int .i64 a,.int .i64 b] 74);replace R:=R.alloc (.cells #[.int .i64 a,.int .i64 b] 74);have V:=aH.new w4 #[.int .i64 a,.int .i64 b] 74;(have ⟨r0,r1,r2,r3,z0,Jy,Jz,J0,rl⟩:=R.aP);have Ng:=B.size;replace B:=B.alloc Ng (.cells #[.int .i64 c,.int .i64 d] 74);replace R:=R.alloc (.cells #[.int .i64 c,.int .i64 d] 74);replace V:=V.alloc (.cells #[.int .i64 c,.int .i64 d] 74);have V2:=aH.new (w4.alloc (.cells #[.int .i64 a,.int .i64 b] 74)) #[.int .i64 c,.int .i64 d] 74;(rw [wI] at V2);(have ⟨r0,r1,r2,r3,z0,Jy,Jz,J0,rl⟩:=R.aP);(have ⟨v0,v1,_,_,_⟩:=V.box);(have ⟨v2,v3,_,_,_⟩:=V2.box)) | (go_at_call 65;(with_reducible refine (PC.out _).mono ?_);rintro e w7 ⟨rfl,wg⟩;replace B:=d_ B wg;replace R:=R.keep wg;(have ⟨r0,r1,r2,r3,z0,Jy,Jz,J0,rl⟩:=R.aP)) | (go_at_call 58;(with_reducible refine (PI.out _).mono ?_);rintro e w8 ⟨rfl,xB⟩;replace B:=d_ B xB;replace R:=R.keep xB;(have ⟨r0,r1,r2,r3,z0,Jy,Jz,J0,rl⟩:=R.aP)))
 exact bodyPost_ret (v:=.tuple #[.agg #[.int .i64 z1,.int .i64 z2,.int .i64 z3,.int .i64 z4],.bool true]) (by simp [results,Tryz.results12,go_sem, *]) rfl (⟨rfl,wJ (wJ (wJ (wJ B (by dsimp only;omega) _) (by dsimp only;omega) _) (by dsimp only;omega) _) (by dsimp only;omega) _⟩)
end
end Go.Proofs.YtggekfbfechonaaGreat
