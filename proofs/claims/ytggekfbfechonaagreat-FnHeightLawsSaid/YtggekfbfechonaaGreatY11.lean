/-
  Joined texts: contracts and plain lemmas.
-/
import Derived.Test.YtggekfbfechonaaGreatY1
import Derived.Test.YtggekfbfechonaaGreatY10
import Derived.Test.YtggekfbfechonaaGreatY9
set_option linter.unusedSimpArgs false
set_option linter.unusedVariables false
set_option maxRecDepth 100000
set_option maxHeartbeats 8000000
namespace Go.Proofs.YtggekfbfechonaaGreat
section
open Go.RowKit
theorem eN (a b X Y E:Int) (w:World) (hg:M.good a b=true) (hX1:-10000≤X) (hX2:X≤10000) (hE1:0≤E) (hE2:E≤20) :
  Calls Tryz.prog 63 #[.agg #[.int .i64 a,.int .i64 b],.agg #[.int .i64 X,.int .i64 Y,.int .i64 E]] w fun e w'=>e=.returned (.tuple #[.agg #[.int .i64 (M.pick (M.AK a b X E) (M.pn (M.bL a b X E (M.bN a b X E)))),.int .i64 (M.pick (M.AK a b X E) (M.pd (M.bL a b X E (M.bN a b X E)))),.int .i64 (M.pick (M.AK a b X E) (M.pn (M.bH a b X E (M.bN a b X E)))),.int .i64 (M.pick (M.AK a b X E) (M.pd (M.bH a b X E (M.bN a b X E))))],.int .i64 (M.pick (M.AK a b X E) ((M.bN a b X E:Nat):Int)),.bool (M.AK a b X E)])∧Below w.heap.size w w':=by
 have P0:=fun W=>jc a b X Y E 0 W hg hX1 hX2 hE1 hE2 (by omega)
 rw [M.t6,show ((0:Nat):Int)=0 from rfl] at P0;simp only [M.bn] at P0
 have PK:=wH fun (k:Nat) W (hk:k≤5)=>jc a b X Y E k W hg hX1 hX2 hE1 hE2 hk
 have hL0:=wH (show M.hL (M.hC a b) 0 (M.aX a b X E 0)=M.bL a b X E 0 from rfl);have hH0:=wH (show M.hH (M.hC a b) 0 (M.aX a b X E 0)=M.bH a b X E 0 from rfl);have hin:=M.ag hg
 have hno:=wH fun k hk hs=>M.vF (a:=a) (b:=b) (X:=X) (E:=E) (k:=k) hin hX1 hX2 hE1 hE2 hk hs
 have hss:=wH fun n hn=>M.vQ (a:=a) (b:=b) (X:=X) (E:=E) (C:=M.hC a b) (n:=n) (M.iu hin) hn hX1 hX2 hE1 hE2
 have hs0:=wH (show M.aQ (M.bL a b X E 0) (M.bH a b X E 0)=true from hss.out 0 (by omega));clear hg hin;rw [hL0.out,hH0.out] at P0;clear hL0 hH0;have P0:=wH P0;have C:=((aH.new w #[.int .i64 a,.int .i64 b] 25).alloc (.cells #[.int .i64 X,.int .i64 Y,.int .i64 E] 27)).alloc (.cells #[.int .i64 0,.int .i64 0,.int .i64 0,.int .i64 0] 33);have Q:=(aH.new (w.alloc (.cells #[.int .i64 a,.int .i64 b] 25)) #[.int .i64 X,.int .i64 Y,.int .i64 E] 27).alloc (.cells #[.int .i64 0,.int .i64 0,.int .i64 0,.int .i64 0] 33);rw [wI] at Q;have R:=aH.new ((w.alloc (.cells #[.int .i64 a,.int .i64 b] 25)).alloc (.cells #[.int .i64 X,.int .i64 Y,.int .i64 E] 27)) #[.int .i64 0,.int .i64 0,.int .i64 0,.int .i64 0] 33;rw [wI,wI] at R;have B:=(((wK w.heap.size w).alloc (wL _) (.cells #[.int .i64 a,.int .i64 b] 25)).alloc (by rw [wI];omega) (.cells #[.int .i64 X,.int .i64 Y,.int .i64 E] 27)).alloc (by rw [wI,wI];omega) (.cells #[.int .i64 0,.int .i64 0,.int .i64 0,.int .i64 0] 33);generalize hw3:((w.alloc (.cells #[.int .i64 a,.int .i64 b] 25)).alloc (.cells #[.int .i64 X,.int .i64 Y,.int .i64 E] 27)).alloc (.cells #[.int .i64 0,.int .i64 0,.int .i64 0,.int .i64 0] 33)=wc at *;have ⟨q0,q1,q2⟩:=Q.aK;have f_:=C.box.c0;have g_:=C.box.c1;have wP:=R.aP.c0;have wM:=R.aP.f0;have wQ:=R.aP.c1;have wN:=R.aP.f1;have wU:=R.aP.c2;have wT:=R.aP.f2;have wV:=R.aP.c3;have wY:=R.aP.f3;generalize hu1:M.pn (M.bL a b X E 0)=u1 at *;generalize hu2:M.pd (M.bL a b X E 0)=u2 at *;generalize hu3:M.pn (M.bH a b X E 0)=u3 at *;generalize Ja:M.pd (M.bH a b X E 0)=u4 at *;replace hu1:=wH hu1;replace hu2:=wH hu2;replace hu3:=wH hu3;replace Ja:=wH Ja;go_enter Tryz.func63,Tryz.ntmps63
 go_wp2_with (go_at_call 60;(with_reducible refine (P0.out _).mono ?_);rintro e w4 ⟨rfl,hb4⟩;replace C:=C.keep hb4;replace R:=R.keep hb4;replace B:=d_ B hb4;replace Q:=Q.keep hb4;have Ev:=wH R.lt;replace Q:=Q.alloc (.cells #[.int .i64 u1,.int .i64 u2,.int .i64 u3,.int .i64 u4] 33);have T:=aH.new w4 #[.int .i64 u1,.int .i64 u2,.int .i64 u3,.int .i64 u4] 33;have b_:=bA w4 (.cells #[.int .i64 u1,.int .i64 u2,.int .i64 u3,.int .i64 u4] 33);replace C:=C.keep b_;replace R:=R.keep b_;replace B:=d_ B b_;clear b_;(replace ⟨f_,g_⟩:=C.b2);(replace ⟨wP,wQ,wU,wV,wM,wN,wT,wY⟩:=R.xJ);(replace ⟨xP,xQ,Bl,Bo⟩:=T.b4))
 go_loopw [9] (fun vi wr=>∃ k:Nat,k≤5∧vi=.int .i64 k∧Hid (M.CX a b X E (5 - k) k=M.bN a b X E)∧Hid (M.aQ (M.bL a b X E k) (M.bH a b X E k)=true)∧aH wr w4.heap.size 33 #[.int .i64 (M.pn (M.bL a b X E k)),.int .i64 (M.pd (M.bL a b X E k)),.int .i64 (M.pn (M.bH a b X E k)),.int .i64 (M.pd (M.bH a b X E k))]∧aH wr w.heap.size 25 #[.int .i64 a,.int .i64 b]∧aH wr (w.heap.size+1) 27 #[.int .i64 X,.int .i64 Y,.int .i64 E]∧aH wr (w.heap.size+1+1) 33 #[.int .i64 0,.int .i64 0,.int .i64 0,.int .i64 0]∧Below w.heap.size w wr) (fun vi _=>5 - (intOf vi).toNat)
 case atStart=>exact ⟨0,by omega,rfl,wH rfl,hs0,by rw [hu1.out,hu2.out,hu3.out,Ja.out];exact T,C,Q,R,B⟩
 case round=>
 clear C Q R B T P0 f_ g_ wP wQ wU wV wM wN wT wY xP xQ Bl Bo q0 q1 q2 hu1 hu2 hu3 Ja hs0;have hR9:=Ev.out;obtain ⟨k,hk,rfl,hN,hsk,T,C,Q,R,B⟩:=hrel;have eL:M.bL a b X E (k+1)=max (M.bL a b X E k) (M.hL (M.hC a b) (k+1) (M.aX a b X E (k+1))):=rfl;have eH:M.bH a b X E (k+1)=min (M.bH a b X E k) (M.hH (M.hC a b) (k+1) (M.aX a b X E (k+1))):=rfl;have eL:=wH eL;have eH:=wH eH;generalize hbk:M.bL a b X E k=bl at *;generalize BR:M.bH a b X E k=bh at *;replace hbk:=wH hbk;replace BR:=wH BR;have f_:=C.box.c0;have g_:=C.box.c1;have ⟨q0,q1,q2⟩:=Q.aK;have xP:=T.aP.c0;have xQ:=T.aP.c1;have Bl:=T.aP.c2;have Bo:=T.aP.c3;have Bp:=T.aP.f0;have Br:=T.aP.f1;have Ed:=T.aP.f2;have Ee:=T.aP.f3;have wP:=R.aP.c0;have wQ:=R.aP.c1;have wU:=R.aP.c2;have wV:=R.aP.c3;have wM:=R.aP.f0;have wN:=R.aP.f1;have wT:=R.aP.f2;have wY:=R.aP.f3
 by_cases hlt:k<5
 ·have P1:=fun W=>PK.out (k+1) W (by omega)
  have hNs:M.CX a b X E (5 - k) k=if M.isOk (M.aX a b X E (k+1))=true then M.CX a b X E (5 - (k+1)) (k+1) else k:=by
   rw [show 5 - k=(5 - (k+1))+1 by omega];rfl
  have hsn:=hss.out (k+1) (by omega);generalize M.hH (M.hC a b) (k+1) (M.aX a b X E (k+1))=hh,M.hL (M.hC a b) (k+1) (M.aX a b X E (k+1))=hl at *;have hk1:=wH (show ((k+1:Nat):Int)=(k:Int)+1 by omega);rw [hk1.out] at P1
  cases hok:M.isOk (M.aX a b X E (k+1)) with
  | false=>
   rw [hok,if_neg (by decide)] at hNs;have Ct:=wH (show M.bN a b X E=k by rw [←hN.out,hNs]);rw [hok] at P1;simp only [M.fe] at P1;have EJ:=wH (show M.AK a b X E=true by unfold M.AK;rw [Ct.out,hbk.out,BR.out];exact hsk.out);clear hNs hok hN eL eH hsn;have P1:=wH P1;generalize C9:M.pn (bl)=t1 at *;replace C9:=wH C9;generalize C_:M.pd (bl)=t2 at *;replace C_:=wH C_;generalize DA:M.pn (bh)=t3 at *;replace DA:=wH DA;generalize DB:M.pd (bh)=t4 at *;replace DB:=wH DB
   go_wp2_with (go_at_call 60;(with_reducible refine (P1.out _).mono ?_);rintro e w5 ⟨rfl,hb5⟩;replace C:=C.keep hb5;replace R:=R.keep hb5;replace T:=T.keep hb5;replace B:=d_ B hb5;replace Q:=Q.keep hb5;replace Q:=Q.alloc (.cells #[.int .i64 0,.int .i64 0,.int .i64 0,.int .i64 0] 33);have S:=aH.new w5 #[.int .i64 0,.int .i64 0,.int .i64 0,.int .i64 0] 33;have b_:=bA w5 (.cells #[.int .i64 0,.int .i64 0,.int .i64 0,.int .i64 0] 33);replace C:=C.keep b_;replace R:=R.keep b_;replace T:=T.keep b_;replace B:=d_ B b_;clear b_;(replace ⟨f_,g_⟩:=C.b2);(replace ⟨wP,wQ,wU,wV,wM,wN,wT,wY⟩:=R.xJ);(replace ⟨xP,xQ,Bl,Bo⟩:=T.b4);(replace ⟨AU,AV,Eb,Ec⟩:=S.b4))
   exact bodyPost_ret (v:=.tuple #[.agg #[.int .i64 t1,.int .i64 t2,.int .i64 t3,.int .i64 t4],.int .i64 (k:Int),.bool true]) (by simp [results,Tryz.results63,go_sem, *]) rfl (⟨by rw [Ct.out,EJ.out,hbk.out,BR.out,C9.out,C_.out,DA.out,DB.out];simp only [M.bn],wJ (wJ (wJ (wJ B (by simp <;> omega) _) (by simp <;> omega) _) (by simp <;> omega) _) (by simp <;> omega) _⟩)
  | true=>
  rw [hok,if_pos rfl] at hNs;have JS:=wH (hNs.symm.trans hN.out);rw [hok] at P1;simp only [M.bn] at P1
  have PC:=fun W=>kc bl bh hl hh W hsk.out hsn
  clear hNs hok hN;have P1:=wH P1;have hse:=wH (show M.aQ (M.bL a b X E (k+1)) (M.bH a b X E (k+1))=M.aQ (max bl hl) (min bh hh) by rw [eL.out,eH.out])
  cases hs:M.aQ (max bl hl) (min bh hh) with
  | false=>
   have EJ:=wH (show M.AK a b X E=false from hno.out (k+1) (by have:=M.qg (a:=a) (b:=b) (X:=X) (E:=E) (5 - (k+1)) (k+1);rw [JS.out] at this;exact this) (by rw [hse.out];exact hs));rw [hs] at PC;simp only [M.fe] at PC;clear hs hse;have PC:=wH PC;generalize C9:M.pn (bl)=t1 at *;replace C9:=wH C9;generalize C_:M.pd (bl)=t2 at *;replace C_:=wH C_;generalize DA:M.pn (bh)=t3 at *;replace DA:=wH DA;generalize DB:M.pd (bh)=t4 at *;replace DB:=wH DB;generalize JF:M.pn (hl)=y1 at *;replace JF:=wH JF;generalize JG:M.pd (hl)=y2 at *;replace JG:=wH JG;generalize JH:M.pn (hh)=y3 at *;replace JH:=wH JH;generalize JI:M.pd (hh)=y4 at *;replace JI:=wH JI
   go_wp2_with (first
    | (go_at_call 60;(with_reducible refine (P1.out _).mono ?_);rintro e w5 ⟨rfl,hb5⟩;replace C:=C.keep hb5;replace R:=R.keep hb5;replace T:=T.keep hb5;replace B:=d_ B hb5;replace Q:=Q.keep hb5;replace Q:=Q.alloc (.cells #[.int .i64 y1,.int .i64 y2,.int .i64 y3,.int .i64 y4] 33);have S:=aH.new w5 #[.int .i64 y1,.int .i64 y2,.int .i64 y3,.int .i64 y4] 33;have b_:=bA w5 (.cells #[.int .i64 y1,.int .i64 y2,.int .i64 y3,.int .i64 y4] 33);replace C:=C.keep b_;replace R:=R.keep b_;replace T:=T.keep b_;replace B:=d_ B b_;clear b_;(replace ⟨f_,g_⟩:=C.b2);(replace ⟨wP,wQ,wU,wV,wM,wN,wT,wY⟩:=R.xJ);(replace ⟨xP,xQ,Bl,Bo,Bp,Br,Ed,Ee⟩:=T.xJ);(replace ⟨AU,AV,Eb,Ec⟩:=S.b4))
    | (go_at_call 120;(with_reducible refine (PC.out _).mono ?_);rintro e w6 ⟨rfl,hb6⟩;replace C:=C.keep hb6;replace R:=R.keep hb6;replace T:=T.keep hb6;replace S:=S.keep hb6;replace B:=d_ B hb6;replace Q:=Q.keep hb6;replace Q:=Q.alloc (.cells #[.int .i64 0,.int .i64 0,.int .i64 0,.int .i64 0] 33);have O:=aH.new w6 #[.int .i64 0,.int .i64 0,.int .i64 0,.int .i64 0] 33;have b_:=bA w6 (.cells #[.int .i64 0,.int .i64 0,.int .i64 0,.int .i64 0] 33);replace C:=C.keep b_;replace R:=R.keep b_;replace T:=T.keep b_;replace S:=S.keep b_;replace B:=d_ B b_;clear b_;(replace ⟨f_,g_⟩:=C.b2);(replace ⟨wP,wQ,wU,wV,wM,wN,wT,wY⟩:=R.xJ);(replace ⟨xP,xQ,Bl,Bo,Bp,Br,Ed,Ee⟩:=T.xJ);(replace ⟨AU,AV,Eb,Ec⟩:=S.b4);(replace ⟨yu,yv,yw,yx⟩:=O.b4)))
   exact bodyPost_ret (v:=.tuple #[.agg #[.int .i64 0,.int .i64 0,.int .i64 0,.int .i64 0],.int .i64 0,.bool false]) (by simp [results,Tryz.results63,go_sem, *]) rfl (⟨by rw [EJ.out];simp only [M.fe],wJ (wJ (wJ (wJ B (by simp <;> omega) _) (by simp <;> omega) _) (by simp <;> omega) _) (by simp <;> omega) _⟩)
  | true=>
  have hs2:=wH (hse.out.trans hs);rw [hs] at PC;simp only [M.bn] at PC;clear hs hse;have PC:=wH PC;generalize C9:M.pn (bl)=t1 at *;replace C9:=wH C9;generalize C_:M.pd (bl)=t2 at *;replace C_:=wH C_;generalize DA:M.pn (bh)=t3 at *;replace DA:=wH DA;generalize DB:M.pd (bh)=t4 at *;replace DB:=wH DB;generalize JF:M.pn (hl)=y1 at *;replace JF:=wH JF;generalize JG:M.pd (hl)=y2 at *;replace JG:=wH JG;generalize JH:M.pn (hh)=y3 at *;replace JH:=wH JH;generalize JI:M.pd (hh)=y4 at *;replace JI:=wH JI;generalize Op:M.pn (max bl hl)=z1 at *;replace Op:=wH Op;generalize Oq:M.pd (max bl hl)=z2 at *;replace Oq:=wH Oq;generalize Ot:M.pn (min bh hh)=z3 at *;replace Ot:=wH Ot;generalize Ou:M.pd (min bh hh)=z4 at *;replace Ou:=wH Ou
  go_wp2_with (first
   | (go_at_call 60;(with_reducible refine (P1.out _).mono ?_);rintro e w5 ⟨rfl,hb5⟩;replace C:=C.keep hb5;replace R:=R.keep hb5;replace T:=T.keep hb5;replace B:=d_ B hb5;replace Q:=Q.keep hb5;replace Q:=Q.alloc (.cells #[.int .i64 y1,.int .i64 y2,.int .i64 y3,.int .i64 y4] 33);have S:=aH.new w5 #[.int .i64 y1,.int .i64 y2,.int .i64 y3,.int .i64 y4] 33;have b_:=bA w5 (.cells #[.int .i64 y1,.int .i64 y2,.int .i64 y3,.int .i64 y4] 33);replace C:=C.keep b_;replace R:=R.keep b_;replace T:=T.keep b_;replace B:=d_ B b_;clear b_;(replace ⟨f_,g_⟩:=C.b2);(replace ⟨wP,wQ,wU,wV,wM,wN,wT,wY⟩:=R.xJ);(replace ⟨xP,xQ,Bl,Bo,Bp,Br,Ed,Ee⟩:=T.xJ);(replace ⟨AU,AV,Eb,Ec⟩:=S.b4))
   | (go_at_call 120;(with_reducible refine (PC.out _).mono ?_);rintro e w6 ⟨rfl,hb6⟩;replace C:=C.keep hb6;replace R:=R.keep hb6;replace T:=T.keep hb6;replace S:=S.keep hb6;replace B:=d_ B hb6;replace Q:=Q.keep hb6;replace Q:=Q.alloc (.cells #[.int .i64 z1,.int .i64 z2,.int .i64 z3,.int .i64 z4] 33);have O:=aH.new w6 #[.int .i64 z1,.int .i64 z2,.int .i64 z3,.int .i64 z4] 33;have b_:=bA w6 (.cells #[.int .i64 z1,.int .i64 z2,.int .i64 z3,.int .i64 z4] 33);replace C:=C.keep b_;replace R:=R.keep b_;replace T:=T.keep b_;replace S:=S.keep b_;replace B:=d_ B b_;clear b_;(replace ⟨f_,g_⟩:=C.b2);(replace ⟨wP,wQ,wU,wV,wM,wN,wT,wY⟩:=R.xJ);(replace ⟨xP,xQ,Bl,Bo,Bp,Br,Ed,Ee⟩:=T.xJ);(replace ⟨AU,AV,Eb,Ec⟩:=S.b4);(replace ⟨yu,yv,yw,yx⟩:=O.b4)))
  go_roundw
  case rel=>exact ⟨k+1,by omega,by go_num,JS,hs2,by rw [eL.out,eH.out,Op.out,Oq.out,Ot.out,Ou.out];exact aH.uq T _ _ _ _,(((C.other (show w.heap.size≠w4.heap.size by omega) _).other (show w.heap.size≠w4.heap.size by omega) _).other (show w.heap.size≠w4.heap.size by omega) _).other (show w.heap.size≠w4.heap.size by omega) _,(((Q.other (show w.heap.size+1≠w4.heap.size by omega) _).other (show w.heap.size+1≠w4.heap.size by omega) _).other (show w.heap.size+1≠w4.heap.size by omega) _).other (show w.heap.size+1≠w4.heap.size by omega) _,(((R.other (show w.heap.size+1+1≠w4.heap.size by omega) _).other (show w.heap.size+1+1≠w4.heap.size by omega) _).other (show w.heap.size+1+1≠w4.heap.size by omega) _).other (show w.heap.size+1+1≠w4.heap.size by omega) _,wJ (wJ (wJ (wJ B (by simp <;> omega) _) (by simp <;> omega) _) (by simp <;> omega) _) (by simp <;> omega) _⟩
  case measure=>simp [intOf] <;> omega
 obtain rfl:k=5:=by omega
 have Ct:=wH (show M.bN a b X E=5 by rw [←hN.out];rfl);have EJ:=wH (show M.AK a b X E=true by unfold M.AK;rw [Ct.out,hbk.out,BR.out];exact hsk.out);clear hN PK eL eH
 obtain ⟨k,hk5⟩:∃ k:Nat,k=5:=⟨5,rfl⟩
 rw [←hk5] at Ct hbk BR;have GR:=wH (show (k:Int)=5 by omega);clear hk5;generalize C9:M.pn (bl)=t1 at *;replace C9:=wH C9;generalize C_:M.pd (bl)=t2 at *;replace C_:=wH C_;generalize DA:M.pn (bh)=t3 at *;replace DA:=wH DA;generalize DB:M.pd (bh)=t4 at *;replace DB:=wH DB;go_wp2;exact bodyPost_ret (v:=.tuple #[.agg #[.int .i64 t1,.int .i64 t2,.int .i64 t3,.int .i64 t4],.int .i64 5,.bool true]) (by simp [results,Tryz.results63,go_sem, *]) rfl (⟨by rw [Ct.out,EJ.out,GR.out,hbk.out,BR.out,C9.out,C_.out,DA.out,DB.out];simp only [M.bn],wJ (wJ (wJ (wJ B (by simp <;> omega) _) (by simp <;> omega) _) (by simp <;> omega) _) (by simp <;> omega) _⟩)
namespace M
def cv (a b x e:Int):Int:=x*x*x+a*x*e*e*e*e+b*e*e*e*e*e*e
def bG (a b X Y E:Int):Bool:=if E=0 then decide (X=0) && decide (Y=0) else M.ins X (-10000) 10000 && M.ins E 1 20 && (M.gcd X E == 1) && decide (Y*Y=cv a b X E)
theorem qz (a b x e:Int):x*x*x+a*x*(e*e)*(e*e)+b*(e*e)*(e*e)*(e*e)=cv a b x e:=by unfold cv;grind
end M
theorem gZ (a b x e:Int) (w:World) (ha1:-1000≤a) (ha2:a≤1000) (hb1:-10000≤b) (hb2:b≤10000) (hx1:-10000≤x) (hx2:x≤10000) (he1:-20≤e) (he2:e≤20) :
  Calls Tryz.prog 115 #[.agg #[.int .i64 a,.int .i64 b],.int .i64 x,.int .i64 e] w fun e' w'=>e'=.returned (.int .i64 (M.cv a b x e))∧Below w.heap.size w w':=by
 have sb1:=M.aL (x:=x) (y:=x) (m:=10000) (n:=10000) (by omega) (by omega) (by omega) (by omega);have Jn:=M.aL (x:=x*x) (y:=x) (m:=100000000) (n:=10000) (by omega) (by omega) (by omega) (by omega);have Jo:=M.aL (x:=a) (y:=x) (m:=1000) (n:=10000) (by omega) (by omega) (by omega) (by omega);have Jp:=M.aL (x:=a*x) (y:=e) (m:=10000000) (n:=20) (by omega) (by omega) (by omega) (by omega);have Jq:=M.aL (x:=a*x*e) (y:=e) (m:=200000000) (n:=20) (by omega) (by omega) (by omega) (by omega);have Jr:=M.aL (x:=a*x*e*e) (y:=e) (m:=4000000000) (n:=20) (by omega) (by omega) (by omega) (by omega);have Js:=M.aL (x:=a*x*e*e*e) (y:=e) (m:=80000000000) (n:=20) (by omega) (by omega) (by omega) (by omega);have Jt:=M.aL (x:=b) (y:=e) (m:=10000) (n:=20) (by omega) (by omega) (by omega) (by omega);have Ju:=M.aL (x:=b*e) (y:=e) (m:=200000) (n:=20) (by omega) (by omega) (by omega) (by omega);have FN:=M.aL (x:=b*e*e) (y:=e) (m:=4000000) (n:=20) (by omega) (by omega) (by omega) (by omega);have FO:=M.aL (x:=b*e*e*e) (y:=e) (m:=80000000) (n:=20) (by omega) (by omega) (by omega) (by omega);have FP:=M.aL (x:=b*e*e*e*e) (y:=e) (m:=1600000000) (n:=20) (by omega) (by omega) (by omega) (by omega);have FQ:=M.aL (x:=b*e*e*e*e*e) (y:=e) (m:=32000000000) (n:=20) (by omega) (by omega) (by omega) (by omega);have hcv:=wH (M.qz a b x e);go_enter Tryz.func115,Tryz.ntmps115
 go_wp2;go_ret;exact ⟨by rfl,(by repeat (first | exact wK _ _ | refine aV ?_ _ | refine aW ?_ (by assumption) | refine Below.drew ?_ | refine wJ ?_ (by first | exact wL _ | exact Nat.le_add_right _ _ | (simp <;> omega)) _ | refine aM ?_ _))⟩
theorem kU (a b x e:Int) (w:World) (ha1:-1000≤a) (ha2:a≤1000) (hb1:-10000≤b) (hb2:b≤10000) (hx1:-10000≤x) (hx2:x≤10000) (he1:-20≤e) (he2:e≤20) :
  Calls Tryz.prog 161 #[.agg #[.int .i64 a,.int .i64 b],.int .i64 x,.int .i64 e] w fun e' w'=>e'=.returned (.int .i64 (M.cv a b x e))∧Below w.heap.size w w':=by
 have FR:=M.aL (x:=x) (y:=x) (m:=10000) (n:=10000) (by omega) (by omega) (by omega) (by omega);have FS:=M.aL (x:=x*x) (y:=x) (m:=100000000) (n:=10000) (by omega) (by omega) (by omega) (by omega);have FT:=M.aL (x:=a) (y:=x) (m:=1000) (n:=10000) (by omega) (by omega) (by omega) (by omega);have Gz:=M.aL (x:=e) (y:=e) (m:=20) (n:=20) (by omega) (by omega) (by omega) (by omega);have G0:=M.aL (x:=a*x) (y:=e*e) (m:=10000000) (n:=400) (by omega) (by omega) (by omega) (by omega);have G3:=M.aL (x:=a*x*(e*e)) (y:=e*e) (m:=4000000000) (n:=400) (by omega) (by omega) (by omega) (by omega);have G4:=M.aL (x:=b) (y:=e*e) (m:=10000) (n:=400) (by omega) (by omega) (by omega) (by omega);have G5:=M.aL (x:=b*(e*e)) (y:=e*e) (m:=4000000) (n:=400) (by omega) (by omega) (by omega) (by omega);have G6:=M.aL (x:=b*(e*e)*(e*e)) (y:=e*e) (m:=1600000000) (n:=400) (by omega) (by omega) (by omega) (by omega);have hcv:=wH (M.qz a b x e);go_enter Tryz.func161,Tryz.ntmps161
 go_wp2;go_ret;exact ⟨by rw [←hcv.out];rfl,(by repeat (first | exact wK _ _ | refine aV ?_ _ | refine aW ?_ (by assumption) | refine Below.drew ?_ | refine wJ ?_ (by first | exact wL _ | exact Nat.le_add_right _ _ | (simp <;> omega)) _ | refine aM ?_ _))⟩
theorem M.mG {a b x e:Int} (ha1:-1000≤a) (ha2:a≤1000) (hb1:-10000≤b) (hb2:b≤10000) (hx1:-10000≤x) (hx2:x≤10000) (he1:-20≤e) (he2:e≤20):-4000000000000≤M.cv a b x e∧M.cv a b x e≤4000000000000:=by
 have G7:=M.aL (x:=x) (y:=x) (m:=10000) (n:=10000) (by omega) (by omega) (by omega) (by omega);have G8:=M.aL (x:=x*x) (y:=x) (m:=100000000) (n:=10000) (by omega) (by omega) (by omega) (by omega);have G9:=M.aL (x:=a) (y:=x) (m:=1000) (n:=10000) (by omega) (by omega) (by omega) (by omega);have G_:=M.aL (x:=a*x) (y:=e) (m:=10000000) (n:=20) (by omega) (by omega) (by omega) (by omega);have HA:=M.aL (x:=a*x*e) (y:=e) (m:=200000000) (n:=20) (by omega) (by omega) (by omega) (by omega);have Ir:=M.aL (x:=a*x*e*e) (y:=e) (m:=4000000000) (n:=20) (by omega) (by omega) (by omega) (by omega);have OR:=M.aL (x:=a*x*e*e*e) (y:=e) (m:=80000000000) (n:=20) (by omega) (by omega) (by omega) (by omega);have OS:=M.aL (x:=b) (y:=e) (m:=10000) (n:=20) (by omega) (by omega) (by omega) (by omega);have OT:=M.aL (x:=b*e) (y:=e) (m:=200000) (n:=20) (by omega) (by omega) (by omega) (by omega);have OU:=M.aL (x:=b*e*e) (y:=e) (m:=4000000) (n:=20) (by omega) (by omega) (by omega) (by omega);have OV:=M.aL (x:=b*e*e*e) (y:=e) (m:=80000000) (n:=20) (by omega) (by omega) (by omega) (by omega);have OW:=M.aL (x:=b*e*e*e*e) (y:=e) (m:=1600000000) (n:=20) (by omega) (by omega) (by omega) (by omega);have OX:=M.aL (x:=b*e*e*e*e*e) (y:=e) (m:=32000000000) (n:=20) (by omega) (by omega) (by omega) (by omega);unfold M.cv;omega
theorem M.tr {Y v:Int} (h:Y*Y=v) (hv:v≤4000000000000):-3000000≤Y∧Y≤3000000:=by
 constructor
 ·rcases Int.lt_or_le Y (-3000000) with q | q
  ·have:=Int.mul_le_mul (a:=3000000) (b:=3000000) (c:=-Y) (d:=-Y) (by omega) (by omega) (by omega) (by omega)
   rw [Int.neg_mul_neg] at this;omega
  exact q
 rcases Int.lt_or_le 3000000 Y with q | q
 ·have:=Int.mul_le_mul (a:=3000000) (b:=3000000) (c:=Y) (d:=Y) (by omega) (by omega) (by omega) (by omega)
  omega
 exact q
theorem dL (a b X Y E:Int) (w:World) :
  Calls Tryz.prog 55 #[.agg #[.int .i64 a,.int .i64 b],.agg #[.int .i64 X,.int .i64 Y,.int .i64 E]] w fun e w'=>e=.returned (.bool (M.good a b && M.bG a b X Y E))∧Below w.heap.size w w':=by
 have PC:=fun W=>iT a b W
 have PI:=wH fun n lo hi W=>cK n lo hi W
 have C:=(aH.new w #[.int .i64 a,.int .i64 b] 25).alloc (.cells #[.int .i64 X,.int .i64 Y,.int .i64 E] 27)
 have Q:=(aH.new (w.alloc (.cells #[.int .i64 a,.int .i64 b] 25)) #[.int .i64 X,.int .i64 Y,.int .i64 E] 27)
 rw [wI] at Q;have B:=((wK w.heap.size w).alloc (wL _) (.cells #[.int .i64 a,.int .i64 b] 25)).alloc (by rw [wI];omega) (.cells #[.int .i64 X,.int .i64 Y,.int .i64 E] 27);generalize hw3:(w.alloc (.cells #[.int .i64 a,.int .i64 b] 25)).alloc (.cells #[.int .i64 X,.int .i64 Y,.int .i64 E] 27)=wc at *;have ⟨q0,q1,q2⟩:=Q.aK;have f_:=C.box.c0;have g_:=C.box.c1
 cases hgd:M.good a b with
 | false=>
  rw [hgd] at PC;have PC:=wH PC;go_enter Tryz.func55,Tryz.ntmps55
  go_wp2_with (go_at_call 73;(with_reducible refine (PC.out _).mono ?_);rintro e w4 ⟨rfl,hb4⟩;replace C:=C.keep hb4;replace B:=d_ B hb4;replace Q:=Q.keep hb4;(have ⟨z0,z1,z2⟩:=Q.aK);(replace ⟨f_,g_⟩:=C.b2))
  go_ret;exact ⟨rfl,B⟩
 | true=>
 obtain ⟨ha1,ha2,hb1,hb2⟩:=M.an (M.ag hgd);rw [hgd] at PC;have PC:=wH PC;clear hgd;rw [Bool.true_and]
 by_cases hE:E=0
 ·by_cases hX:X=0
  ·by_cases hY:Y=0
   ·subst hE hX hY
    go_enter Tryz.func55,Tryz.ntmps55
    go_wp2_with (go_at_call 73;(with_reducible refine (PC.out _).mono ?_);rintro e w4 ⟨rfl,hb4⟩;replace C:=C.keep hb4;replace B:=d_ B hb4;replace Q:=Q.keep hb4;(have ⟨z0,z1,z2⟩:=Q.aK);(replace ⟨f_,g_⟩:=C.b2))
    go_ret;exact ⟨rfl,B⟩
   have hres:=wH (show M.bG a b X Y E=false by unfold M.bG;rw [if_pos hE];simp [hY]);have hi:=wH (show M.ins E 1 20=false by unfold M.ins;simp;omega);subst hE hX;rw [hres.out]
   have PE:=fun W=>PI.out 0 1 20 W
   rw [hi.out] at PE;have PE:=wH PE;have hi2:=wH (show M.ins 0 (-10000) 10000=true by decide)
   have PX:=fun W=>PI.out 0 (-10000) 10000 W
   rw [hi2.out] at PX;have PX:=wH PX;clear PI;go_enter Tryz.func55,Tryz.ntmps55
   go_wp2_with (first
    | (go_at_call 73;(with_reducible refine (PC.out _).mono ?_);rintro e w4 ⟨rfl,hb4⟩;replace C:=C.keep hb4;replace B:=d_ B hb4;replace Q:=Q.keep hb4;(have ⟨z0,z1,z2⟩:=Q.aK);(replace ⟨f_,g_⟩:=C.b2))
    | (go_at_call 56;first | ((with_reducible refine (PX.out _).mono ?_);rintro e w6 ⟨rfl,rfl⟩) | ((with_reducible refine (PE.out _).mono ?_);rintro e w6 ⟨rfl,rfl⟩)))
   go_ret;exact ⟨rfl,B⟩
  have hX0:(X == 0)=false:=by rw [beq_eq_false_iff_ne];exact hX
  subst hE
  have yo:(M.ins X (-10000) 10000=false∨M.ins 0 1 20=false)→M.bG a b X Y 0=false:=fun _=>by unfold M.bG;rw [if_pos rfl];simp [hX]
  have hE0:M.ins 0 1 20=false:=by decide
  have P1:=fun W=>PI.out X (-10000) 10000 W
  have P2:=fun W=>PI.out 0 1 20 W
  have P4:=fun W=>PI.out Y (-3000000) 3000000 W
  have hgb:=fun h=>M.fH (n:=X) (lo:=-10000) (hi:=10000) h
  have hge:=fun h=>M.fH (n:=0) (lo:=1) (hi:=20) h
  have hyb:=fun h=>M.tr (Y:=Y) (v:=M.cv a b X 0) h
  have BE:M.ins Y (-3000000) 3000000=true ↔ (-3000000≤Y∧Y≤3000000):=by unfold M.ins;simp
  generalize M.ins Y (-3000000) 3000000=i4,M.ins 0 1 20=i2,M.ins X (-10000) 10000=i1 at *;clear PI
  cases i1 with
  | false=>
   have hr2:=wH (show M.bG a b X Y 0=false from yo (Or.inl rfl));rw [hr2.out];have P1:=wH P1;have P2:=wH P2;have P4:=wH P4;clear hgb hge hyb BE yo;go_enter Tryz.func55,Tryz.ntmps55
   go_wp2_with (first
    | (go_at_call 73;(with_reducible refine (PC.out _).mono ?_);rintro e w4 ⟨rfl,hb4⟩;replace C:=C.keep hb4;replace B:=d_ B hb4;replace Q:=Q.keep hb4;(have ⟨z0,z1,z2⟩:=Q.aK);(replace ⟨f_,g_⟩:=C.b2))
    | (go_at_call 56;first | ((with_reducible refine (P1.out _).mono ?_);rintro e w6 ⟨rfl,rfl⟩) | ((with_reducible refine (P2.out _).mono ?_);rintro e w6 ⟨rfl,rfl⟩) | ((with_reducible refine (P4.out _).mono ?_);rintro e w6 ⟨rfl,rfl⟩)))
   go_ret;exact ⟨rfl,B⟩
  | true=>
  cases i2 with
  | false=>
   have hr2:=wH (show M.bG a b X Y 0=false from yo (Or.inr rfl));rw [hr2.out];have P1:=wH P1;have P2:=wH P2;have P4:=wH P4;clear hgb hge hyb BE yo;go_enter Tryz.func55,Tryz.ntmps55
   go_wp2_with (first
    | (go_at_call 73;(with_reducible refine (PC.out _).mono ?_);rintro e w4 ⟨rfl,hb4⟩;replace C:=C.keep hb4;replace B:=d_ B hb4;replace Q:=Q.keep hb4;(have ⟨z0,z1,z2⟩:=Q.aK);(replace ⟨f_,g_⟩:=C.b2))
    | (go_at_call 56;first | ((with_reducible refine (P1.out _).mono ?_);rintro e w6 ⟨rfl,rfl⟩) | ((with_reducible refine (P2.out _).mono ?_);rintro e w6 ⟨rfl,rfl⟩) | ((with_reducible refine (P4.out _).mono ?_);rintro e w6 ⟨rfl,rfl⟩)))
   go_ret;exact ⟨rfl,B⟩
  | true=>exact absurd hE0 (by decide)
 have hE0:(E == 0)=false:=by rw [beq_eq_false_iff_ne];exact hE
 have hpt:M.bG a b X Y E=(M.ins X (-10000) 10000 && M.ins E 1 20 && (M.gcd X E == 1) && decide (Y*Y=M.cv a b X E)):=by unfold M.bG;rw [if_neg hE]
 have yo:(M.ins X (-10000) 10000=false∨M.ins E 1 20=false)→M.bG a b X Y E=false:=fun h=>by rw [hpt];rcases h with h | h <;> rw [h] <;> simp
 have P1:=fun W=>PI.out X (-10000) 10000 W
 have P2:=fun W=>PI.out E 1 20 W
 have P4:=fun W=>PI.out Y (-3000000) 3000000 W
 have hgb:=fun h=>M.fH (n:=X) (lo:=-10000) (hi:=10000) h
 have hge:=fun h=>M.fH (n:=E) (lo:=1) (hi:=20) h
 have hyb:=fun h=>M.tr (Y:=Y) (v:=M.cv a b X E) h
 have BE:M.ins Y (-3000000) 3000000=true ↔ (-3000000≤Y∧Y≤3000000):=by unfold M.ins;simp
 generalize M.ins Y (-3000000) 3000000=i4,M.ins E 1 20=i2,M.ins X (-10000) 10000=i1 at *;clear PI
 cases i1 with
 | false=>
  have hr2:=wH (show M.bG a b X Y E=false from yo (Or.inl rfl));rw [hr2.out];have P1:=wH P1;have P2:=wH P2;have P4:=wH P4;clear hgb hge hyb BE yo;go_enter Tryz.func55,Tryz.ntmps55
  go_wp2_with (first
   | (go_at_call 73;(with_reducible refine (PC.out _).mono ?_);rintro e w4 ⟨rfl,hb4⟩;replace C:=C.keep hb4;replace B:=d_ B hb4;replace Q:=Q.keep hb4;(have ⟨z0,z1,z2⟩:=Q.aK);(replace ⟨f_,g_⟩:=C.b2))
   | (go_at_call 56;first | ((with_reducible refine (P1.out _).mono ?_);rintro e w6 ⟨rfl,rfl⟩) | ((with_reducible refine (P2.out _).mono ?_);rintro e w6 ⟨rfl,rfl⟩) | ((with_reducible refine (P4.out _).mono ?_);rintro e w6 ⟨rfl,rfl⟩)))
  go_ret;exact ⟨rfl,B⟩
 | true=>
 cases i2 with
 | false=>
  have hr2:=wH (show M.bG a b X Y E=false from yo (Or.inr rfl));rw [hr2.out];have P1:=wH P1;have P2:=wH P2;have P4:=wH P4;clear hgb hge hyb BE yo;go_enter Tryz.func55,Tryz.ntmps55
  go_wp2_with (first
   | (go_at_call 73;(with_reducible refine (PC.out _).mono ?_);rintro e w4 ⟨rfl,hb4⟩;replace C:=C.keep hb4;replace B:=d_ B hb4;replace Q:=Q.keep hb4;(have ⟨z0,z1,z2⟩:=Q.aK);(replace ⟨f_,g_⟩:=C.b2))
   | (go_at_call 56;first | ((with_reducible refine (P1.out _).mono ?_);rintro e w6 ⟨rfl,rfl⟩) | ((with_reducible refine (P2.out _).mono ?_);rintro e w6 ⟨rfl,rfl⟩) | ((with_reducible refine (P4.out _).mono ?_);rintro e w6 ⟨rfl,rfl⟩)))
  go_ret;exact ⟨rfl,B⟩
 | true=>
 rw [Bool.true_and,Bool.true_and] at hpt;have hb1:=hgb rfl;have hb2:=hge rfl;obtain ⟨x1,x2⟩:=hb1;obtain ⟨e1,e2⟩:=hb2
 have PG:=wH fun W=>ji X E W (by omega) (by omega) (by omega) (by omega)
 have hcb:=M.mG (a:=a) (b:=b) (x:=X) (e:=E) ha1 ha2 (by omega) (by omega) x1 x2 (by omega) (by omega)
 have PV:=fun W=>gZ a b X E W ha1 ha2 (by omega) (by omega) x1 x2 (by omega) (by omega)
 clear hgb hge yo;generalize M.gcd X E=gg at *
 by_cases hg1:gg=1
 ·have hg2:(gg == 1)=true:=by rw [beq_iff_eq];exact hg1
  rw [hg2,Bool.true_and] at hpt
  cases i4 with
  | false=>
   have hr2:=wH (show M.bG a b X Y E=false by rw [hpt];simp only [decide_eq_false_iff_not];intro B_;have:=BE.2 (hyb B_ (by omega));cases this);rw [hr2.out];clear hpt BE hyb hcb PV;have P1:=wH P1;have P2:=wH P2;have P4:=wH P4;go_enter Tryz.func55,Tryz.ntmps55
   go_wp2_with (first
    | (go_at_call 73;(with_reducible refine (PC.out _).mono ?_);rintro e w4 ⟨rfl,hb4⟩;replace C:=C.keep hb4;replace B:=d_ B hb4;replace Q:=Q.keep hb4;(have ⟨z0,z1,z2⟩:=Q.aK);(replace ⟨f_,g_⟩:=C.b2))
    | (go_at_call 56;first | ((with_reducible refine (P1.out _).mono ?_);rintro e w6 ⟨rfl,rfl⟩) | ((with_reducible refine (P2.out _).mono ?_);rintro e w6 ⟨rfl,rfl⟩) | ((with_reducible refine (P4.out _).mono ?_);rintro e w6 ⟨rfl,rfl⟩))
    | (go_at_call 114;(refine (PG.out _).mono ?_);rintro e w7 ⟨rfl,m_,rfl⟩))
   go_ret;exact ⟨rfl,aM B _⟩
  | true=>
  obtain ⟨y1,y2⟩:=BE.1 rfl;have B_:=M.aL (x:=Y) (y:=Y) (m:=3000000) (n:=3000000) (by omega) (by omega) (by omega) (by omega);generalize M.cv a b X E=v at *;have hpt:=wH hpt;rw [hpt.out];clear BE hyb hcb;have PV:=wH PV;have P1:=wH P1;have P2:=wH P2;have P4:=wH P4;go_enter Tryz.func55,Tryz.ntmps55
  go_upto_region 7 with (first
   | (go_at_call 73;(with_reducible refine (PC.out _).mono ?_);rintro e w4 ⟨rfl,hb4⟩;replace C:=C.keep hb4;replace B:=d_ B hb4;replace Q:=Q.keep hb4;(have ⟨z0,z1,z2⟩:=Q.aK);(replace ⟨f_,g_⟩:=C.b2))
   | (go_at_call 56;first | ((with_reducible refine (P1.out _).mono ?_);rintro e w6 ⟨rfl,rfl⟩) | ((with_reducible refine (P2.out _).mono ?_);rintro e w6 ⟨rfl,rfl⟩) | ((with_reducible refine (P4.out _).mono ?_);rintro e w6 ⟨rfl,rfl⟩))
   | (go_at_call 114;(refine (PG.out _).mono ?_);rintro e w7 ⟨rfl,m_,rfl⟩))
  have C2:aH (w4.drewN m_) w.heap.size 25 #[.int .i64 a,.int .i64 b]:=by unfold aH at *;rw [World.heap_drewN];exact C
  have Q2:aH (w4.drewN m_) (w.heap.size+1) 27 #[.int .i64 X,.int .i64 Y,.int .i64 E]:=by unfold aH at *;rw [World.heap_drewN];exact Q
  have B2:=aM B m_;generalize w4.drewN m_=wd at *;clear C Q B;refine Rg.bO 13 [.is (.pointer (some ⟨w.heap.size+1,1,none⟩)),.is (.int .i64 Y),.is (.pointer (some ⟨w.heap.size+1,1,none⟩)),.is (.int .i64 Y),.is (.int .i64 (Y*Y)),.is (.agg #[.int .i64 a,.int .i64 b]),.is (.pointer (some ⟨w.heap.size+1,0,none⟩)),.is (.int .i64 X),.is (.pointer (some ⟨w.heap.size+1,2,none⟩)),.is (.int .i64 E),.is (.int .i64 v),.is (.bool (decide (Y*Y=v))),.is (.bool (decide (Y*Y=v)))] (by kernel_rfl) (by kernel_rfl) (by kernel_rfl) ⟨?_,?_,?_,?_,?_,?_,?_,?_,?_,?_,?_,?_,?_,trivial⟩ ?_
  ·intro _ zZ w_ hB hr
   have e3:zZ.tmps[3]?=some (.pointer (some ⟨w.heap.size+1,0,none⟩)):=hr 3 (by decide);exact Rg.aG rfl (by go_simp)
  ·intro _ zZ w_ hB hr
   have e35:=Rg.c_ (hr 35 (by decide));have k1:=aE hB Q2.aK.2.1;exact Rg.aG rfl (by go_simp)
  ·intro _ zZ w_ hB hr
   have e3:zZ.tmps[3]?=some (.pointer (some ⟨w.heap.size+1,0,none⟩)):=hr 3 (by decide);exact Rg.aG rfl (by go_simp)
  ·intro _ zZ w_ hB hr
   have e37:=Rg.c_ (hr 37 (by decide));have k1:=aE hB Q2.aK.2.1;exact Rg.aG rfl (by go_simp)
  ·intro _ zZ w_ hB hr
   have e36:=Rg.c_ (hr 36 (by decide));have e38:=Rg.c_ (hr 38 (by decide));exact Rg.aG rfl (by go_simp <;> exact Rg.wo (by omega))
  ·intro _ zZ w_ hB hr
   have e2:zZ.tmps[2]?=some (.pointer (some ⟨w.heap.size,0,none⟩)):=hr 2 (by decide);have k0:=aE hB C2.box.c0;have k1:=aE hB C2.box.c1;exact Rg.aG rfl (by go_simp)
  ·intro _ zZ w_ hB hr
   have e3:zZ.tmps[3]?=some (.pointer (some ⟨w.heap.size+1,0,none⟩)):=hr 3 (by decide);exact Rg.aG rfl (by go_simp)
  ·intro _ zZ w_ hB hr
   have e41:=Rg.c_ (hr 41 (by decide));have k0:=aE hB Q2.aK.1;exact Rg.aG rfl (by go_simp)
  ·intro _ zZ w_ hB hr
   have e3:zZ.tmps[3]?=some (.pointer (some ⟨w.heap.size+1,0,none⟩)):=hr 3 (by decide);exact Rg.aG rfl (by go_simp)
  ·intro _ zZ w_ hB hr
   have e43:=Rg.c_ (hr 43 (by decide));have k2:=aE hB Q2.aK.2.2;exact Rg.aG rfl (by go_simp)
  ·intro _ zZ w_ hB hr
   have e40:=Rg.c_ (hr 40 (by decide));have e42:=Rg.c_ (hr 42 (by decide));have e44:=Rg.c_ (hr 44 (by decide));have ef:=Rg.ef zZ;exact Rg.bo rfl (by go_simp) (PV.out _)
  ·intro _ zZ w_ hB hr
   have e39:=Rg.c_ (hr 39 (by decide));have e45:=Rg.c_ (hr 45 (by decide));exact Rg.aG rfl (by go_simp;first | done | rfl | (by_cases wS:Y*Y=v <;> simp [wS];done))
  ·intro _ zZ w_ hB hr
   have e46:=Rg.c_ (hr 46 (by decide));exact Rg.aG rfl (by go_simp)
  intro vals wz hB hv hne;have zO:vals 12=.bool (decide (Y*Y=v)):=hv 12 (by decide);simp only [Rg.ay,Rg.fill,Act.put,Nat.reduceAdd];clear hv;simp only [zO];clear zO;unfold Rg.aZ;go_wp2;go_ret;exact ⟨rfl,d_ B2 hB⟩
 have hg2:(gg == 1)=false:=by rw [beq_eq_false_iff_ne];exact hg1
 have hr2:=wH (show M.bG a b X Y E=false by rw [hpt,hg2];rfl);rw [hr2.out];clear hpt BE hyb hcb PV;have P1:=wH P1;have P2:=wH P2;have P4:=wH P4;go_enter Tryz.func55,Tryz.ntmps55
 go_wp2_with (first
  | (go_at_call 73;(with_reducible refine (PC.out _).mono ?_);rintro e w4 ⟨rfl,hb4⟩;replace C:=C.keep hb4;replace B:=d_ B hb4;replace Q:=Q.keep hb4;(have ⟨z0,z1,z2⟩:=Q.aK);(replace ⟨f_,g_⟩:=C.b2))
  | (go_at_call 56;first | ((with_reducible refine (P1.out _).mono ?_);rintro e w6 ⟨rfl,rfl⟩) | ((with_reducible refine (P2.out _).mono ?_);rintro e w6 ⟨rfl,rfl⟩) | ((with_reducible refine (P4.out _).mono ?_);rintro e w6 ⟨rfl,rfl⟩))
  | (go_at_call 114;(refine (PG.out _).mono ?_);rintro e w7 ⟨rfl,m_,rfl⟩))
 go_ret;exact ⟨rfl,aM B _⟩
end
section
namespace M
def eA (X Y E:Int):ws:=if E=0 then .O else .fin ((X:Rat) / ((E*E:Int):Rat)) ((Y:Rat) / ((E*E*E:Int):Rat))
theorem gw {a b X Y E:Int} (h:bG a b X Y E=true) (hE:E≠0):(-10000≤X∧X≤10000)∧(1≤E∧E≤20)∧Int.gcd X E=1∧Y*Y=cv a b X E:=by
 unfold bG at h;rw [if_neg hE] at h;simp only [Bool.and_eq_true,ins,decide_eq_true_eq,beq_iff_eq,gcd] at h;obtain ⟨⟨⟨h1,h2⟩,h3⟩,h4⟩:=h;exact ⟨h1,h2,by omega,h4⟩
theorem dS {E:Int} (h:E≠0):(E:Rat)≠0:=by exact_mod_cast h
theorem gA {a b X Y E:Int} (h:bG a b X Y E=true):ws.On a b (eA X Y E):=by
 unfold eA
 split
 ·trivial
 rename_i hE
 obtain ⟨-,-,-,h4⟩:=gw h hE;unfold ws.On
 have h5:(Y:Rat)*Y=X*X*X+a*X*E*E*E*E+b*E*E*E*E*E*E:=by
  unfold cv at h4
  exact_mod_cast h4
 have hz:=dS hE
 push_cast
 generalize (E:Rat)=e at *;have k1:=Rat.div_mul_cancel (a:=(X:Rat)) (b:=e*e) (by grind);have k2:=Rat.div_mul_cancel (a:=(Y:Rat)) (b:=e*e*e) (by grind);generalize (X:Rat) / (e*e)=x at *;generalize (Y:Rat) / (e*e*e)=y at *;rw [←k1,←k2] at h5;clear k1 k2
 have:(e*e*e*e*e*e)*(y*y)=(e*e*e*e*e*e)*(x*x*x+a*x+b):=by grind
 have BF:e*e*e*e*e*e≠0:=by grind
 grind
theorem ul {a b X Y E:Int} (h:bG a b X Y E=true) (hE:E≠0):ws.px (eA X Y E)=X∧ws.pz (eA X Y E)=E*E:=by
 obtain ⟨-,h2,h3,-⟩:=gw h hE;unfold eA;rw [if_neg hE]
 have hg:Int.gcd X (E*E)=1:=by
  unfold Int.gcd at *;rw [Int.natAbs_mul];exact Nat.Coprime.mul_right h3 h3
 have hp:0<E*E:=Int.mul_pos (by omega) (by omega);exact tY hp hg (Rat.div_mul_cancel (dS (by omega)))
theorem rk (X Y:Int):eA X Y 0=.O:=rfl
theorem uV {a b:Int} {d x z:Int} (h0:d ∣ 4*ae a b) (hc:Int.gcd x z=1):Wh.Ah (ae a b) (d*x) (d*z)=d.natAbs:=by
 unfold Wh.Ah;rw [Nat.gcd_assoc]
 have e:Nat.gcd (d*x).natAbs (d*z).natAbs=d.natAbs:=by
  have:=Int.gcd_mul_left d x z;rw [hc,Nat.mul_one] at this;exact this
 rw [e];have:=Int.natAbs_dvd_natAbs.2 h0;rw [Int.natAbs_mul] at this;exact Nat.gcd_eq_right this
theorem MJ {a b:Int} {d x z:Int} (h0:d≠0) (h1:d ∣ 4*ae a b) (hc:Int.gcd x z=1) (hz:0<z) :
  Wh.Bd (ae a b) (d*x) (d*z)=x∧Wh.Bc (ae a b) (d*x) (d*z)=z:=by
 unfold Wh.Bd Wh.Bc;rw [uV h1 hc]
 rcases Int.lt_or_le d 0 with hs | hs
 ·have hneg:d*z<0:=by
   have:=Int.mul_pos (a:=-d) (b:=z) (by omega) hz;rw [Int.neg_mul] at this;omega
  rw [if_pos hneg,if_pos hneg]
  have e:(d.natAbs:Int)=-d:=by omega
  rw [e]
  have:∀ t:Int,-(d*t / -d)=t:=fun t=>by
   rw [show d*t=-d*-t by grind,Int.mul_ediv_cancel_left _ (by omega)];omega
  exact ⟨this x,this z⟩
 have hpos:¬ d*z<0:=by
  have:=Int.mul_pos (a:=d) (b:=z) (by omega) hz;omega
 rw [if_neg hpos,if_neg hpos]
 have e:(d.natAbs:Int)=d:=by omega
 rw [e];exact ⟨Int.mul_ediv_cancel_left _ h0,Int.mul_ediv_cancel_left _ h0⟩
def li (P:ws):Out→Prop
 | .val u v=>ws.px P=u∧ws.pz P=v
 | .inf=>P=.O
 | .bad=>True
theorem tW {P:ws} (h:ws.pz P=0):P=.O:=by
 cases P with
 | O=>rfl
 | fin x y=>
 have:=x.den_nz;have h:(x.den:Int)=0:=h;omega
theorem rv {a b:Int} (hd:ae a b≠0) {P:ws} (hP:ws.On a b P) {o:Out} (ho:li P o):∀ n,li (ws.x5 a n P) (run a b n o)
 | 0=>ho
 | n+1=>by
  have ih:=rv hd hP ho n;have hon:=ws.de (ws.gJ hd) hP n
  show li (ws.add a (ws.x5 a n P) (ws.x5 a n P)) (nx a b (run a b n o))
  generalize run a b n o=q at *;generalize ws.x5 (a:Rat) n P=Q at *
  cases q with
  | bad=>trivial
  | inf=>
   have ih:Q=.O:=ih;rw [ih];rfl
  | val u v=>
  obtain ⟨rfl,rfl⟩:=(ih:ws.px Q=u∧ws.pz Q=v)
  obtain ⟨d,h1,h2,h3,h4⟩:=ws.tv hd hon;have hc:=ws.cop (ws.add (a:Rat) Q Q);have hn:=ws.ve (ws.add (a:Rat) Q Q);unfold nx
  dsimp only
  rw [h3,h4]
  split
  ·rename_i hz
   rcases Int.mul_eq_zero.1 hz with h | h
   ·exact absurd h h1
   exact tW h
  rename_i hz
  split
  ·have hp:0<ws.pz (ws.add (a:Rat) Q Q):=by
    rcases Int.lt_or_le 0 (ws.pz (ws.add (a:Rat) Q Q)) with h | h
    ·exact h
    exact absurd (show d*ws.pz (ws.add (a:Rat) Q Q)=0 by rw [show ws.pz (ws.add (a:Rat) Q Q)=0 by omega,Int.mul_zero]) hz
   obtain ⟨e1,e2⟩:=MJ h1 h2 hc hp;rw [e1,e2];exact ⟨rfl,rfl⟩
  trivial
theorem rZ {a b X Y E:Int} (hd:ae a b≠0) (h:bG a b X Y E=true) (n:Nat):li (ws.x5 a n (eA X Y E)) (aX a b X E n):=by
 unfold aX
 split
 ·rename_i hE
  subst hE;rw [rk,ws.rD];rfl
 rename_i hE
 exact rv hd (gA h) (o:=.val X (E*E)) (ul h hE) n
def z8 (s:Nat→Int) (lo hi:Int):Prop:=∃ c:Int,∀ n,lo*4 ^ n - c≤4096*s n∧4096*s n≤hi*4 ^ n+c
theorem fc (n:Nat):(1:Int)≤4 ^ n:=by
 induction n with
 | zero=>decide
 | succ n ih=>rw [Int.pow_succ];omega
theorem vX (n:Nat):(n:Int)≤4 ^ n:=by
 induction n with
 | zero=>decide
 | succ n ih=>rw [Int.pow_succ];have:=fc n;omega
theorem grow {x c:Int} (h:∀ n:Nat,x*4 ^ n≤c):x≤0:=by
 rcases Int.lt_or_le 0 x with hx | hx
 ·exfalso
  have h1:=h (c.toNat+1);have h2:=vX (c.toNat+1);have h3:1*(4:Int) ^ (c.toNat+1)≤x*4 ^ (c.toNat+1):=Int.mul_le_mul_of_nonneg_right (by omega) (by have:=fc (c.toNat+1);omega);omega
 exact hx
theorem z8.meet {s t:Nat→Int} {l h l' h':Int} (k:z8 s l h) (k':z8 t l' h') (e:ws.Cl s t):l≤h':=by
 obtain ⟨c,k⟩:=k;obtain ⟨d,k'⟩:=k';obtain ⟨f,e⟩:=e
 have:=grow (x:=l - h') (c:=c+d+4096*f) fun n=>by
  have:=k n;have:=k' n;have:=e n;rw [Int.sub_mul];omega
 omega
theorem z8.valid {s:Nat→Int} {l h:Int} (k:z8 s l h):l≤h:=k.meet k (ws.Cl.refl s)
theorem z8.common {s:Nat→Int} {l h l' h':Int} (k:z8 s l h) (k':z8 s l' h'):z8 s (max l l') (min h h'):=by
 obtain ⟨c,k⟩:=k;obtain ⟨d,k'⟩:=k';refine ⟨max c d,fun n=>?_⟩;have:=k n;have:=k' n
 rcases Int.le_total l l' with h1 | h1 <;> rcases Int.le_total h h' with h2 | h2
 ·rw [Int.max_eq_right h1,Int.min_eq_left h2];omega
 ·rw [Int.max_eq_right h1,Int.min_eq_right h2];omega
 ·rw [Int.max_eq_left h1,Int.min_eq_left h2];omega
 rw [Int.max_eq_left h1,Int.min_eq_right h2];omega
theorem z8.add {s t:Nat→Int} {l h l' h':Int} (k:z8 s l h) (k':z8 t l' h'):z8 (fun n=>s n+t n) (l+l') (h+h'):=by
 obtain ⟨c,k⟩:=k;obtain ⟨d,k'⟩:=k';exact ⟨c+d,fun n=>by have:=k n;have:=k' n;rw [Int.add_mul,Int.add_mul];show _≤4096*(s n+t n)∧4096*(s n+t n)≤_;omega⟩
theorem z8.sub {s t:Nat→Int} {l h l' h':Int} (k:z8 s l h) (k':z8 t l' h'):z8 (fun n=>s n - t n) (l - h') (h - l'):=by
 obtain ⟨c,k⟩:=k;obtain ⟨d,k'⟩:=k';exact ⟨c+d,fun n=>by have:=k n;have:=k' n;rw [Int.sub_mul,Int.sub_mul];show _≤4096*(s n - t n)∧4096*(s n - t n)≤_;omega⟩
theorem z8.scale {s:Nat→Int} {l h:Int} (m:Nat) (k:z8 s l h):z8 (fun n=>(m:Int)*s n) (l*m) (h*m):=by
 obtain ⟨c,k⟩:=k;refine ⟨m*c,fun n=>?_⟩;have k:=k n
 have hm:(0:Int)≤m:=by omega
 have k1:=Int.mul_le_mul_of_nonneg_left k.1 hm;have k2:=Int.mul_le_mul_of_nonneg_left k.2 hm
 constructor
 ·calc l*m*4 ^ n - m*c=(m:Int)*(l*4 ^ n - c):=by grind
   _≤(m:Int)*(4096*s n):=k1
   _=4096*((m:Int)*s n):=by grind
 calc 4096*((m:Int)*s n)=(m:Int)*(4096*s n):=by grind
  _≤(m:Int)*(h*4 ^ n+c):=k2
  _=h*m*4 ^ n+m*c:=by grind
end M
namespace M
def Fr (C:Int) (s:Nat→Int):Prop:=∀ n,1≤s n∧4*s n≤s (n+1)+C+3∧s (n+1)≤4*s n+C
theorem Fr.lo {C:Int} {s:Nat→Int} (h:Fr C s) (n:Nat):∀ k:Nat,4 ^ k*(3*(s n - 1) - C)≤3*(s (n+k) - 1) - C
 | 0=>by simp
 | k+1=>by
  have ih:=h.lo n k;have:=h (n+k);rw [Int.pow_succ,show n+(k+1)=n+k+1 by omega]
  have e:4 ^ k*4*(3*(s n - 1) - C)=4*(4 ^ k*(3*(s n - 1) - C)):=by grind
  rw [e];generalize 4 ^ k*(3*(s n - 1) - C)=x at *;omega
theorem Fr.hi {C:Int} {s:Nat→Int} (h:Fr C s) (n:Nat):∀ k:Nat,3*s (n+k)+C≤4 ^ k*(3*s n+C)
 | 0=>by simp
 | k+1=>by
  have ih:=h.hi n k;have:=h (n+k);rw [Int.pow_succ,show n+(k+1)=n+k+1 by omega]
  have e:4 ^ k*4*(3*s n+C)=4*(4 ^ k*(3*s n+C)):=by grind
  rw [e];generalize 4 ^ k*(3*s n+C)=x at *;omega
theorem Fr.hld {C:Nat} {s:Nat→Int} (h:Fr C s) (n:Nat):z8 s (max 0 (3*(s n - 1) - C)*4096 / p4 n) (-(-((3*s n+C)*4096) / p4 n)):=by
 have hT:=fc n
 have JY:(0:Int)<p4 n:=by unfold p4;omega
 have l1:max 0 (3*(s n - 1) - C)*4096 / p4 n*p4 n≤max 0 (3*(s n - 1) - C)*4096:=Int.ediv_mul_le _ (by omega);have l2:-((3*s n+C)*4096) / p4 n*p4 n≤-((3*s n+C)*4096):=Int.ediv_mul_le _ (by omega);have l0:0≤max 0 (3*(s n - 1) - C)*4096 / p4 n:=Int.ediv_nonneg (by omega) (by omega)
 have l3:-((3*s n+C)*4096) / p4 n≤0:=by
  have:=(h n).1;have:=Int.ediv_le_ediv (c:=p4 n) JY (show -((3*s n+C)*4096)≤0 by omega)
  simpa using this
 generalize hL:max 0 (3*(s n - 1) - C)*4096 / p4 n=L at *;generalize hH:-((3*s n+C)*4096) / p4 n=H at *;clear hL hH;unfold p4 at l1 l2;refine ⟨L*4 ^ n+4096*(3+2*C+3*s n),fun N=>?_⟩;have hs:=(h N).1;have hsn:=(h n).1
 rcases Nat.lt_or_ge N n with hN | hN
 ·obtain ⟨k,rfl⟩:∃ k,n=N+k:=⟨n - N,by omega⟩
  have hk:=fc k;have hP:=fc N;have w:=h.lo N k;have e:(4:Int) ^ (N+k)=4 ^ N*4 ^ k:=Int.pow_add ..
  constructor
  ·have:L*4 ^ N≤L*4 ^ (N+k):=by
    rw [e];refine Int.mul_le_mul_of_nonneg_left ?_ l0;have:(4:Int) ^ N*1≤4 ^ N*4 ^ k:=Int.mul_le_mul_of_nonneg_left hk (by omega);omega
   omega
  have h1:3*(s N - 1) - C≤max 0 (3*(s (N+k) - 1) - C):=by
   rcases Int.lt_or_le 0 (3*(s N - 1) - C) with q | q
   ·have:1*(3*(s N - 1) - C)≤4 ^ k*(3*(s N - 1) - C):=Int.mul_le_mul_of_nonneg_right hk (by omega)
    omega
   omega
  have h2:0≤-H*4 ^ N:=Int.mul_nonneg (by omega) (by omega);have h3:0≤L*4 ^ (N+k):=Int.mul_nonneg l0 (by have:=fc (N+k);omega);omega
 obtain ⟨k,rfl⟩:∃ k,N=n+k:=⟨N - n,by omega⟩
 have hk:=fc k;have w1:=h.lo n k;have w2:=h.hi n k;have e:(4:Int) ^ (n+k)=4 ^ n*4 ^ k:=Int.pow_add ..;have h0:0≤L*4 ^ n:=Int.mul_nonneg l0 (by omega)
 constructor
 ·-- from below
  have h1:3*(L*4 ^ (n+k))≤3*(4096*s (n+k)):=by
   rw [e]
   have e2:3*(L*(4 ^ n*4 ^ k))=4 ^ k*(L*(3*4 ^ n)):=by grind
   rw [e2];refine Int.le_trans (Int.mul_le_mul_of_nonneg_left l1 (by omega)) ?_
   rcases Int.lt_or_le 0 (3*(s n - 1) - C) with q | q
   ·rw [Int.max_eq_right (by omega)]
    have e3:4 ^ k*((3*(s n - 1) - (C:Int))*4096)=4096*(4 ^ k*(3*(s n - 1) - C)):=by grind
    rw [e3];omega
   rw [Int.max_eq_left (by omega)];simp
   omega
  omega
 have h1:3*(4096*s (n+k))≤3*(-H*4 ^ (n+k)):=by
  rw [e]
  have e2:3*(-H*(4 ^ n*4 ^ k))=4 ^ k*(-(H*(3*4 ^ n))):=by grind
  rw [e2]
  have e3:3*(4096*s (n+k))≤4 ^ k*((3*s n+C)*4096):=by
   have e4:4 ^ k*((3*s n+(C:Int))*4096)=4096*(4 ^ k*(3*s n+C)):=by grind
   rw [e4];omega
  exact Int.le_trans e3 (Int.mul_le_mul_of_nonneg_left (by omega) (by omega))
 omega
theorem np {a b:Int} (hd:ae a b≠0) {P:ws} (h:ws.On a b P):Fr (hC a b) (ws.hs a P):=fun n=>⟨ws.uc a P n,(ws.rR hd h n).1,(ws.rR hd h n).2⟩
theorem oQ {a:Int} {P:ws} {n:Nat} {u v:Int} (h:li (ws.x5 a n P) (.val u v)):bk (.val u v)=ws.hs a P n:=by
 obtain ⟨h1,h2⟩:=(h:ws.px _=u∧ws.pz _=v)
 unfold ws.hs ws.hp hb hh;rw [h1,h2,←uO]
 show max ((Wh.bl u.natAbs:Nat):Int) ((Wh.bl v.natAbs:Nat):Int)=_
 omega
theorem qV {s:Nat→Int} (h:∃ c:Int,∀ n,0≤s n∧s n≤c):z8 s 0 0:=by
 obtain ⟨c,h⟩:=h;exact ⟨4096*c,fun n=>by have:=h n;omega⟩
theorem mK {a:Rat} {P:ws} {n:Nat} (h:ws.x5 a n P=.O):∀ k,ws.x5 a (n+k) P=.O
 | 0=>h
 | k+1=>by
  show ws.add a (ws.x5 a (n+k) P) (ws.x5 a (n+k) P)=.O
  rw [mK h k];rfl
theorem ua {a b:Int} (hd:ae a b≠0) {P:ws} (h:ws.On a b P) {n:Nat} (hO:ws.x5 a n P=.O):∃ c:Int,∀ k,0≤ws.hs a P k∧ws.hs a P k≤c:=by
 have W:=np hd h
 have e1:ws.hs a P n=1:=by unfold ws.hs;rw [hO];decide
 refine ⟨2+hC a b,fun k=>⟨by have:=(W k).1;omega,?_⟩⟩
 rcases Nat.lt_or_ge k n with hk | hk
 ·obtain ⟨j,rfl⟩:∃ j,n=k+j:=⟨n - k,by omega⟩
  have w:=W.lo k j;rw [e1] at w;have hj:=fc j
  rcases Int.lt_or_le 0 (3*(ws.hs a P k - 1) - hC a b) with q | q
  ·have:1*(3*(ws.hs a P k - 1) - hC a b)≤4 ^ j*(3*(ws.hs a P k - 1) - hC a b):=Int.mul_le_mul_of_nonneg_right hj (by omega)
   omega
  omega
 obtain ⟨j,rfl⟩:∃ j,k=n+j:=⟨k - n,by omega⟩
 have:ws.hs a P (n+j)=1:=by unfold ws.hs;rw [mK hO j];decide
 omega
theorem pA {a b X Y E:Int} (hd:ae a b≠0) (h:bG a b X Y E=true) (n:Nat) (ho:isOk (aX a b X E n)=true):z8 (ws.hs a (eA X Y E)) (hL (hC a b) n (aX a b X E n)) (hH (hC a b) n (aX a b X E n)):=by
 have hon:=gA h;have hi:=rZ hd h n
 cases hq:aX a b X E n with
 | bad=>rw [hq] at ho;cases ho
 | inf=>
  rw [hq] at hi;exact qV (ua hd hon hi)
 | val u v=>
 rw [hq] at hi;have:=(np hd hon).hld n;rw [←oQ hi] at this;exact this
theorem kK {a b X E:Int}:∀ {n k:Nat},k≤n→isOk (aX a b X E n)=true→isOk (aX a b X E k)=true
 | 0,k,hk,h=>by
  obtain rfl:k=0:=by omega
  exact h
 | n+1,k,hk,h=>by
  by_cases e:k=n+1
  ·exact e ▸ h
  refine kK (n:=n) (by omega) ?_;unfold aX at *
  split
  ·rfl
  rename_i hE
  rw [if_neg hE] at h;have h:isOk (nx a b (run a b n (.val X (E*E))))=true:=h
  cases hr:run a b n (.val X (E*E)) with
  | bad=>rw [hr] at h;cases h
  | inf=>rfl
  | val u v=>rfl
theorem tu {a b X Y E:Int} (hd:ae a b≠0) (h:bG a b X Y E=true):∀ n:Nat,isOk (aX a b X E n)=true→z8 (ws.hs a (eA X Y E)) (bL a b X E n) (bH a b X E n)
 | 0,ho=>pA hd h 0 ho
 | n+1,ho=>(tu hd h n (kK (Nat.le_succ n) ho)).common (pA hd h (n+1) ho)
theorem qi {a b X E:Int}:∀ f k:Nat,isOk (aX a b X E k)=true→isOk (aX a b X E (CX a b X E f k))=true
 | 0,k,h=>h
 | f+1,k,h=>by
  unfold CX
  split
  ·rename_i h1
   exact qi f (k+1) h1
  exact h
theorem vE (a b X E:Int):isOk (aX a b X E (bN a b X E))=true:=by
 refine qi 5 0 ?_;unfold aX
 split <;> rfl
theorem fT {a b X Y E:Int} (hd:ae a b≠0) (h:bG a b X Y E=true):z8 (ws.hs a (eA X Y E)) (bL a b X E (bN a b X E)) (bH a b X E (bN a b X E)):=tu hd h _ (vE a b X E)
end M
end
section
open Go.RowKit
theorem M.tA (x y:Int):M.gcd (x.natAbs:Int) y=M.gcd x y:=by unfold M.gcd Int.gcd;rw [Int.natAbs_natCast]
theorem rm (a b X Y E:Int) (w:World) (hgd:M.good a b=true) :
  Calls Tryz.prog 112 #[.agg #[.int .i64 a,.int .i64 b],.agg #[.int .i64 X,.int .i64 Y,.int .i64 E]] w fun e w'=>e=.returned (.bool (M.bG a b X Y E))∧Below w.heap.size w w':=by
 have C:=(aH.new w #[.int .i64 a,.int .i64 b] 25).alloc (.cells #[.int .i64 X,.int .i64 Y,.int .i64 E] 27)
 have Q:=(aH.new (w.alloc (.cells #[.int .i64 a,.int .i64 b] 25)) #[.int .i64 X,.int .i64 Y,.int .i64 E] 27)
 rw [wI] at Q;have B:=((wK w.heap.size w).alloc (wL _) (.cells #[.int .i64 a,.int .i64 b] 25)).alloc (by rw [wI];omega) (.cells #[.int .i64 X,.int .i64 Y,.int .i64 E] 27);generalize hw3:(w.alloc (.cells #[.int .i64 a,.int .i64 b] 25)).alloc (.cells #[.int .i64 X,.int .i64 Y,.int .i64 E] 27)=wc at *;have ⟨q0,q1,q2⟩:=Q.aK;have f_:=C.box.c0;have g_:=C.box.c1;obtain ⟨ha1,ha2,hb1,hb2⟩:=M.an (M.ag hgd);clear hgd
 by_cases hE:E=0
 ·subst hE
  have hr:=wH (show M.bG a b X Y 0=(decide (X=0) && decide (Y=0)) by unfold M.bG;rw [if_pos rfl]);rw [hr.out]
  by_cases hX:X=0
  ·by_cases hY:Y=0
   ·subst hX hY
    go_enter Tryz.func112,Tryz.ntmps112
    go_wp2;go_ret;exact ⟨rfl,B⟩
   have hY0:(Y == 0)=false:=by rw [beq_eq_false_iff_ne];exact hY
   subst hX;go_enter Tryz.func112,Tryz.ntmps112
   go_wp2;go_ret;exact ⟨by simp [hY],B⟩
  have hX0:(X == 0)=false:=by rw [beq_eq_false_iff_ne];exact hX
  go_enter Tryz.func112,Tryz.ntmps112
  go_wp2;go_ret;exact ⟨by simp [hX],B⟩
 have hE0:(E == 0)=false:=by rw [beq_eq_false_iff_ne];exact hE
 have hpt:M.bG a b X Y E=(M.ins X (-10000) 10000 && M.ins E 1 20 && (M.gcd X E == 1) && decide (Y*Y=M.cv a b X E)):=by unfold M.bG;rw [if_neg hE]
 have P1:=fun W=>ch X (-10000) 10000 W
 have P2:=fun W=>ch E 1 20 W
 have P4:=fun W=>ch Y (-10000000) 10000000 W
 have hgb:=fun h=>M.fH (n:=X) (lo:=-10000) (hi:=10000) h
 have hge:=fun h=>M.fH (n:=E) (lo:=1) (hi:=20) h
 have hyb:=fun h=>M.tr (Y:=Y) (v:=M.cv a b X E) h
 have BE:M.ins Y (-10000000) 10000000=true ↔ (-10000000≤Y∧Y≤10000000):=by unfold M.ins;simp
 generalize M.ins Y (-10000000) 10000000=i4,M.ins E 1 20=i2,M.ins X (-10000) 10000=i1 at *
 cases i1 with
 | false=>
  have hr2:=wH (show M.bG a b X Y E=false by rw [hpt];rfl);rw [hr2.out];clear hpt hgb hge hyb BE;have P1:=wH P1;have P2:=wH P2;have P4:=wH P4;go_enter Tryz.func112,Tryz.ntmps112
  go_wp2
  go_upto_region 3 with fail
  refine Rg.bO 25 [.is (.pointer (some ⟨w.heap.size+1,0,none⟩)),.is (.int .i64 X),.is (.bool false),.is (.bool true),.is (.bool true),.is (undef),.is (undef),.is (undef),.is (undef),.is (.bool true),.is (.bool true),.is (undef),.is (undef),.is (undef),.is (undef),.is (.bool true),.is (.bool true),.is (undef),.is (undef),.is (undef),.is (undef),.is (undef),.is (undef),.is (undef),.is (.bool true)] (by kernel_rfl) (by kernel_rfl) (by kernel_rfl) ⟨?_,?_,?_,?_,?_,?_,?_,?_,?_,?_,?_,?_,?_,?_,?_,?_,?_,?_,?_,?_,?_,?_,?_,?_,?_,trivial⟩ ?_
  ·intro _ zZ w_ hB hr
   have e3:zZ.tmps[3]?=some (.pointer (some ⟨w.heap.size+1,0,none⟩)):=hr 3 (by decide);exact Rg.aG rfl (by go_simp)
  ·intro _ zZ w_ hB hr
   have e16:=Rg.c_ (hr 16 (by decide));have k0:=aE hB Q.aK.1;exact Rg.aG rfl (by go_simp)
  ·intro _ zZ w_ hB hr
   have e17:=Rg.c_ (hr 17 (by decide));have ec:=Rg.ec zZ;have ef:=Rg.ef zZ;refine Rg.ah rfl (by go_simp;exact ⟨rfl,rfl⟩) ?_;refine (P1.out _).mono ?_;rintro e w5 ⟨rfl,rfl⟩;exact ⟨_,rfl,rfl,wK _ _⟩
  ·intro _ zZ w_ hB hr
   have e18:=Rg.c_ (hr 18 (by decide));exact Rg.aG rfl (by go_simp)
  ·intro _ zZ w_ hB hr
   have e19:=Rg.c_ (hr 19 (by decide));exact Rg.aG rfl (by go_simp)
  ·intro _ zZ w_ hB hr
   have e3:zZ.tmps[3]?=some (.pointer (some ⟨w.heap.size+1,0,none⟩)):=hr 3 (by decide);have e20:=Rg.c_ (hr 20 (by decide));exact Rg.bs (Rg.bE (j:=4) (b:=true) rfl (Rg.xO rfl e20))
  ·intro _ zZ w_ hB hr
   have e20:=Rg.c_ (hr 20 (by decide));have e21:=Rg.c_ (hr 21 (by decide));exact Rg.bs (Rg.bE (j:=4) (b:=true) rfl (Rg.xO rfl e20))
  ·intro _ zZ w_ hB hr
   have e20:=Rg.c_ (hr 20 (by decide));have e22:=Rg.c_ (hr 22 (by decide));have ec:=Rg.ec zZ;exact Rg.bs (Rg.bE (j:=4) (b:=true) rfl (Rg.xO rfl e20))
  ·intro _ zZ w_ hB hr
   have e20:=Rg.c_ (hr 20 (by decide));have e23:=Rg.c_ (hr 23 (by decide));exact Rg.bs (Rg.bE (j:=4) (b:=true) rfl (Rg.xO rfl e20))
  ·intro _ zZ w_ hB hr
   have e20:=Rg.c_ (hr 20 (by decide));have e24:=Rg.c_ (hr 24 (by decide));have ec:=Rg.ec zZ;exact Rg.aG rfl (by go_simp)
  ·intro _ zZ w_ hB hr
   have e25:=Rg.c_ (hr 25 (by decide));exact Rg.aG rfl (by go_simp)
  ·intro _ zZ w_ hB hr
   have e3:zZ.tmps[3]?=some (.pointer (some ⟨w.heap.size+1,0,none⟩)):=hr 3 (by decide);have e26:=Rg.c_ (hr 26 (by decide));exact Rg.bs (Rg.bE (j:=10) (b:=true) rfl (Rg.xO rfl e26))
  ·intro _ zZ w_ hB hr
   have e26:=Rg.c_ (hr 26 (by decide));have e27:=Rg.c_ (hr 27 (by decide));exact Rg.bs (Rg.bE (j:=10) (b:=true) rfl (Rg.xO rfl e26))
  ·intro _ zZ w_ hB hr
   have e26:=Rg.c_ (hr 26 (by decide));have e28:=Rg.c_ (hr 28 (by decide));have ec:=Rg.ec zZ;exact Rg.bs (Rg.bE (j:=10) (b:=true) rfl (Rg.xO rfl e26))
  ·intro _ zZ w_ hB hr
   have e26:=Rg.c_ (hr 26 (by decide));have e29:=Rg.c_ (hr 29 (by decide));exact Rg.bs (Rg.bE (j:=10) (b:=true) rfl (Rg.xO rfl e26))
  ·intro _ zZ w_ hB hr
   have e26:=Rg.c_ (hr 26 (by decide));have e30:=Rg.c_ (hr 30 (by decide));have ec:=Rg.ec zZ;exact Rg.aG rfl (by go_simp)
  ·intro _ zZ w_ hB hr
   have e31:=Rg.c_ (hr 31 (by decide));exact Rg.aG rfl (by go_simp)
  ·intro _ zZ w_ hB hr
   have e3:zZ.tmps[3]?=some (.pointer (some ⟨w.heap.size+1,0,none⟩)):=hr 3 (by decide);have e32:=Rg.c_ (hr 32 (by decide));exact Rg.bs (Rg.bE (j:=16) (b:=true) rfl (Rg.xO rfl e32))
  ·intro _ zZ w_ hB hr
   have e32:=Rg.c_ (hr 32 (by decide));have e33:=Rg.c_ (hr 33 (by decide));exact Rg.bs (Rg.bE (j:=16) (b:=true) rfl (Rg.xO rfl e32))
  ·intro _ zZ w_ hB hr
   have e32:=Rg.c_ (hr 32 (by decide));have e34:=Rg.c_ (hr 34 (by decide));exact Rg.bs (Rg.bE (j:=16) (b:=true) rfl (Rg.xO rfl e32))
  ·intro _ zZ w_ hB hr
   have e3:zZ.tmps[3]?=some (.pointer (some ⟨w.heap.size+1,0,none⟩)):=hr 3 (by decide);have e32:=Rg.c_ (hr 32 (by decide));exact Rg.bs (Rg.bE (j:=16) (b:=true) rfl (Rg.xO rfl e32))
  ·intro _ zZ w_ hB hr
   have e32:=Rg.c_ (hr 32 (by decide));have e36:=Rg.c_ (hr 36 (by decide));exact Rg.bs (Rg.bE (j:=16) (b:=true) rfl (Rg.xO rfl e32))
  ·intro _ zZ w_ hB hr
   have e32:=Rg.c_ (hr 32 (by decide));have e35:=Rg.c_ (hr 35 (by decide));have e37:=Rg.c_ (hr 37 (by decide));exact Rg.bs (Rg.bE (j:=16) (b:=true) rfl (Rg.xO rfl e32))
  ·intro _ zZ w_ hB hr
   have e32:=Rg.c_ (hr 32 (by decide));have e38:=Rg.c_ (hr 38 (by decide));have ec:=Rg.ec zZ;exact Rg.bs (Rg.bE (j:=16) (b:=true) rfl (Rg.xO rfl e32))
  ·intro _ zZ w_ hB hr
   have e32:=Rg.c_ (hr 32 (by decide));have e39:=Rg.c_ (hr 39 (by decide));have ec:=Rg.ec zZ;exact Rg.aG rfl (by go_simp)
  intro vals wz hB hv hne;have zP:vals 24=.bool true:=hv 24 (by decide);simp only [Rg.ay,Rg.fill,Act.put,Nat.reduceAdd];clear hv;simp only [zP];clear zP;unfold Rg.aZ;go_wp2;go_ret;exact ⟨rfl,d_ B hB⟩
 | true=>
 cases i2 with
 | false=>
  have hr2:=wH (show M.bG a b X Y E=false by rw [hpt];rfl);rw [hr2.out];clear hpt hgb hge hyb BE;have P1:=wH P1;have P2:=wH P2;have P4:=wH P4;go_enter Tryz.func112,Tryz.ntmps112
  go_wp2
  go_upto_region 3 with fail
  refine Rg.bO 25 [.is (.pointer (some ⟨w.heap.size+1,0,none⟩)),.is (.int .i64 X),.is (.bool true),.is (.bool false),.is (.bool false),.is (.pointer (some ⟨w.heap.size+1,2,none⟩)),.is (.int .i64 E),.is (.bool false),.is (.bool true),.is (.bool true),.is (.bool true),.is (undef),.is (undef),.is (undef),.is (undef),.is (.bool true),.is (.bool true),.is (undef),.is (undef),.is (undef),.is (undef),.is (undef),.is (undef),.is (undef),.is (.bool true)] (by kernel_rfl) (by kernel_rfl) (by kernel_rfl) ⟨?_,?_,?_,?_,?_,?_,?_,?_,?_,?_,?_,?_,?_,?_,?_,?_,?_,?_,?_,?_,?_,?_,?_,?_,?_,trivial⟩ ?_
  ·intro _ zZ w_ hB hr
   have e3:zZ.tmps[3]?=some (.pointer (some ⟨w.heap.size+1,0,none⟩)):=hr 3 (by decide);exact Rg.aG rfl (by go_simp)
  ·intro _ zZ w_ hB hr
   have e16:=Rg.c_ (hr 16 (by decide));have k0:=aE hB Q.aK.1;exact Rg.aG rfl (by go_simp)
  ·intro _ zZ w_ hB hr
   have e17:=Rg.c_ (hr 17 (by decide));have ec:=Rg.ec zZ;have ef:=Rg.ef zZ;refine Rg.ah rfl (by go_simp;exact ⟨rfl,rfl⟩) ?_;refine (P1.out _).mono ?_;rintro e w5 ⟨rfl,rfl⟩;exact ⟨_,rfl,rfl,wK _ _⟩
  ·intro _ zZ w_ hB hr
   have e18:=Rg.c_ (hr 18 (by decide));exact Rg.aG rfl (by go_simp)
  ·intro _ zZ w_ hB hr
   have e19:=Rg.c_ (hr 19 (by decide));exact Rg.aG rfl (by go_simp)
  ·intro _ zZ w_ hB hr
   have e3:zZ.tmps[3]?=some (.pointer (some ⟨w.heap.size+1,0,none⟩)):=hr 3 (by decide);have e20:=Rg.c_ (hr 20 (by decide));exact Rg.aG (Rg.ai (j:=4) (b:=false) rfl (Rg.xO rfl e20)) (by go_simp)
  ·intro _ zZ w_ hB hr
   have e20:=Rg.c_ (hr 20 (by decide));have e21:=Rg.c_ (hr 21 (by decide));have k2:=aE hB Q.aK.2.2;exact Rg.aG (Rg.ai (j:=4) (b:=false) rfl (Rg.xO rfl e20)) (by go_simp)
  ·intro _ zZ w_ hB hr
   have e20:=Rg.c_ (hr 20 (by decide));have e22:=Rg.c_ (hr 22 (by decide));have ec:=Rg.ec zZ;have ef:=Rg.ef zZ;refine Rg.ah (Rg.ai (j:=4) (b:=false) rfl (Rg.xO rfl e20)) (by go_simp;exact ⟨rfl,rfl⟩) ?_;refine (P2.out _).mono ?_;rintro e w5 ⟨rfl,rfl⟩;exact ⟨_,rfl,rfl,wK _ _⟩
  ·intro _ zZ w_ hB hr
   have e20:=Rg.c_ (hr 20 (by decide));have e23:=Rg.c_ (hr 23 (by decide));exact Rg.aG (Rg.ai (j:=4) (b:=false) rfl (Rg.xO rfl e20)) (by go_simp)
  ·intro _ zZ w_ hB hr
   have e20:=Rg.c_ (hr 20 (by decide));have e24:=Rg.c_ (hr 24 (by decide));have ec:=Rg.ec zZ;exact Rg.aG rfl (by go_simp)
  ·intro _ zZ w_ hB hr
   have e25:=Rg.c_ (hr 25 (by decide));exact Rg.aG rfl (by go_simp)
  ·intro _ zZ w_ hB hr
   have e3:zZ.tmps[3]?=some (.pointer (some ⟨w.heap.size+1,0,none⟩)):=hr 3 (by decide);have e26:=Rg.c_ (hr 26 (by decide));exact Rg.bs (Rg.bE (j:=10) (b:=true) rfl (Rg.xO rfl e26))
  ·intro _ zZ w_ hB hr
   have e26:=Rg.c_ (hr 26 (by decide));have e27:=Rg.c_ (hr 27 (by decide));exact Rg.bs (Rg.bE (j:=10) (b:=true) rfl (Rg.xO rfl e26))
  ·intro _ zZ w_ hB hr
   have e26:=Rg.c_ (hr 26 (by decide));have e28:=Rg.c_ (hr 28 (by decide));have ec:=Rg.ec zZ;exact Rg.bs (Rg.bE (j:=10) (b:=true) rfl (Rg.xO rfl e26))
  ·intro _ zZ w_ hB hr
   have e26:=Rg.c_ (hr 26 (by decide));have e29:=Rg.c_ (hr 29 (by decide));exact Rg.bs (Rg.bE (j:=10) (b:=true) rfl (Rg.xO rfl e26))
  ·intro _ zZ w_ hB hr
   have e26:=Rg.c_ (hr 26 (by decide));have e30:=Rg.c_ (hr 30 (by decide));have ec:=Rg.ec zZ;exact Rg.aG rfl (by go_simp)
  ·intro _ zZ w_ hB hr
   have e31:=Rg.c_ (hr 31 (by decide));exact Rg.aG rfl (by go_simp)
  ·intro _ zZ w_ hB hr
   have e3:zZ.tmps[3]?=some (.pointer (some ⟨w.heap.size+1,0,none⟩)):=hr 3 (by decide);have e32:=Rg.c_ (hr 32 (by decide));exact Rg.bs (Rg.bE (j:=16) (b:=true) rfl (Rg.xO rfl e32))
  ·intro _ zZ w_ hB hr
   have e32:=Rg.c_ (hr 32 (by decide));have e33:=Rg.c_ (hr 33 (by decide));exact Rg.bs (Rg.bE (j:=16) (b:=true) rfl (Rg.xO rfl e32))
  ·intro _ zZ w_ hB hr
   have e32:=Rg.c_ (hr 32 (by decide));have e34:=Rg.c_ (hr 34 (by decide));exact Rg.bs (Rg.bE (j:=16) (b:=true) rfl (Rg.xO rfl e32))
  ·intro _ zZ w_ hB hr
   have e3:zZ.tmps[3]?=some (.pointer (some ⟨w.heap.size+1,0,none⟩)):=hr 3 (by decide);have e32:=Rg.c_ (hr 32 (by decide));exact Rg.bs (Rg.bE (j:=16) (b:=true) rfl (Rg.xO rfl e32))
  ·intro _ zZ w_ hB hr
   have e32:=Rg.c_ (hr 32 (by decide));have e36:=Rg.c_ (hr 36 (by decide));exact Rg.bs (Rg.bE (j:=16) (b:=true) rfl (Rg.xO rfl e32))
  ·intro _ zZ w_ hB hr
   have e32:=Rg.c_ (hr 32 (by decide));have e35:=Rg.c_ (hr 35 (by decide));have e37:=Rg.c_ (hr 37 (by decide));exact Rg.bs (Rg.bE (j:=16) (b:=true) rfl (Rg.xO rfl e32))
  ·intro _ zZ w_ hB hr
   have e32:=Rg.c_ (hr 32 (by decide));have e38:=Rg.c_ (hr 38 (by decide));have ec:=Rg.ec zZ;exact Rg.bs (Rg.bE (j:=16) (b:=true) rfl (Rg.xO rfl e32))
  ·intro _ zZ w_ hB hr
   have e32:=Rg.c_ (hr 32 (by decide));have e39:=Rg.c_ (hr 39 (by decide));have ec:=Rg.ec zZ;exact Rg.aG rfl (by go_simp)
  intro vals wz hB hv hne;have zP:vals 24=.bool true:=hv 24 (by decide);simp only [Rg.ay,Rg.fill,Act.put,Nat.reduceAdd];clear hv;simp only [zP];clear zP;unfold Rg.aZ;go_wp2;go_ret;exact ⟨rfl,d_ B hB⟩
 | true=>
 rw [Bool.true_and,Bool.true_and] at hpt;obtain ⟨x1,x2⟩:=hgb rfl;obtain ⟨e1,e2⟩:=hge rfl;have hcb:=M.mG (a:=a) (b:=b) (x:=X) (e:=E) ha1 ha2 (by omega) (by omega) x1 x2 (by omega) (by omega)
 have PV:=fun W=>kU a b X E W ha1 ha2 (by omega) (by omega) x1 x2 (by omega) (by omega)
 have PA:=fun W=>dE X W (by omega) (by omega)
 have PG:=fun W=>dH (X.natAbs:Int) E W (by omega) (by omega) (by omega) (by omega)
 rw [M.tA] at PG;clear hgb hge;generalize M.gcd X E=gg at *
 cases i4 with
 | false=>
  have hr2:=wH (show M.bG a b X Y E=false by rw [hpt];simp only [Bool.and_eq_false_iff,decide_eq_false_iff_not];right;intro B_;have q:=hyb B_ (by omega);have:=BE.2 (by omega);cases this);rw [hr2.out];clear hpt hyb BE hcb PV PA PG;have P1:=wH P1;have P2:=wH P2;have P4:=wH P4;go_enter Tryz.func112,Tryz.ntmps112
  go_wp2
  go_upto_region 3 with fail
  refine Rg.bO 25 [.is (.pointer (some ⟨w.heap.size+1,0,none⟩)),.is (.int .i64 X),.is (.bool true),.is (.bool false),.is (.bool false),.is (.pointer (some ⟨w.heap.size+1,2,none⟩)),.is (.int .i64 E),.is (.bool true),.is (.bool false),.is (.bool false),.is (.bool false),.is (.pointer (some ⟨w.heap.size+1,1,none⟩)),.is (.int .i64 Y),.is (.bool false),.is (.bool true),.is (.bool true),.is (.bool true),.is (undef),.is (undef),.is (undef),.is (undef),.is (undef),.is (undef),.is (undef),.is (.bool true)] (by kernel_rfl) (by kernel_rfl) (by kernel_rfl) ⟨?_,?_,?_,?_,?_,?_,?_,?_,?_,?_,?_,?_,?_,?_,?_,?_,?_,?_,?_,?_,?_,?_,?_,?_,?_,trivial⟩ ?_
  ·intro _ zZ w_ hB hr
   have e3:zZ.tmps[3]?=some (.pointer (some ⟨w.heap.size+1,0,none⟩)):=hr 3 (by decide);exact Rg.aG rfl (by go_simp)
  ·intro _ zZ w_ hB hr
   have e16:=Rg.c_ (hr 16 (by decide));have k0:=aE hB Q.aK.1;exact Rg.aG rfl (by go_simp)
  ·intro _ zZ w_ hB hr
   have e17:=Rg.c_ (hr 17 (by decide));have ec:=Rg.ec zZ;have ef:=Rg.ef zZ;refine Rg.ah rfl (by go_simp;exact ⟨rfl,rfl⟩) ?_;refine (P1.out _).mono ?_;rintro e w5 ⟨rfl,rfl⟩;exact ⟨_,rfl,rfl,wK _ _⟩
  ·intro _ zZ w_ hB hr
   have e18:=Rg.c_ (hr 18 (by decide));exact Rg.aG rfl (by go_simp)
  ·intro _ zZ w_ hB hr
   have e19:=Rg.c_ (hr 19 (by decide));exact Rg.aG rfl (by go_simp)
  ·intro _ zZ w_ hB hr
   have e3:zZ.tmps[3]?=some (.pointer (some ⟨w.heap.size+1,0,none⟩)):=hr 3 (by decide);have e20:=Rg.c_ (hr 20 (by decide));exact Rg.aG (Rg.ai (j:=4) (b:=false) rfl (Rg.xO rfl e20)) (by go_simp)
  ·intro _ zZ w_ hB hr
   have e20:=Rg.c_ (hr 20 (by decide));have e21:=Rg.c_ (hr 21 (by decide));have k2:=aE hB Q.aK.2.2;exact Rg.aG (Rg.ai (j:=4) (b:=false) rfl (Rg.xO rfl e20)) (by go_simp)
  ·intro _ zZ w_ hB hr
   have e20:=Rg.c_ (hr 20 (by decide));have e22:=Rg.c_ (hr 22 (by decide));have ec:=Rg.ec zZ;have ef:=Rg.ef zZ;refine Rg.ah (Rg.ai (j:=4) (b:=false) rfl (Rg.xO rfl e20)) (by go_simp;exact ⟨rfl,rfl⟩) ?_;refine (P2.out _).mono ?_;rintro e w5 ⟨rfl,rfl⟩;exact ⟨_,rfl,rfl,wK _ _⟩
  ·intro _ zZ w_ hB hr
   have e20:=Rg.c_ (hr 20 (by decide));have e23:=Rg.c_ (hr 23 (by decide));exact Rg.aG (Rg.ai (j:=4) (b:=false) rfl (Rg.xO rfl e20)) (by go_simp)
  ·intro _ zZ w_ hB hr
   have e20:=Rg.c_ (hr 20 (by decide));have e24:=Rg.c_ (hr 24 (by decide));have ec:=Rg.ec zZ;exact Rg.aG rfl (by go_simp)
  ·intro _ zZ w_ hB hr
   have e25:=Rg.c_ (hr 25 (by decide));exact Rg.aG rfl (by go_simp)
  ·intro _ zZ w_ hB hr
   have e3:zZ.tmps[3]?=some (.pointer (some ⟨w.heap.size+1,0,none⟩)):=hr 3 (by decide);have e26:=Rg.c_ (hr 26 (by decide));exact Rg.aG (Rg.ai (j:=10) (b:=false) rfl (Rg.xO rfl e26)) (by go_simp)
  ·intro _ zZ w_ hB hr
   have e26:=Rg.c_ (hr 26 (by decide));have e27:=Rg.c_ (hr 27 (by decide));have k1:=aE hB Q.aK.2.1;exact Rg.aG (Rg.ai (j:=10) (b:=false) rfl (Rg.xO rfl e26)) (by go_simp)
  ·intro _ zZ w_ hB hr
   have e26:=Rg.c_ (hr 26 (by decide));have e28:=Rg.c_ (hr 28 (by decide));have ec:=Rg.ec zZ;have ef:=Rg.ef zZ;refine Rg.ah (Rg.ai (j:=10) (b:=false) rfl (Rg.xO rfl e26)) (by go_simp;exact ⟨rfl,rfl⟩) ?_;refine (P4.out _).mono ?_;rintro e w5 ⟨rfl,rfl⟩;exact ⟨_,rfl,rfl,wK _ _⟩
  ·intro _ zZ w_ hB hr
   have e26:=Rg.c_ (hr 26 (by decide));have e29:=Rg.c_ (hr 29 (by decide));exact Rg.aG (Rg.ai (j:=10) (b:=false) rfl (Rg.xO rfl e26)) (by go_simp)
  ·intro _ zZ w_ hB hr
   have e26:=Rg.c_ (hr 26 (by decide));have e30:=Rg.c_ (hr 30 (by decide));have ec:=Rg.ec zZ;exact Rg.aG rfl (by go_simp)
  ·intro _ zZ w_ hB hr
   have e31:=Rg.c_ (hr 31 (by decide));exact Rg.aG rfl (by go_simp)
  ·intro _ zZ w_ hB hr
   have e3:zZ.tmps[3]?=some (.pointer (some ⟨w.heap.size+1,0,none⟩)):=hr 3 (by decide);have e32:=Rg.c_ (hr 32 (by decide));exact Rg.bs (Rg.bE (j:=16) (b:=true) rfl (Rg.xO rfl e32))
  ·intro _ zZ w_ hB hr
   have e32:=Rg.c_ (hr 32 (by decide));have e33:=Rg.c_ (hr 33 (by decide));exact Rg.bs (Rg.bE (j:=16) (b:=true) rfl (Rg.xO rfl e32))
  ·intro _ zZ w_ hB hr
   have e32:=Rg.c_ (hr 32 (by decide));have e34:=Rg.c_ (hr 34 (by decide));exact Rg.bs (Rg.bE (j:=16) (b:=true) rfl (Rg.xO rfl e32))
  ·intro _ zZ w_ hB hr
   have e3:zZ.tmps[3]?=some (.pointer (some ⟨w.heap.size+1,0,none⟩)):=hr 3 (by decide);have e32:=Rg.c_ (hr 32 (by decide));exact Rg.bs (Rg.bE (j:=16) (b:=true) rfl (Rg.xO rfl e32))
  ·intro _ zZ w_ hB hr
   have e32:=Rg.c_ (hr 32 (by decide));have e36:=Rg.c_ (hr 36 (by decide));exact Rg.bs (Rg.bE (j:=16) (b:=true) rfl (Rg.xO rfl e32))
  ·intro _ zZ w_ hB hr
   have e32:=Rg.c_ (hr 32 (by decide));have e35:=Rg.c_ (hr 35 (by decide));have e37:=Rg.c_ (hr 37 (by decide));exact Rg.bs (Rg.bE (j:=16) (b:=true) rfl (Rg.xO rfl e32))
  ·intro _ zZ w_ hB hr
   have e32:=Rg.c_ (hr 32 (by decide));have e38:=Rg.c_ (hr 38 (by decide));have ec:=Rg.ec zZ;exact Rg.bs (Rg.bE (j:=16) (b:=true) rfl (Rg.xO rfl e32))
  ·intro _ zZ w_ hB hr
   have e32:=Rg.c_ (hr 32 (by decide));have e39:=Rg.c_ (hr 39 (by decide));have ec:=Rg.ec zZ;exact Rg.aG rfl (by go_simp)
  intro vals wz hB hv hne;have zP:vals 24=.bool true:=hv 24 (by decide);simp only [Rg.ay,Rg.fill,Act.put,Nat.reduceAdd];clear hv;simp only [zP];clear zP;unfold Rg.aZ;go_wp2;go_ret;exact ⟨rfl,d_ B hB⟩
 | true=>
 have PA:=wH PA;have PG:=wH PG
 by_cases hg1:gg=1
 ·have hg2:(gg == 1)=true:=by rw [beq_iff_eq];exact hg1
  rw [hg2,Bool.true_and] at hpt;obtain ⟨y1,y2⟩:=BE.1 rfl;have B_:=M.aL (x:=Y) (y:=Y) (m:=10000000) (n:=10000000) (by omega) (by omega) (by omega) (by omega);generalize M.cv a b X E=v at *;have hpt:=wH hpt;rw [hpt.out];clear BE hyb hcb;have PV:=wH PV;have P1:=wH P1;have P2:=wH P2;have P4:=wH P4;go_enter Tryz.func112,Tryz.ntmps112
  go_wp2
  go_upto_region 3 with fail
  refine Rg.bO 25 [.is (.pointer (some ⟨w.heap.size+1,0,none⟩)),.is (.int .i64 X),.is (.bool true),.is (.bool false),.is (.bool false),.is (.pointer (some ⟨w.heap.size+1,2,none⟩)),.is (.int .i64 E),.is (.bool true),.is (.bool false),.is (.bool false),.is (.bool false),.is (.pointer (some ⟨w.heap.size+1,1,none⟩)),.is (.int .i64 Y),.is (.bool true),.is (.bool false),.is (.bool false),.is (.bool false),.is (.pointer (some ⟨w.heap.size+1,0,none⟩)),.is (.int .i64 X),.is (.int .i64 (X.natAbs:Int)),.is (.pointer (some ⟨w.heap.size+1,2,none⟩)),.is (.int .i64 E),.is (.int .i64 gg),.is (.bool false),.is (.bool false)] (by kernel_rfl) (by kernel_rfl) (by kernel_rfl) ⟨?_,?_,?_,?_,?_,?_,?_,?_,?_,?_,?_,?_,?_,?_,?_,?_,?_,?_,?_,?_,?_,?_,?_,?_,?_,trivial⟩ ?_
  ·intro _ zZ w_ hB hr
   have e3:zZ.tmps[3]?=some (.pointer (some ⟨w.heap.size+1,0,none⟩)):=hr 3 (by decide);exact Rg.aG rfl (by go_simp)
  ·intro _ zZ w_ hB hr
   have e16:=Rg.c_ (hr 16 (by decide));have k0:=aE hB Q.aK.1;exact Rg.aG rfl (by go_simp)
  ·intro _ zZ w_ hB hr
   have e17:=Rg.c_ (hr 17 (by decide));have ec:=Rg.ec zZ;have ef:=Rg.ef zZ;refine Rg.ah rfl (by go_simp;exact ⟨rfl,rfl⟩) ?_;refine (P1.out _).mono ?_;rintro e w5 ⟨rfl,rfl⟩;exact ⟨_,rfl,rfl,wK _ _⟩
  ·intro _ zZ w_ hB hr
   have e18:=Rg.c_ (hr 18 (by decide));exact Rg.aG rfl (by go_simp)
  ·intro _ zZ w_ hB hr
   have e19:=Rg.c_ (hr 19 (by decide));exact Rg.aG rfl (by go_simp)
  ·intro _ zZ w_ hB hr
   have e3:zZ.tmps[3]?=some (.pointer (some ⟨w.heap.size+1,0,none⟩)):=hr 3 (by decide);have e20:=Rg.c_ (hr 20 (by decide));exact Rg.aG (Rg.ai (j:=4) (b:=false) rfl (Rg.xO rfl e20)) (by go_simp)
  ·intro _ zZ w_ hB hr
   have e20:=Rg.c_ (hr 20 (by decide));have e21:=Rg.c_ (hr 21 (by decide));have k2:=aE hB Q.aK.2.2;exact Rg.aG (Rg.ai (j:=4) (b:=false) rfl (Rg.xO rfl e20)) (by go_simp)
  ·intro _ zZ w_ hB hr
   have e20:=Rg.c_ (hr 20 (by decide));have e22:=Rg.c_ (hr 22 (by decide));have ec:=Rg.ec zZ;have ef:=Rg.ef zZ;refine Rg.ah (Rg.ai (j:=4) (b:=false) rfl (Rg.xO rfl e20)) (by go_simp;exact ⟨rfl,rfl⟩) ?_;refine (P2.out _).mono ?_;rintro e w5 ⟨rfl,rfl⟩;exact ⟨_,rfl,rfl,wK _ _⟩
  ·intro _ zZ w_ hB hr
   have e20:=Rg.c_ (hr 20 (by decide));have e23:=Rg.c_ (hr 23 (by decide));exact Rg.aG (Rg.ai (j:=4) (b:=false) rfl (Rg.xO rfl e20)) (by go_simp)
  ·intro _ zZ w_ hB hr
   have e20:=Rg.c_ (hr 20 (by decide));have e24:=Rg.c_ (hr 24 (by decide));have ec:=Rg.ec zZ;exact Rg.aG rfl (by go_simp)
  ·intro _ zZ w_ hB hr
   have e25:=Rg.c_ (hr 25 (by decide));exact Rg.aG rfl (by go_simp)
  ·intro _ zZ w_ hB hr
   have e3:zZ.tmps[3]?=some (.pointer (some ⟨w.heap.size+1,0,none⟩)):=hr 3 (by decide);have e26:=Rg.c_ (hr 26 (by decide));exact Rg.aG (Rg.ai (j:=10) (b:=false) rfl (Rg.xO rfl e26)) (by go_simp)
  ·intro _ zZ w_ hB hr
   have e26:=Rg.c_ (hr 26 (by decide));have e27:=Rg.c_ (hr 27 (by decide));have k1:=aE hB Q.aK.2.1;exact Rg.aG (Rg.ai (j:=10) (b:=false) rfl (Rg.xO rfl e26)) (by go_simp)
  ·intro _ zZ w_ hB hr
   have e26:=Rg.c_ (hr 26 (by decide));have e28:=Rg.c_ (hr 28 (by decide));have ec:=Rg.ec zZ;have ef:=Rg.ef zZ;refine Rg.ah (Rg.ai (j:=10) (b:=false) rfl (Rg.xO rfl e26)) (by go_simp;exact ⟨rfl,rfl⟩) ?_;refine (P4.out _).mono ?_;rintro e w5 ⟨rfl,rfl⟩;exact ⟨_,rfl,rfl,wK _ _⟩
  ·intro _ zZ w_ hB hr
   have e26:=Rg.c_ (hr 26 (by decide));have e29:=Rg.c_ (hr 29 (by decide));exact Rg.aG (Rg.ai (j:=10) (b:=false) rfl (Rg.xO rfl e26)) (by go_simp)
  ·intro _ zZ w_ hB hr
   have e26:=Rg.c_ (hr 26 (by decide));have e30:=Rg.c_ (hr 30 (by decide));have ec:=Rg.ec zZ;exact Rg.aG rfl (by go_simp)
  ·intro _ zZ w_ hB hr
   have e31:=Rg.c_ (hr 31 (by decide));exact Rg.aG rfl (by go_simp)
  ·intro _ zZ w_ hB hr
   have e3:zZ.tmps[3]?=some (.pointer (some ⟨w.heap.size+1,0,none⟩)):=hr 3 (by decide);have e32:=Rg.c_ (hr 32 (by decide));exact Rg.aG (Rg.ai (j:=16) (b:=false) rfl (Rg.xO rfl e32)) (by go_simp)
  ·intro _ zZ w_ hB hr
   have e32:=Rg.c_ (hr 32 (by decide));have e33:=Rg.c_ (hr 33 (by decide));have k0:=aE hB Q.aK.1;exact Rg.aG (Rg.ai (j:=16) (b:=false) rfl (Rg.xO rfl e32)) (by go_simp)
  ·intro _ zZ w_ hB hr
   have e32:=Rg.c_ (hr 32 (by decide));have e34:=Rg.c_ (hr 34 (by decide));have ef:=Rg.ef zZ;refine Rg.ah (Rg.ai (j:=16) (b:=false) rfl (Rg.xO rfl e32)) (by go_simp;exact ⟨rfl,rfl⟩) ?_;refine (PA.out _).mono ?_;rintro e w5 ⟨rfl,rfl⟩;exact ⟨_,rfl,rfl,wK _ _⟩
  ·intro _ zZ w_ hB hr
   have e3:zZ.tmps[3]?=some (.pointer (some ⟨w.heap.size+1,0,none⟩)):=hr 3 (by decide);have e32:=Rg.c_ (hr 32 (by decide));exact Rg.aG (Rg.ai (j:=16) (b:=false) rfl (Rg.xO rfl e32)) (by go_simp)
  ·intro _ zZ w_ hB hr
   have e32:=Rg.c_ (hr 32 (by decide));have e36:=Rg.c_ (hr 36 (by decide));have k2:=aE hB Q.aK.2.2;exact Rg.aG (Rg.ai (j:=16) (b:=false) rfl (Rg.xO rfl e32)) (by go_simp)
  ·intro _ zZ w_ hB hr
   have e32:=Rg.c_ (hr 32 (by decide));have e35:=Rg.c_ (hr 35 (by decide));have e37:=Rg.c_ (hr 37 (by decide));have ef:=Rg.ef zZ;refine Rg.ah (Rg.ai (j:=16) (b:=false) rfl (Rg.xO rfl e32)) (by go_simp;exact ⟨rfl,rfl⟩) ?_;refine (PG.out _).mono ?_;rintro e w5 ⟨rfl,rfl⟩;exact ⟨_,rfl,rfl,wK _ _⟩
  ·intro _ zZ w_ hB hr
   have e32:=Rg.c_ (hr 32 (by decide));have e38:=Rg.c_ (hr 38 (by decide));have ec:=Rg.ec zZ;exact Rg.aG (Rg.ai (j:=16) (b:=false) rfl (Rg.xO rfl e32)) (by go_simp;first | done | rfl | (simp [hg1];done))
  ·intro _ zZ w_ hB hr
   have e32:=Rg.c_ (hr 32 (by decide));have e39:=Rg.c_ (hr 39 (by decide));have ec:=Rg.ec zZ;exact Rg.aG rfl (by go_simp)
  intro vals wz hB hv hne;have zP:vals 24=.bool false:=hv 24 (by decide);simp only [Rg.ay,Rg.fill,Act.put,Nat.reduceAdd];clear hv;simp only [zP];clear zP;unfold Rg.aZ;replace C:=C.keep hB;replace Q:=Q.keep hB;replace B:=d_ B hB;clear hB
  go_upto_region 5 with fail
  refine Rg.bO 13 [.is (.pointer (some ⟨w.heap.size+1,1,none⟩)),.is (.int .i64 Y),.is (.pointer (some ⟨w.heap.size+1,1,none⟩)),.is (.int .i64 Y),.is (.int .i64 (Y*Y)),.is (.agg #[.int .i64 a,.int .i64 b]),.is (.pointer (some ⟨w.heap.size+1,0,none⟩)),.is (.int .i64 X),.is (.pointer (some ⟨w.heap.size+1,2,none⟩)),.is (.int .i64 E),.is (.int .i64 v),.is (.bool (decide (Y*Y=v))),.is (.bool (decide (Y*Y=v)))] (by kernel_rfl) (by kernel_rfl) (by kernel_rfl) ⟨?_,?_,?_,?_,?_,?_,?_,?_,?_,?_,?_,?_,?_,trivial⟩ ?_
  ·intro _ zZ w_ hB hr
   have e3:zZ.tmps[3]?=some (.pointer (some ⟨w.heap.size+1,0,none⟩)):=hr 3 (by decide);exact Rg.aG rfl (by go_simp)
  ·intro _ zZ w_ hB hr
   have e41:=Rg.c_ (hr 41 (by decide));have k1:=aE hB Q.aK.2.1;exact Rg.aG rfl (by go_simp)
  ·intro _ zZ w_ hB hr
   have e3:zZ.tmps[3]?=some (.pointer (some ⟨w.heap.size+1,0,none⟩)):=hr 3 (by decide);exact Rg.aG rfl (by go_simp)
  ·intro _ zZ w_ hB hr
   have e43:=Rg.c_ (hr 43 (by decide));have k1:=aE hB Q.aK.2.1;exact Rg.aG rfl (by go_simp)
  ·intro _ zZ w_ hB hr
   have e42:=Rg.c_ (hr 42 (by decide));have e44:=Rg.c_ (hr 44 (by decide));exact Rg.aG rfl (by go_simp <;> exact Rg.wo (by omega))
  ·intro _ zZ w_ hB hr
   have e2:zZ.tmps[2]?=some (.pointer (some ⟨w.heap.size,0,none⟩)):=hr 2 (by decide);have k0:=aE hB C.box.c0;have k1:=aE hB C.box.c1;exact Rg.aG rfl (by go_simp)
  ·intro _ zZ w_ hB hr
   have e3:zZ.tmps[3]?=some (.pointer (some ⟨w.heap.size+1,0,none⟩)):=hr 3 (by decide);exact Rg.aG rfl (by go_simp)
  ·intro _ zZ w_ hB hr
   have e47:=Rg.c_ (hr 47 (by decide));have k0:=aE hB Q.aK.1;exact Rg.aG rfl (by go_simp)
  ·intro _ zZ w_ hB hr
   have e3:zZ.tmps[3]?=some (.pointer (some ⟨w.heap.size+1,0,none⟩)):=hr 3 (by decide);exact Rg.aG rfl (by go_simp)
  ·intro _ zZ w_ hB hr
   have e49:=Rg.c_ (hr 49 (by decide));have k2:=aE hB Q.aK.2.2;exact Rg.aG rfl (by go_simp)
  ·intro _ zZ w_ hB hr
   have e46:=Rg.c_ (hr 46 (by decide));have e48:=Rg.c_ (hr 48 (by decide));have e50:=Rg.c_ (hr 50 (by decide));have ef:=Rg.ef zZ;exact Rg.bo rfl (by go_simp) (PV.out _)
  ·intro _ zZ w_ hB hr
   have e45:=Rg.c_ (hr 45 (by decide));have e51:=Rg.c_ (hr 51 (by decide));exact Rg.aG rfl (by go_simp;first | done | rfl | (by_cases wS:Y*Y=v <;> simp [wS];done))
  ·intro _ zZ w_ hB hr
   have e52:=Rg.c_ (hr 52 (by decide));exact Rg.aG rfl (by go_simp)
  intro vals wy EG hv hne;have zO:vals 12=.bool (decide (Y*Y=v)):=hv 12 (by decide);simp only [Rg.ay,Rg.fill,Act.put,Nat.reduceAdd];clear hv;simp only [zO];clear zO;unfold Rg.aZ;go_wp2;go_ret;exact ⟨rfl,d_ B EG⟩
 have hg2:(gg == 1)=false:=by rw [beq_eq_false_iff_ne];exact hg1
 have hr2:=wH (show M.bG a b X Y E=false by rw [hpt,hg2];rfl);rw [hr2.out];clear hpt hyb BE hcb PV;have P1:=wH P1;have P2:=wH P2;have P4:=wH P4;go_enter Tryz.func112,Tryz.ntmps112
 go_wp2
 go_upto_region 3 with fail
 refine Rg.bO 25 [.is (.pointer (some ⟨w.heap.size+1,0,none⟩)),.is (.int .i64 X),.is (.bool true),.is (.bool false),.is (.bool false),.is (.pointer (some ⟨w.heap.size+1,2,none⟩)),.is (.int .i64 E),.is (.bool true),.is (.bool false),.is (.bool false),.is (.bool false),.is (.pointer (some ⟨w.heap.size+1,1,none⟩)),.is (.int .i64 Y),.is (.bool true),.is (.bool false),.is (.bool false),.is (.bool false),.is (.pointer (some ⟨w.heap.size+1,0,none⟩)),.is (.int .i64 X),.is (.int .i64 (X.natAbs:Int)),.is (.pointer (some ⟨w.heap.size+1,2,none⟩)),.is (.int .i64 E),.is (.int .i64 gg),.is (.bool true),.is (.bool true)] (by kernel_rfl) (by kernel_rfl) (by kernel_rfl) ⟨?_,?_,?_,?_,?_,?_,?_,?_,?_,?_,?_,?_,?_,?_,?_,?_,?_,?_,?_,?_,?_,?_,?_,?_,?_,trivial⟩ ?_
 ·intro _ zZ w_ hB hr
  have e3:zZ.tmps[3]?=some (.pointer (some ⟨w.heap.size+1,0,none⟩)):=hr 3 (by decide);exact Rg.aG rfl (by go_simp)
 ·intro _ zZ w_ hB hr
  have e16:=Rg.c_ (hr 16 (by decide));have k0:=aE hB Q.aK.1;exact Rg.aG rfl (by go_simp)
 ·intro _ zZ w_ hB hr
  have e17:=Rg.c_ (hr 17 (by decide));have ec:=Rg.ec zZ;have ef:=Rg.ef zZ;refine Rg.ah rfl (by go_simp;exact ⟨rfl,rfl⟩) ?_;refine (P1.out _).mono ?_;rintro e w5 ⟨rfl,rfl⟩;exact ⟨_,rfl,rfl,wK _ _⟩
 ·intro _ zZ w_ hB hr
  have e18:=Rg.c_ (hr 18 (by decide));exact Rg.aG rfl (by go_simp)
 ·intro _ zZ w_ hB hr
  have e19:=Rg.c_ (hr 19 (by decide));exact Rg.aG rfl (by go_simp)
 ·intro _ zZ w_ hB hr
  have e3:zZ.tmps[3]?=some (.pointer (some ⟨w.heap.size+1,0,none⟩)):=hr 3 (by decide);have e20:=Rg.c_ (hr 20 (by decide));exact Rg.aG (Rg.ai (j:=4) (b:=false) rfl (Rg.xO rfl e20)) (by go_simp)
 ·intro _ zZ w_ hB hr
  have e20:=Rg.c_ (hr 20 (by decide));have e21:=Rg.c_ (hr 21 (by decide));have k2:=aE hB Q.aK.2.2;exact Rg.aG (Rg.ai (j:=4) (b:=false) rfl (Rg.xO rfl e20)) (by go_simp)
 ·intro _ zZ w_ hB hr
  have e20:=Rg.c_ (hr 20 (by decide));have e22:=Rg.c_ (hr 22 (by decide));have ec:=Rg.ec zZ;have ef:=Rg.ef zZ;refine Rg.ah (Rg.ai (j:=4) (b:=false) rfl (Rg.xO rfl e20)) (by go_simp;exact ⟨rfl,rfl⟩) ?_;refine (P2.out _).mono ?_;rintro e w5 ⟨rfl,rfl⟩;exact ⟨_,rfl,rfl,wK _ _⟩
 ·intro _ zZ w_ hB hr
  have e20:=Rg.c_ (hr 20 (by decide));have e23:=Rg.c_ (hr 23 (by decide));exact Rg.aG (Rg.ai (j:=4) (b:=false) rfl (Rg.xO rfl e20)) (by go_simp)
 ·intro _ zZ w_ hB hr
  have e20:=Rg.c_ (hr 20 (by decide));have e24:=Rg.c_ (hr 24 (by decide));have ec:=Rg.ec zZ;exact Rg.aG rfl (by go_simp)
 ·intro _ zZ w_ hB hr
  have e25:=Rg.c_ (hr 25 (by decide));exact Rg.aG rfl (by go_simp)
 ·intro _ zZ w_ hB hr
  have e3:zZ.tmps[3]?=some (.pointer (some ⟨w.heap.size+1,0,none⟩)):=hr 3 (by decide);have e26:=Rg.c_ (hr 26 (by decide));exact Rg.aG (Rg.ai (j:=10) (b:=false) rfl (Rg.xO rfl e26)) (by go_simp)
 ·intro _ zZ w_ hB hr
  have e26:=Rg.c_ (hr 26 (by decide));have e27:=Rg.c_ (hr 27 (by decide));have k1:=aE hB Q.aK.2.1;exact Rg.aG (Rg.ai (j:=10) (b:=false) rfl (Rg.xO rfl e26)) (by go_simp)
 ·intro _ zZ w_ hB hr
  have e26:=Rg.c_ (hr 26 (by decide));have e28:=Rg.c_ (hr 28 (by decide));have ec:=Rg.ec zZ;have ef:=Rg.ef zZ;refine Rg.ah (Rg.ai (j:=10) (b:=false) rfl (Rg.xO rfl e26)) (by go_simp;exact ⟨rfl,rfl⟩) ?_;refine (P4.out _).mono ?_;rintro e w5 ⟨rfl,rfl⟩;exact ⟨_,rfl,rfl,wK _ _⟩
 ·intro _ zZ w_ hB hr
  have e26:=Rg.c_ (hr 26 (by decide));have e29:=Rg.c_ (hr 29 (by decide));exact Rg.aG (Rg.ai (j:=10) (b:=false) rfl (Rg.xO rfl e26)) (by go_simp)
 ·intro _ zZ w_ hB hr
  have e26:=Rg.c_ (hr 26 (by decide));have e30:=Rg.c_ (hr 30 (by decide));have ec:=Rg.ec zZ;exact Rg.aG rfl (by go_simp)
 ·intro _ zZ w_ hB hr
  have e31:=Rg.c_ (hr 31 (by decide));exact Rg.aG rfl (by go_simp)
 ·intro _ zZ w_ hB hr
  have e3:zZ.tmps[3]?=some (.pointer (some ⟨w.heap.size+1,0,none⟩)):=hr 3 (by decide);have e32:=Rg.c_ (hr 32 (by decide));exact Rg.aG (Rg.ai (j:=16) (b:=false) rfl (Rg.xO rfl e32)) (by go_simp)
 ·intro _ zZ w_ hB hr
  have e32:=Rg.c_ (hr 32 (by decide));have e33:=Rg.c_ (hr 33 (by decide));have k0:=aE hB Q.aK.1;exact Rg.aG (Rg.ai (j:=16) (b:=false) rfl (Rg.xO rfl e32)) (by go_simp)
 ·intro _ zZ w_ hB hr
  have e32:=Rg.c_ (hr 32 (by decide));have e34:=Rg.c_ (hr 34 (by decide));have ef:=Rg.ef zZ;refine Rg.ah (Rg.ai (j:=16) (b:=false) rfl (Rg.xO rfl e32)) (by go_simp;exact ⟨rfl,rfl⟩) ?_;refine (PA.out _).mono ?_;rintro e w5 ⟨rfl,rfl⟩;exact ⟨_,rfl,rfl,wK _ _⟩
 ·intro _ zZ w_ hB hr
  have e3:zZ.tmps[3]?=some (.pointer (some ⟨w.heap.size+1,0,none⟩)):=hr 3 (by decide);have e32:=Rg.c_ (hr 32 (by decide));exact Rg.aG (Rg.ai (j:=16) (b:=false) rfl (Rg.xO rfl e32)) (by go_simp)
 ·intro _ zZ w_ hB hr
  have e32:=Rg.c_ (hr 32 (by decide));have e36:=Rg.c_ (hr 36 (by decide));have k2:=aE hB Q.aK.2.2;exact Rg.aG (Rg.ai (j:=16) (b:=false) rfl (Rg.xO rfl e32)) (by go_simp)
 ·intro _ zZ w_ hB hr
  have e32:=Rg.c_ (hr 32 (by decide));have e35:=Rg.c_ (hr 35 (by decide));have e37:=Rg.c_ (hr 37 (by decide));have ef:=Rg.ef zZ;refine Rg.ah (Rg.ai (j:=16) (b:=false) rfl (Rg.xO rfl e32)) (by go_simp;exact ⟨rfl,rfl⟩) ?_;refine (PG.out _).mono ?_;rintro e w5 ⟨rfl,rfl⟩;exact ⟨_,rfl,rfl,wK _ _⟩
 ·intro _ zZ w_ hB hr
  have e32:=Rg.c_ (hr 32 (by decide));have e38:=Rg.c_ (hr 38 (by decide));have ec:=Rg.ec zZ;exact Rg.aG (Rg.ai (j:=16) (b:=false) rfl (Rg.xO rfl e32)) (by go_simp;first | done | rfl | (simp [hg1];done))
 ·intro _ zZ w_ hB hr
  have e32:=Rg.c_ (hr 32 (by decide));have e39:=Rg.c_ (hr 39 (by decide));have ec:=Rg.ec zZ;exact Rg.aG rfl (by go_simp)
 intro vals wz hB hv hne;have zP:vals 24=.bool true:=hv 24 (by decide);simp only [Rg.ay,Rg.fill,Act.put,Nat.reduceAdd];clear hv;simp only [zP];clear zP;unfold Rg.aZ;go_wp2;go_ret;exact ⟨rfl,d_ B hB⟩
theorem cX (a b X Y E:Int) (w:World) :
  Calls Tryz.prog 62 #[.agg #[.int .i64 a,.int .i64 b],.agg #[.int .i64 X,.int .i64 Y,.int .i64 E]] w fun e w'=>e=.returned (.bool (M.good a b && M.bG a b X Y E))∧Below w.heap.size w w':=by
 have PC:=fun W=>dO a b W
 have PO:=fun W=>rm a b X Y E W
 have C:=(aH.new w #[.int .i64 a,.int .i64 b] 25).alloc (.cells #[.int .i64 X,.int .i64 Y,.int .i64 E] 27)
 have Q:=(aH.new (w.alloc (.cells #[.int .i64 a,.int .i64 b] 25)) #[.int .i64 X,.int .i64 Y,.int .i64 E] 27)
 rw [wI] at Q;have B:=((wK w.heap.size w).alloc (wL _) (.cells #[.int .i64 a,.int .i64 b] 25)).alloc (by rw [wI];omega) (.cells #[.int .i64 X,.int .i64 Y,.int .i64 E] 27);generalize hw3:(w.alloc (.cells #[.int .i64 a,.int .i64 b] 25)).alloc (.cells #[.int .i64 X,.int .i64 Y,.int .i64 E] 27)=wc at *;have ⟨q0,q1,q2⟩:=Q.aK;have f_:=C.box.c0;have g_:=C.box.c1
 cases hgd:M.good a b with
 | false=>
  rw [hgd] at PC;have PC:=wH PC;clear PO;go_enter Tryz.func62,Tryz.ntmps62
  go_wp2_with (go_at_call 77;(with_reducible refine (PC.out _).mono ?_);rintro e w4 ⟨rfl,hb4⟩;replace C:=C.keep hb4;replace B:=d_ B hb4;replace Q:=Q.keep hb4;(have ⟨z0,z1,z2⟩:=Q.aK);(replace ⟨f_,g_⟩:=C.b2))
  go_ret;exact ⟨rfl,B⟩
 | true=>
 rw [hgd] at PC;have PC:=wH PC
 have PO:=fun W=>PO W hgd
 generalize M.bG a b X Y E=pp at *;have PO:=wH PO;clear hgd;go_enter Tryz.func62,Tryz.ntmps62
 go_wp2_with (first
  | (go_at_call 77;(with_reducible refine (PC.out _).mono ?_);rintro e w4 ⟨rfl,hb4⟩;replace C:=C.keep hb4;replace B:=d_ B hb4;replace Q:=Q.keep hb4;(have ⟨z0,z1,z2⟩:=Q.aK);(replace ⟨f_,g_⟩:=C.b2))
  | (go_at_call 112;(with_reducible refine (PO.out _).mono ?_);rintro e w5 ⟨rfl,hb5⟩;replace B:=d_ B hb5))
 go_ret;exact ⟨rfl,B⟩
theorem jq (X Y E:Int) (w:World) (h1:-4000000000000000000≤Y) (h2:Y≤4000000000000000000) :
  Calls Tryz.prog 88 #[.agg #[.int .i64 X,.int .i64 Y,.int .i64 E]] w fun e w'=>e=.returned (.agg #[.int .i64 X,.int .i64 (-Y),.int .i64 E])∧Below w.heap.size w w':=by
 go_enter Tryz.func88,Tryz.ntmps88
 go_wp2;exact bodyPost_ret (v:=.agg #[.int .i64 X,.int .i64 (-Y),.int .i64 E]) (by simp [results,Tryz.results88,go_sem, *]) rfl (⟨rfl,(by repeat (first | exact wK _ _ | refine aV ?_ _ | refine aW ?_ (by assumption) | refine Below.drew ?_ | refine wJ ?_ (by first | exact wL _ | exact Nat.le_add_right _ _ | (simp <;> omega)) _ | refine aM ?_ _))⟩)
end
end Go.Proofs.YtggekfbfechonaaGreat
