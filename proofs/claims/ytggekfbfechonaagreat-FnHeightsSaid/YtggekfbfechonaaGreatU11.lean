/-
  Joined texts: contracts and plain lemmas.
-/
import Derived.Test.YtggekfbfechonaaGreatU1
import Derived.Test.YtggekfbfechonaaGreatU10
import Derived.Test.YtggekfbfechonaaGreatU9
set_option linter.unusedSimpArgs false
set_option linter.unusedVariables false
set_option maxRecDepth 100000
set_option maxHeartbeats 8000000
namespace Go.Proofs.YtggekfbfechonaaGreat
section
open Go.RowKit
theorem qW (a b X Y E:Int) (w:World) (hg:M.good a b=true) (hX1:-10000≤X) (hX2:X≤10000) (hE1:0≤E) (hE2:E≤20) :
  Calls Tryz.prog 63 #[.agg #[.int .i64 a,.int .i64 b],.agg #[.int .i64 X,.int .i64 Y,.int .i64 E]] w fun e w'=>e=.returned (.tuple #[.agg #[.int .i64 (M.pick (M.zS a b X E) (M.pn (M.bL a b X E (M.bN a b X E)))),.int .i64 (M.pick (M.zS a b X E) (M.pd (M.bL a b X E (M.bN a b X E)))),.int .i64 (M.pick (M.zS a b X E) (M.pn (M.bH a b X E (M.bN a b X E)))),.int .i64 (M.pick (M.zS a b X E) (M.pd (M.bH a b X E (M.bN a b X E))))],.int .i64 (M.pick (M.zS a b X E) ((M.bN a b X E:Nat):Int)),.bool (M.zS a b X E)])∧Below w.heap.size w w':=by
 have P0:=fun W=>eS a b X Y E 0 W hg hX1 hX2 hE1 hE2 (by omega)
 rw [M.tk,show ((0:Nat):Int)=0 from rfl] at P0;simp only [M.cj] at P0
 have PK:=wM fun (k:Nat) W (hk:k≤5)=>eS a b X Y E k W hg hX1 hX2 hE1 hE2 hk
 have hL0:=wM (show M.hL (M.hC a b) 0 (M.aU a b X E 0)=M.bL a b X E 0 from rfl);have hH0:=wM (show M.hH (M.hC a b) 0 (M.aU a b X E 0)=M.bH a b X E 0 from rfl);have hin:=M.ah hg
 have hno:=wM fun k hk hs=>M.vL (a:=a) (b:=b) (X:=X) (E:=E) (k:=k) hin hX1 hX2 hE1 hE2 hk hs
 have hss:=wM fun n hn=>M.mh (a:=a) (b:=b) (X:=X) (E:=E) (C:=M.hC a b) (n:=n) (M.eI hin) hn hX1 hX2 hE1 hE2
 have hs0:=wM (show M.aR (M.bL a b X E 0) (M.bH a b X E 0)=true from hss.out 0 (by omega));clear hg hin;rw [hL0.out,hH0.out] at P0;clear hL0 hH0;have P0:=wM P0;have C:=((aH.new w #[.int .i64 a,.int .i64 b] 25).alloc (.cells #[.int .i64 X,.int .i64 Y,.int .i64 E] 27)).alloc (.cells #[.int .i64 0,.int .i64 0,.int .i64 0,.int .i64 0] 33);have Q:=(aH.new (w.alloc (.cells #[.int .i64 a,.int .i64 b] 25)) #[.int .i64 X,.int .i64 Y,.int .i64 E] 27).alloc (.cells #[.int .i64 0,.int .i64 0,.int .i64 0,.int .i64 0] 33);rw [wN] at Q;have R:=aH.new ((w.alloc (.cells #[.int .i64 a,.int .i64 b] 25)).alloc (.cells #[.int .i64 X,.int .i64 Y,.int .i64 E] 27)) #[.int .i64 0,.int .i64 0,.int .i64 0,.int .i64 0] 33;rw [wN,wN] at R;have B:=(((wP w.heap.size w).alloc (wQ _) (.cells #[.int .i64 a,.int .i64 b] 25)).alloc (by rw [wN];omega) (.cells #[.int .i64 X,.int .i64 Y,.int .i64 E] 27)).alloc (by rw [wN,wN];omega) (.cells #[.int .i64 0,.int .i64 0,.int .i64 0,.int .i64 0] 33);generalize hw3:((w.alloc (.cells #[.int .i64 a,.int .i64 b] 25)).alloc (.cells #[.int .i64 X,.int .i64 Y,.int .i64 E] 27)).alloc (.cells #[.int .i64 0,.int .i64 0,.int .i64 0,.int .i64 0] 33)=wc at *;have ⟨q0,q1,q2⟩:=Q.aO;have f_:=C.box.c0;have g_:=C.box.c1;have t_:=R.aP.c0;have o_:=R.aP.f0;have wR:=R.aP.c1;have p_:=R.aP.f1;have wW:=R.aP.c2;have wZ:=R.aP.f2;have wX:=R.aP.c3;have wb:=R.aP.f3;generalize hu1:M.pn (M.bL a b X E 0)=u1 at *;generalize hu2:M.pd (M.bL a b X E 0)=u2 at *;generalize hu3:M.pn (M.bH a b X E 0)=u3 at *;generalize IB:M.pd (M.bH a b X E 0)=u4 at *;replace hu1:=wM hu1;replace hu2:=wM hu2;replace hu3:=wM hu3;replace IB:=wM IB;go_enter Tryz.func63,Tryz.ntmps63
 go_wp2_with (go_at_call 60;(with_reducible refine (P0.out _).mono ?_);rintro e w4 ⟨rfl,hb4⟩;replace C:=C.keep hb4;replace R:=R.keep hb4;replace B:=d_ B hb4;replace Q:=Q.keep hb4;have Dk:=wM R.lt;replace Q:=Q.alloc (.cells #[.int .i64 u1,.int .i64 u2,.int .i64 u3,.int .i64 u4] 33);have T:=aH.new w4 #[.int .i64 u1,.int .i64 u2,.int .i64 u3,.int .i64 u4] 33;have b_:=bA w4 (.cells #[.int .i64 u1,.int .i64 u2,.int .i64 u3,.int .i64 u4] 33);replace C:=C.keep b_;replace R:=R.keep b_;replace B:=d_ B b_;clear b_;(replace ⟨f_,g_⟩:=C.b2);(replace ⟨t_,wR,wW,wX,o_,p_,wZ,wb⟩:=R.xI);(replace ⟨xO,xP,A3,A5⟩:=T.b4))
 go_loopw [9] (fun vi wr=>∃ k:Nat,k≤5∧vi=.int .i64 k∧Hid (M.AU a b X E (5 - k) k=M.bN a b X E)∧Hid (M.aR (M.bL a b X E k) (M.bH a b X E k)=true)∧aH wr w4.heap.size 33 #[.int .i64 (M.pn (M.bL a b X E k)),.int .i64 (M.pd (M.bL a b X E k)),.int .i64 (M.pn (M.bH a b X E k)),.int .i64 (M.pd (M.bH a b X E k))]∧aH wr w.heap.size 25 #[.int .i64 a,.int .i64 b]∧aH wr (w.heap.size+1) 27 #[.int .i64 X,.int .i64 Y,.int .i64 E]∧aH wr (w.heap.size+1+1) 33 #[.int .i64 0,.int .i64 0,.int .i64 0,.int .i64 0]∧Below w.heap.size w wr) (fun vi _=>5 - (intOf vi).toNat)
 case atStart=>exact ⟨0,by omega,rfl,wM rfl,hs0,by rw [hu1.out,hu2.out,hu3.out,IB.out];exact T,C,Q,R,B⟩
 case round=>
 clear C Q R B T P0 f_ g_ t_ wR wW wX o_ p_ wZ wb xO xP A3 A5 q0 q1 q2 hu1 hu2 hu3 IB hs0;have hR9:=Dk.out;obtain ⟨k,hk,rfl,hN,hsk,T,C,Q,R,B⟩:=hrel;have eL:M.bL a b X E (k+1)=max (M.bL a b X E k) (M.hL (M.hC a b) (k+1) (M.aU a b X E (k+1))):=rfl;have eH:M.bH a b X E (k+1)=min (M.bH a b X E k) (M.hH (M.hC a b) (k+1) (M.aU a b X E (k+1))):=rfl;have eL:=wM eL;have eH:=wM eH;generalize hbk:M.bL a b X E k=bl at *;generalize Al:M.bH a b X E k=bh at *;replace hbk:=wM hbk;replace Al:=wM Al;have f_:=C.box.c0;have g_:=C.box.c1;have ⟨q0,q1,q2⟩:=Q.aO;have xO:=T.aP.c0;have xP:=T.aP.c1;have A3:=T.aP.c2;have A5:=T.aP.c3;have A6:=T.aP.f0;have A7:=T.aP.f1;have DT:=T.aP.f2;have DU:=T.aP.f3;have t_:=R.aP.c0;have wR:=R.aP.c1;have wW:=R.aP.c2;have wX:=R.aP.c3;have o_:=R.aP.f0;have p_:=R.aP.f1;have wZ:=R.aP.f2;have wb:=R.aP.f3
 by_cases hlt:k<5
 ·have P1:=fun W=>PK.out (k+1) W (by omega)
  have hNs:M.AU a b X E (5 - k) k=if M.isOk (M.aU a b X E (k+1))=true then M.AU a b X E (5 - (k+1)) (k+1) else k:=by
   rw [show 5 - k=(5 - (k+1))+1 by omega];rfl
  have hsn:=hss.out (k+1) (by omega);generalize M.hH (M.hC a b) (k+1) (M.aU a b X E (k+1))=hh,M.hL (M.hC a b) (k+1) (M.aU a b X E (k+1))=hl at *;have hk1:=wM (show ((k+1:Nat):Int)=(k:Int)+1 by omega);rw [hk1.out] at P1
  cases hok:M.isOk (M.aU a b X E (k+1)) with
  | false=>
   rw [hok,if_neg (by decide)] at hNs;have Br:=wM (show M.bN a b X E=k by rw [←hN.out,hNs]);rw [hok] at P1;simp only [M.ek] at P1;have DJ:=wM (show M.zS a b X E=true by unfold M.zS;rw [Br.out,hbk.out,Al.out];exact hsk.out);clear hNs hok hN eL eH hsn;have P1:=wM P1;generalize B_:M.pn (bl)=t1 at *;replace B_:=wM B_;generalize CA:M.pd (bl)=t2 at *;replace CA:=wM CA;generalize CB:M.pn (bh)=t3 at *;replace CB:=wM CB;generalize CC:M.pd (bh)=t4 at *;replace CC:=wM CC
   go_wp2_with (go_at_call 60;(with_reducible refine (P1.out _).mono ?_);rintro e w5 ⟨rfl,hb5⟩;replace C:=C.keep hb5;replace R:=R.keep hb5;replace T:=T.keep hb5;replace B:=d_ B hb5;replace Q:=Q.keep hb5;replace Q:=Q.alloc (.cells #[.int .i64 0,.int .i64 0,.int .i64 0,.int .i64 0] 33);have S:=aH.new w5 #[.int .i64 0,.int .i64 0,.int .i64 0,.int .i64 0] 33;have b_:=bA w5 (.cells #[.int .i64 0,.int .i64 0,.int .i64 0,.int .i64 0] 33);replace C:=C.keep b_;replace R:=R.keep b_;replace T:=T.keep b_;replace B:=d_ B b_;clear b_;(replace ⟨f_,g_⟩:=C.b2);(replace ⟨t_,wR,wW,wX,o_,p_,wZ,wb⟩:=R.xI);(replace ⟨xO,xP,A3,A5⟩:=T.b4);(replace ⟨zQ,zR,DR,DS⟩:=S.b4))
   exact bodyPost_ret (v:=.tuple #[.agg #[.int .i64 t1,.int .i64 t2,.int .i64 t3,.int .i64 t4],.int .i64 (k:Int),.bool true]) (by simp [results,Tryz.results63,go_sem, *]) rfl (⟨by rw [Br.out,DJ.out,hbk.out,Al.out,B_.out,CA.out,CB.out,CC.out];simp only [M.cj],wO (wO (wO (wO B (by simp <;> omega) _) (by simp <;> omega) _) (by simp <;> omega) _) (by simp <;> omega) _⟩)
  | true=>
  rw [hok,if_pos rfl] at hNs;have Gp:=wM (hNs.symm.trans hN.out);rw [hok] at P1;simp only [M.cj] at P1
  have PC:=fun W=>js bl bh hl hh W hsk.out hsn
  clear hNs hok hN;have P1:=wM P1;have hse:=wM (show M.aR (M.bL a b X E (k+1)) (M.bH a b X E (k+1))=M.aR (max bl hl) (min bh hh) by rw [eL.out,eH.out])
  cases hs:M.aR (max bl hl) (min bh hh) with
  | false=>
   have DJ:=wM (show M.zS a b X E=false from hno.out (k+1) (by have:=M.qM (a:=a) (b:=b) (X:=X) (E:=E) (5 - (k+1)) (k+1);rw [Gp.out] at this;exact this) (by rw [hse.out];exact hs));rw [hs] at PC;simp only [M.ek] at PC;clear hs hse;have PC:=wM PC;generalize B_:M.pn (bl)=t1 at *;replace B_:=wM B_;generalize CA:M.pd (bl)=t2 at *;replace CA:=wM CA;generalize CB:M.pn (bh)=t3 at *;replace CB:=wM CB;generalize CC:M.pd (bh)=t4 at *;replace CC:=wM CC;generalize Hn:M.pn (hl)=y1 at *;replace Hn:=wM Hn;generalize Ho:M.pd (hl)=y2 at *;replace Ho:=wM Ho;generalize Hp:M.pn (hh)=y3 at *;replace Hp:=wM Hp;generalize Hq:M.pd (hh)=y4 at *;replace Hq:=wM Hq
   go_wp2_with (first
    | (go_at_call 60;(with_reducible refine (P1.out _).mono ?_);rintro e w5 ⟨rfl,hb5⟩;replace C:=C.keep hb5;replace R:=R.keep hb5;replace T:=T.keep hb5;replace B:=d_ B hb5;replace Q:=Q.keep hb5;replace Q:=Q.alloc (.cells #[.int .i64 y1,.int .i64 y2,.int .i64 y3,.int .i64 y4] 33);have S:=aH.new w5 #[.int .i64 y1,.int .i64 y2,.int .i64 y3,.int .i64 y4] 33;have b_:=bA w5 (.cells #[.int .i64 y1,.int .i64 y2,.int .i64 y3,.int .i64 y4] 33);replace C:=C.keep b_;replace R:=R.keep b_;replace T:=T.keep b_;replace B:=d_ B b_;clear b_;(replace ⟨f_,g_⟩:=C.b2);(replace ⟨t_,wR,wW,wX,o_,p_,wZ,wb⟩:=R.xI);(replace ⟨xO,xP,A3,A5,A6,A7,DT,DU⟩:=T.xI);(replace ⟨zQ,zR,DR,DS⟩:=S.b4))
    | (go_at_call 120;(with_reducible refine (PC.out _).mono ?_);rintro e w6 ⟨rfl,hb6⟩;replace C:=C.keep hb6;replace R:=R.keep hb6;replace T:=T.keep hb6;replace S:=S.keep hb6;replace B:=d_ B hb6;replace Q:=Q.keep hb6;replace Q:=Q.alloc (.cells #[.int .i64 0,.int .i64 0,.int .i64 0,.int .i64 0] 33);have O:=aH.new w6 #[.int .i64 0,.int .i64 0,.int .i64 0,.int .i64 0] 33;have b_:=bA w6 (.cells #[.int .i64 0,.int .i64 0,.int .i64 0,.int .i64 0] 33);replace C:=C.keep b_;replace R:=R.keep b_;replace T:=T.keep b_;replace S:=S.keep b_;replace B:=d_ B b_;clear b_;(replace ⟨f_,g_⟩:=C.b2);(replace ⟨t_,wR,wW,wX,o_,p_,wZ,wb⟩:=R.xI);(replace ⟨xO,xP,A3,A5,A6,A7,DT,DU⟩:=T.xI);(replace ⟨zQ,zR,DR,DS⟩:=S.b4);(replace ⟨yf,yg,yh,yi⟩:=O.b4)))
   exact bodyPost_ret (v:=.tuple #[.agg #[.int .i64 0,.int .i64 0,.int .i64 0,.int .i64 0],.int .i64 0,.bool false]) (by simp [results,Tryz.results63,go_sem, *]) rfl (⟨by rw [DJ.out];simp only [M.ek],wO (wO (wO (wO B (by simp <;> omega) _) (by simp <;> omega) _) (by simp <;> omega) _) (by simp <;> omega) _⟩)
  | true=>
  have hs2:=wM (hse.out.trans hs);rw [hs] at PC;simp only [M.cj] at PC;clear hs hse;have PC:=wM PC;generalize B_:M.pn (bl)=t1 at *;replace B_:=wM B_;generalize CA:M.pd (bl)=t2 at *;replace CA:=wM CA;generalize CB:M.pn (bh)=t3 at *;replace CB:=wM CB;generalize CC:M.pd (bh)=t4 at *;replace CC:=wM CC;generalize Hn:M.pn (hl)=y1 at *;replace Hn:=wM Hn;generalize Ho:M.pd (hl)=y2 at *;replace Ho:=wM Ho;generalize Hp:M.pn (hh)=y3 at *;replace Hp:=wM Hp;generalize Hq:M.pd (hh)=y4 at *;replace Hq:=wM Hq;generalize Mc:M.pn (max bl hl)=z1 at *;replace Mc:=wM Mc;generalize Md:M.pd (max bl hl)=z2 at *;replace Md:=wM Md;generalize Me:M.pn (min bh hh)=z3 at *;replace Me:=wM Me;generalize Mf:M.pd (min bh hh)=z4 at *;replace Mf:=wM Mf
  go_wp2_with (first
   | (go_at_call 60;(with_reducible refine (P1.out _).mono ?_);rintro e w5 ⟨rfl,hb5⟩;replace C:=C.keep hb5;replace R:=R.keep hb5;replace T:=T.keep hb5;replace B:=d_ B hb5;replace Q:=Q.keep hb5;replace Q:=Q.alloc (.cells #[.int .i64 y1,.int .i64 y2,.int .i64 y3,.int .i64 y4] 33);have S:=aH.new w5 #[.int .i64 y1,.int .i64 y2,.int .i64 y3,.int .i64 y4] 33;have b_:=bA w5 (.cells #[.int .i64 y1,.int .i64 y2,.int .i64 y3,.int .i64 y4] 33);replace C:=C.keep b_;replace R:=R.keep b_;replace T:=T.keep b_;replace B:=d_ B b_;clear b_;(replace ⟨f_,g_⟩:=C.b2);(replace ⟨t_,wR,wW,wX,o_,p_,wZ,wb⟩:=R.xI);(replace ⟨xO,xP,A3,A5,A6,A7,DT,DU⟩:=T.xI);(replace ⟨zQ,zR,DR,DS⟩:=S.b4))
   | (go_at_call 120;(with_reducible refine (PC.out _).mono ?_);rintro e w6 ⟨rfl,hb6⟩;replace C:=C.keep hb6;replace R:=R.keep hb6;replace T:=T.keep hb6;replace S:=S.keep hb6;replace B:=d_ B hb6;replace Q:=Q.keep hb6;replace Q:=Q.alloc (.cells #[.int .i64 z1,.int .i64 z2,.int .i64 z3,.int .i64 z4] 33);have O:=aH.new w6 #[.int .i64 z1,.int .i64 z2,.int .i64 z3,.int .i64 z4] 33;have b_:=bA w6 (.cells #[.int .i64 z1,.int .i64 z2,.int .i64 z3,.int .i64 z4] 33);replace C:=C.keep b_;replace R:=R.keep b_;replace T:=T.keep b_;replace S:=S.keep b_;replace B:=d_ B b_;clear b_;(replace ⟨f_,g_⟩:=C.b2);(replace ⟨t_,wR,wW,wX,o_,p_,wZ,wb⟩:=R.xI);(replace ⟨xO,xP,A3,A5,A6,A7,DT,DU⟩:=T.xI);(replace ⟨zQ,zR,DR,DS⟩:=S.b4);(replace ⟨yf,yg,yh,yi⟩:=O.b4)))
  go_roundw
  case rel=>exact ⟨k+1,by omega,by go_num,Gp,hs2,by rw [eL.out,eH.out,Mc.out,Md.out,Me.out,Mf.out];exact aH.ur T _ _ _ _,(((C.other (show w.heap.size≠w4.heap.size by omega) _).other (show w.heap.size≠w4.heap.size by omega) _).other (show w.heap.size≠w4.heap.size by omega) _).other (show w.heap.size≠w4.heap.size by omega) _,(((Q.other (show w.heap.size+1≠w4.heap.size by omega) _).other (show w.heap.size+1≠w4.heap.size by omega) _).other (show w.heap.size+1≠w4.heap.size by omega) _).other (show w.heap.size+1≠w4.heap.size by omega) _,(((R.other (show w.heap.size+1+1≠w4.heap.size by omega) _).other (show w.heap.size+1+1≠w4.heap.size by omega) _).other (show w.heap.size+1+1≠w4.heap.size by omega) _).other (show w.heap.size+1+1≠w4.heap.size by omega) _,wO (wO (wO (wO B (by simp <;> omega) _) (by simp <;> omega) _) (by simp <;> omega) _) (by simp <;> omega) _⟩
  case measure=>simp [intOf] <;> omega
 obtain rfl:k=5:=by omega
 have Br:=wM (show M.bN a b X E=5 by rw [←hN.out];rfl);have DJ:=wM (show M.zS a b X E=true by unfold M.zS;rw [Br.out,hbk.out,Al.out];exact hsk.out);clear hN PK eL eH
 obtain ⟨k,hk5⟩:∃ k:Nat,k=5:=⟨5,rfl⟩
 rw [←hk5] at Br hbk Al;have FC:=wM (show (k:Int)=5 by omega);clear hk5;generalize B_:M.pn (bl)=t1 at *;replace B_:=wM B_;generalize CA:M.pd (bl)=t2 at *;replace CA:=wM CA;generalize CB:M.pn (bh)=t3 at *;replace CB:=wM CB;generalize CC:M.pd (bh)=t4 at *;replace CC:=wM CC;go_wp2;exact bodyPost_ret (v:=.tuple #[.agg #[.int .i64 t1,.int .i64 t2,.int .i64 t3,.int .i64 t4],.int .i64 5,.bool true]) (by simp [results,Tryz.results63,go_sem, *]) rfl (⟨by rw [Br.out,DJ.out,FC.out,hbk.out,Al.out,B_.out,CA.out,CB.out,CC.out];simp only [M.cj],wO (wO (wO (wO B (by simp <;> omega) _) (by simp <;> omega) _) (by simp <;> omega) _) (by simp <;> omega) _⟩)
namespace M
def cv (a b x e:Int):Int:=x*x*x+a*x*e*e*e*e+b*e*e*e*e*e*e
def bB (a b X Y E:Int):Bool:=if E=0 then decide (X=0) && decide (Y=0) else M.ins X (-10000) 10000 && M.ins E 1 20 && (M.gcd X E == 1) && decide (Y*Y=cv a b X E)
theorem qb (a b x e:Int):x*x*x+a*x*(e*e)*(e*e)+b*(e*e)*(e*e)*(e*e)=cv a b x e:=by unfold cv;grind
end M
theorem eU (a b x e:Int) (w:World) (ha1:-1000≤a) (ha2:a≤1000) (hb1:-10000≤b) (hb2:b≤10000) (hx1:-10000≤x) (hx2:x≤10000) (he1:-20≤e) (he2:e≤20) :
  Calls Tryz.prog 115 #[.agg #[.int .i64 a,.int .i64 b],.int .i64 x,.int .i64 e] w fun e' w'=>e'=.returned (.int .i64 (M.cv a b x e))∧Below w.heap.size w w':=by
 have sb1:=M.aK (x:=x) (y:=x) (m:=10000) (n:=10000) (by omega) (by omega) (by omega) (by omega);have IM:=M.aK (x:=x*x) (y:=x) (m:=100000000) (n:=10000) (by omega) (by omega) (by omega) (by omega);have IP:=M.aK (x:=a) (y:=x) (m:=1000) (n:=10000) (by omega) (by omega) (by omega) (by omega);have IQ:=M.aK (x:=a*x) (y:=e) (m:=10000000) (n:=20) (by omega) (by omega) (by omega) (by omega);have IR:=M.aK (x:=a*x*e) (y:=e) (m:=200000000) (n:=20) (by omega) (by omega) (by omega) (by omega);have IU:=M.aK (x:=a*x*e*e) (y:=e) (m:=4000000000) (n:=20) (by omega) (by omega) (by omega) (by omega);have IV:=M.aK (x:=a*x*e*e*e) (y:=e) (m:=80000000000) (n:=20) (by omega) (by omega) (by omega) (by omega);have IW:=M.aK (x:=b) (y:=e) (m:=10000) (n:=20) (by omega) (by omega) (by omega) (by omega);have IX:=M.aK (x:=b*e) (y:=e) (m:=200000) (n:=20) (by omega) (by omega) (by omega) (by omega);have Dy:=M.aK (x:=b*e*e) (y:=e) (m:=4000000) (n:=20) (by omega) (by omega) (by omega) (by omega);have Dz:=M.aK (x:=b*e*e*e) (y:=e) (m:=80000000) (n:=20) (by omega) (by omega) (by omega) (by omega);have D1:=M.aK (x:=b*e*e*e*e) (y:=e) (m:=1600000000) (n:=20) (by omega) (by omega) (by omega) (by omega);have D2:=M.aK (x:=b*e*e*e*e*e) (y:=e) (m:=32000000000) (n:=20) (by omega) (by omega) (by omega) (by omega);have hcv:=wM (M.qb a b x e);go_enter Tryz.func115,Tryz.ntmps115
 go_wp2;go_ret;exact ⟨by rfl,(by repeat (first | exact wP _ _ | refine aQ ?_ _ | refine aS ?_ (by assumption) | refine Below.drew ?_ | refine wO ?_ (by first | exact wQ _ | exact Nat.le_add_right _ _ | (simp <;> omega)) _ | refine aM ?_ _))⟩
theorem pi (a b x e:Int) (w:World) (ha1:-1000≤a) (ha2:a≤1000) (hb1:-10000≤b) (hb2:b≤10000) (hx1:-10000≤x) (hx2:x≤10000) (he1:-20≤e) (he2:e≤20) :
  Calls Tryz.prog 161 #[.agg #[.int .i64 a,.int .i64 b],.int .i64 x,.int .i64 e] w fun e' w'=>e'=.returned (.int .i64 (M.cv a b x e))∧Below w.heap.size w w':=by
 have D3:=M.aK (x:=x) (y:=x) (m:=10000) (n:=10000) (by omega) (by omega) (by omega) (by omega);have D4:=M.aK (x:=x*x) (y:=x) (m:=100000000) (n:=10000) (by omega) (by omega) (by omega) (by omega);have D5:=M.aK (x:=a) (y:=x) (m:=1000) (n:=10000) (by omega) (by omega) (by omega) (by omega);have Fd:=M.aK (x:=e) (y:=e) (m:=20) (n:=20) (by omega) (by omega) (by omega) (by omega);have Fe:=M.aK (x:=a*x) (y:=e*e) (m:=10000000) (n:=400) (by omega) (by omega) (by omega) (by omega);have Ff:=M.aK (x:=a*x*(e*e)) (y:=e*e) (m:=4000000000) (n:=400) (by omega) (by omega) (by omega) (by omega);have Fg:=M.aK (x:=b) (y:=e*e) (m:=10000) (n:=400) (by omega) (by omega) (by omega) (by omega);have Fh:=M.aK (x:=b*(e*e)) (y:=e*e) (m:=4000000) (n:=400) (by omega) (by omega) (by omega) (by omega);have Fi:=M.aK (x:=b*(e*e)*(e*e)) (y:=e*e) (m:=1600000000) (n:=400) (by omega) (by omega) (by omega) (by omega);have hcv:=wM (M.qb a b x e);go_enter Tryz.func161,Tryz.ntmps161
 go_wp2;go_ret;exact ⟨by rw [←hcv.out];rfl,(by repeat (first | exact wP _ _ | refine aQ ?_ _ | refine aS ?_ (by assumption) | refine Below.drew ?_ | refine wO ?_ (by first | exact wQ _ | exact Nat.le_add_right _ _ | (simp <;> omega)) _ | refine aM ?_ _))⟩
theorem M.lN {a b x e:Int} (ha1:-1000≤a) (ha2:a≤1000) (hb1:-10000≤b) (hb2:b≤10000) (hx1:-10000≤x) (hx2:x≤10000) (he1:-20≤e) (he2:e≤20):-4000000000000≤M.cv a b x e∧M.cv a b x e≤4000000000000:=by
 have Fj:=M.aK (x:=x) (y:=x) (m:=10000) (n:=10000) (by omega) (by omega) (by omega) (by omega);have Fk:=M.aK (x:=x*x) (y:=x) (m:=100000000) (n:=10000) (by omega) (by omega) (by omega) (by omega);have Fl:=M.aK (x:=a) (y:=x) (m:=1000) (n:=10000) (by omega) (by omega) (by omega) (by omega);have Fm:=M.aK (x:=a*x) (y:=e) (m:=10000000) (n:=20) (by omega) (by omega) (by omega) (by omega);have Fn:=M.aK (x:=a*x*e) (y:=e) (m:=200000000) (n:=20) (by omega) (by omega) (by omega) (by omega);have HK:=M.aK (x:=a*x*e*e) (y:=e) (m:=4000000000) (n:=20) (by omega) (by omega) (by omega) (by omega);have MO:=M.aK (x:=a*x*e*e*e) (y:=e) (m:=80000000000) (n:=20) (by omega) (by omega) (by omega) (by omega);have MP:=M.aK (x:=b) (y:=e) (m:=10000) (n:=20) (by omega) (by omega) (by omega) (by omega);have MQ:=M.aK (x:=b*e) (y:=e) (m:=200000) (n:=20) (by omega) (by omega) (by omega) (by omega);have MR:=M.aK (x:=b*e*e) (y:=e) (m:=4000000) (n:=20) (by omega) (by omega) (by omega) (by omega);have MS:=M.aK (x:=b*e*e*e) (y:=e) (m:=80000000) (n:=20) (by omega) (by omega) (by omega) (by omega);have MU:=M.aK (x:=b*e*e*e*e) (y:=e) (m:=1600000000) (n:=20) (by omega) (by omega) (by omega) (by omega);have MV:=M.aK (x:=b*e*e*e*e*e) (y:=e) (m:=32000000000) (n:=20) (by omega) (by omega) (by omega) (by omega);unfold M.cv;omega
theorem M.ta {Y v:Int} (h:Y*Y=v) (hv:v≤4000000000000):-3000000≤Y∧Y≤3000000:=by
 constructor
 ·rcases Int.lt_or_le Y (-3000000) with q | q
  ·have:=Int.mul_le_mul (a:=3000000) (b:=3000000) (c:=-Y) (d:=-Y) (by omega) (by omega) (by omega) (by omega)
   rw [Int.neg_mul_neg] at this;omega
  exact q
 rcases Int.lt_or_le 3000000 Y with q | q
 ·have:=Int.mul_le_mul (a:=3000000) (b:=3000000) (c:=Y) (d:=Y) (by omega) (by omega) (by omega) (by omega)
  omega
 exact q
theorem eJ (a b X Y E:Int) (w:World) :
  Calls Tryz.prog 55 #[.agg #[.int .i64 a,.int .i64 b],.agg #[.int .i64 X,.int .i64 Y,.int .i64 E]] w fun e w'=>e=.returned (.bool (M.good a b && M.bB a b X Y E))∧Below w.heap.size w w':=by
 have PC:=fun W=>jf a b W
 have PI:=wM fun n lo hi W=>cH n lo hi W
 have C:=(aH.new w #[.int .i64 a,.int .i64 b] 25).alloc (.cells #[.int .i64 X,.int .i64 Y,.int .i64 E] 27)
 have Q:=(aH.new (w.alloc (.cells #[.int .i64 a,.int .i64 b] 25)) #[.int .i64 X,.int .i64 Y,.int .i64 E] 27)
 rw [wN] at Q;have B:=((wP w.heap.size w).alloc (wQ _) (.cells #[.int .i64 a,.int .i64 b] 25)).alloc (by rw [wN];omega) (.cells #[.int .i64 X,.int .i64 Y,.int .i64 E] 27);generalize hw3:(w.alloc (.cells #[.int .i64 a,.int .i64 b] 25)).alloc (.cells #[.int .i64 X,.int .i64 Y,.int .i64 E] 27)=wc at *;have ⟨q0,q1,q2⟩:=Q.aO;have f_:=C.box.c0;have g_:=C.box.c1
 cases hgd:M.good a b with
 | false=>
  rw [hgd] at PC;have PC:=wM PC;go_enter Tryz.func55,Tryz.ntmps55
  go_wp2_with (go_at_call 73;(with_reducible refine (PC.out _).mono ?_);rintro e w4 ⟨rfl,hb4⟩;replace C:=C.keep hb4;replace B:=d_ B hb4;replace Q:=Q.keep hb4;(have ⟨z0,z1,z2⟩:=Q.aO);(replace ⟨f_,g_⟩:=C.b2))
  go_ret;exact ⟨rfl,B⟩
 | true=>
 obtain ⟨ha1,ha2,hb1,hb2⟩:=M.ar (M.ah hgd);rw [hgd] at PC;have PC:=wM PC;clear hgd;rw [Bool.true_and]
 by_cases hE:E=0
 ·by_cases hX:X=0
  ·by_cases hY:Y=0
   ·subst hE hX hY
    go_enter Tryz.func55,Tryz.ntmps55
    go_wp2_with (go_at_call 73;(with_reducible refine (PC.out _).mono ?_);rintro e w4 ⟨rfl,hb4⟩;replace C:=C.keep hb4;replace B:=d_ B hb4;replace Q:=Q.keep hb4;(have ⟨z0,z1,z2⟩:=Q.aO);(replace ⟨f_,g_⟩:=C.b2))
    go_ret;exact ⟨rfl,B⟩
   have hres:=wM (show M.bB a b X Y E=false by unfold M.bB;rw [if_pos hE];simp [hY]);have hi:=wM (show M.ins E 1 20=false by unfold M.ins;simp;omega);subst hE hX;rw [hres.out]
   have PE:=fun W=>PI.out 0 1 20 W
   rw [hi.out] at PE;have PE:=wM PE;have hi2:=wM (show M.ins 0 (-10000) 10000=true by decide)
   have PX:=fun W=>PI.out 0 (-10000) 10000 W
   rw [hi2.out] at PX;have PX:=wM PX;clear PI;go_enter Tryz.func55,Tryz.ntmps55
   go_wp2_with (first
    | (go_at_call 73;(with_reducible refine (PC.out _).mono ?_);rintro e w4 ⟨rfl,hb4⟩;replace C:=C.keep hb4;replace B:=d_ B hb4;replace Q:=Q.keep hb4;(have ⟨z0,z1,z2⟩:=Q.aO);(replace ⟨f_,g_⟩:=C.b2))
    | (go_at_call 56;first | ((with_reducible refine (PX.out _).mono ?_);rintro e w6 ⟨rfl,rfl⟩) | ((with_reducible refine (PE.out _).mono ?_);rintro e w6 ⟨rfl,rfl⟩)))
   go_ret;exact ⟨rfl,B⟩
  have hX0:(X == 0)=false:=by rw [beq_eq_false_iff_ne];exact hX
  subst hE
  have yd:(M.ins X (-10000) 10000=false∨M.ins 0 1 20=false)→M.bB a b X Y 0=false:=fun _=>by unfold M.bB;rw [if_pos rfl];simp [hX]
  have hE0:M.ins 0 1 20=false:=by decide
  have P1:=fun W=>PI.out X (-10000) 10000 W
  have P2:=fun W=>PI.out 0 1 20 W
  have P4:=fun W=>PI.out Y (-3000000) 3000000 W
  have hgb:=fun h=>M.es (n:=X) (lo:=-10000) (hi:=10000) h
  have hge:=fun h=>M.es (n:=0) (lo:=1) (hi:=20) h
  have hyb:=fun h=>M.ta (Y:=Y) (v:=M.cv a b X 0) h
  have Aa:M.ins Y (-3000000) 3000000=true ↔ (-3000000≤Y∧Y≤3000000):=by unfold M.ins;simp
  generalize M.ins Y (-3000000) 3000000=i4,M.ins 0 1 20=i2,M.ins X (-10000) 10000=i1 at *;clear PI
  cases i1 with
  | false=>
   have hr2:=wM (show M.bB a b X Y 0=false from yd (Or.inl rfl));rw [hr2.out];have P1:=wM P1;have P2:=wM P2;have P4:=wM P4;clear hgb hge hyb Aa yd;go_enter Tryz.func55,Tryz.ntmps55
   go_wp2_with (first
    | (go_at_call 73;(with_reducible refine (PC.out _).mono ?_);rintro e w4 ⟨rfl,hb4⟩;replace C:=C.keep hb4;replace B:=d_ B hb4;replace Q:=Q.keep hb4;(have ⟨z0,z1,z2⟩:=Q.aO);(replace ⟨f_,g_⟩:=C.b2))
    | (go_at_call 56;first | ((with_reducible refine (P1.out _).mono ?_);rintro e w6 ⟨rfl,rfl⟩) | ((with_reducible refine (P2.out _).mono ?_);rintro e w6 ⟨rfl,rfl⟩) | ((with_reducible refine (P4.out _).mono ?_);rintro e w6 ⟨rfl,rfl⟩)))
   go_ret;exact ⟨rfl,B⟩
  | true=>
  cases i2 with
  | false=>
   have hr2:=wM (show M.bB a b X Y 0=false from yd (Or.inr rfl));rw [hr2.out];have P1:=wM P1;have P2:=wM P2;have P4:=wM P4;clear hgb hge hyb Aa yd;go_enter Tryz.func55,Tryz.ntmps55
   go_wp2_with (first
    | (go_at_call 73;(with_reducible refine (PC.out _).mono ?_);rintro e w4 ⟨rfl,hb4⟩;replace C:=C.keep hb4;replace B:=d_ B hb4;replace Q:=Q.keep hb4;(have ⟨z0,z1,z2⟩:=Q.aO);(replace ⟨f_,g_⟩:=C.b2))
    | (go_at_call 56;first | ((with_reducible refine (P1.out _).mono ?_);rintro e w6 ⟨rfl,rfl⟩) | ((with_reducible refine (P2.out _).mono ?_);rintro e w6 ⟨rfl,rfl⟩) | ((with_reducible refine (P4.out _).mono ?_);rintro e w6 ⟨rfl,rfl⟩)))
   go_ret;exact ⟨rfl,B⟩
  | true=>exact absurd hE0 (by decide)
 have hE0:(E == 0)=false:=by rw [beq_eq_false_iff_ne];exact hE
 have hpt:M.bB a b X Y E=(M.ins X (-10000) 10000 && M.ins E 1 20 && (M.gcd X E == 1) && decide (Y*Y=M.cv a b X E)):=by unfold M.bB;rw [if_neg hE]
 have yd:(M.ins X (-10000) 10000=false∨M.ins E 1 20=false)→M.bB a b X Y E=false:=fun h=>by rw [hpt];rcases h with h | h <;> rw [h] <;> simp
 have P1:=fun W=>PI.out X (-10000) 10000 W
 have P2:=fun W=>PI.out E 1 20 W
 have P4:=fun W=>PI.out Y (-3000000) 3000000 W
 have hgb:=fun h=>M.es (n:=X) (lo:=-10000) (hi:=10000) h
 have hge:=fun h=>M.es (n:=E) (lo:=1) (hi:=20) h
 have hyb:=fun h=>M.ta (Y:=Y) (v:=M.cv a b X E) h
 have Aa:M.ins Y (-3000000) 3000000=true ↔ (-3000000≤Y∧Y≤3000000):=by unfold M.ins;simp
 generalize M.ins Y (-3000000) 3000000=i4,M.ins E 1 20=i2,M.ins X (-10000) 10000=i1 at *;clear PI
 cases i1 with
 | false=>
  have hr2:=wM (show M.bB a b X Y E=false from yd (Or.inl rfl));rw [hr2.out];have P1:=wM P1;have P2:=wM P2;have P4:=wM P4;clear hgb hge hyb Aa yd;go_enter Tryz.func55,Tryz.ntmps55
  go_wp2_with (first
   | (go_at_call 73;(with_reducible refine (PC.out _).mono ?_);rintro e w4 ⟨rfl,hb4⟩;replace C:=C.keep hb4;replace B:=d_ B hb4;replace Q:=Q.keep hb4;(have ⟨z0,z1,z2⟩:=Q.aO);(replace ⟨f_,g_⟩:=C.b2))
   | (go_at_call 56;first | ((with_reducible refine (P1.out _).mono ?_);rintro e w6 ⟨rfl,rfl⟩) | ((with_reducible refine (P2.out _).mono ?_);rintro e w6 ⟨rfl,rfl⟩) | ((with_reducible refine (P4.out _).mono ?_);rintro e w6 ⟨rfl,rfl⟩)))
  go_ret;exact ⟨rfl,B⟩
 | true=>
 cases i2 with
 | false=>
  have hr2:=wM (show M.bB a b X Y E=false from yd (Or.inr rfl));rw [hr2.out];have P1:=wM P1;have P2:=wM P2;have P4:=wM P4;clear hgb hge hyb Aa yd;go_enter Tryz.func55,Tryz.ntmps55
  go_wp2_with (first
   | (go_at_call 73;(with_reducible refine (PC.out _).mono ?_);rintro e w4 ⟨rfl,hb4⟩;replace C:=C.keep hb4;replace B:=d_ B hb4;replace Q:=Q.keep hb4;(have ⟨z0,z1,z2⟩:=Q.aO);(replace ⟨f_,g_⟩:=C.b2))
   | (go_at_call 56;first | ((with_reducible refine (P1.out _).mono ?_);rintro e w6 ⟨rfl,rfl⟩) | ((with_reducible refine (P2.out _).mono ?_);rintro e w6 ⟨rfl,rfl⟩) | ((with_reducible refine (P4.out _).mono ?_);rintro e w6 ⟨rfl,rfl⟩)))
  go_ret;exact ⟨rfl,B⟩
 | true=>
 rw [Bool.true_and,Bool.true_and] at hpt;have hb1:=hgb rfl;have hb2:=hge rfl;obtain ⟨x1,x2⟩:=hb1;obtain ⟨e1,e2⟩:=hb2
 have PG:=wM fun W=>i8 X E W (by omega) (by omega) (by omega) (by omega)
 have hcb:=M.lN (a:=a) (b:=b) (x:=X) (e:=E) ha1 ha2 (by omega) (by omega) x1 x2 (by omega) (by omega)
 have PV:=fun W=>eU a b X E W ha1 ha2 (by omega) (by omega) x1 x2 (by omega) (by omega)
 clear hgb hge yd;generalize M.gcd X E=gg at *
 by_cases hg1:gg=1
 ·have hg2:(gg == 1)=true:=by rw [beq_iff_eq];exact hg1
  rw [hg2,Bool.true_and] at hpt
  cases i4 with
  | false=>
   have hr2:=wM (show M.bB a b X Y E=false by rw [hpt];simp only [decide_eq_false_iff_not];intro Ap;have:=Aa.2 (hyb Ap (by omega));cases this);rw [hr2.out];clear hpt Aa hyb hcb PV;have P1:=wM P1;have P2:=wM P2;have P4:=wM P4;go_enter Tryz.func55,Tryz.ntmps55
   go_wp2_with (first
    | (go_at_call 73;(with_reducible refine (PC.out _).mono ?_);rintro e w4 ⟨rfl,hb4⟩;replace C:=C.keep hb4;replace B:=d_ B hb4;replace Q:=Q.keep hb4;(have ⟨z0,z1,z2⟩:=Q.aO);(replace ⟨f_,g_⟩:=C.b2))
    | (go_at_call 56;first | ((with_reducible refine (P1.out _).mono ?_);rintro e w6 ⟨rfl,rfl⟩) | ((with_reducible refine (P2.out _).mono ?_);rintro e w6 ⟨rfl,rfl⟩) | ((with_reducible refine (P4.out _).mono ?_);rintro e w6 ⟨rfl,rfl⟩))
    | (go_at_call 114;(refine (PG.out _).mono ?_);rintro e w7 ⟨rfl,m_,rfl⟩))
   go_ret;exact ⟨rfl,aM B _⟩
  | true=>
  obtain ⟨y1,y2⟩:=Aa.1 rfl;have Ap:=M.aK (x:=Y) (y:=Y) (m:=3000000) (n:=3000000) (by omega) (by omega) (by omega) (by omega);generalize M.cv a b X E=v at *;have hpt:=wM hpt;rw [hpt.out];clear Aa hyb hcb;have PV:=wM PV;have P1:=wM P1;have P2:=wM P2;have P4:=wM P4;go_enter Tryz.func55,Tryz.ntmps55
  go_upto_region 7 with (first
   | (go_at_call 73;(with_reducible refine (PC.out _).mono ?_);rintro e w4 ⟨rfl,hb4⟩;replace C:=C.keep hb4;replace B:=d_ B hb4;replace Q:=Q.keep hb4;(have ⟨z0,z1,z2⟩:=Q.aO);(replace ⟨f_,g_⟩:=C.b2))
   | (go_at_call 56;first | ((with_reducible refine (P1.out _).mono ?_);rintro e w6 ⟨rfl,rfl⟩) | ((with_reducible refine (P2.out _).mono ?_);rintro e w6 ⟨rfl,rfl⟩) | ((with_reducible refine (P4.out _).mono ?_);rintro e w6 ⟨rfl,rfl⟩))
   | (go_at_call 114;(refine (PG.out _).mono ?_);rintro e w7 ⟨rfl,m_,rfl⟩))
  have C2:aH (w4.drewN m_) w.heap.size 25 #[.int .i64 a,.int .i64 b]:=by unfold aH at *;rw [World.heap_drewN];exact C
  have Q2:aH (w4.drewN m_) (w.heap.size+1) 27 #[.int .i64 X,.int .i64 Y,.int .i64 E]:=by unfold aH at *;rw [World.heap_drewN];exact Q
  have B2:=aM B m_;generalize w4.drewN m_=wd at *;clear C Q B;refine Rg.bO 13 [.is (.pointer (some ⟨w.heap.size+1,1,none⟩)),.is (.int .i64 Y),.is (.pointer (some ⟨w.heap.size+1,1,none⟩)),.is (.int .i64 Y),.is (.int .i64 (Y*Y)),.is (.agg #[.int .i64 a,.int .i64 b]),.is (.pointer (some ⟨w.heap.size+1,0,none⟩)),.is (.int .i64 X),.is (.pointer (some ⟨w.heap.size+1,2,none⟩)),.is (.int .i64 E),.is (.int .i64 v),.is (.bool (decide (Y*Y=v))),.is (.bool (decide (Y*Y=v)))] (by kernel_rfl) (by kernel_rfl) (by kernel_rfl) ⟨?_,?_,?_,?_,?_,?_,?_,?_,?_,?_,?_,?_,?_,trivial⟩ ?_
  ·intro _ zZ w_ hB hr
   have e3:zZ.tmps[3]?=some (.pointer (some ⟨w.heap.size+1,0,none⟩)):=hr 3 (by decide);exact Rg.aG rfl (by go_simp)
  ·intro _ zZ w_ hB hr
   have e35:=Rg.c_ (hr 35 (by decide));have k1:=aE hB Q2.aO.2.1;exact Rg.aG rfl (by go_simp)
  ·intro _ zZ w_ hB hr
   have e3:zZ.tmps[3]?=some (.pointer (some ⟨w.heap.size+1,0,none⟩)):=hr 3 (by decide);exact Rg.aG rfl (by go_simp)
  ·intro _ zZ w_ hB hr
   have e37:=Rg.c_ (hr 37 (by decide));have k1:=aE hB Q2.aO.2.1;exact Rg.aG rfl (by go_simp)
  ·intro _ zZ w_ hB hr
   have e36:=Rg.c_ (hr 36 (by decide));have e38:=Rg.c_ (hr 38 (by decide));exact Rg.aG rfl (by go_simp <;> exact Rg.wo (by omega))
  ·intro _ zZ w_ hB hr
   have e2:zZ.tmps[2]?=some (.pointer (some ⟨w.heap.size,0,none⟩)):=hr 2 (by decide);have k0:=aE hB C2.box.c0;have k1:=aE hB C2.box.c1;exact Rg.aG rfl (by go_simp)
  ·intro _ zZ w_ hB hr
   have e3:zZ.tmps[3]?=some (.pointer (some ⟨w.heap.size+1,0,none⟩)):=hr 3 (by decide);exact Rg.aG rfl (by go_simp)
  ·intro _ zZ w_ hB hr
   have e41:=Rg.c_ (hr 41 (by decide));have k0:=aE hB Q2.aO.1;exact Rg.aG rfl (by go_simp)
  ·intro _ zZ w_ hB hr
   have e3:zZ.tmps[3]?=some (.pointer (some ⟨w.heap.size+1,0,none⟩)):=hr 3 (by decide);exact Rg.aG rfl (by go_simp)
  ·intro _ zZ w_ hB hr
   have e43:=Rg.c_ (hr 43 (by decide));have k2:=aE hB Q2.aO.2.2;exact Rg.aG rfl (by go_simp)
  ·intro _ zZ w_ hB hr
   have e40:=Rg.c_ (hr 40 (by decide));have e42:=Rg.c_ (hr 42 (by decide));have e44:=Rg.c_ (hr 44 (by decide));have ef:=Rg.ef zZ;exact Rg.bp rfl (by go_simp) (PV.out _)
  ·intro _ zZ w_ hB hr
   have e39:=Rg.c_ (hr 39 (by decide));have e45:=Rg.c_ (hr 45 (by decide));exact Rg.aG rfl (by go_simp;first | done | rfl | (by_cases wt:Y*Y=v <;> simp [wt];done))
  ·intro _ zZ w_ hB hr
   have e46:=Rg.c_ (hr 46 (by decide));exact Rg.aG rfl (by go_simp)
  intro vals wz hB hv hne;have DA:vals 12=.bool (decide (Y*Y=v)):=hv 12 (by decide);simp only [Rg.bE,Rg.fill,Act.put,Nat.reduceAdd];clear hv;simp only [DA];clear DA;unfold Rg.aZ;go_wp2;go_ret;exact ⟨rfl,d_ B2 hB⟩
 have hg2:(gg == 1)=false:=by rw [beq_eq_false_iff_ne];exact hg1
 have hr2:=wM (show M.bB a b X Y E=false by rw [hpt,hg2];rfl);rw [hr2.out];clear hpt Aa hyb hcb PV;have P1:=wM P1;have P2:=wM P2;have P4:=wM P4;go_enter Tryz.func55,Tryz.ntmps55
 go_wp2_with (first
  | (go_at_call 73;(with_reducible refine (PC.out _).mono ?_);rintro e w4 ⟨rfl,hb4⟩;replace C:=C.keep hb4;replace B:=d_ B hb4;replace Q:=Q.keep hb4;(have ⟨z0,z1,z2⟩:=Q.aO);(replace ⟨f_,g_⟩:=C.b2))
  | (go_at_call 56;first | ((with_reducible refine (P1.out _).mono ?_);rintro e w6 ⟨rfl,rfl⟩) | ((with_reducible refine (P2.out _).mono ?_);rintro e w6 ⟨rfl,rfl⟩) | ((with_reducible refine (P4.out _).mono ?_);rintro e w6 ⟨rfl,rfl⟩))
  | (go_at_call 114;(refine (PG.out _).mono ?_);rintro e w7 ⟨rfl,m_,rfl⟩))
 go_ret;exact ⟨rfl,aM B _⟩
end
section
namespace M
def dZ (X Y E:Int):wT:=if E=0 then .O else .fin ((X:Rat) / ((E*E:Int):Rat)) ((Y:Rat) / ((E*E*E:Int):Rat))
theorem fK {a b X Y E:Int} (h:bB a b X Y E=true) (hE:E≠0):(-10000≤X∧X≤10000)∧(1≤E∧E≤20)∧Int.gcd X E=1∧Y*Y=cv a b X E:=by
 unfold bB at h;rw [if_neg hE] at h;simp only [Bool.and_eq_true,ins,decide_eq_true_eq,beq_iff_eq,gcd] at h;obtain ⟨⟨⟨h1,h2⟩,h3⟩,h4⟩:=h;exact ⟨h1,h2,by omega,h4⟩
theorem ui {a b X Y E:Int} (h:bB a b X Y E=true) (hE:E=0):X=0∧Y=0:=by
 unfold bB at h;rw [if_pos hE] at h;simp only [Bool.and_eq_true,decide_eq_true_eq] at h;exact h
theorem dI {E:Int} (h:E≠0):(E:Rat)≠0:=by exact_mod_cast h
theorem fa {a b X Y E:Int} (h:bB a b X Y E=true):wT.On a b (dZ X Y E):=by
 unfold dZ
 split
 ·trivial
 rename_i hE
 obtain ⟨-,-,-,h4⟩:=fK h hE;unfold wT.On
 have h5:(Y:Rat)*Y=X*X*X+a*X*E*E*E*E+b*E*E*E*E*E*E:=by
  unfold cv at h4
  exact_mod_cast h4
 have hz:=dI hE
 push_cast
 generalize (E:Rat)=e at *;have k1:=Rat.div_mul_cancel (a:=(X:Rat)) (b:=e*e) (by grind);have k2:=Rat.div_mul_cancel (a:=(Y:Rat)) (b:=e*e*e) (by grind);generalize (X:Rat) / (e*e)=x at *;generalize (Y:Rat) / (e*e*e)=y at *;rw [←k1,←k2] at h5;clear k1 k2
 have:(e*e*e*e*e*e)*(y*y)=(e*e*e*e*e*e)*(x*x*x+a*x+b):=by grind
 have IF:e*e*e*e*e*e≠0:=by grind
 grind
theorem rP {a b X Y E:Int} (h:bB a b X Y E=true) (hE:E≠0):wT.px (dZ X Y E)=X∧wT.pz (dZ X Y E)=E*E:=by
 obtain ⟨-,h2,h3,-⟩:=fK h hE;unfold dZ;rw [if_neg hE]
 have hg:Int.gcd X (E*E)=1:=by
  unfold Int.gcd at *;rw [Int.natAbs_mul];exact Nat.Coprime.mul_right h3 h3
 have hp:0<E*E:=Int.mul_pos (by omega) (by omega);exact tL hp hg (Rat.div_mul_cancel (dI (by omega)))
theorem mu (X Y:Int):dZ X Y 0=.O:=rfl
theorem uM {a b:Int} {d x z:Int} (h0:d ∣ 4*aX a b) (hc:Int.gcd x z=1):Wh.zj (aX a b) (d*x) (d*z)=d.natAbs:=by
 unfold Wh.zj;rw [Nat.gcd_assoc]
 have e:Nat.gcd (d*x).natAbs (d*z).natAbs=d.natAbs:=by
  have:=Int.gcd_mul_left d x z;rw [hc,Nat.mul_one] at this;exact this
 rw [e];have:=Int.natAbs_dvd_natAbs.2 h0;rw [Int.natAbs_mul] at this;exact Nat.gcd_eq_right this
theorem Km {a b:Int} {d x z:Int} (h0:d≠0) (h1:d ∣ 4*aX a b) (hc:Int.gcd x z=1) (hz:0<z) :
  Wh.BV (aX a b) (d*x) (d*z)=x∧Wh.BU (aX a b) (d*x) (d*z)=z:=by
 unfold Wh.BV Wh.BU;rw [uM h1 hc]
 rcases Int.lt_or_le d 0 with hs | hs
 ·have hneg:d*z<0:=by
   have:=Int.mul_pos (a:=-d) (b:=z) (by omega) hz;rw [Int.neg_mul] at this;omega
  rw [if_pos hneg,if_pos hneg]
  have e:(d.natAbs:Int)=-d:=by omega
  rw [e]
  have:∀ t:Int,-(d*t / -d)=t:=fun t=>by
   rw [show d*t=-d*-t by grind,Int.mul_ediv_cancel_left _ (by omega)];omega
  exact ⟨this x,this z⟩
 have hpos:¬ d*z<0:=by
  have:=Int.mul_pos (a:=d) (b:=z) (by omega) hz;omega
 rw [if_neg hpos,if_neg hpos]
 have e:(d.natAbs:Int)=d:=by omega
 rw [e];exact ⟨Int.mul_ediv_cancel_left _ h0,Int.mul_ediv_cancel_left _ h0⟩
def kz (P:wT):Out→Prop
 | .val u v=>wT.px P=u∧wT.pz P=v
 | .inf=>P=.O
 | .bad=>True
theorem oO {P:wT} (h:wT.pz P=0):P=.O:=by
 cases P with
 | O=>rfl
 | fin x y=>
 have:=x.den_nz;have h:(x.den:Int)=0:=h;omega
theorem rX {a b:Int} (hd:aX a b≠0) {P:wT} (hP:wT.On a b P) {o:Out} (ho:kz P o):∀ n,kz (wT.xS a n P) (run a b n o)
 | 0=>ho
 | n+1=>by
  have ih:=rX hd hP ho n;have hon:=wT.dP (wT.cg hd) hP n
  show kz (wT.add a (wT.xS a n P) (wT.xS a n P)) (nx a b (run a b n o))
  generalize run a b n o=q at *;generalize wT.xS (a:Rat) n P=Q at *
  cases q with
  | bad=>trivial
  | inf=>
   have ih:Q=.O:=ih;rw [ih];rfl
  | val u v=>
  obtain ⟨rfl,rfl⟩:=(ih:wT.px Q=u∧wT.pz Q=v)
  obtain ⟨d,h1,h2,h3,h4⟩:=wT.lO hd hon;have hc:=wT.cop (wT.add (a:Rat) Q Q);have hn:=wT.rT (wT.add (a:Rat) Q Q);unfold nx
  dsimp only
  rw [h3,h4]
  split
  ·rename_i hz
   rcases Int.mul_eq_zero.1 hz with h | h
   ·exact absurd h h1
   exact oO h
  rename_i hz
  split
  ·have hp:0<wT.pz (wT.add (a:Rat) Q Q):=by
    rcases Int.lt_or_le 0 (wT.pz (wT.add (a:Rat) Q Q)) with h | h
    ·exact h
    exact absurd (show d*wT.pz (wT.add (a:Rat) Q Q)=0 by rw [show wT.pz (wT.add (a:Rat) Q Q)=0 by omega,Int.mul_zero]) hz
   obtain ⟨e1,e2⟩:=Km h1 h2 hc hp;rw [e1,e2];exact ⟨rfl,rfl⟩
  trivial
theorem ue {a b X Y E:Int} (hd:aX a b≠0) (h:bB a b X Y E=true) (n:Nat):kz (wT.xS a n (dZ X Y E)) (aU a b X E n):=by
 unfold aU
 split
 ·rename_i hE
  subst hE;rw [mu,wT.qk];rfl
 rename_i hE
 exact rX hd (fa h) (o:=.val X (E*E)) (rP h hE) n
def yo (s:Nat→Int) (lo hi:Int):Prop:=∃ c:Int,∀ n,lo*4 ^ n - c≤4096*s n∧4096*s n≤hi*4 ^ n+c
theorem fI (n:Nat):(1:Int)≤4 ^ n:=by
 induction n with
 | zero=>decide
 | succ n ih=>rw [Int.pow_succ];omega
theorem vg (n:Nat):(n:Int)≤4 ^ n:=by
 induction n with
 | zero=>decide
 | succ n ih=>rw [Int.pow_succ];have:=fI n;omega
theorem grow {x c:Int} (h:∀ n:Nat,x*4 ^ n≤c):x≤0:=by
 rcases Int.lt_or_le 0 x with hx | hx
 ·exfalso
  have h1:=h (c.toNat+1);have h2:=vg (c.toNat+1);have h3:1*(4:Int) ^ (c.toNat+1)≤x*4 ^ (c.toNat+1):=Int.mul_le_mul_of_nonneg_right (by omega) (by have:=fI (c.toNat+1);omega);omega
 exact hx
theorem yo.meet {s t:Nat→Int} {l h l' h':Int} (k:yo s l h) (k':yo t l' h') (e:wT.Cl s t):l≤h':=by
 obtain ⟨c,k⟩:=k;obtain ⟨d,k'⟩:=k';obtain ⟨f,e⟩:=e
 have:=grow (x:=l - h') (c:=c+d+4096*f) fun n=>by
  have:=k n;have:=k' n;have:=e n;rw [Int.sub_mul];omega
 omega
theorem yo.valid {s:Nat→Int} {l h:Int} (k:yo s l h):l≤h:=k.meet k (wT.Cl.refl s)
theorem yo.common {s:Nat→Int} {l h l' h':Int} (k:yo s l h) (k':yo s l' h'):yo s (max l l') (min h h'):=by
 obtain ⟨c,k⟩:=k;obtain ⟨d,k'⟩:=k';refine ⟨max c d,fun n=>?_⟩;have:=k n;have:=k' n
 rcases Int.le_total l l' with h1 | h1 <;> rcases Int.le_total h h' with h2 | h2
 ·rw [Int.max_eq_right h1,Int.min_eq_left h2];omega
 ·rw [Int.max_eq_right h1,Int.min_eq_right h2];omega
 ·rw [Int.max_eq_left h1,Int.min_eq_left h2];omega
 rw [Int.max_eq_left h1,Int.min_eq_right h2];omega
theorem yo.add {s t:Nat→Int} {l h l' h':Int} (k:yo s l h) (k':yo t l' h'):yo (fun n=>s n+t n) (l+l') (h+h'):=by
 obtain ⟨c,k⟩:=k;obtain ⟨d,k'⟩:=k';exact ⟨c+d,fun n=>by have:=k n;have:=k' n;rw [Int.add_mul,Int.add_mul];show _≤4096*(s n+t n)∧4096*(s n+t n)≤_;omega⟩
theorem yo.sub {s t:Nat→Int} {l h l' h':Int} (k:yo s l h) (k':yo t l' h'):yo (fun n=>s n - t n) (l - h') (h - l'):=by
 obtain ⟨c,k⟩:=k;obtain ⟨d,k'⟩:=k';exact ⟨c+d,fun n=>by have:=k n;have:=k' n;rw [Int.sub_mul,Int.sub_mul];show _≤4096*(s n - t n)∧4096*(s n - t n)≤_;omega⟩
theorem yo.scale {s:Nat→Int} {l h:Int} (m:Nat) (k:yo s l h):yo (fun n=>(m:Int)*s n) (l*m) (h*m):=by
 obtain ⟨c,k⟩:=k;refine ⟨m*c,fun n=>?_⟩;have k:=k n
 have hm:(0:Int)≤m:=by omega
 have k1:=Int.mul_le_mul_of_nonneg_left k.1 hm;have k2:=Int.mul_le_mul_of_nonneg_left k.2 hm
 constructor
 ·calc l*m*4 ^ n - m*c=(m:Int)*(l*4 ^ n - c):=by grind
   _≤(m:Int)*(4096*s n):=k1
   _=4096*((m:Int)*s n):=by grind
 calc 4096*((m:Int)*s n)=(m:Int)*(4096*s n):=by grind
  _≤(m:Int)*(h*4 ^ n+c):=k2
  _=h*m*4 ^ n+m*c:=by grind
end M
namespace M
namespace wT
def Xk (x:Int):Nat→Int
 | 0=>x
 | k+1=>Xk x k*Xk x k*Xk x k*Xk x k
def Yk (x:Int):Nat→Int
 | 0=>1
 | k+1=>4*Yk x k*(Xk x k*Xk x k*Xk x k)
theorem tf (x:Int):∀ k:Nat,x*Yk x k=4 ^ k*Xk x k
 | 0=>by show x*1=4 ^ 0*x;omega
 | k+1=>by
  have ih:=tf x k
  show x*(4*Yk x k*(Xk x k*Xk x k*Xk x k))=4 ^ (k+1)*(Xk x k*Xk x k*Xk x k*Xk x k)
  rw [Int.pow_succ];generalize (4:Int) ^ k=p at *
  grind
theorem qJ {x z:Int} (h:Int.gcd x z=1):∀ k,Int.gcd (Xk x k) z=1
 | 0=>h
 | k+1=>by
  have ih:=qJ h k
  show Int.gcd (Xk x k*Xk x k*Xk x k*Xk x k) z=1
  unfold Int.gcd at *;rw [Int.natAbs_mul,Int.natAbs_mul,Int.natAbs_mul];exact Nat.Coprime.mul_left (Nat.Coprime.mul_left (Nat.Coprime.mul_left ih ih) ih) ih
theorem uw (a b X z s W:Int):∃ s',Wh.ay a b (X+z*z*s) (z*W)=X*X*X*X+z*z*s':=by
 unfold Wh.ay;refine ⟨4*X*X*X*s+6*X*X*z*z*s*s+4*X*z*z*z*z*s*s*s+z*z*z*z*z*z*s*s*s*s - 2*a*(X+z*z*s)*(X+z*z*s)*W*W - 8*b*(X+z*z*s)*z*W*W*W+a*a*z*z*W*W*W*W,?_⟩
 grind
theorem uG (a b X Y z s t:Int):∃ t',Wh.an a b (X+z*z*s) (z*(Y+z*z*t))=z*(4*Y*(X*X*X)+z*z*t'):=by
 obtain ⟨U,hU⟩:∃ U,U=X+z*z*s:=⟨_,rfl⟩
 obtain ⟨W,hW⟩:∃ W,W=Y+z*z*t:=⟨_,rfl⟩
 have hc:∃ c,U*U*U=X*X*X+z*z*c:=⟨3*X*X*s+3*X*z*z*s*s+z*z*z*z*s*s*s,by rw [hU];grind⟩
 obtain ⟨c,hc⟩:=hc;rw [←hU,←hW];refine ⟨4*(t*(U*U*U)+Y*c+W*(a*U*W*W+b*z*W*W*W)),?_⟩
 have e:Wh.an a b U (z*W)=4*z*W*(U*U*U)+4*z*W*(a*U*(z*W)*(z*W)+b*(z*W)*(z*W)*(z*W)):=by unfold Wh.an;grind
 have e2:4*z*W*(U*U*U)=4*z*(Y+z*z*t)*(U*U*U):=by rw [hW]
 have e3:Y*(U*U*U)=Y*(X*X*X)+z*z*(Y*c):=by rw [hc];grind
 clear hU hW hc;generalize U*U*U=u3 at *
 have e4:4*z*(Y+z*z*t)*u3=4*z*(Y*u3)+4*z*(z*z)*t*u3:=by grind
 rw [e,e2,e4,e3];clear e e2 e3 e4
 grind
theorem nZ {a b:Int} (hd:aX a b≠0) {P:wT} (h:On a b P):∀ k,∃ D s t:Int,D≠0∧D*px (xS a k P)=Xk (px P) k+pz P*pz P*s∧D*pz (xS a k P)=pz P*(Yk (px P) k+pz P*pz P*t)
 | 0=>⟨1,0,0,by decide,by show 1*px P=px P+_;grind,by show 1*pz P=pz P*(1+_);grind⟩
 | k+1=>by
  obtain ⟨D,s,t,hD,h1,h2⟩:=nZ hd h k;obtain ⟨d,hd0,-,e1,e2⟩:=lO hd (dP (cg hd) h k)
  show ∃ D s t:Int,D≠0∧D*px (add a (xS a k P) (xS a k P))=Xk (px P) k*Xk (px P) k*Xk (px P) k*Xk (px P) k+_∧D*pz (add a (xS a k P) (xS a k P))=pz P*(4*Yk (px P) k*(Xk (px P) k*Xk (px P) k*Xk (px P) k)+_)
  generalize pz P=z,Yk (px P) k=Y,Xk (px P) k=X,pz (xS a k P)=q,px (xS a k P)=p,pz (add a (xS a k P) (xS a k P))=q',px (add a (xS a k P) (xS a k P))=p' at *;obtain ⟨s',hs⟩:=uw a b X z s (Y+z*z*t);obtain ⟨t',ht⟩:=uG a b X Y z s t;rw [←h1,←h2] at hs ht
  have f1:Wh.ay a b (D*p) (D*q)=D*D*D*D*Wh.ay a b p q:=by unfold Wh.ay;grind
  have f2:Wh.an a b (D*p) (D*q)=D*D*D*D*Wh.an a b p q:=by unfold Wh.an;grind
  rw [f1,e1] at hs;rw [f2,e2] at ht;refine ⟨D*D*D*D*d,s',t',Int.mul_ne_zero (Int.mul_ne_zero (Int.mul_ne_zero (Int.mul_ne_zero hD hD) hD) hD) hd0,?_,?_⟩
  ·exact (Int.mul_assoc _ _ _).trans hs
  exact (Int.mul_assoc _ _ _).trans ht
theorem qP {a b:Int} (hd:aX a b≠0) {P:wT} (h:On a b P) (hz:pz P≠0) {k:Nat} (h1:px (xS a k P)=px P) (h2:pz (xS a k P)=pz P):pz P*pz P ∣ 4 ^ k - 1:=by
 obtain ⟨D,s,t,hD,e1,e2⟩:=nZ hd h k;rw [h1] at e1;rw [h2] at e2;have hc:=qJ (cop P) k;have hxy:=tf (px P) k;generalize pz P=z,px P=x,Yk (px P) k=Y,Xk (px P) k=X at *;generalize (4:Int) ^ k=p at *;have hDY:D=Y+z*z*t:=Int.eq_of_mul_eq_mul_left hz (by rw [←e2];grind)
 have hdv:z*z ∣ X*(p - 1):=⟨s - t*x,by
  have:x*D=4*0+p*X+z*z*t*x:=by rw [hDY,Int.mul_add,hxy];grind
  grind⟩
 have hcc:Int.gcd (z*z) X=1:=by
  rw [Int.gcd_comm];unfold Int.gcd at *;rw [Int.natAbs_mul];exact Nat.Coprime.mul_right hc hc
 have g1:(z*z).natAbs ∣ X.natAbs*(p - 1).natAbs:=by
  rw [←Int.natAbs_mul];exact Int.natAbs_dvd_natAbs.2 hdv
 exact Int.natAbs_dvd_natAbs.1 (Nat.Coprime.dvd_of_dvd_mul_left hcc g1)
theorem qz {a b:Int} (hd:aX a b≠0) {P:wT} (h:On a b P) (hz:pz P≠0) (h1:pz (add a P P)=0∨pz (add a P P)=1):pz P=1:=by
 obtain ⟨d,hd0,-,e1,e2⟩:=lO hd h;have hc:=cop P;have hnn:=rT P
 have fin:pz P ∣ 1→pz P=1:=fun h=>by
  have:=Int.le_of_dvd (by decide) h;omega
 have hcx:∀ n,Int.gcd (px P*n) (pz P)=1→True:=fun _ _=>trivial
 have hx3:pz P ∣ px P*px P*px P→pz P ∣ 1:=fun h=>by
  have g:(pz P).natAbs ∣ (px P).natAbs*(px P).natAbs*(px P).natAbs:=by
   rw [←Int.natAbs_mul,←Int.natAbs_mul];exact Int.natAbs_dvd_natAbs.2 h
  have cc:Nat.Coprime (pz P).natAbs (px P).natAbs:=Nat.Coprime.symm hc;have g2:=Nat.Coprime.dvd_of_dvd_mul_right cc (Nat.Coprime.dvd_of_dvd_mul_right cc g)
  exact Int.natAbs_dvd_natAbs.1 (by
   have:=Nat.dvd_gcd g2 (Nat.dvd_refl _);unfold Int.gcd at hc;rw [hc] at this
   exact this)
 have hx4:pz P ∣ px P*px P*px P*px P→pz P ∣ 1:=fun h=>by
  refine hx3 ?_
  have g:(pz P).natAbs ∣ (px P*px P*px P).natAbs*(px P).natAbs:=by
   rw [←Int.natAbs_mul];exact Int.natAbs_dvd_natAbs.2 h
  have cc:Nat.Coprime (pz P).natAbs (px P).natAbs:=Nat.Coprime.symm hc;exact Int.natAbs_dvd_natAbs.1 (Nat.Coprime.dvd_of_dvd_mul_right cc g)
 refine fin ?_;generalize pz P=z,px P=x at *
 rcases h1 with h1 | h1
 ·rw [h1,Int.mul_zero] at e2
  unfold Wh.an at e2
  rcases Int.mul_eq_zero.1 e2 with h | h
  ·exact absurd (by omega:z=0) hz
  exact hx3 ⟨-(a*x*z+b*z*z),by grind⟩
 rw [h1,Int.mul_one] at e2;refine hx4 ⟨4*(x*x*x+a*x*z*z+b*z*z*z)*px (add a P P)+2*a*x*x*z+8*b*x*z*z - a*a*z*z*z,?_⟩
 have:Wh.ay a b x z=Wh.an a b x z*px (add a P P):=by rw [e1,e2]
 unfold Wh.ay Wh.an at this
 grind
theorem wL {a b x y:Int} (h:y*y=x*x*x+a*x+b) {d m:Int} (e1:Wh.ay a b x 1=d*m) (e2:Wh.an a b x 1=d):y*y ∣ aX a b:=by
 have hg:Wh.an a b x 1=4*(y*y):=by unfold Wh.an;rw [h];grind
 have hf:Wh.ay a b x 1=(3*x*x+a)*(3*x*x+a) - 8*x*(y*y):=by unfold Wh.ay;rw [h];grind
 have hk:(3*x*x+a)*(3*x*x+a)=y*y*(4*m+8*x):=by
  have:(3*x*x+a)*(3*x*x+a)=4*(y*y)*m+8*x*(y*y):=by rw [←hg,e2,←e1,hf];omega
  rw [this];grind
 refine ⟨(3*x*x+4*a)*(4*m+8*x) - 27*(x*x*x+a*x - b),?_⟩
 have hid:aX a b=(3*x*x+4*a)*((3*x*x+a)*(3*x*x+a)) - 27*(x*x*x+a*x - b)*(x*x*x+a*x+b):=by unfold aX;grind
 rw [hid,hk,←h]
 grind
theorem d6 {a b:Rat} (hd:4*a*a*a+27*b*b≠0) {P:wT} (h:On a b P) (m:Nat):∀ n,mul a (m+n) P=add a (mul a m P) (mul a n P)
 | 0=>(gw a _).symm
 | n+1=>by
  show add a (mul a (m+n) P) P=add a (mul a m P) (add a (mul a n P) P)
  rw [d6 hd h m n,cY hd (gf hd h m) (gf hd h n) h]
theorem kI {a b:Rat} (hd:4*a*a*a+27*b*b≠0) {P:wT} (h:On a b P):∀ n,mul a n (add a P P)=mul a (n+n) P
 | 0=>rfl
 | n+1=>by
  show add a (mul a n (add a P P)) (add a P P)=_
  rw [kI hd h n,show n+1+(n+1)=(n+n)+2 from by omega,d6 hd h (n+n) 2];rfl
theorem nc {a b:Rat} (hd:4*a*a*a+27*b*b≠0) {P:wT} (h:On a b P):∀ k,xS a k P=mul a (2 ^ k) P
 | 0=>rfl
 | k+1=>by
  show add a (xS a k P) (xS a k P)=_
  rw [nc hd h k,←d6 hd h,Nat.pow_succ,Nat.mul_two]
theorem uY {a b:Rat} (hd:4*a*a*a+27*b*b≠0) {P Q:wT} (h1:On a b P) (h2:On a b Q) (h:add a P Q=O):P=neg Q:=by
 have h3:=ma hd h2 h1;rw [add_comm hd h2 h1,h,gw] at h3;exact h3.symm
theorem lw {a b:Rat} (hd:4*a*a*a+27*b*b≠0) {P:wT} (h:On a b P) {m:Nat} (hm:mul a m P=O):∀ n,mul a (m*n) P=O
 | 0=>rfl
 | n+1=>by rw [Nat.mul_succ,d6 hd h,lw hd h hm n,hm];rfl
theorem tK {a b:Int} {P:wT} (h:On a b P) (hz:pz P≠0):∃ d:Int,pz P*pz P*pz P=d*d:=by
 cases P with
 | O=>exact absurd rfl hz
 | fin x y=>
 have hx:=kX x;have hy:=kX y;have cx:Int.gcd x.num x.den=1:=x.reduced;have cy:Int.gcd y.num y.den=1:=y.reduced
 have dx:(0:Int)<x.den:=by have:=x.den_pos;omega
 have dy:(0:Int)<y.den:=by have:=y.den_pos;omega
 have hq:(y.num:Rat)*y.num*((x.den:Int):Rat)*((x.den:Int):Rat)*((x.den:Int):Rat)=((x.num:Rat)*x.num*x.num+a*x.num*((x.den:Int):Rat)*((x.den:Int):Rat)+b*((x.den:Int):Rat)*((x.den:Int):Rat)*((x.den:Int):Rat))*((y.den:Int):Rat)*((y.den:Int):Rat):=by
  have ho:y*y=x*x*x+a*x+b:=h;rw [←hx,←hy];generalize ((x.den:Int):Rat)=z at *;generalize ((y.den:Int):Rat)=d at *
  have:y*d*(y*d)*z*z*z=(y*y)*d*d*z*z*z:=by grind
  rw [this,ho]
  grind
 show ∃ d:Int,(x.den:Int)*x.den*x.den=d*d
 refine ⟨y.den,?_⟩
 have hi:y.num*y.num*(x.den:Int)*(x.den:Int)*(x.den:Int)=(x.num*x.num*x.num+a*x.num*(x.den:Int)*(x.den:Int)+b*(x.den:Int)*(x.den:Int)*(x.den:Int))*(y.den:Int)*(y.den:Int):=by exact_mod_cast hq
 clear hq hx hy h;generalize (x.den:Int)=z at *;generalize (y.den:Int)=d at *;generalize y.num=n,x.num=u at *
 have hN:Int.gcd (u*u*u+a*u*z*z+b*z*z*z) z=1:=by
  have e:u*u*u+a*u*z*z+b*z*z*z=u*u*u+(a*u*z+b*z*z)*z:=by grind
  rw [e,Int.gcd_add_mul_right_left];unfold Int.gcd at *;rw [Int.natAbs_mul,Int.natAbs_mul];exact Nat.Coprime.mul_left (Nat.Coprime.mul_left cx cx) cx
 generalize u*u*u+a*u*z*z+b*z*z*z=N at *
 have c1:Nat.Coprime (z*z*z).natAbs N.natAbs:=by
  rw [Int.natAbs_mul,Int.natAbs_mul];have:Nat.Coprime z.natAbs N.natAbs:=Nat.Coprime.symm hN;exact Nat.Coprime.mul_left (Nat.Coprime.mul_left this this) this
 have c2:Nat.Coprime (d*d).natAbs (n*n).natAbs:=by
  rw [Int.natAbs_mul,Int.natAbs_mul];have:Nat.Coprime d.natAbs n.natAbs:=Nat.Coprime.symm cy;exact Nat.Coprime.mul_left (Nat.Coprime.mul_right this this) (Nat.Coprime.mul_right this this)
 have d1:(z*z*z).natAbs ∣ (d*d).natAbs:=by
  refine Nat.Coprime.dvd_of_dvd_mul_left c1 ?_;rw [←Int.natAbs_mul];exact Int.natAbs_dvd_natAbs.2 ⟨n*n,by rw [←Int.mul_assoc,←hi];grind⟩
 have d2:(d*d).natAbs ∣ (z*z*z).natAbs:=by
  refine Nat.Coprime.dvd_of_dvd_mul_left c2 ?_;rw [←Int.natAbs_mul]
  have e1:n*n*(z*z*z)=n*n*z*z*z:=by grind
  exact Int.natAbs_dvd_natAbs.2 ⟨N,by rw [e1,hi];grind⟩
 have e:=Nat.dvd_antisymm d1 d2;have p1:0≤z*z*z:=Int.mul_nonneg (Int.mul_nonneg (by omega) (by omega)) (by omega);have p2:0≤d*d:=Int.mul_nonneg (by omega) (by omega);omega
theorem ri {z N:Int} (hz:0<z) (h:z*z ∣ N) (hN:0<N) (Gp:N≤1023):∃ m:Nat,m<32∧z=m∧m*m ∣ N.toNat:=by
 obtain ⟨m,rfl⟩:=Int.eq_ofNat_of_zero_le (Int.le_of_lt hz);obtain ⟨M,rfl⟩:=Int.eq_ofNat_of_zero_le (Int.le_of_lt hN)
 have hd:m*m ∣ M:=by exact_mod_cast h
 refine ⟨m,?_,rfl,by simpa using hd⟩;have hle:=Nat.le_of_dvd (by omega) hd
 rcases Nat.lt_or_ge m 32 with q | q
 ·exact q
 have:=Nat.mul_le_mul q q;omega
theorem sx {a b:Int} (hd:aX a b≠0) {P:wT} (h:On a b P) (hz:pz P≠0) {k m:Nat} (hk:k=1∨k=2∨k=3∨k=5) (hm:mul a m P=O) (hs:2 ^ k+1=m∨2 ^ k=m+1):pz P=1:=by
 have hdb:xS (a:Rat) k P=P∨xS (a:Rat) k P=neg P:=by
  rw [nc (cg hd) h]
  rcases hs with hs | hs
  ·refine Or.inr (uY (cg hd) (gf (cg hd) h _) h ?_)
   have:=d6 (cg hd) h (2 ^ k) 1;rw [hs,hm] at this;exact this.symm
  refine Or.inl ?_;rw [hs,d6 (cg hd) h m 1,hm];rfl
 have hx:px (xS (a:Rat) k P)=px P∧pz (xS (a:Rat) k P)=pz P:=by
  rcases hdb with e | e <;> rw [e]
  ·exact ⟨rfl,rfl⟩
  exact ⟨ul P,um P⟩
 have hdv:=qP hd h hz hx.1 hx.2;have hnn:=rT P;obtain ⟨d,hcu⟩:=tK h hz
 have h3:pz P≠3:=fun e=>by
  rw [e] at hcu
  have h1:d*d=27:=by omega
  rcases Int.lt_or_le d 6 with q | q
  ·rcases Int.lt_or_le (-6) d with q2 | q2
   ·have:=M.aK (x:=d) (y:=d) (m:=5) (n:=5) (by omega) (by omega) (by omega) (by omega)
    omega
   have:=Int.mul_le_mul (show 6≤-d by omega) (show 6≤-d by omega) (by decide) (by omega);rw [Int.neg_mul_neg] at this;omega
  have:=Int.mul_le_mul q q (by decide) (by omega);omega
 generalize pz P=z at *
 have key:∀ N:Nat,0<N→N≤1023→z*z ∣ (N:Int)→(∀ m:Nat,m<32→m*m ∣ N→m=1∨m=3∨m=0)→z=1:=fun N h1 h2 h4 h5=>by
  obtain ⟨m,hm,rfl,hd⟩:=ri (by omega) h4 (by omega) (by omega)
  rcases h5 m hm (by simpa using hd) with e | e | e <;> omega
 rcases hk with rfl | rfl | rfl | rfl
 ·exact key 3 (by decide) (by decide) hdv (by decide)
 ·exact key 15 (by decide) (by decide) hdv (by decide)
 ·exact key 63 (by decide) (by decide) hdv (by decide)
 exact key 1023 (by decide) (by decide) hdv (by decide)
theorem tm {P:wT} (h:P≠O):pz P≠0:=fun h0=>h (oO h0)
theorem oi {a b:Int} (hd:aX a b≠0):∀ n:Nat,1≤n→n≤12→∀ P:wT,On a b P→mul a n P=O→P=O∨pz P=1:=by
 have half:∀ m:Nat,(∀ P:wT,On a b P→mul a m P=O→P=O∨pz P=1)→∀ P:wT,On a b P→mul a (m+m) P=O→P=O∨pz P=1:=fun m ih P h hm=>by
  by_cases hO:P=O
  ·exact Or.inl hO
  refine Or.inr (qz hd h (tm hO) ?_);rw [←kI (cg hd) h] at hm
  rcases ih _ (dM (cg hd) h h) hm with e | e
  ·rw [e];exact Or.inl rfl
  exact Or.inr e
 have odd:∀ k m:Nat,(k=1∨k=2∨k=3∨k=5)→(2 ^ k+1=m∨2 ^ k=m+1)→∀ P:wT,On a b P→mul a m P=O→P=O∨pz P=1:=fun k m hk hs P h hm=>by
  by_cases hO:P=O
  ·exact Or.inl hO
  exact Or.inr (sx hd h (tm hO) hk hm hs)
 have h1:∀ P:wT,On a b P→mul a 1 P=O→P=O∨pz P=1:=fun P _ h=>Or.inl h
 have h2:=half 1 h1;have h3:=odd 1 3 (by decide) (by decide);have h4:=half 2 h2;have h5:=odd 2 5 (by decide) (by decide);have h6:=half 3 h3;have h7:=odd 3 7 (by decide) (by decide);have h8:=half 4 h4;have h9:=odd 3 9 (by decide) (by decide);have h10:=half 5 h5
 have h11:∀ P:wT,On a b P→mul a 11 P=O→P=O∨pz P=1:=fun P h hm=>odd 5 33 (by decide) (by decide) P h (lw (cg hd) h hm 3)
 have h12:=half 6 h6;intro n hn1 hn2
 match n,hn1,hn2 with
 | 1,_,_=>exact h1
 | 2,_,_=>exact h2
 | 3,_,_=>exact h3
 | 4,_,_=>exact h4
 | 5,_,_=>exact h5
 | 6,_,_=>exact h6
 | 7,_,_=>exact h7
 | 8,_,_=>exact h8
 | 9,_,_=>exact h9
 | 10,_,_=>exact h10
 | 11,_,_=>exact h11
 | 12,_,_=>exact h12
end wT
end M
namespace M
def ES (C:Int) (s:Nat→Int):Prop:=∀ n,1≤s n∧4*s n≤s (n+1)+C+3∧s (n+1)≤4*s n+C
theorem ES.lo {C:Int} {s:Nat→Int} (h:ES C s) (n:Nat):∀ k:Nat,4 ^ k*(3*(s n - 1) - C)≤3*(s (n+k) - 1) - C
 | 0=>by simp
 | k+1=>by
  have ih:=h.lo n k;have:=h (n+k);rw [Int.pow_succ,show n+(k+1)=n+k+1 by omega]
  have e:4 ^ k*4*(3*(s n - 1) - C)=4*(4 ^ k*(3*(s n - 1) - C)):=by grind
  rw [e];generalize 4 ^ k*(3*(s n - 1) - C)=x at *;omega
theorem ES.hi {C:Int} {s:Nat→Int} (h:ES C s) (n:Nat):∀ k:Nat,3*s (n+k)+C≤4 ^ k*(3*s n+C)
 | 0=>by simp
 | k+1=>by
  have ih:=h.hi n k;have:=h (n+k);rw [Int.pow_succ,show n+(k+1)=n+k+1 by omega]
  have e:4 ^ k*4*(3*s n+C)=4*(4 ^ k*(3*s n+C)):=by grind
  rw [e];generalize 4 ^ k*(3*s n+C)=x at *;omega
theorem ES.hld {C:Nat} {s:Nat→Int} (h:ES C s) (n:Nat):yo s (max 0 (3*(s n - 1) - C)*4096 / p4 n) (-(-((3*s n+C)*4096) / p4 n)):=by
 have hT:=fI n
 have H8:(0:Int)<p4 n:=by unfold p4;omega
 have l1:max 0 (3*(s n - 1) - C)*4096 / p4 n*p4 n≤max 0 (3*(s n - 1) - C)*4096:=Int.ediv_mul_le _ (by omega);have l2:-((3*s n+C)*4096) / p4 n*p4 n≤-((3*s n+C)*4096):=Int.ediv_mul_le _ (by omega);have l0:0≤max 0 (3*(s n - 1) - C)*4096 / p4 n:=Int.ediv_nonneg (by omega) (by omega)
 have l3:-((3*s n+C)*4096) / p4 n≤0:=by
  have:=(h n).1;have:=Int.ediv_le_ediv (c:=p4 n) H8 (show -((3*s n+C)*4096)≤0 by omega)
  simpa using this
 generalize hL:max 0 (3*(s n - 1) - C)*4096 / p4 n=L at *;generalize hH:-((3*s n+C)*4096) / p4 n=H at *;clear hL hH;unfold p4 at l1 l2;refine ⟨L*4 ^ n+4096*(3+2*C+3*s n),fun N=>?_⟩;have hs:=(h N).1;have hsn:=(h n).1
 rcases Nat.lt_or_ge N n with hN | hN
 ·obtain ⟨k,rfl⟩:∃ k,n=N+k:=⟨n - N,by omega⟩
  have hk:=fI k;have hP:=fI N;have w:=h.lo N k;have e:(4:Int) ^ (N+k)=4 ^ N*4 ^ k:=Int.pow_add ..
  constructor
  ·have:L*4 ^ N≤L*4 ^ (N+k):=by
    rw [e];refine Int.mul_le_mul_of_nonneg_left ?_ l0;have:(4:Int) ^ N*1≤4 ^ N*4 ^ k:=Int.mul_le_mul_of_nonneg_left hk (by omega);omega
   omega
  have h1:3*(s N - 1) - C≤max 0 (3*(s (N+k) - 1) - C):=by
   rcases Int.lt_or_le 0 (3*(s N - 1) - C) with q | q
   ·have:1*(3*(s N - 1) - C)≤4 ^ k*(3*(s N - 1) - C):=Int.mul_le_mul_of_nonneg_right hk (by omega)
    omega
   omega
  have h2:0≤-H*4 ^ N:=Int.mul_nonneg (by omega) (by omega);have h3:0≤L*4 ^ (N+k):=Int.mul_nonneg l0 (by have:=fI (N+k);omega);omega
 obtain ⟨k,rfl⟩:∃ k,N=n+k:=⟨N - n,by omega⟩
 have hk:=fI k;have w1:=h.lo n k;have w2:=h.hi n k;have e:(4:Int) ^ (n+k)=4 ^ n*4 ^ k:=Int.pow_add ..;have h0:0≤L*4 ^ n:=Int.mul_nonneg l0 (by omega)
 constructor
 ·-- from below
  have h1:3*(L*4 ^ (n+k))≤3*(4096*s (n+k)):=by
   rw [e]
   have e2:3*(L*(4 ^ n*4 ^ k))=4 ^ k*(L*(3*4 ^ n)):=by grind
   rw [e2];refine Int.le_trans (Int.mul_le_mul_of_nonneg_left l1 (by omega)) ?_
   rcases Int.lt_or_le 0 (3*(s n - 1) - C) with q | q
   ·rw [Int.max_eq_right (by omega)]
    have e3:4 ^ k*((3*(s n - 1) - (C:Int))*4096)=4096*(4 ^ k*(3*(s n - 1) - C)):=by grind
    rw [e3];omega
   rw [Int.max_eq_left (by omega)];simp
   omega
  omega
 have h1:3*(4096*s (n+k))≤3*(-H*4 ^ (n+k)):=by
  rw [e]
  have e2:3*(-H*(4 ^ n*4 ^ k))=4 ^ k*(-(H*(3*4 ^ n))):=by grind
  rw [e2]
  have e3:3*(4096*s (n+k))≤4 ^ k*((3*s n+C)*4096):=by
   have e4:4 ^ k*((3*s n+(C:Int))*4096)=4096*(4 ^ k*(3*s n+C)):=by grind
   rw [e4];omega
  exact Int.le_trans e3 (Int.mul_le_mul_of_nonneg_left (by omega) (by omega))
 omega
theorem q9 {a b:Int} (hd:aX a b≠0) {P:wT} (h:wT.On a b P):ES (hC a b) (wT.hs a P):=fun n=>⟨wT.uV a P n,(wT.rA hd h n).1,(wT.rA hd h n).2⟩
theorem sV {a:Int} {P:wT} {n:Nat} {u v:Int} (h:kz (wT.xS a n P) (.val u v)):dU (.val u v)=wT.hs a P n:=by
 obtain ⟨h1,h2⟩:=(h:wT.px _=u∧wT.pz _=v)
 unfold wT.hs wT.hp hb hh;rw [h1,h2,←uF]
 show max ((Wh.bl u.natAbs:Nat):Int) ((Wh.bl v.natAbs:Nat):Int)=_
 omega
theorem ky {s:Nat→Int} (h:∃ c:Int,∀ n,0≤s n∧s n≤c):yo s 0 0:=by
 obtain ⟨c,h⟩:=h;exact ⟨4096*c,fun n=>by have:=h n;omega⟩
theorem lR {a:Rat} {P:wT} {n:Nat} (h:wT.xS a n P=.O):∀ k,wT.xS a (n+k) P=.O
 | 0=>h
 | k+1=>by
  show wT.add a (wT.xS a (n+k) P) (wT.xS a (n+k) P)=.O
  rw [lR h k];rfl
theorem uT {a b:Int} (hd:aX a b≠0) {P:wT} (h:wT.On a b P) {n:Nat} (hO:wT.xS a n P=.O):∃ c:Int,∀ k,0≤wT.hs a P k∧wT.hs a P k≤c:=by
 have W:=q9 hd h
 have e1:wT.hs a P n=1:=by unfold wT.hs;rw [hO];decide
 refine ⟨2+hC a b,fun k=>⟨by have:=(W k).1;omega,?_⟩⟩
 rcases Nat.lt_or_ge k n with hk | hk
 ·obtain ⟨j,rfl⟩:∃ j,n=k+j:=⟨n - k,by omega⟩
  have w:=W.lo k j;rw [e1] at w;have hj:=fI j
  rcases Int.lt_or_le 0 (3*(wT.hs a P k - 1) - hC a b) with q | q
  ·have:1*(3*(wT.hs a P k - 1) - hC a b)≤4 ^ j*(3*(wT.hs a P k - 1) - hC a b):=Int.mul_le_mul_of_nonneg_right hj (by omega)
   omega
  omega
 obtain ⟨j,rfl⟩:∃ j,k=n+j:=⟨k - n,by omega⟩
 have:wT.hs a P (n+j)=1:=by unfold wT.hs;rw [lR hO j];decide
 omega
theorem kN {a b X Y E:Int} (hd:aX a b≠0) (h:bB a b X Y E=true) (n:Nat) (ho:isOk (aU a b X E n)=true):yo (wT.hs a (dZ X Y E)) (hL (hC a b) n (aU a b X E n)) (hH (hC a b) n (aU a b X E n)):=by
 have hon:=fa h;have hi:=ue hd h n
 cases hq:aU a b X E n with
 | bad=>rw [hq] at ho;cases ho
 | inf=>
  rw [hq] at hi;exact ky (uT hd hon hi)
 | val u v=>
 rw [hq] at hi;have:=(q9 hd hon).hld n;rw [←sV hi] at this;exact this
theorem gY {a b X E:Int}:∀ {n k:Nat},k≤n→isOk (aU a b X E n)=true→isOk (aU a b X E k)=true
 | 0,k,hk,h=>by
  obtain rfl:k=0:=by omega
  exact h
 | n+1,k,hk,h=>by
  by_cases e:k=n+1
  ·exact e ▸ h
  refine gY (n:=n) (by omega) ?_;unfold aU at *
  split
  ·rfl
  rename_i hE
  rw [if_neg hE] at h;have h:isOk (nx a b (run a b n (.val X (E*E))))=true:=h
  cases hr:run a b n (.val X (E*E)) with
  | bad=>rw [hr] at h;cases h
  | inf=>rfl
  | val u v=>rfl
theorem ti {a b X Y E:Int} (hd:aX a b≠0) (h:bB a b X Y E=true):∀ n:Nat,isOk (aU a b X E n)=true→yo (wT.hs a (dZ X Y E)) (bL a b X E n) (bH a b X E n)
 | 0,ho=>kN hd h 0 ho
 | n+1,ho=>(ti hd h n (gY (Nat.le_succ n) ho)).common (kN hd h (n+1) ho)
theorem qO {a b X E:Int}:∀ f k:Nat,isOk (aU a b X E k)=true→isOk (aU a b X E (AU a b X E f k))=true
 | 0,k,h=>h
 | f+1,k,h=>by
  unfold AU
  split
  ·rename_i h1
   exact qO f (k+1) h1
  exact h
theorem vK (a b X E:Int):isOk (aU a b X E (bN a b X E))=true:=by
 refine qO 5 0 ?_;unfold aU
 split <;> rfl
theorem il {a b X Y E:Int} (hd:aX a b≠0) (h:bB a b X Y E=true):yo (wT.hs a (dZ X Y E)) (bL a b X E (bN a b X E)) (bH a b X E (bN a b X E)):=ti hd h _ (vK a b X E)
theorem nP {a b X E:Int}:∀ (f k n:Nat),k≤n→n≤k+f→isOk (aU a b X E n)=true→n≤AU a b X E f k
 | 0,k,n,h1,h2,_=>by
  show n≤k
  omega
 | f+1,k,n,h1,h2,h=>by
  unfold AU
  by_cases e:n=k
  ·subst e
   split
   ·refine Nat.le_trans (Nat.le_succ n) ?_
    exact BT f (n+1)
   exact wQ _
  rw [if_pos (gY (n:=n) (by omega) h)];exact nP f (k+1) n (by omega) (by omega) h
where
 BT:∀ (f k:Nat),k≤AU a b X E f k
 | 0,_=>wQ _
 | f+1,k=>by
  unfold AU
  split
  ·exact Nat.le_of_succ_le (BT f (k+1))
  exact wQ _
theorem uD {a b X E:Int} {n:Nat} (hn:n≤5) (h:isOk (aU a b X E n)=true):n≤bN a b X E:=nP 5 0 n (Nat.zero_le _) (by omega) h
end M
end
end Go.Proofs.YtggekfbfechonaaGreat
