/-
  Joined texts: contracts and plain lemmas.
-/
import Derived.Test.YthfjndmdalfloaaGreatV16
set_option linter.unusedSimpArgs false
set_option linter.unusedVariables false
set_option maxRecDepth 100000
set_option maxHeartbeats 8000000
namespace Go.Proofs.YthfjndmdalfloaaGreat
section
open Go.RowKit
theorem jz (a b X Y E:Int) (w:World) (hg:M.good a b=true) (hX1:-10000≤X) (hX2:X≤10000) (hE1:0≤E) (hE2:E≤20) :
  Calls Tryz.prog 104 #[.agg #[.int .i64 a,.int .i64 b],.agg #[.int .i64 X,.int .i64 Y,.int .i64 E]] w fun e w'=>e=.returned (.tuple #[.agg #[.int .i64 (M.pick (M.bOk a b X E) (M.pn (M.bL a b X E (M.bN a b X E)))),.int .i64 (M.pick (M.bOk a b X E) (M.pd (M.bL a b X E (M.bN a b X E)))),.int .i64 (M.pick (M.bOk a b X E) (M.pn (M.bH a b X E (M.bN a b X E)))),.int .i64 (M.pick (M.bOk a b X E) (M.pd (M.bH a b X E (M.bN a b X E))))],.int .i64 (M.pick (M.bOk a b X E) ((M.bN a b X E:Nat):Int)),.bool (M.bOk a b X E)])∧Below w.heap.size w w':=by
 have P0:=fun W=>fF a b X Y E 0 W hg hX1 hX2 hE1 hE2 (by omega)
 rw [M.isOk0,show ((0:Nat):Int)=0 from rfl] at P0
 simp only [M.pick_t] at P0
 have PK:=Lib.hid fun (k:Nat) W (hk:k≤5)=>fF a b X Y E k W hg hX1 hX2 hE1 hE2 hk
 have hL0:=Lib.hid (show M.hL (M.hC a b) 0 (M.outAt a b X E 0)=M.bL a b X E 0 from rfl)
 have hH0:=Lib.hid (show M.hH (M.hC a b) 0 (M.outAt a b X E 0)=M.bH a b X E 0 from rfl)
 have hin:=M.good_in hg
 have hno:=Lib.hid fun k hk hs=>M.b_no (a:=a) (b:=b) (X:=X) (E:=E) (k:=k) hin hX1 hX2 hE1 hE2 hk hs
 have hss:=Lib.hid fun n hn=>M.h_ok (a:=a) (b:=b) (X:=X) (E:=E) (C:=M.hC a b) (n:=n) (M.hC_bd hin) hn hX1 hX2 hE1 hE2
 have hs0:=Lib.hid (show M.spanOk (M.bL a b X E 0) (M.bH a b X E 0)=true from hss.out 0 (by omega))
 clear hg hin
 rw [hL0.out,hH0.out] at P0
 clear hL0 hH0
 have P0:=Lib.hid P0
 have C:=((aG.new w #[.int .i64 a,.int .i64 b] 28).alloc (.cells #[.int .i64 X,.int .i64 Y,.int .i64 E] 54)).alloc (.cells #[.int .i64 0,.int .i64 0,.int .i64 0,.int .i64 0] 38)
 have Q:=(aG.new (w.alloc (.cells #[.int .i64 a,.int .i64 b] 28)) #[.int .i64 X,.int .i64 Y,.int .i64 E] 54).alloc (.cells #[.int .i64 0,.int .i64 0,.int .i64 0,.int .i64 0] 38)
 rw [World.size_alloc] at Q
 have R:=aG.new ((w.alloc (.cells #[.int .i64 a,.int .i64 b] 28)).alloc (.cells #[.int .i64 X,.int .i64 Y,.int .i64 E] 54)) #[.int .i64 0,.int .i64 0,.int .i64 0,.int .i64 0] 38
 rw [World.size_alloc,World.size_alloc] at R
 have B:=(((Below.refl w.heap.size w).alloc (Nat.le_refl _) (.cells #[.int .i64 a,.int .i64 b] 28)).alloc (by rw [World.size_alloc];omega) (.cells #[.int .i64 X,.int .i64 Y,.int .i64 E] 54)).alloc (by rw [World.size_alloc,World.size_alloc];omega) (.cells #[.int .i64 0,.int .i64 0,.int .i64 0,.int .i64 0] 38)
 generalize hw3:((w.alloc (.cells #[.int .i64 a,.int .i64 b] 28)).alloc (.cells #[.int .i64 X,.int .i64 Y,.int .i64 E] 54)).alloc (.cells #[.int .i64 0,.int .i64 0,.int .i64 0,.int .i64 0] 38)=wc at *
 have ⟨q0,q1,q2⟩:=Q.box3
 have C_c0:=C.box.c0
 have C_c1:=C.box.c1
 have R_c0:=R.boxQ.c0
 have R_f0:=R.boxQ.f0
 have R_c1:=R.boxQ.c1
 have R_f1:=R.boxQ.f1
 have R_c2:=R.boxQ.c2
 have R_f2:=R.boxQ.f2
 have R_c3:=R.boxQ.c3
 have R_f3:=R.boxQ.f3
 generalize hu1:M.pn (M.bL a b X E 0)=u1 at *
 generalize hu2:M.pd (M.bL a b X E 0)=u2 at *
 generalize hu3:M.pn (M.bH a b X E 0)=u3 at *
 generalize hu4:M.pd (M.bH a b X E 0)=u4 at *
 replace hu1:=Lib.hid hu1
 replace hu2:=Lib.hid hu2
 replace hu3:=Lib.hid hu3
 replace hu4:=Lib.hid hu4
 go_enter Tryz.func104,Tryz.ntmps104
 go_wp2_with (go_at_call 116;(with_reducible refine (P0.out _).mono ?_);rintro e w4 ⟨rfl,hb4⟩;(replace C:=C.keep hb4);(replace R:=R.keep hb4);(replace B:=B.trans (hb4.mono B.size));(replace Q:=Q.keep hb4);(have hR8:=Lib.hid R.lt);(replace Q:=Q.alloc (.cells #[.int .i64 u1,.int .i64 u2,.int .i64 u3,.int .i64 u4] 38));(have T:=aG.new w4 #[.int .i64 u1,.int .i64 u2,.int .i64 u3,.int .i64 u4] 38);(have b_:=bA w4 (.cells #[.int .i64 u1,.int .i64 u2,.int .i64 u3,.int .i64 u4] 38));(replace C:=C.keep b_);(replace R:=R.keep b_);(replace B:=B.trans (b_.mono B.size));(clear b_);(replace ⟨C_c0,C_c1⟩:=C.b2);(replace ⟨R_c0,R_c1,R_c2,R_c3,R_f0,R_f1,R_f2,R_f3⟩:=R.b4f);(replace ⟨T_c0,T_c1,T_c2,T_c3⟩:=T.b4))
 go_loopw [9] (fun vi wr=>∃ k:Nat,k≤5∧vi=.int .i64 k∧Hid (M.bNf a b X E (5 - k) k=M.bN a b X E)∧Hid (M.spanOk (M.bL a b X E k) (M.bH a b X E k)=true)∧aG wr w4.heap.size 38 #[.int .i64 (M.pn (M.bL a b X E k)),.int .i64 (M.pd (M.bL a b X E k)),.int .i64 (M.pn (M.bH a b X E k)),.int .i64 (M.pd (M.bH a b X E k))]∧aG wr w.heap.size 28 #[.int .i64 a,.int .i64 b]∧aG wr (w.heap.size+1) 54 #[.int .i64 X,.int .i64 Y,.int .i64 E]∧aG wr (w.heap.size+1+1) 38 #[.int .i64 0,.int .i64 0,.int .i64 0,.int .i64 0]∧Below w.heap.size w wr) (fun vi _=>5 - (intOf vi).toNat)
 case atStart=>exact ⟨0,by omega,rfl,Lib.hid rfl,hs0,by rw [hu1.out,hu2.out,hu3.out,hu4.out];exact T,C,Q,R,B⟩
 case round=>
  clear C Q R B T P0 C_c0 C_c1 R_c0 R_c1 R_c2 R_c3 R_f0 R_f1 R_f2 R_f3 T_c0 T_c1 T_c2 T_c3 q0 q1 q2 hu1 hu2 hu3 hu4 hs0
  have hR9:=hR8.out
  obtain ⟨k,hk,rfl,hN,hsk,T,C,Q,R,B⟩:=hrel
  have eL:M.bL a b X E (k+1)=max (M.bL a b X E k) (M.hL (M.hC a b) (k+1) (M.outAt a b X E (k+1))):=rfl
  have eH:M.bH a b X E (k+1)=min (M.bH a b X E k) (M.hH (M.hC a b) (k+1) (M.outAt a b X E (k+1))):=rfl
  have eL:=Lib.hid eL
  have eH:=Lib.hid eH
  generalize hbk:M.bL a b X E k=bl at *
  generalize hbh:M.bH a b X E k=bh at *
  replace hbk:=Lib.hid hbk
  replace hbh:=Lib.hid hbh
  have C_c0:=C.box.c0
  have C_c1:=C.box.c1
  have ⟨q0,q1,q2⟩:=Q.box3
  have T_c0:=T.boxQ.c0
  have T_c1:=T.boxQ.c1
  have T_c2:=T.boxQ.c2
  have T_c3:=T.boxQ.c3
  have T_f0:=T.boxQ.f0
  have T_f1:=T.boxQ.f1
  have T_f2:=T.boxQ.f2
  have T_f3:=T.boxQ.f3
  have R_c0:=R.boxQ.c0
  have R_c1:=R.boxQ.c1
  have R_c2:=R.boxQ.c2
  have R_c3:=R.boxQ.c3
  have R_f0:=R.boxQ.f0
  have R_f1:=R.boxQ.f1
  have R_f2:=R.boxQ.f2
  have R_f3:=R.boxQ.f3
  by_cases hlt:k<5
  ·have P1:=fun W=>PK.out (k+1) W (by omega)
   have hNs:M.bNf a b X E (5 - k) k=if M.isOk (M.outAt a b X E (k+1))=true then M.bNf a b X E (5 - (k+1)) (k+1) else k:=by
    rw [show 5 - k=(5 - (k+1))+1 by omega];rfl
   have hsn:=hss.out (k+1) (by omega)
   generalize M.hL (M.hC a b) (k+1) (M.outAt a b X E (k+1))=hl at *
   generalize M.hH (M.hC a b) (k+1) (M.outAt a b X E (k+1))=hh at *
   have hk1:=Lib.hid (show ((k+1:Nat):Int)=(k:Int)+1 by omega)
   rw [hk1.out] at P1
   cases hok:M.isOk (M.outAt a b X E (k+1)) with
   | false=>
    rw [hok,if_neg (by decide)] at hNs
    have hNk:=Lib.hid (show M.bN a b X E=k by rw [←hN.out,hNs])
    rw [hok] at P1
    simp only [M.pick_f] at P1
    have hOk:=Lib.hid (show M.bOk a b X E=true by unfold M.bOk;rw [hNk.out,hbk.out,hbh.out];exact hsk.out)
    clear hNs hok hN eL eH hsn
    have P1:=Lib.hid P1
    generalize t1h:M.pn (bl)=t1 at *
    replace t1h:=Lib.hid t1h
    generalize t2h:M.pd (bl)=t2 at *
    replace t2h:=Lib.hid t2h
    generalize t3h:M.pn (bh)=t3 at *
    replace t3h:=Lib.hid t3h
    generalize t4h:M.pd (bh)=t4 at *
    replace t4h:=Lib.hid t4h
    go_wp2_with (go_at_call 116;(with_reducible refine (P1.out _).mono ?_);rintro e w5 ⟨rfl,hb5⟩;(replace C:=C.keep hb5);(replace R:=R.keep hb5);(replace T:=T.keep hb5);(replace B:=B.trans (hb5.mono B.size));(replace Q:=Q.keep hb5);(replace Q:=Q.alloc (.cells #[.int .i64 0,.int .i64 0,.int .i64 0,.int .i64 0] 38));(have S:=aG.new w5 #[.int .i64 0,.int .i64 0,.int .i64 0,.int .i64 0] 38);(have b_:=bA w5 (.cells #[.int .i64 0,.int .i64 0,.int .i64 0,.int .i64 0] 38));(replace C:=C.keep b_);(replace R:=R.keep b_);(replace T:=T.keep b_);(replace B:=B.trans (b_.mono B.size));(clear b_);(replace ⟨C_c0,C_c1⟩:=C.b2);(replace ⟨R_c0,R_c1,R_c2,R_c3,R_f0,R_f1,R_f2,R_f3⟩:=R.b4f);(replace ⟨T_c0,T_c1,T_c2,T_c3⟩:=T.b4);(replace ⟨S_c0,S_c1,S_c2,S_c3⟩:=S.b4))
    exact bodyPost_ret (v:=.tuple #[.agg #[.int .i64 t1,.int .i64 t2,.int .i64 t3,.int .i64 t4],.int .i64 (k:Int),.bool true]) (by simp [results,Tryz.results104,go_sem, *]) rfl (⟨by rw [hNk.out,hOk.out,hbk.out,hbh.out,t1h.out,t2h.out,t3h.out,t4h.out];simp only [M.pick_t],Below.setCell (Below.setCell (Below.setCell (Below.setCell B (by simp <;> omega) _) (by simp <;> omega) _) (by simp <;> omega) _) (by simp <;> omega) _⟩)
   | true=>
    rw [hok,if_pos rfl] at hNs
    have hN2:=Lib.hid (hNs.symm.trans hN.out)
    rw [hok] at P1
    simp only [M.pick_t] at P1
    have PC:=fun W=>f8 bl bh hl hh W hsk.out hsn
    clear hNs hok hN
    have P1:=Lib.hid P1
    have hse:=Lib.hid (show M.spanOk (M.bL a b X E (k+1)) (M.bH a b X E (k+1))=M.spanOk (max bl hl) (min bh hh) by rw [eL.out,eH.out])
    cases hs:M.spanOk (max bl hl) (min bh hh) with
    | false=>
     have hOk:=Lib.hid (show M.bOk a b X E=false from hno.out (k+1) (by have:=M.bNf_ge (a:=a) (b:=b) (X:=X) (E:=E) (5 - (k+1)) (k+1);rw [hN2.out] at this;exact this) (by rw [hse.out];exact hs))
     rw [hs] at PC
     simp only [M.pick_f] at PC
     clear hs hse
     have PC:=Lib.hid PC
     generalize t1h:M.pn (bl)=t1 at *
     replace t1h:=Lib.hid t1h
     generalize t2h:M.pd (bl)=t2 at *
     replace t2h:=Lib.hid t2h
     generalize t3h:M.pn (bh)=t3 at *
     replace t3h:=Lib.hid t3h
     generalize t4h:M.pd (bh)=t4 at *
     replace t4h:=Lib.hid t4h
     generalize y1h:M.pn (hl)=y1 at *
     replace y1h:=Lib.hid y1h
     generalize y2h:M.pd (hl)=y2 at *
     replace y2h:=Lib.hid y2h
     generalize y3h:M.pn (hh)=y3 at *
     replace y3h:=Lib.hid y3h
     generalize y4h:M.pd (hh)=y4 at *
     replace y4h:=Lib.hid y4h
     go_wp2_with (first
      | (go_at_call 116;(with_reducible refine (P1.out _).mono ?_);rintro e w5 ⟨rfl,hb5⟩;(replace C:=C.keep hb5);(replace R:=R.keep hb5);(replace T:=T.keep hb5);(replace B:=B.trans (hb5.mono B.size));(replace Q:=Q.keep hb5);(replace Q:=Q.alloc (.cells #[.int .i64 y1,.int .i64 y2,.int .i64 y3,.int .i64 y4] 38));(have S:=aG.new w5 #[.int .i64 y1,.int .i64 y2,.int .i64 y3,.int .i64 y4] 38);(have b_:=bA w5 (.cells #[.int .i64 y1,.int .i64 y2,.int .i64 y3,.int .i64 y4] 38));(replace C:=C.keep b_);(replace R:=R.keep b_);(replace T:=T.keep b_);(replace B:=B.trans (b_.mono B.size));(clear b_);(replace ⟨C_c0,C_c1⟩:=C.b2);(replace ⟨R_c0,R_c1,R_c2,R_c3,R_f0,R_f1,R_f2,R_f3⟩:=R.b4f);(replace ⟨T_c0,T_c1,T_c2,T_c3,T_f0,T_f1,T_f2,T_f3⟩:=T.b4f);(replace ⟨S_c0,S_c1,S_c2,S_c3⟩:=S.b4))
      | (go_at_call 117;(with_reducible refine (PC.out _).mono ?_);rintro e w6 ⟨rfl,hb6⟩;(replace C:=C.keep hb6);(replace R:=R.keep hb6);(replace T:=T.keep hb6);(replace S:=S.keep hb6);(replace B:=B.trans (hb6.mono B.size));(replace Q:=Q.keep hb6);(replace Q:=Q.alloc (.cells #[.int .i64 0,.int .i64 0,.int .i64 0,.int .i64 0] 38));(have O:=aG.new w6 #[.int .i64 0,.int .i64 0,.int .i64 0,.int .i64 0] 38);(have b_:=bA w6 (.cells #[.int .i64 0,.int .i64 0,.int .i64 0,.int .i64 0] 38));(replace C:=C.keep b_);(replace R:=R.keep b_);(replace T:=T.keep b_);(replace S:=S.keep b_);(replace B:=B.trans (b_.mono B.size));(clear b_);(replace ⟨C_c0,C_c1⟩:=C.b2);(replace ⟨R_c0,R_c1,R_c2,R_c3,R_f0,R_f1,R_f2,R_f3⟩:=R.b4f);(replace ⟨T_c0,T_c1,T_c2,T_c3,T_f0,T_f1,T_f2,T_f3⟩:=T.b4f);(replace ⟨S_c0,S_c1,S_c2,S_c3⟩:=S.b4);(replace ⟨O_c0,O_c1,O_c2,O_c3⟩:=O.b4)))
     exact bodyPost_ret (v:=.tuple #[.agg #[.int .i64 0,.int .i64 0,.int .i64 0,.int .i64 0],.int .i64 0,.bool false]) (by simp [results,Tryz.results104,go_sem, *]) rfl (⟨by rw [hOk.out];simp only [M.pick_f],Below.setCell (Below.setCell (Below.setCell (Below.setCell B (by simp <;> omega) _) (by simp <;> omega) _) (by simp <;> omega) _) (by simp <;> omega) _⟩)
    | true=>
     have hs2:=Lib.hid (hse.out.trans hs)
     rw [hs] at PC
     simp only [M.pick_t] at PC
     clear hs hse
     have PC:=Lib.hid PC
     generalize t1h:M.pn (bl)=t1 at *
     replace t1h:=Lib.hid t1h
     generalize t2h:M.pd (bl)=t2 at *
     replace t2h:=Lib.hid t2h
     generalize t3h:M.pn (bh)=t3 at *
     replace t3h:=Lib.hid t3h
     generalize t4h:M.pd (bh)=t4 at *
     replace t4h:=Lib.hid t4h
     generalize y1h:M.pn (hl)=y1 at *
     replace y1h:=Lib.hid y1h
     generalize y2h:M.pd (hl)=y2 at *
     replace y2h:=Lib.hid y2h
     generalize y3h:M.pn (hh)=y3 at *
     replace y3h:=Lib.hid y3h
     generalize y4h:M.pd (hh)=y4 at *
     replace y4h:=Lib.hid y4h
     generalize z1h:M.pn (max bl hl)=z1 at *
     replace z1h:=Lib.hid z1h
     generalize z2h:M.pd (max bl hl)=z2 at *
     replace z2h:=Lib.hid z2h
     generalize z3h:M.pn (min bh hh)=z3 at *
     replace z3h:=Lib.hid z3h
     generalize z4h:M.pd (min bh hh)=z4 at *
     replace z4h:=Lib.hid z4h
     go_wp2_with (first
      | (go_at_call 116;(with_reducible refine (P1.out _).mono ?_);rintro e w5 ⟨rfl,hb5⟩;(replace C:=C.keep hb5);(replace R:=R.keep hb5);(replace T:=T.keep hb5);(replace B:=B.trans (hb5.mono B.size));(replace Q:=Q.keep hb5);(replace Q:=Q.alloc (.cells #[.int .i64 y1,.int .i64 y2,.int .i64 y3,.int .i64 y4] 38));(have S:=aG.new w5 #[.int .i64 y1,.int .i64 y2,.int .i64 y3,.int .i64 y4] 38);(have b_:=bA w5 (.cells #[.int .i64 y1,.int .i64 y2,.int .i64 y3,.int .i64 y4] 38));(replace C:=C.keep b_);(replace R:=R.keep b_);(replace T:=T.keep b_);(replace B:=B.trans (b_.mono B.size));(clear b_);(replace ⟨C_c0,C_c1⟩:=C.b2);(replace ⟨R_c0,R_c1,R_c2,R_c3,R_f0,R_f1,R_f2,R_f3⟩:=R.b4f);(replace ⟨T_c0,T_c1,T_c2,T_c3,T_f0,T_f1,T_f2,T_f3⟩:=T.b4f);(replace ⟨S_c0,S_c1,S_c2,S_c3⟩:=S.b4))
      | (go_at_call 117;(with_reducible refine (PC.out _).mono ?_);rintro e w6 ⟨rfl,hb6⟩;(replace C:=C.keep hb6);(replace R:=R.keep hb6);(replace T:=T.keep hb6);(replace S:=S.keep hb6);(replace B:=B.trans (hb6.mono B.size));(replace Q:=Q.keep hb6);(replace Q:=Q.alloc (.cells #[.int .i64 z1,.int .i64 z2,.int .i64 z3,.int .i64 z4] 38));(have O:=aG.new w6 #[.int .i64 z1,.int .i64 z2,.int .i64 z3,.int .i64 z4] 38);(have b_:=bA w6 (.cells #[.int .i64 z1,.int .i64 z2,.int .i64 z3,.int .i64 z4] 38));(replace C:=C.keep b_);(replace R:=R.keep b_);(replace T:=T.keep b_);(replace S:=S.keep b_);(replace B:=B.trans (b_.mono B.size));(clear b_);(replace ⟨C_c0,C_c1⟩:=C.b2);(replace ⟨R_c0,R_c1,R_c2,R_c3,R_f0,R_f1,R_f2,R_f3⟩:=R.b4f);(replace ⟨T_c0,T_c1,T_c2,T_c3,T_f0,T_f1,T_f2,T_f3⟩:=T.b4f);(replace ⟨S_c0,S_c1,S_c2,S_c3⟩:=S.b4);(replace ⟨O_c0,O_c1,O_c2,O_c3⟩:=O.b4)))
     go_roundw
     case rel=>exact ⟨k+1,by omega,by go_num,hN2,hs2,by rw [eL.out,eH.out,z1h.out,z2h.out,z3h.out,z4h.out];exact aG.set4 T _ _ _ _,(((C.other (show w.heap.size≠w4.heap.size by omega) _).other (show w.heap.size≠w4.heap.size by omega) _).other (show w.heap.size≠w4.heap.size by omega) _).other (show w.heap.size≠w4.heap.size by omega) _,(((Q.other (show w.heap.size+1≠w4.heap.size by omega) _).other (show w.heap.size+1≠w4.heap.size by omega) _).other (show w.heap.size+1≠w4.heap.size by omega) _).other (show w.heap.size+1≠w4.heap.size by omega) _,(((R.other (show w.heap.size+1+1≠w4.heap.size by omega) _).other (show w.heap.size+1+1≠w4.heap.size by omega) _).other (show w.heap.size+1+1≠w4.heap.size by omega) _).other (show w.heap.size+1+1≠w4.heap.size by omega) _,Below.setCell (Below.setCell (Below.setCell (Below.setCell B (by simp <;> omega) _) (by simp <;> omega) _) (by simp <;> omega) _) (by simp <;> omega) _⟩
     case measure=>simp [intOf] <;> omega
  ·obtain rfl:k=5:=by omega
   have hNk:=Lib.hid (show M.bN a b X E=5 by rw [←hN.out];rfl)
   have hOk:=Lib.hid (show M.bOk a b X E=true by unfold M.bOk;rw [hNk.out,hbk.out,hbh.out];exact hsk.out)
   clear hN PK eL eH
   obtain ⟨k,hk5⟩:∃ k:Nat,k=5:=⟨5,rfl⟩
   rw [←hk5] at hNk hbk hbh
   have hk6:=Lib.hid (show (k:Int)=5 by omega)
   clear hk5
   generalize t1h:M.pn (bl)=t1 at *
   replace t1h:=Lib.hid t1h
   generalize t2h:M.pd (bl)=t2 at *
   replace t2h:=Lib.hid t2h
   generalize t3h:M.pn (bh)=t3 at *
   replace t3h:=Lib.hid t3h
   generalize t4h:M.pd (bh)=t4 at *
   replace t4h:=Lib.hid t4h
   go_wp2
   exact bodyPost_ret (v:=.tuple #[.agg #[.int .i64 t1,.int .i64 t2,.int .i64 t3,.int .i64 t4],.int .i64 5,.bool true]) (by simp [results,Tryz.results104,go_sem, *]) rfl (⟨by rw [hNk.out,hOk.out,hk6.out,hbk.out,hbh.out,t1h.out,t2h.out,t3h.out,t4h.out];simp only [M.pick_t],Below.setCell (Below.setCell (Below.setCell (Below.setCell B (by simp <;> omega) _) (by simp <;> omega) _) (by simp <;> omega) _) (by simp <;> omega) _⟩)
theorem iP (a b X Y E:Int) (w:World) (hg:M.good a b=true) (hX1:-10000≤X) (hX2:X≤10000) (hE1:0≤E) (hE2:E≤20) :
  Calls Tryz.prog 86 #[.agg #[.int .i64 a,.int .i64 b],.agg #[.int .i64 X,.int .i64 Y,.int .i64 E]] w fun e w'=>e=.returned (.tuple #[.agg #[.int .i64 (M.pick (M.bOk a b X E) (M.pn (M.bL a b X E (M.bN a b X E)))),.int .i64 (M.pick (M.bOk a b X E) (M.pd (M.bL a b X E (M.bN a b X E)))),.int .i64 (M.pick (M.bOk a b X E) (M.pn (M.bH a b X E (M.bN a b X E)))),.int .i64 (M.pick (M.bOk a b X E) (M.pd (M.bH a b X E (M.bN a b X E))))],.bool (M.bOk a b X E)])∧Below w.heap.size w w':=by
 have P1:=fun W=>jz a b X Y E W hg hX1 hX2 hE1 hE2
 generalize M.pick (M.bOk a b X E) (M.pn (M.bL a b X E (M.bN a b X E)))=p1 at *
 generalize M.pick (M.bOk a b X E) (M.pd (M.bL a b X E (M.bN a b X E)))=p2 at *
 generalize M.pick (M.bOk a b X E) (M.pn (M.bH a b X E (M.bN a b X E)))=p3 at *
 generalize M.pick (M.bOk a b X E) (M.pd (M.bH a b X E (M.bN a b X E)))=p4 at *
 generalize M.pick (M.bOk a b X E) ((M.bN a b X E:Nat):Int)=nn at *
 generalize M.bOk a b X E=s at *
 have P1:=Lib.hid P1
 have C:=((aG.new w #[.int .i64 a,.int .i64 b] 28).alloc (.cells #[.int .i64 X,.int .i64 Y,.int .i64 E] 54)).alloc (.cells #[.int .i64 0,.int .i64 0,.int .i64 0,.int .i64 0] 38)
 have Q:=(aG.new (w.alloc (.cells #[.int .i64 a,.int .i64 b] 28)) #[.int .i64 X,.int .i64 Y,.int .i64 E] 54).alloc (.cells #[.int .i64 0,.int .i64 0,.int .i64 0,.int .i64 0] 38)
 rw [World.size_alloc] at Q
 have R:=aG.new ((w.alloc (.cells #[.int .i64 a,.int .i64 b] 28)).alloc (.cells #[.int .i64 X,.int .i64 Y,.int .i64 E] 54)) #[.int .i64 0,.int .i64 0,.int .i64 0,.int .i64 0] 38
 rw [World.size_alloc,World.size_alloc] at R
 have B:=(((Below.refl w.heap.size w).alloc (Nat.le_refl _) (.cells #[.int .i64 a,.int .i64 b] 28)).alloc (by rw [World.size_alloc];omega) (.cells #[.int .i64 X,.int .i64 Y,.int .i64 E] 54)).alloc (by rw [World.size_alloc,World.size_alloc];omega) (.cells #[.int .i64 0,.int .i64 0,.int .i64 0,.int .i64 0] 38)
 generalize hw3:((w.alloc (.cells #[.int .i64 a,.int .i64 b] 28)).alloc (.cells #[.int .i64 X,.int .i64 Y,.int .i64 E] 54)).alloc (.cells #[.int .i64 0,.int .i64 0,.int .i64 0,.int .i64 0] 38)=wc at *
 have ⟨q0,q1,q2⟩:=Q.box3
 have C_c0:=C.box.c0
 have C_c1:=C.box.c1
 go_enter Tryz.func86,Tryz.ntmps86
 go_wp2_with (go_at_call 104;(with_reducible refine (P1.out _).mono ?_);rintro e w4 ⟨rfl,hb4⟩;(replace C:=C.keep hb4);(replace R:=R.keep hb4);(replace B:=B.trans (hb4.mono B.size));(have T:=aG.new w4 #[.int .i64 p1,.int .i64 p2,.int .i64 p3,.int .i64 p4] 38);(have b_:=bA w4 (.cells #[.int .i64 p1,.int .i64 p2,.int .i64 p3,.int .i64 p4] 38));(replace C:=C.keep b_);(replace R:=R.keep b_);(replace B:=B.trans (b_.mono B.size));(clear b_);(replace ⟨C_c0,C_c1⟩:=C.b2);(replace ⟨R_c0,R_c1,R_c2,R_c3,R_f0,R_f1,R_f2,R_f3⟩:=R.b4f);(replace ⟨T_c0,T_c1,T_c2,T_c3⟩:=T.b4))
 exact bodyPost_ret (v:=.tuple #[.agg #[.int .i64 p1,.int .i64 p2,.int .i64 p3,.int .i64 p4],.bool s]) (by simp [results,Tryz.results86,go_sem, *]) rfl (⟨rfl,Below.setCell (Below.setCell (Below.setCell (Below.setCell B (by simp <;> omega) _) (by simp <;> omega) _) (by simp <;> omega) _) (by simp <;> omega) _⟩)
namespace M
def cv (a b x e:Int):Int:=x*x*x+a*x*e*e*e*e+b*e*e*e*e*e*e
def ptOk (a b X Y E:Int):Bool:=if E=0 then decide (X=0) && decide (Y=0) else M.ins X (-10000) 10000 && M.ins E 1 20 && (M.gcd X E == 1) && decide (Y*Y=cv a b X E)
theorem cv_ref (a b x e:Int):x*x*x+a*x*(e*e)*(e*e)+b*(e*e)*(e*e)*(e*e)=cv a b x e:=by unfold cv;grind
end M
theorem dg (a b x e:Int) (w:World) (ha1:-1000≤a) (ha2:a≤1000) (hb1:-10000≤b) (hb2:b≤10000) (hx1:-10000≤x) (hx2:x≤10000) (he1:-20≤e) (he2:e≤20) :
  Calls Tryz.prog 82 #[.agg #[.int .i64 a,.int .i64 b],.int .i64 x,.int .i64 e] w fun e' w'=>e'=.returned (.int .i64 (M.cv a b x e))∧Below w.heap.size w w':=by
 have sb1:=M.mul_bd (x:=x) (y:=x) (m:=10000) (n:=10000) (by omega) (by omega) (by omega) (by omega)
 have sb2:=M.mul_bd (x:=x*x) (y:=x) (m:=100000000) (n:=10000) (by omega) (by omega) (by omega) (by omega)
 have sb3:=M.mul_bd (x:=a) (y:=x) (m:=1000) (n:=10000) (by omega) (by omega) (by omega) (by omega)
 have sb4:=M.mul_bd (x:=a*x) (y:=e) (m:=10000000) (n:=20) (by omega) (by omega) (by omega) (by omega)
 have sb5:=M.mul_bd (x:=a*x*e) (y:=e) (m:=200000000) (n:=20) (by omega) (by omega) (by omega) (by omega)
 have sb6:=M.mul_bd (x:=a*x*e*e) (y:=e) (m:=4000000000) (n:=20) (by omega) (by omega) (by omega) (by omega)
 have sb7:=M.mul_bd (x:=a*x*e*e*e) (y:=e) (m:=80000000000) (n:=20) (by omega) (by omega) (by omega) (by omega)
 have sb8:=M.mul_bd (x:=b) (y:=e) (m:=10000) (n:=20) (by omega) (by omega) (by omega) (by omega)
 have sb9:=M.mul_bd (x:=b*e) (y:=e) (m:=200000) (n:=20) (by omega) (by omega) (by omega) (by omega)
 have sb10:=M.mul_bd (x:=b*e*e) (y:=e) (m:=4000000) (n:=20) (by omega) (by omega) (by omega) (by omega)
 have sb11:=M.mul_bd (x:=b*e*e*e) (y:=e) (m:=80000000) (n:=20) (by omega) (by omega) (by omega) (by omega)
 have sb12:=M.mul_bd (x:=b*e*e*e*e) (y:=e) (m:=1600000000) (n:=20) (by omega) (by omega) (by omega) (by omega)
 have sb13:=M.mul_bd (x:=b*e*e*e*e*e) (y:=e) (m:=32000000000) (n:=20) (by omega) (by omega) (by omega) (by omega)
 have hcv:=Lib.hid (M.cv_ref a b x e)
 go_enter Tryz.func82,Tryz.ntmps82
 go_wp2
 go_ret
 exact ⟨by rfl,(by repeat (first | exact Below.refl _ _ | refine aL ?_ _ | refine aM ?_ (by assumption) | refine Below.drew ?_ | refine Below.setCell ?_ (by first | exact Nat.le_refl _ | exact Nat.le_add_right _ _ | (simp <;> omega)) _ | refine aJ ?_ _))⟩
theorem jg (a b x e:Int) (w:World) (ha1:-1000≤a) (ha2:a≤1000) (hb1:-10000≤b) (hb2:b≤10000) (hx1:-10000≤x) (hx2:x≤10000) (he1:-20≤e) (he2:e≤20) :
  Calls Tryz.prog 98 #[.agg #[.int .i64 a,.int .i64 b],.int .i64 x,.int .i64 e] w fun e' w'=>e'=.returned (.int .i64 (M.cv a b x e))∧Below w.heap.size w w':=by
 have sb14:=M.mul_bd (x:=x) (y:=x) (m:=10000) (n:=10000) (by omega) (by omega) (by omega) (by omega)
 have sb15:=M.mul_bd (x:=x*x) (y:=x) (m:=100000000) (n:=10000) (by omega) (by omega) (by omega) (by omega)
 have sb16:=M.mul_bd (x:=a) (y:=x) (m:=1000) (n:=10000) (by omega) (by omega) (by omega) (by omega)
 have sb17:=M.mul_bd (x:=e) (y:=e) (m:=20) (n:=20) (by omega) (by omega) (by omega) (by omega)
 have sb18:=M.mul_bd (x:=a*x) (y:=e*e) (m:=10000000) (n:=400) (by omega) (by omega) (by omega) (by omega)
 have sb19:=M.mul_bd (x:=a*x*(e*e)) (y:=e*e) (m:=4000000000) (n:=400) (by omega) (by omega) (by omega) (by omega)
 have sb20:=M.mul_bd (x:=b) (y:=e*e) (m:=10000) (n:=400) (by omega) (by omega) (by omega) (by omega)
 have sb21:=M.mul_bd (x:=b*(e*e)) (y:=e*e) (m:=4000000) (n:=400) (by omega) (by omega) (by omega) (by omega)
 have sb22:=M.mul_bd (x:=b*(e*e)*(e*e)) (y:=e*e) (m:=1600000000) (n:=400) (by omega) (by omega) (by omega) (by omega)
 have hcv:=Lib.hid (M.cv_ref a b x e)
 go_enter Tryz.func98,Tryz.ntmps98
 go_wp2
 go_ret
 exact ⟨by rw [←hcv.out];rfl,(by repeat (first | exact Below.refl _ _ | refine aL ?_ _ | refine aM ?_ (by assumption) | refine Below.drew ?_ | refine Below.setCell ?_ (by first | exact Nat.le_refl _ | exact Nat.le_add_right _ _ | (simp <;> omega)) _ | refine aJ ?_ _))⟩
theorem M.cv_bd {a b x e:Int} (ha1:-1000≤a) (ha2:a≤1000) (hb1:-10000≤b) (hb2:b≤10000) (hx1:-10000≤x) (hx2:x≤10000) (he1:-20≤e) (he2:e≤20):-4000000000000≤M.cv a b x e∧M.cv a b x e≤4000000000000:=by
 have sb23:=M.mul_bd (x:=x) (y:=x) (m:=10000) (n:=10000) (by omega) (by omega) (by omega) (by omega)
 have sb24:=M.mul_bd (x:=x*x) (y:=x) (m:=100000000) (n:=10000) (by omega) (by omega) (by omega) (by omega)
 have sb25:=M.mul_bd (x:=a) (y:=x) (m:=1000) (n:=10000) (by omega) (by omega) (by omega) (by omega)
 have sb26:=M.mul_bd (x:=a*x) (y:=e) (m:=10000000) (n:=20) (by omega) (by omega) (by omega) (by omega)
 have sb27:=M.mul_bd (x:=a*x*e) (y:=e) (m:=200000000) (n:=20) (by omega) (by omega) (by omega) (by omega)
 have sb28:=M.mul_bd (x:=a*x*e*e) (y:=e) (m:=4000000000) (n:=20) (by omega) (by omega) (by omega) (by omega)
 have sb29:=M.mul_bd (x:=a*x*e*e*e) (y:=e) (m:=80000000000) (n:=20) (by omega) (by omega) (by omega) (by omega)
 have sb30:=M.mul_bd (x:=b) (y:=e) (m:=10000) (n:=20) (by omega) (by omega) (by omega) (by omega)
 have sb31:=M.mul_bd (x:=b*e) (y:=e) (m:=200000) (n:=20) (by omega) (by omega) (by omega) (by omega)
 have sb32:=M.mul_bd (x:=b*e*e) (y:=e) (m:=4000000) (n:=20) (by omega) (by omega) (by omega) (by omega)
 have sb33:=M.mul_bd (x:=b*e*e*e) (y:=e) (m:=80000000) (n:=20) (by omega) (by omega) (by omega) (by omega)
 have sb34:=M.mul_bd (x:=b*e*e*e*e) (y:=e) (m:=1600000000) (n:=20) (by omega) (by omega) (by omega) (by omega)
 have sb35:=M.mul_bd (x:=b*e*e*e*e*e) (y:=e) (m:=32000000000) (n:=20) (by omega) (by omega) (by omega) (by omega)
 unfold M.cv
 omega
theorem M.y_bd {Y v:Int} (h:Y*Y=v) (hv:v≤4000000000000):-3000000≤Y∧Y≤3000000:=by
 constructor
 ·rcases Int.lt_or_le Y (-3000000) with q | q
  ·have:=Int.mul_le_mul (a:=3000000) (b:=3000000) (c:=-Y) (d:=-Y) (by omega) (by omega) (by omega) (by omega)
   rw [Int.neg_mul_neg] at this
   omega
  ·exact q
 ·rcases Int.lt_or_le 3000000 Y with q | q
  ·have:=Int.mul_le_mul (a:=3000000) (b:=3000000) (c:=Y) (d:=Y) (by omega) (by omega) (by omega) (by omega)
   omega
  ·exact q
theorem je (a b X Y E:Int) (w:World) :
  Calls Tryz.prog 55 #[.agg #[.int .i64 a,.int .i64 b],.agg #[.int .i64 X,.int .i64 Y,.int .i64 E]] w fun e w'=>e=.returned (.bool (M.good a b && M.ptOk a b X Y E))∧Below w.heap.size w w':=by
 have PC:=fun W=>fc a b W
 have PI:=Lib.hid fun n lo hi W=>bG n lo hi W
 have C:=(aG.new w #[.int .i64 a,.int .i64 b] 28).alloc (.cells #[.int .i64 X,.int .i64 Y,.int .i64 E] 54)
 have Q:=(aG.new (w.alloc (.cells #[.int .i64 a,.int .i64 b] 28)) #[.int .i64 X,.int .i64 Y,.int .i64 E] 54)
 rw [World.size_alloc] at Q
 have B:=((Below.refl w.heap.size w).alloc (Nat.le_refl _) (.cells #[.int .i64 a,.int .i64 b] 28)).alloc (by rw [World.size_alloc];omega) (.cells #[.int .i64 X,.int .i64 Y,.int .i64 E] 54)
 generalize hw3:(w.alloc (.cells #[.int .i64 a,.int .i64 b] 28)).alloc (.cells #[.int .i64 X,.int .i64 Y,.int .i64 E] 54)=wc at *
 have ⟨q0,q1,q2⟩:=Q.box3
 have C_c0:=C.box.c0
 have C_c1:=C.box.c1
 cases hgd:M.good a b with
 | false=>
  rw [hgd] at PC
  have PC:=Lib.hid PC
  go_enter Tryz.func55,Tryz.ntmps55
  go_wp2_with (go_at_call 51;(with_reducible refine (PC.out _).mono ?_);rintro e w4 ⟨rfl,hb4⟩;(replace C:=C.keep hb4);(replace B:=B.trans (hb4.mono B.size));(replace Q:=Q.keep hb4);(have ⟨z0,z1,z2⟩:=Q.box3);(replace ⟨C_c0,C_c1⟩:=C.b2))
  go_ret
  exact ⟨rfl,B⟩
 | true=>
  obtain ⟨ha1,ha2,hb1,hb2⟩:=M.inCurve_bd (M.good_in hgd)
  rw [hgd] at PC
  have PC:=Lib.hid PC
  clear hgd
  rw [Bool.true_and]
  by_cases hE:E=0
  ·by_cases hX:X=0
   ·by_cases hY:Y=0
    ·subst hE hX hY
     go_enter Tryz.func55,Tryz.ntmps55
     go_wp2_with (go_at_call 51;(with_reducible refine (PC.out _).mono ?_);rintro e w4 ⟨rfl,hb4⟩;(replace C:=C.keep hb4);(replace B:=B.trans (hb4.mono B.size));(replace Q:=Q.keep hb4);(have ⟨z0,z1,z2⟩:=Q.box3);(replace ⟨C_c0,C_c1⟩:=C.b2))
     go_ret
     exact ⟨rfl,B⟩
    ·have hres:=Lib.hid (show M.ptOk a b X Y E=false by unfold M.ptOk;rw [if_pos hE];simp [hY])
     have hi:=Lib.hid (show M.ins E 1 20=false by unfold M.ins;simp;omega)
     subst hE hX
     rw [hres.out]
     have PE:=fun W=>PI.out 0 1 20 W
     rw [hi.out] at PE
     have PE:=Lib.hid PE
     have hi2:=Lib.hid (show M.ins 0 (-10000) 10000=true by decide)
     have PX:=fun W=>PI.out 0 (-10000) 10000 W
     rw [hi2.out] at PX
     have PX:=Lib.hid PX
     clear PI
     go_enter Tryz.func55,Tryz.ntmps55
     go_wp2_with (first
      | (go_at_call 51;(with_reducible refine (PC.out _).mono ?_);rintro e w4 ⟨rfl,hb4⟩;(replace C:=C.keep hb4);(replace B:=B.trans (hb4.mono B.size));(replace Q:=Q.keep hb4);(have ⟨z0,z1,z2⟩:=Q.box3);(replace ⟨C_c0,C_c1⟩:=C.b2))
      | (go_at_call 52;first | ((with_reducible refine (PX.out _).mono ?_);rintro e w6 ⟨rfl,rfl⟩) | ((with_reducible refine (PE.out _).mono ?_);rintro e w6 ⟨rfl,rfl⟩)))
     go_ret
     exact ⟨rfl,B⟩
   ·have hX0:(X == 0)=false:=by rw [beq_eq_false_iff_ne];exact hX
    subst hE
    have hres0:(M.ins X (-10000) 10000=false∨M.ins 0 1 20=false)→M.ptOk a b X Y 0=false:=fun _=>by unfold M.ptOk;rw [if_pos rfl];simp [hX]
    have hE0:M.ins 0 1 20=false:=by decide
    have P1:=fun W=>PI.out X (-10000) 10000 W
    have P2:=fun W=>PI.out 0 1 20 W
    have P4:=fun W=>PI.out Y (-3000000) 3000000 W
    have hgb:=fun h=>M.ins_t (n:=X) (lo:=-10000) (hi:=10000) h
    have hge:=fun h=>M.ins_t (n:=0) (lo:=1) (hi:=20) h
    have hyb:=fun h=>M.y_bd (Y:=Y) (v:=M.cv a b X 0) h
    have hiy:M.ins Y (-3000000) 3000000=true ↔ (-3000000≤Y∧Y≤3000000):=by unfold M.ins;simp
    generalize M.ins X (-10000) 10000=i1 at *
    generalize M.ins 0 1 20=i2 at *
    generalize M.ins Y (-3000000) 3000000=i4 at *
    clear PI
    cases i1 with
    | false=>
     have hr2:=Lib.hid (show M.ptOk a b X Y 0=false from hres0 (Or.inl rfl))
     rw [hr2.out]
     have P1:=Lib.hid P1
     have P2:=Lib.hid P2
     have P4:=Lib.hid P4
     clear hgb hge hyb hiy hres0
     go_enter Tryz.func55,Tryz.ntmps55
     go_wp2_with (first
      | (go_at_call 51;(with_reducible refine (PC.out _).mono ?_);rintro e w4 ⟨rfl,hb4⟩;(replace C:=C.keep hb4);(replace B:=B.trans (hb4.mono B.size));(replace Q:=Q.keep hb4);(have ⟨z0,z1,z2⟩:=Q.box3);(replace ⟨C_c0,C_c1⟩:=C.b2))
      | (go_at_call 52;first | ((with_reducible refine (P1.out _).mono ?_);rintro e w6 ⟨rfl,rfl⟩) | ((with_reducible refine (P2.out _).mono ?_);rintro e w6 ⟨rfl,rfl⟩) | ((with_reducible refine (P4.out _).mono ?_);rintro e w6 ⟨rfl,rfl⟩)))
     go_ret
     exact ⟨rfl,B⟩
    | true=>
     cases i2 with
     | false=>
      have hr2:=Lib.hid (show M.ptOk a b X Y 0=false from hres0 (Or.inr rfl))
      rw [hr2.out]
      have P1:=Lib.hid P1
      have P2:=Lib.hid P2
      have P4:=Lib.hid P4
      clear hgb hge hyb hiy hres0
      go_enter Tryz.func55,Tryz.ntmps55
      go_wp2_with (first
       | (go_at_call 51;(with_reducible refine (PC.out _).mono ?_);rintro e w4 ⟨rfl,hb4⟩;(replace C:=C.keep hb4);(replace B:=B.trans (hb4.mono B.size));(replace Q:=Q.keep hb4);(have ⟨z0,z1,z2⟩:=Q.box3);(replace ⟨C_c0,C_c1⟩:=C.b2))
       | (go_at_call 52;first | ((with_reducible refine (P1.out _).mono ?_);rintro e w6 ⟨rfl,rfl⟩) | ((with_reducible refine (P2.out _).mono ?_);rintro e w6 ⟨rfl,rfl⟩) | ((with_reducible refine (P4.out _).mono ?_);rintro e w6 ⟨rfl,rfl⟩)))
      go_ret
      exact ⟨rfl,B⟩
     | true=>exact absurd hE0 (by decide)
  ·have hE0:(E == 0)=false:=by rw [beq_eq_false_iff_ne];exact hE
   have hpt:M.ptOk a b X Y E=(M.ins X (-10000) 10000 && M.ins E 1 20 && (M.gcd X E == 1) && decide (Y*Y=M.cv a b X E)):=by unfold M.ptOk;rw [if_neg hE]
   have hres0:(M.ins X (-10000) 10000=false∨M.ins E 1 20=false)→M.ptOk a b X Y E=false:=fun h=>by rw [hpt];rcases h with h | h <;> rw [h] <;> simp
   have P1:=fun W=>PI.out X (-10000) 10000 W
   have P2:=fun W=>PI.out E 1 20 W
   have P4:=fun W=>PI.out Y (-3000000) 3000000 W
   have hgb:=fun h=>M.ins_t (n:=X) (lo:=-10000) (hi:=10000) h
   have hge:=fun h=>M.ins_t (n:=E) (lo:=1) (hi:=20) h
   have hyb:=fun h=>M.y_bd (Y:=Y) (v:=M.cv a b X E) h
   have hiy:M.ins Y (-3000000) 3000000=true ↔ (-3000000≤Y∧Y≤3000000):=by unfold M.ins;simp
   generalize M.ins X (-10000) 10000=i1 at *
   generalize M.ins E 1 20=i2 at *
   generalize M.ins Y (-3000000) 3000000=i4 at *
   clear PI
   cases i1 with
   | false=>
    have hr2:=Lib.hid (show M.ptOk a b X Y E=false from hres0 (Or.inl rfl))
    rw [hr2.out]
    have P1:=Lib.hid P1
    have P2:=Lib.hid P2
    have P4:=Lib.hid P4
    clear hgb hge hyb hiy hres0
    go_enter Tryz.func55,Tryz.ntmps55
    go_wp2_with (first
     | (go_at_call 51;(with_reducible refine (PC.out _).mono ?_);rintro e w4 ⟨rfl,hb4⟩;(replace C:=C.keep hb4);(replace B:=B.trans (hb4.mono B.size));(replace Q:=Q.keep hb4);(have ⟨z0,z1,z2⟩:=Q.box3);(replace ⟨C_c0,C_c1⟩:=C.b2))
     | (go_at_call 52;first | ((with_reducible refine (P1.out _).mono ?_);rintro e w6 ⟨rfl,rfl⟩) | ((with_reducible refine (P2.out _).mono ?_);rintro e w6 ⟨rfl,rfl⟩) | ((with_reducible refine (P4.out _).mono ?_);rintro e w6 ⟨rfl,rfl⟩)))
    go_ret
    exact ⟨rfl,B⟩
   | true=>
    cases i2 with
    | false=>
     have hr2:=Lib.hid (show M.ptOk a b X Y E=false from hres0 (Or.inr rfl))
     rw [hr2.out]
     have P1:=Lib.hid P1
     have P2:=Lib.hid P2
     have P4:=Lib.hid P4
     clear hgb hge hyb hiy hres0
     go_enter Tryz.func55,Tryz.ntmps55
     go_wp2_with (first
      | (go_at_call 51;(with_reducible refine (PC.out _).mono ?_);rintro e w4 ⟨rfl,hb4⟩;(replace C:=C.keep hb4);(replace B:=B.trans (hb4.mono B.size));(replace Q:=Q.keep hb4);(have ⟨z0,z1,z2⟩:=Q.box3);(replace ⟨C_c0,C_c1⟩:=C.b2))
      | (go_at_call 52;first | ((with_reducible refine (P1.out _).mono ?_);rintro e w6 ⟨rfl,rfl⟩) | ((with_reducible refine (P2.out _).mono ?_);rintro e w6 ⟨rfl,rfl⟩) | ((with_reducible refine (P4.out _).mono ?_);rintro e w6 ⟨rfl,rfl⟩)))
     go_ret
     exact ⟨rfl,B⟩
    | true=>
     rw [Bool.true_and,Bool.true_and] at hpt
     have hb1:=hgb rfl
     have hb2:=hge rfl
     obtain ⟨x1,x2⟩:=hb1
     obtain ⟨e1,e2⟩:=hb2
     have PG:=Lib.hid fun W=>er X E W (by omega) (by omega) (by omega) (by omega)
     have hcb:=M.cv_bd (a:=a) (b:=b) (x:=X) (e:=E) ha1 ha2 (by omega) (by omega) x1 x2 (by omega) (by omega)
     have PV:=fun W=>dg a b X E W ha1 ha2 (by omega) (by omega) x1 x2 (by omega) (by omega)
     clear hgb hge hres0
     generalize M.gcd X E=gg at *
     by_cases hg1:gg=1
     ·have hg2:(gg == 1)=true:=by rw [beq_iff_eq];exact hg1
      rw [hg2,Bool.true_and] at hpt
      cases i4 with
      | false=>
       have hr2:=Lib.hid (show M.ptOk a b X Y E=false by rw [hpt];simp only [decide_eq_false_iff_not];intro hyy;have:=hiy.2 (hyb hyy (by omega));cases this)
       rw [hr2.out]
       clear hpt hiy hyb hcb PV
       have P1:=Lib.hid P1
       have P2:=Lib.hid P2
       have P4:=Lib.hid P4
       go_enter Tryz.func55,Tryz.ntmps55
       go_wp2_with (first
        | (go_at_call 51;(with_reducible refine (PC.out _).mono ?_);rintro e w4 ⟨rfl,hb4⟩;(replace C:=C.keep hb4);(replace B:=B.trans (hb4.mono B.size));(replace Q:=Q.keep hb4);(have ⟨z0,z1,z2⟩:=Q.box3);(replace ⟨C_c0,C_c1⟩:=C.b2))
        | (go_at_call 52;first | ((with_reducible refine (P1.out _).mono ?_);rintro e w6 ⟨rfl,rfl⟩) | ((with_reducible refine (P2.out _).mono ?_);rintro e w6 ⟨rfl,rfl⟩) | ((with_reducible refine (P4.out _).mono ?_);rintro e w6 ⟨rfl,rfl⟩))
        | (go_at_call 81;(refine (PG.out _).mono ?_);rintro e w7 ⟨rfl,m_,rfl⟩))
       go_ret
       exact ⟨rfl,aJ B _⟩
      | true=>
       obtain ⟨y1,y2⟩:=hiy.1 rfl
       have hyy:=M.mul_bd (x:=Y) (y:=Y) (m:=3000000) (n:=3000000) (by omega) (by omega) (by omega) (by omega)
       generalize M.cv a b X E=v at *
       have hpt:=Lib.hid hpt
       rw [hpt.out]
       clear hiy hyb hcb
       have PV:=Lib.hid PV
       have P1:=Lib.hid P1
       have P2:=Lib.hid P2
       have P4:=Lib.hid P4
       go_enter Tryz.func55,Tryz.ntmps55
       go_upto_region 7 with (first
        | (go_at_call 51;(with_reducible refine (PC.out _).mono ?_);rintro e w4 ⟨rfl,hb4⟩;(replace C:=C.keep hb4);(replace B:=B.trans (hb4.mono B.size));(replace Q:=Q.keep hb4);(have ⟨z0,z1,z2⟩:=Q.box3);(replace ⟨C_c0,C_c1⟩:=C.b2))
        | (go_at_call 52;first | ((with_reducible refine (P1.out _).mono ?_);rintro e w6 ⟨rfl,rfl⟩) | ((with_reducible refine (P2.out _).mono ?_);rintro e w6 ⟨rfl,rfl⟩) | ((with_reducible refine (P4.out _).mono ?_);rintro e w6 ⟨rfl,rfl⟩))
        | (go_at_call 81;(refine (PG.out _).mono ?_);rintro e w7 ⟨rfl,m_,rfl⟩))
       have C2:aG (w4.drewN m_) w.heap.size 28 #[.int .i64 a,.int .i64 b]:=by unfold aG at *;rw [World.heap_drewN];exact C
       have Q2:aG (w4.drewN m_) (w.heap.size+1) 54 #[.int .i64 X,.int .i64 Y,.int .i64 E]:=by unfold aG at *;rw [World.heap_drewN];exact Q
       have B2:=aJ B m_
       generalize w4.drewN m_=wd at *
       clear C Q B
       refine Rg.walkT 13 [.is (.pointer (some ⟨w.heap.size+1,1,none⟩)),.is (.int .i64 Y),.is (.pointer (some ⟨w.heap.size+1,1,none⟩)),.is (.int .i64 Y),.is (.int .i64 (Y*Y)),.is (.agg #[.int .i64 a,.int .i64 b]),.is (.pointer (some ⟨w.heap.size+1,0,none⟩)),.is (.int .i64 X),.is (.pointer (some ⟨w.heap.size+1,2,none⟩)),.is (.int .i64 E),.is (.int .i64 v),.is (.bool (decide (Y*Y=v))),.is (.bool (decide (Y*Y=v)))] (by kernel_rfl) (by kernel_rfl) (by kernel_rfl) ⟨?_,?_,?_,?_,?_,?_,?_,?_,?_,?_,?_,?_,?_,trivial⟩ ?_
       ·intro _ ac_ w_ hB hr
        have e3:ac_.tmps[3]?=some (.pointer (some ⟨w.heap.size+1,0,none⟩)):=hr 3 (by decide)
        exact Rg.pure1 rfl (by go_simp)
       ·intro _ ac_ w_ hB hr
        have e35:=Rg.ev1 (hr 35 (by decide))
        have k1:=aE hB Q2.box3.2.1
        exact Rg.pure1 rfl (by go_simp)
       ·intro _ ac_ w_ hB hr
        have e3:ac_.tmps[3]?=some (.pointer (some ⟨w.heap.size+1,0,none⟩)):=hr 3 (by decide)
        exact Rg.pure1 rfl (by go_simp)
       ·intro _ ac_ w_ hB hr
        have e37:=Rg.ev1 (hr 37 (by decide))
        have k1:=aE hB Q2.box3.2.1
        exact Rg.pure1 rfl (by go_simp)
       ·intro _ ac_ w_ hB hr
        have e36:=Rg.ev1 (hr 36 (by decide))
        have e38:=Rg.ev1 (hr 38 (by decide))
        exact Rg.pure1 rfl (by go_simp <;> exact Rg.wo (by omega))
       ·intro _ ac_ w_ hB hr
        have e2:ac_.tmps[2]?=some (.pointer (some ⟨w.heap.size,0,none⟩)):=hr 2 (by decide)
        have k0:=aE hB C2.box.c0
        have k1:=aE hB C2.box.c1
        exact Rg.pure1 rfl (by go_simp)
       ·intro _ ac_ w_ hB hr
        have e3:ac_.tmps[3]?=some (.pointer (some ⟨w.heap.size+1,0,none⟩)):=hr 3 (by decide)
        exact Rg.pure1 rfl (by go_simp)
       ·intro _ ac_ w_ hB hr
        have e41:=Rg.ev1 (hr 41 (by decide))
        have k0:=aE hB Q2.box3.1
        exact Rg.pure1 rfl (by go_simp)
       ·intro _ ac_ w_ hB hr
        have e3:ac_.tmps[3]?=some (.pointer (some ⟨w.heap.size+1,0,none⟩)):=hr 3 (by decide)
        exact Rg.pure1 rfl (by go_simp)
       ·intro _ ac_ w_ hB hr
        have e43:=Rg.ev1 (hr 43 (by decide))
        have k2:=aE hB Q2.box3.2.2
        exact Rg.pure1 rfl (by go_simp)
       ·intro _ ac_ w_ hB hr
        have e40:=Rg.ev1 (hr 40 (by decide))
        have e42:=Rg.ev1 (hr 42 (by decide))
        have e44:=Rg.ev1 (hr 44 (by decide))
        have ef:=Rg.ef ac_
        exact Rg.callIs rfl (by go_simp) (PV.out _)
       ·intro _ ac_ w_ hB hr
        have e39:=Rg.ev1 (hr 39 (by decide))
        have e45:=Rg.ev1 (hr 45 (by decide))
        exact Rg.pure1 rfl (by go_simp;first | done | rfl | (by_cases hv_:Y*Y=v <;> simp [hv_];done))
       ·intro _ ac_ w_ hB hr
        have e46:=Rg.ev1 (hr 46 (by decide))
        exact Rg.pure1 rfl (by go_simp)
       ·intro vals wz hB hv hne
        have v_12:vals 12=.bool (decide (Y*Y=v)):=hv 12 (by decide)
        simp only [List.take_succ_cons,List.take_zero,List.drop_succ_cons,List.drop_zero,Rg.fill,if_true,Act.put,List.setIfInBounds_toArray,List.set_cons_zero,List.set_cons_succ,Nat.zero_add,Nat.reduceAdd]
        clear hv
        simp only [v_12]
        clear v_12
        unfold Rg.tailWp
        go_wp2
        go_ret
        exact ⟨rfl,B2.trans (hB.mono B2.size)⟩
     ·have hg2:(gg == 1)=false:=by rw [beq_eq_false_iff_ne];exact hg1
      have hr2:=Lib.hid (show M.ptOk a b X Y E=false by rw [hpt,hg2];rfl)
      rw [hr2.out]
      clear hpt hiy hyb hcb PV
      have P1:=Lib.hid P1
      have P2:=Lib.hid P2
      have P4:=Lib.hid P4
      go_enter Tryz.func55,Tryz.ntmps55
      go_wp2_with (first
       | (go_at_call 51;(with_reducible refine (PC.out _).mono ?_);rintro e w4 ⟨rfl,hb4⟩;(replace C:=C.keep hb4);(replace B:=B.trans (hb4.mono B.size));(replace Q:=Q.keep hb4);(have ⟨z0,z1,z2⟩:=Q.box3);(replace ⟨C_c0,C_c1⟩:=C.b2))
       | (go_at_call 52;first | ((with_reducible refine (P1.out _).mono ?_);rintro e w6 ⟨rfl,rfl⟩) | ((with_reducible refine (P2.out _).mono ?_);rintro e w6 ⟨rfl,rfl⟩) | ((with_reducible refine (P4.out _).mono ?_);rintro e w6 ⟨rfl,rfl⟩))
       | (go_at_call 81;(refine (PG.out _).mono ?_);rintro e w7 ⟨rfl,m_,rfl⟩))
      go_ret
      exact ⟨rfl,aJ B _⟩
end
end Go.Proofs.YthfjndmdalfloaaGreat
