/-
  Joined texts: contracts and plain lemmas.
-/
import Derived.Test.YtgfkcoablfjbcaaGreatDoorB1
import Derived.Test.YtgfkcoablfjbcaaGreatDoorB15
set_option linter.unusedSimpArgs false
set_option linter.unusedVariables false
set_option maxRecDepth 100000
set_option maxHeartbeats 8000000
namespace Go.Proofs.YtgfkcoablfjbcaaGreatDoor
section
open Go.RowKit
namespace M
def bL (a b X E:Int):Nat→Int
 | 0=>hL (hC a b) 0 (aj a b X E 0)
 | k+1=>max (bL a b X E k) (hL (hC a b) (k+1) (aj a b X E (k+1)))
def bH (a b X E:Int):Nat→Int
 | 0=>hH (hC a b) 0 (aj a b X E 0)
 | k+1=>min (bH a b X E k) (hH (hC a b) (k+1) (aj a b X E (k+1)))
def bNf (a b X E:Int):Nat→Nat→Nat
 | 0,k=>k
 | f+1,k=>if isOk (aj a b X E (k+1))=true then bNf a b X E f (k+1) else k
def bN (a b X E:Int):Nat:=bNf a b X E 5 0
def bOk (a b X E:Int):Bool:=aO (bL a b X E (bN a b X E)) (bH a b X E (bN a b X E))
theorem pu {a b X E:Int}:∀ f k:Nat,k≤bNf a b X E f k
 | 0,_=>ul _
 | f+1,k=>by
  unfold bNf
  split
  ·exact Nat.le_of_succ_le (pu f (k+1))
  exact ul _
theorem pv {a b X E:Int}:∀ f k:Nat,bNf a b X E f k≤k+f
 | 0,_=>ul _
 | f+1,k=>by
  unfold bNf
  split
  ·have:=pv (a:=a) (b:=b) (X:=X) (E:=E) f (k+1);omega
  omega
theorem uH {a b X E:Int}:bN a b X E≤5:=pv 5 0
theorem s8 {a b X E:Int}:isOk (aj a b X E 0)=true:=by
 unfold aj
 split <;> rfl
theorem qV {a b X E:Int} {n:Nat} (hin:M.bB a b=true) (hn:n≤5) (hX1:-10000≤X) (hX2:X≤10000) (hE1:0≤E) (hE2:E≤20):-409600000≤hL (hC a b) n (aj a b X E n)∧hL (hC a b) n (aj a b X E n)≤409600000∧-409600000≤hH (hC a b) n (aj a b X E n)∧hH (hC a b) n (aj a b X E n)≤409600000:=by
 have:=bi (uR (a:=a) (b:=b) (C:=hC a b) (lM hin) hn hX1 hX2 hE1 hE2)
 omega
theorem tQ {a b X E:Int} (hin:M.bB a b=true) (hX1:-10000≤X) (hX2:X≤10000) (hE1:0≤E) (hE2:E≤20):∀ k:Nat,k≤5→-409600000≤bL a b X E k∧bL a b X E k≤409600000∧-409600000≤bH a b X E k∧bH a b X E k≤409600000
 | 0,h=>qV hin h hX1 hX2 hE1 hE2
 | k+1,h=>by
  have h1:=tQ hin hX1 hX2 hE1 hE2 k (by omega)
  have h2:=qV (n:=k+1) hin h hX1 hX2 hE1 hE2
  unfold bL bH
  omega
theorem pw {a b X E:Int} {k:Nat}:∀ n:Nat,k≤n→bL a b X E k≤bL a b X E n∧bH a b X E n≤bH a b X E k
 | 0,h=>by
        obtain rfl:k=0:=by omega
        exact ⟨Int.le_refl _,Int.le_refl _⟩
 | n+1,h=>by
  by_cases e:k=n+1
  ·subst e;exact ⟨Int.le_refl _,Int.le_refl _⟩
  have:=pw (a:=a) (b:=b) (X:=X) (E:=E) (k:=k) n (by omega)
  have e1:bL a b X E (n+1)=max (bL a b X E n) (hL (hC a b) (n+1) (aj a b X E (n+1))):=rfl
  have e2:bH a b X E (n+1)=min (bH a b X E n) (hH (hC a b) (n+1) (aj a b X E (n+1))):=rfl
  omega
theorem uI {a b X E:Int} (hin:M.bB a b=true) (hX1:-10000≤X) (hX2:X≤10000) (hE1:0≤E) (hE2:E≤20) {k:Nat} (hk:k≤bN a b X E) (h:aO (bL a b X E k) (bH a b X E k)=false):bOk a b X E=false:=by
 cases hb:bOk a b X E with
 | false=>rfl
 | true=>
 have hN:=uH (a:=a) (b:=b) (X:=X) (E:=E)
 have h1:=bi hb
 have h2:=pw (a:=a) (b:=b) (X:=X) (E:=E) _ hk
 have h3:=tQ hin hX1 hX2 hE1 hE2 k (by omega)
 exfalso
 have:aO (bL a b X E k) (bH a b X E k)=true:=by
  unfold aO
  simp only [Bool.and_eq_true,decide_eq_true_eq]
  omega
 rw [this] at h
 cases h
end M
theorem jx (a b X Y E:Int) (w:World) (hg:M.good a b=true) (hX1:-10000≤X) (hX2:X≤10000) (hE1:0≤E) (hE2:E≤20) :
  Calls Tryz.prog 71 #[.agg #[.int .i64 a,.int .i64 b],.agg #[.int .i64 X,.int .i64 Y,.int .i64 E]] w fun e w'=>e=.returned (.tuple #[.agg #[.int .i64 (M.bL a b X E (M.bN a b X E)),.int .i64 (M.bH a b X E (M.bN a b X E))],.int .i64 ((M.bN a b X E:Nat):Int),.bool (M.bOk a b X E)])∧Below w.heap.size w w':=by
 have P0:=fun W=>ir a b X Y E 0 W hg hX1 hX2 hE1 hE2 (by omega)
 rw [M.s8,show ((0:Nat):Int)=0 from rfl] at P0
 have PK:=uh fun (k:Nat) W (hk:k≤5)=>ir a b X Y E k W hg hX1 hX2 hE1 hE2 hk
 have P0:=uh P0
 have hL0:=uh (show M.hL (M.hC a b) 0 (M.aj a b X E 0)=M.bL a b X E 0 from rfl)
 have hH0:=uh (show M.hH (M.hC a b) 0 (M.aj a b X E 0)=M.bH a b X E 0 from rfl)
 have hin:=M.bE hg
 have hbd:=uh fun k hk=>M.qV (a:=a) (b:=b) (X:=X) (E:=E) (n:=k) hin hk hX1 hX2 hE1 hE2
 have hbb:=uh fun k hk=>M.tQ (a:=a) (b:=b) (X:=X) (E:=E) hin hX1 hX2 hE1 hE2 k hk
 clear hg hin
 have C:=((aH.new w #[.int .i64 a,.int .i64 b] 28).alloc (.cells #[.int .i64 X,.int .i64 Y,.int .i64 E] 45)).alloc (.cells #[.int .i64 0,.int .i64 0] 61)
 have Q:=(aH.new (w.alloc (.cells #[.int .i64 a,.int .i64 b] 28)) #[.int .i64 X,.int .i64 Y,.int .i64 E] 45).alloc (.cells #[.int .i64 0,.int .i64 0] 61)
 rw [ui] at Q
 have R:=aH.new ((w.alloc (.cells #[.int .i64 a,.int .i64 b] 28)).alloc (.cells #[.int .i64 X,.int .i64 Y,.int .i64 E] 45)) #[.int .i64 0,.int .i64 0] 61
 rw [ui,ui] at R
 have B:=(((uk w.heap.size w).alloc (ul _) (.cells #[.int .i64 a,.int .i64 b] 28)).alloc (by rw [ui];omega) (.cells #[.int .i64 X,.int .i64 Y,.int .i64 E] 45)).alloc (by rw [ui,ui];omega) (.cells #[.int .i64 0,.int .i64 0] 61)
 generalize hw3:((w.alloc (.cells #[.int .i64 a,.int .i64 b] 28)).alloc (.cells #[.int .i64 X,.int .i64 Y,.int .i64 E] 45)).alloc (.cells #[.int .i64 0,.int .i64 0] 61)=wc at *
 have ⟨q0,q1,q2⟩:=Q.aQ
 have C_c0:=C.box.c0
 have C_c1:=C.box.c1
 generalize hu0:M.hL (M.hC a b) 0 (M.aj a b X E 0)=u0 at *
 generalize hv0:M.hH (M.hC a b) 0 (M.aj a b X E 0)=v0 at *
 clear hu0 hv0
 go_enter Tryz.func71,Tryz.ntmps71
 go_wp2_with (go_at_call 93;(with_reducible refine (P0.out _).mono ?_);rintro e w4 ⟨rfl,hb4⟩;(replace C:=C.keep hb4);(replace R:=R.keep hb4);(replace B:=B.trans (hb4.mono B.size));(replace Q:=Q.keep hb4);(have hR8:=uh R.lt);(replace Q:=Q.alloc (.cells #[.int .i64 u0,.int .i64 v0] 61));(have T:=aH.new w4 #[.int .i64 u0,.int .i64 v0] 61);(have b_:=bA w4 (.cells #[.int .i64 u0,.int .i64 v0] 61));(replace C:=C.keep b_);(replace R:=R.keep b_);(replace B:=B.trans (b_.mono B.size));(clear b_);(replace ⟨C_c0,C_c1⟩:=C.b2);(replace ⟨R_c0,R_c1,R_f0,R_f1⟩:=R.b2f);(replace ⟨T_c0,T_c1⟩:=T.b2))
 go_loopw [9] (fun vi wr=>∃ k:Nat,k≤5∧vi=.int .i64 k∧Hid (M.bNf a b X E (5 - k) k=M.bN a b X E)∧aH wr w4.heap.size 61 #[.int .i64 (M.bL a b X E k),.int .i64 (M.bH a b X E k)]∧aH wr w.heap.size 28 #[.int .i64 a,.int .i64 b]∧aH wr (w.heap.size+1) 45 #[.int .i64 X,.int .i64 Y,.int .i64 E]∧aH wr (w.heap.size+1+1) 61 #[.int .i64 0,.int .i64 0]∧Below w.heap.size w wr) (fun vi _=>5 - (intOf vi).toNat)
 case atStart=>exact ⟨0,by omega,rfl,uh rfl,by rw [←hL0.out,←hH0.out];exact T,C,Q,R,B⟩
 case round=>
 clear C Q R B T P0 hL0 hH0 C_c0 C_c1 R_c0 R_c1 R_f0 R_f1 T_c0 T_c1 q0 q1 q2
 have hR9:=hR8.out
 obtain ⟨k,hk,rfl,hN,T,C,Q,R,B⟩:=hrel
 have T_c0:=T.box.c0
 have T_c1:=T.box.c1
 have T_f0:=T.box.f0
 have T_f1:=T.box.f1
 have C_c0:=C.box.c0
 have C_c1:=C.box.c1
 have R_c0:=R.box.c0
 have R_c1:=R.box.c1
 have R_f0:=R.box.f0
 have R_f1:=R.box.f1
 have ⟨q0,q1,q2⟩:=Q.aQ
 by_cases hlt:k<5
 ·have P1:=fun W=>PK.out (k+1) W (by omega)
  have hNs:M.bNf a b X E (5 - k) k=if M.isOk (M.aj a b X E (k+1))=true then M.bNf a b X E (5 - (k+1)) (k+1) else k:=by
   rw [show 5 - k=(5 - (k+1))+1 by omega];rfl
  have eL:M.bL a b X E (k+1)=max (M.bL a b X E k) (M.hL (M.hC a b) (k+1) (M.aj a b X E (k+1))):=rfl
  have eH:M.bH a b X E (k+1)=min (M.bH a b X E k) (M.hH (M.hC a b) (k+1) (M.aj a b X E (k+1))):=rfl
  generalize M.hL (M.hC a b) (k+1) (M.aj a b X E (k+1))=hl at *
  generalize M.hH (M.hC a b) (k+1) (M.aj a b X E (k+1))=hh at *
  have PC:=uh fun W=>qG (M.bL a b X E k) (M.bH a b X E k) hl hh W
  cases hok:M.isOk (M.aj a b X E (k+1)) with
  | false=>
   rw [hok,if_neg (by decide)] at hNs
   have hNk:=uh (show M.bN a b X E=k by rw [←hN.out,hNs])
   rw [hok] at P1
   have PV:=uh fun W=>iN (M.bL a b X E k) (M.bH a b X E k) W
   have hOk:=uh (show M.bOk a b X E=M.aO (M.bL a b X E k) (M.bH a b X E k) by unfold M.bOk;rw [hNk.out])
   clear hNs eL eH hok hN PC
   have P1:=uh P1
   have hk1:=uh (show ((k+1:Nat):Int)=(k:Int)+1 by omega)
   have P1:=P1.out
   rw [hk1.out] at P1
   have P1:=uh P1
   go_upto_region 8 with (go_at_call 93;(with_reducible refine (P1.out _).mono ?_);rintro e w5 ⟨rfl,hb5⟩;(replace C:=C.keep hb5);(replace R:=R.keep hb5);(replace T:=T.keep hb5);(replace B:=B.trans (hb5.mono B.size));(replace Q:=Q.keep hb5);(replace Q:=Q.alloc (.cells #[.int .i64 hl,.int .i64 hh] 61));(have S:=aH.new w5 #[.int .i64 hl,.int .i64 hh] 61);(have b_:=bA w5 (.cells #[.int .i64 hl,.int .i64 hh] 61));(replace C:=C.keep b_);(replace R:=R.keep b_);(replace T:=T.keep b_);(replace B:=B.trans (b_.mono B.size));(clear b_);(replace ⟨C_c0,C_c1⟩:=C.b2);(replace ⟨R_c0,R_c1,R_f0,R_f1⟩:=R.b2f);(replace ⟨T_c0,T_c1⟩:=T.b2);(replace ⟨S_c0,S_c1⟩:=S.b2))
   generalize w5.alloc (.cells #[.int .i64 hl,.int .i64 hh] 61)=wd at *
   generalize hbk:M.bL a b X E k=bl at *
   generalize hbh:M.bH a b X E k=bh at *
   replace hbk:=uh hbk
   replace hbh:=uh hbh
   refine Rg.tF 7 [.is (.agg #[.int .i64 bl,.int .i64 bh]),.is (.int .i64 (k:Int)),.is (.bool true),.is (.bool true),.is (.agg #[.int .i64 bl,.int .i64 bh]),.is (.bool (M.aO bl bh)),.is (.bool (M.aO bl bh)),.at (fun _ W=>aH W (w.heap.size+1+1) 61 #[.int .i64 bl,.int .i64 bh]),.is (.int .i64 (k:Int)),.is (.bool (M.aO bl bh))] (fun W=>aH W w4.heap.size 61 #[.int .i64 bl,.int .i64 bh]∧(∃ u v,aH W (w.heap.size+1+1) 61 #[u,v])∧Below w.heap.size w W) (by kernel_rfl) (by kernel_rfl) ?_ (fun j hj=>match j,hj with | 0,hj=>rfl | 1,hj=>rfl | 2,hj=>rfl | 3,hj=>rfl | 4,hj=>rfl | 5,hj=>rfl | 6,hj=>rfl | 7,hj=>absurd rfl hj | 8,hj=>rfl | 9,hj=>rfl | n+10,_=>rfl) ?_ ⟨?_,?_,?_,?_,?_,?_,?_,?_,?_,?_,trivial⟩ ?_
   ·exact fun W W_ h hb=>⟨h.1.keep hb,⟨_,_,h.2.1.choose_spec.choose_spec.keep hb⟩,h.2.2.trans (hb.mono h.2.2.size)⟩
   ·exact ⟨T,⟨_,_,R⟩,B⟩
   ·intro ac_ w_ hJ hr
    rw [if_neg (by decide)]
    have e7:ac_.tmps[7]?=some (.pointer (some ⟨w4.heap.size,0,none⟩)):=hr 7 (by decide)
    have k0:=hJ.1.box.c0
    have k1:=hJ.1.box.c1
    exact Rg.aG rfl (by go_simp)
   ·intro ac_ w_ hJ hr
    rw [if_neg (by decide)]
    have e9:ac_.tmps[9]?=some (.int .i64 (k:Int)):=hr 9 (by decide)
    exact Rg.aG rfl (by go_simp)
   ·intro ac_ w_ hJ hr
    rw [if_neg (by decide)]
    have e8:ac_.tmps[8]?=some (.bool true):=hr 8 (by decide)
    exact Rg.aG rfl (by go_simp)
   ·intro ac_ w_ hJ hr
    rw [if_neg (by decide)]
    have e37:=Rg.ev1 (hr 37 (by decide))
    exact Rg.aG rfl (by go_simp)
   ·intro ac_ w_ hJ hr
    rw [if_neg (by decide)]
    have e7:ac_.tmps[7]?=some (.pointer (some ⟨w4.heap.size,0,none⟩)):=hr 7 (by decide)
    have e38:=Rg.ev1 (hr 38 (by decide))
    have k0:=hJ.1.box.c0
    have k1:=hJ.1.box.c1
    exact Rg.aG (Rg.aY (j:=3) (b:=true) rfl (Rg.yld rfl e38)) (by go_simp)
   ·intro ac_ w_ hJ hr
    rw [if_neg (by decide)]
    have e38:=Rg.ev1 (hr 38 (by decide))
    have e39:=Rg.ev1 (hr 39 (by decide))
    have ef:=Rg.ef ac_
    exact Rg.bK (Rg.aY (j:=3) (b:=true) rfl (Rg.yld rfl e38)) (by go_simp) (PV.out _)
   ·intro ac_ w_ hJ hr
    rw [if_neg (by decide)]
    have e38:=Rg.ev1 (hr 38 (by decide))
    have e40:=Rg.ev1 (hr 40 (by decide))
    have ec:=Rg.ec ac_
    exact Rg.aG rfl (by first | (go_simp;done))
   ·intro ac_ w_ hJ hr
    rw [if_pos rfl]
    have e4:ac_.tmps[4]?=some (.pointer (some ⟨w.heap.size+1+1,0,none⟩)):=hr 4 (by decide)
    have e35:=Rg.ev1 (hr 35 (by decide))
    obtain ⟨hJ1,⟨u_,v_,hJ2⟩,hJ3⟩:=hJ
    have e35:ac_.tmps[35]?=some (.agg #[.int .i64 bl,.int .i64 bh]):=Rg.ev1 (hr 35 (by decide))
    have e4:ac_.tmps[4]?=some (.pointer (some ⟨w.heap.size+1+1,0,none⟩)):=hr 4 (by decide)
    have ⟨y0,y1,x0,x1,_⟩:=hJ2.box
    refine ⟨rfl,?_⟩
    unfold Oper.wp
    go_simp
    exact ⟨⟨hJ1.bW (show w4.heap.size≠w.heap.size+1+1 by omega) _ _,⟨_,_,aH.set2 hJ2 _ _⟩,dC hJ3 (by omega) _ _⟩,fun _ _ hb=>(aH.set2 hJ2 _ _).keep hb⟩
   ·intro ac_ w_ hJ hr
    rw [if_neg (by decide)]
    have e36:=Rg.ev1 (hr 36 (by decide))
    exact Rg.aG rfl (by go_simp)
   ·intro ac_ w_ hJ hr
    rw [if_neg (by decide)]
    have e41:=Rg.ev1 (hr 41 (by decide))
    exact Rg.aG rfl (by go_simp)
   intro vals wz hJ2 hv
   have v_8:vals 8=.int .i64 (k:Int):=hv 8 (by decide)
   have v_9:vals 9=.bool (M.aO bl bh):=hv 9 (by decide)
   have hst:=hv 7 (by decide)
   simp only [Rg.am,Rg.fill,Act.put,Nat.reduceAdd]
   clear hv
   simp only [v_8,v_9]
   clear v_8 v_9
   have ⟨y0,y1,x0,x1,_⟩:=aH.box (Rg.aZ hst)
   have B2:=hJ2.2.2
   clear hst hJ2
   go_wp2
   exact bodyPost_ret (v:=.tuple #[.agg #[.int .i64 bl,.int .i64 bh],.int .i64 (k:Int),.bool (M.aO bl bh)]) (by simp [results,Tryz.results71,go_sem, *]) rfl (⟨by rw [hNk.out,hOk.out,hbk.out,hbh.out],B2⟩)
  | true=>
  rw [hok,if_pos rfl] at hNs
  have hN2:=uh (hNs.symm.trans hN.out)
  rw [hok] at P1
  have eL:=uh eL
  have eH:=uh eH
  clear hNs hok hN
  have hk1:=uh (show ((k+1:Nat):Int)=(k:Int)+1 by omega)
  rw [hk1.out] at P1
  have P1:=uh P1
  generalize hbk:M.bL a b X E k=bl at *
  generalize hbh:M.bH a b X E k=bh at *
  clear hbk hbh
  go_wp2_with (first
   | (go_at_call 93;(with_reducible refine (P1.out _).mono ?_);rintro e w5 ⟨rfl,hb5⟩;(replace C:=C.keep hb5);(replace R:=R.keep hb5);(replace T:=T.keep hb5);(replace B:=B.trans (hb5.mono B.size));(replace Q:=Q.keep hb5);(replace Q:=Q.alloc (.cells #[.int .i64 hl,.int .i64 hh] 61));(have S:=aH.new w5 #[.int .i64 hl,.int .i64 hh] 61);(have b_:=bA w5 (.cells #[.int .i64 hl,.int .i64 hh] 61));(replace C:=C.keep b_);(replace R:=R.keep b_);(replace T:=T.keep b_);(replace B:=B.trans (b_.mono B.size));(clear b_);(replace ⟨C_c0,C_c1⟩:=C.b2);(replace ⟨R_c0,R_c1,R_f0,R_f1⟩:=R.b2f);(replace ⟨T_c0,T_c1,T_f0,T_f1⟩:=T.b2f);(replace ⟨S_c0,S_c1⟩:=S.b2))
   | (go_at_call 94;(with_reducible refine (PC.out _).mono ?_);rintro e w6 ⟨rfl,hb6⟩;(replace C:=C.keep hb6);(replace R:=R.keep hb6);(replace T:=T.keep hb6);(replace S:=S.keep hb6);(replace B:=B.trans (hb6.mono B.size));(replace Q:=Q.keep hb6);(replace ⟨C_c0,C_c1⟩:=C.b2);(replace ⟨R_c0,R_c1,R_f0,R_f1⟩:=R.b2f);(replace ⟨T_c0,T_c1,T_f0,T_f1⟩:=T.b2f);(replace ⟨S_c0,S_c1⟩:=S.b2)))
  go_roundw
  case rel=>exact ⟨k+1,by omega,by go_num,hN2,by rw [eL.out,eH.out];exact aH.set2 T _ _,(C.other (show w.heap.size≠w4.heap.size by omega) _).other (show w.heap.size≠w4.heap.size by omega) _,(Q.other (show w.heap.size+1≠w4.heap.size by omega) _).other (show w.heap.size+1≠w4.heap.size by omega) _,(R.other (show w.heap.size+1+1≠w4.heap.size by omega) _).other (show w.heap.size+1+1≠w4.heap.size by omega) _,uj (uj B (by simp <;> omega) _) (by simp <;> omega) _⟩
  case measure=>simp [intOf] <;> omega
 obtain rfl:k=5:=by omega
 have hNk:=uh (show M.bN a b X E=5 by rw [←hN.out];rfl)
 have PV:=uh fun W=>iN (M.bL a b X E 5) (M.bH a b X E 5) W
 have hOk:=uh (show M.bOk a b X E=M.aO (M.bL a b X E 5) (M.bH a b X E 5) by unfold M.bOk;rw [hNk.out])
 clear hN PK
 obtain ⟨k,hk5⟩:∃ k:Nat,k=5:=⟨5,rfl⟩
 rw [←hk5] at hNk PV hOk T ⊢
 rw [←hk5] at T_c0 T_c1
 have hlt5:¬ (k:Int)<5:=by omega
 go_upto_region 8 with fail
 generalize hbk:M.bL a b X E k=bl at *
 generalize hbh:M.bH a b X E k=bh at *
 replace hbk:=uh hbk
 replace hbh:=uh hbh
 refine Rg.tF 7 [.is (.agg #[.int .i64 bl,.int .i64 bh]),.is (.int .i64 (k:Int)),.is (.bool true),.is (.bool true),.is (.agg #[.int .i64 bl,.int .i64 bh]),.is (.bool (M.aO bl bh)),.is (.bool (M.aO bl bh)),.at (fun _ W=>aH W (w.heap.size+1+1) 61 #[.int .i64 bl,.int .i64 bh]),.is (.int .i64 (k:Int)),.is (.bool (M.aO bl bh))] (fun W=>aH W w4.heap.size 61 #[.int .i64 bl,.int .i64 bh]∧(∃ u v,aH W (w.heap.size+1+1) 61 #[u,v])∧Below w.heap.size w W) (by kernel_rfl) (by kernel_rfl) ?_ (fun j hj=>match j,hj with | 0,hj=>rfl | 1,hj=>rfl | 2,hj=>rfl | 3,hj=>rfl | 4,hj=>rfl | 5,hj=>rfl | 6,hj=>rfl | 7,hj=>absurd rfl hj | 8,hj=>rfl | 9,hj=>rfl | n+10,_=>rfl) ?_ ⟨?_,?_,?_,?_,?_,?_,?_,?_,?_,?_,trivial⟩ ?_
 ·exact fun W W_ h hb=>⟨h.1.keep hb,⟨_,_,h.2.1.choose_spec.choose_spec.keep hb⟩,h.2.2.trans (hb.mono h.2.2.size)⟩
 ·exact ⟨T,⟨_,_,R⟩,B⟩
 ·intro ac_ w_ hJ hr
  rw [if_neg (by decide)]
  have e7:ac_.tmps[7]?=some (.pointer (some ⟨w4.heap.size,0,none⟩)):=hr 7 (by decide)
  have k0:=hJ.1.box.c0
  have k1:=hJ.1.box.c1
  exact Rg.aG rfl (by go_simp)
 ·intro ac_ w_ hJ hr
  rw [if_neg (by decide)]
  have e9:ac_.tmps[9]?=some (.int .i64 (k:Int)):=hr 9 (by decide)
  exact Rg.aG rfl (by go_simp)
 ·intro ac_ w_ hJ hr
  rw [if_neg (by decide)]
  have e8:ac_.tmps[8]?=some (.bool true):=hr 8 (by decide)
  exact Rg.aG rfl (by go_simp)
 ·intro ac_ w_ hJ hr
  rw [if_neg (by decide)]
  have e37:=Rg.ev1 (hr 37 (by decide))
  exact Rg.aG rfl (by go_simp)
 ·intro ac_ w_ hJ hr
  rw [if_neg (by decide)]
  have e7:ac_.tmps[7]?=some (.pointer (some ⟨w4.heap.size,0,none⟩)):=hr 7 (by decide)
  have e38:=Rg.ev1 (hr 38 (by decide))
  have k0:=hJ.1.box.c0
  have k1:=hJ.1.box.c1
  exact Rg.aG (Rg.aY (j:=3) (b:=true) rfl (Rg.yld rfl e38)) (by go_simp)
 ·intro ac_ w_ hJ hr
  rw [if_neg (by decide)]
  have e38:=Rg.ev1 (hr 38 (by decide))
  have e39:=Rg.ev1 (hr 39 (by decide))
  have ef:=Rg.ef ac_
  exact Rg.bK (Rg.aY (j:=3) (b:=true) rfl (Rg.yld rfl e38)) (by go_simp) (PV.out _)
 ·intro ac_ w_ hJ hr
  rw [if_neg (by decide)]
  have e38:=Rg.ev1 (hr 38 (by decide))
  have e40:=Rg.ev1 (hr 40 (by decide))
  have ec:=Rg.ec ac_
  exact Rg.aG rfl (by first | (go_simp;done))
 ·intro ac_ w_ hJ hr
  rw [if_pos rfl]
  have e4:ac_.tmps[4]?=some (.pointer (some ⟨w.heap.size+1+1,0,none⟩)):=hr 4 (by decide)
  have e35:=Rg.ev1 (hr 35 (by decide))
  obtain ⟨hJ1,⟨u_,v_,hJ2⟩,hJ3⟩:=hJ
  have e35:ac_.tmps[35]?=some (.agg #[.int .i64 bl,.int .i64 bh]):=Rg.ev1 (hr 35 (by decide))
  have e4:ac_.tmps[4]?=some (.pointer (some ⟨w.heap.size+1+1,0,none⟩)):=hr 4 (by decide)
  have ⟨y0,y1,x0,x1,_⟩:=hJ2.box
  refine ⟨rfl,?_⟩
  unfold Oper.wp
  go_simp
  exact ⟨⟨hJ1.bW (show w4.heap.size≠w.heap.size+1+1 by omega) _ _,⟨_,_,aH.set2 hJ2 _ _⟩,dC hJ3 (by omega) _ _⟩,fun _ _ hb=>(aH.set2 hJ2 _ _).keep hb⟩
 ·intro ac_ w_ hJ hr
  rw [if_neg (by decide)]
  have e36:=Rg.ev1 (hr 36 (by decide))
  exact Rg.aG rfl (by go_simp)
 ·intro ac_ w_ hJ hr
  rw [if_neg (by decide)]
  have e41:=Rg.ev1 (hr 41 (by decide))
  exact Rg.aG rfl (by go_simp)
 intro vals wz hJ2 hv
 have v_8:vals 8=.int .i64 (k:Int):=hv 8 (by decide)
 have v_9:vals 9=.bool (M.aO bl bh):=hv 9 (by decide)
 have hst:=hv 7 (by decide)
 simp only [Rg.am,Rg.fill,Act.put,Nat.reduceAdd]
 clear hv
 simp only [v_8,v_9]
 clear v_8 v_9
 have ⟨y0,y1,x0,x1,_⟩:=aH.box (Rg.aZ hst)
 have B2:=hJ2.2.2
 clear hst hJ2
 go_wp2
 exact bodyPost_ret (v:=.tuple #[.agg #[.int .i64 bl,.int .i64 bh],.int .i64 (k:Int),.bool (M.aO bl bh)]) (by simp [results,Tryz.results71,go_sem, *]) rfl (⟨by rw [hNk.out,hOk.out,hbk.out,hbh.out],B2⟩)
theorem qA (a b X Y E:Int) (w:World) (hg:M.good a b=true) (hX1:-10000≤X) (hX2:X≤10000) (hE1:0≤E) (hE2:E≤20) :
  Calls Tryz.prog 51 #[.agg #[.int .i64 a,.int .i64 b],.agg #[.int .i64 X,.int .i64 Y,.int .i64 E]] w fun e w'=>e=.returned (.tuple #[.agg #[.int .i64 (M.pick (M.bOk a b X E) (M.pn (M.bL a b X E (M.bN a b X E)))),.int .i64 (M.pick (M.bOk a b X E) (M.pd (M.bL a b X E (M.bN a b X E)))),.int .i64 (M.pick (M.bOk a b X E) (M.pn (M.bH a b X E (M.bN a b X E)))),.int .i64 (M.pick (M.bOk a b X E) (M.pd (M.bH a b X E (M.bN a b X E))))],.int .i64 (M.pick (M.bOk a b X E) ((M.bN a b X E:Nat):Int)),.bool (M.bOk a b X E)])∧Below w.heap.size w w':=by
 have P0:=fun W=>ia a b X Y E 0 W hg hX1 hX2 hE1 hE2 (by omega)
 rw [M.s8,show ((0:Nat):Int)=0 from rfl] at P0
 simp only [M.d9] at P0
 have PK:=uh fun (k:Nat) W (hk:k≤5)=>ia a b X Y E k W hg hX1 hX2 hE1 hE2 hk
 have hL0:=uh (show M.hL (M.hC a b) 0 (M.aj a b X E 0)=M.bL a b X E 0 from rfl)
 have hH0:=uh (show M.hH (M.hC a b) 0 (M.aj a b X E 0)=M.bH a b X E 0 from rfl)
 have hin:=M.bE hg
 have hno:=uh fun k hk hs=>M.uI (a:=a) (b:=b) (X:=X) (E:=E) (k:=k) hin hX1 hX2 hE1 hE2 hk hs
 have hss:=uh fun n hn=>M.uR (a:=a) (b:=b) (X:=X) (E:=E) (C:=M.hC a b) (n:=n) (M.lM hin) hn hX1 hX2 hE1 hE2
 have hs0:=uh (show M.aO (M.bL a b X E 0) (M.bH a b X E 0)=true from hss.out 0 (by omega))
 clear hg hin
 rw [hL0.out,hH0.out] at P0
 clear hL0 hH0
 have P0:=uh P0
 have C:=((aH.new w #[.int .i64 a,.int .i64 b] 28).alloc (.cells #[.int .i64 X,.int .i64 Y,.int .i64 E] 45)).alloc (.cells #[.int .i64 0,.int .i64 0,.int .i64 0,.int .i64 0] 42)
 have Q:=(aH.new (w.alloc (.cells #[.int .i64 a,.int .i64 b] 28)) #[.int .i64 X,.int .i64 Y,.int .i64 E] 45).alloc (.cells #[.int .i64 0,.int .i64 0,.int .i64 0,.int .i64 0] 42)
 rw [ui] at Q
 have R:=aH.new ((w.alloc (.cells #[.int .i64 a,.int .i64 b] 28)).alloc (.cells #[.int .i64 X,.int .i64 Y,.int .i64 E] 45)) #[.int .i64 0,.int .i64 0,.int .i64 0,.int .i64 0] 42
 rw [ui,ui] at R
 have B:=(((uk w.heap.size w).alloc (ul _) (.cells #[.int .i64 a,.int .i64 b] 28)).alloc (by rw [ui];omega) (.cells #[.int .i64 X,.int .i64 Y,.int .i64 E] 45)).alloc (by rw [ui,ui];omega) (.cells #[.int .i64 0,.int .i64 0,.int .i64 0,.int .i64 0] 42)
 generalize hw3:((w.alloc (.cells #[.int .i64 a,.int .i64 b] 28)).alloc (.cells #[.int .i64 X,.int .i64 Y,.int .i64 E] 45)).alloc (.cells #[.int .i64 0,.int .i64 0,.int .i64 0,.int .i64 0] 42)=wc at *
 have ⟨q0,q1,q2⟩:=Q.aQ
 have C_c0:=C.box.c0
 have C_c1:=C.box.c1
 have R_c0:=R.aR.c0
 have R_f0:=R.aR.f0
 have R_c1:=R.aR.c1
 have R_f1:=R.aR.f1
 have R_c2:=R.aR.c2
 have R_f2:=R.aR.f2
 have R_c3:=R.aR.c3
 have R_f3:=R.aR.f3
 generalize hu1:M.pn (M.bL a b X E 0)=u1 at *
 generalize hu2:M.pd (M.bL a b X E 0)=u2 at *
 generalize hu3:M.pn (M.bH a b X E 0)=u3 at *
 generalize hu4:M.pd (M.bH a b X E 0)=u4 at *
 replace hu1:=uh hu1
 replace hu2:=uh hu2
 replace hu3:=uh hu3
 replace hu4:=uh hu4
 go_enter Tryz.func51,Tryz.ntmps51
 go_wp2_with (go_at_call 66;(with_reducible refine (P0.out _).mono ?_);rintro e w4 ⟨rfl,hb4⟩;(replace C:=C.keep hb4);(replace R:=R.keep hb4);(replace B:=B.trans (hb4.mono B.size));(replace Q:=Q.keep hb4);(have hR8:=uh R.lt);(replace Q:=Q.alloc (.cells #[.int .i64 u1,.int .i64 u2,.int .i64 u3,.int .i64 u4] 42));(have T:=aH.new w4 #[.int .i64 u1,.int .i64 u2,.int .i64 u3,.int .i64 u4] 42);(have b_:=bA w4 (.cells #[.int .i64 u1,.int .i64 u2,.int .i64 u3,.int .i64 u4] 42));(replace C:=C.keep b_);(replace R:=R.keep b_);(replace B:=B.trans (b_.mono B.size));(clear b_);(replace ⟨C_c0,C_c1⟩:=C.b2);(replace ⟨R_c0,R_c1,R_c2,R_c3,R_f0,R_f1,R_f2,R_f3⟩:=R.b4f);(replace ⟨T_c0,T_c1,T_c2,T_c3⟩:=T.b4))
 go_loopw [9] (fun vi wr=>∃ k:Nat,k≤5∧vi=.int .i64 k∧Hid (M.bNf a b X E (5 - k) k=M.bN a b X E)∧Hid (M.aO (M.bL a b X E k) (M.bH a b X E k)=true)∧aH wr w4.heap.size 42 #[.int .i64 (M.pn (M.bL a b X E k)),.int .i64 (M.pd (M.bL a b X E k)),.int .i64 (M.pn (M.bH a b X E k)),.int .i64 (M.pd (M.bH a b X E k))]∧aH wr w.heap.size 28 #[.int .i64 a,.int .i64 b]∧aH wr (w.heap.size+1) 45 #[.int .i64 X,.int .i64 Y,.int .i64 E]∧aH wr (w.heap.size+1+1) 42 #[.int .i64 0,.int .i64 0,.int .i64 0,.int .i64 0]∧Below w.heap.size w wr) (fun vi _=>5 - (intOf vi).toNat)
 case atStart=>exact ⟨0,by omega,rfl,uh rfl,hs0,by rw [hu1.out,hu2.out,hu3.out,hu4.out];exact T,C,Q,R,B⟩
 case round=>
 clear C Q R B T P0 C_c0 C_c1 R_c0 R_c1 R_c2 R_c3 R_f0 R_f1 R_f2 R_f3 T_c0 T_c1 T_c2 T_c3 q0 q1 q2 hu1 hu2 hu3 hu4 hs0
 have hR9:=hR8.out
 obtain ⟨k,hk,rfl,hN,hsk,T,C,Q,R,B⟩:=hrel
 have eL:M.bL a b X E (k+1)=max (M.bL a b X E k) (M.hL (M.hC a b) (k+1) (M.aj a b X E (k+1))):=rfl
 have eH:M.bH a b X E (k+1)=min (M.bH a b X E k) (M.hH (M.hC a b) (k+1) (M.aj a b X E (k+1))):=rfl
 have eL:=uh eL
 have eH:=uh eH
 generalize hbk:M.bL a b X E k=bl at *
 generalize hbh:M.bH a b X E k=bh at *
 replace hbk:=uh hbk
 replace hbh:=uh hbh
 have C_c0:=C.box.c0
 have C_c1:=C.box.c1
 have ⟨q0,q1,q2⟩:=Q.aQ
 have T_c0:=T.aR.c0
 have T_c1:=T.aR.c1
 have T_c2:=T.aR.c2
 have T_c3:=T.aR.c3
 have T_f0:=T.aR.f0
 have T_f1:=T.aR.f1
 have T_f2:=T.aR.f2
 have T_f3:=T.aR.f3
 have R_c0:=R.aR.c0
 have R_c1:=R.aR.c1
 have R_c2:=R.aR.c2
 have R_c3:=R.aR.c3
 have R_f0:=R.aR.f0
 have R_f1:=R.aR.f1
 have R_f2:=R.aR.f2
 have R_f3:=R.aR.f3
 by_cases hlt:k<5
 ·have P1:=fun W=>PK.out (k+1) W (by omega)
  have hNs:M.bNf a b X E (5 - k) k=if M.isOk (M.aj a b X E (k+1))=true then M.bNf a b X E (5 - (k+1)) (k+1) else k:=by
   rw [show 5 - k=(5 - (k+1))+1 by omega];rfl
  have hsn:=hss.out (k+1) (by omega)
  generalize M.hL (M.hC a b) (k+1) (M.aj a b X E (k+1))=hl at *
  generalize M.hH (M.hC a b) (k+1) (M.aj a b X E (k+1))=hh at *
  have hk1:=uh (show ((k+1:Nat):Int)=(k:Int)+1 by omega)
  rw [hk1.out] at P1
  cases hok:M.isOk (M.aj a b X E (k+1)) with
  | false=>
   rw [hok,if_neg (by decide)] at hNs
   have hNk:=uh (show M.bN a b X E=k by rw [←hN.out,hNs])
   rw [hok] at P1
   simp only [M.fE] at P1
   have hOk:=uh (show M.bOk a b X E=true by unfold M.bOk;rw [hNk.out,hbk.out,hbh.out];exact hsk.out)
   clear hNs hok hN eL eH hsn
   have P1:=uh P1
   generalize t1h:M.pn (bl)=t1 at *
   replace t1h:=uh t1h
   generalize t2h:M.pd (bl)=t2 at *
   replace t2h:=uh t2h
   generalize t3h:M.pn (bh)=t3 at *
   replace t3h:=uh t3h
   generalize t4h:M.pd (bh)=t4 at *
   replace t4h:=uh t4h
   go_wp2_with (go_at_call 66;(with_reducible refine (P1.out _).mono ?_);rintro e w5 ⟨rfl,hb5⟩;(replace C:=C.keep hb5);(replace R:=R.keep hb5);(replace T:=T.keep hb5);(replace B:=B.trans (hb5.mono B.size));(replace Q:=Q.keep hb5);(replace Q:=Q.alloc (.cells #[.int .i64 0,.int .i64 0,.int .i64 0,.int .i64 0] 42));(have S:=aH.new w5 #[.int .i64 0,.int .i64 0,.int .i64 0,.int .i64 0] 42);(have b_:=bA w5 (.cells #[.int .i64 0,.int .i64 0,.int .i64 0,.int .i64 0] 42));(replace C:=C.keep b_);(replace R:=R.keep b_);(replace T:=T.keep b_);(replace B:=B.trans (b_.mono B.size));(clear b_);(replace ⟨C_c0,C_c1⟩:=C.b2);(replace ⟨R_c0,R_c1,R_c2,R_c3,R_f0,R_f1,R_f2,R_f3⟩:=R.b4f);(replace ⟨T_c0,T_c1,T_c2,T_c3⟩:=T.b4);(replace ⟨S_c0,S_c1,S_c2,S_c3⟩:=S.b4))
   exact bodyPost_ret (v:=.tuple #[.agg #[.int .i64 t1,.int .i64 t2,.int .i64 t3,.int .i64 t4],.int .i64 (k:Int),.bool true]) (by simp [results,Tryz.results51,go_sem, *]) rfl (⟨by rw [hNk.out,hOk.out,hbk.out,hbh.out,t1h.out,t2h.out,t3h.out,t4h.out];simp only [M.d9],uj (uj (uj (uj B (by simp <;> omega) _) (by simp <;> omega) _) (by simp <;> omega) _) (by simp <;> omega) _⟩)
  | true=>
  rw [hok,if_pos rfl] at hNs
  have hN2:=uh (hNs.symm.trans hN.out)
  rw [hok] at P1
  simp only [M.d9] at P1
  have PC:=fun W=>jv bl bh hl hh W hsk.out hsn
  clear hNs hok hN
  have P1:=uh P1
  have hse:=uh (show M.aO (M.bL a b X E (k+1)) (M.bH a b X E (k+1))=M.aO (max bl hl) (min bh hh) by rw [eL.out,eH.out])
  cases hs:M.aO (max bl hl) (min bh hh) with
  | false=>
   have hOk:=uh (show M.bOk a b X E=false from hno.out (k+1) (by have:=M.pu (a:=a) (b:=b) (X:=X) (E:=E) (5 - (k+1)) (k+1);rw [hN2.out] at this;exact this) (by rw [hse.out];exact hs))
   rw [hs] at PC
   simp only [M.fE] at PC
   clear hs hse
   have PC:=uh PC
   generalize t1h:M.pn (bl)=t1 at *
   replace t1h:=uh t1h
   generalize t2h:M.pd (bl)=t2 at *
   replace t2h:=uh t2h
   generalize t3h:M.pn (bh)=t3 at *
   replace t3h:=uh t3h
   generalize t4h:M.pd (bh)=t4 at *
   replace t4h:=uh t4h
   generalize y1h:M.pn (hl)=y1 at *
   replace y1h:=uh y1h
   generalize y2h:M.pd (hl)=y2 at *
   replace y2h:=uh y2h
   generalize y3h:M.pn (hh)=y3 at *
   replace y3h:=uh y3h
   generalize y4h:M.pd (hh)=y4 at *
   replace y4h:=uh y4h
   go_wp2_with (first
    | (go_at_call 66;(with_reducible refine (P1.out _).mono ?_);rintro e w5 ⟨rfl,hb5⟩;(replace C:=C.keep hb5);(replace R:=R.keep hb5);(replace T:=T.keep hb5);(replace B:=B.trans (hb5.mono B.size));(replace Q:=Q.keep hb5);(replace Q:=Q.alloc (.cells #[.int .i64 y1,.int .i64 y2,.int .i64 y3,.int .i64 y4] 42));(have S:=aH.new w5 #[.int .i64 y1,.int .i64 y2,.int .i64 y3,.int .i64 y4] 42);(have b_:=bA w5 (.cells #[.int .i64 y1,.int .i64 y2,.int .i64 y3,.int .i64 y4] 42));(replace C:=C.keep b_);(replace R:=R.keep b_);(replace T:=T.keep b_);(replace B:=B.trans (b_.mono B.size));(clear b_);(replace ⟨C_c0,C_c1⟩:=C.b2);(replace ⟨R_c0,R_c1,R_c2,R_c3,R_f0,R_f1,R_f2,R_f3⟩:=R.b4f);(replace ⟨T_c0,T_c1,T_c2,T_c3,T_f0,T_f1,T_f2,T_f3⟩:=T.b4f);(replace ⟨S_c0,S_c1,S_c2,S_c3⟩:=S.b4))
    | (go_at_call 67;(with_reducible refine (PC.out _).mono ?_);rintro e w6 ⟨rfl,hb6⟩;(replace C:=C.keep hb6);(replace R:=R.keep hb6);(replace T:=T.keep hb6);(replace S:=S.keep hb6);(replace B:=B.trans (hb6.mono B.size));(replace Q:=Q.keep hb6);(replace Q:=Q.alloc (.cells #[.int .i64 0,.int .i64 0,.int .i64 0,.int .i64 0] 42));(have O:=aH.new w6 #[.int .i64 0,.int .i64 0,.int .i64 0,.int .i64 0] 42);(have b_:=bA w6 (.cells #[.int .i64 0,.int .i64 0,.int .i64 0,.int .i64 0] 42));(replace C:=C.keep b_);(replace R:=R.keep b_);(replace T:=T.keep b_);(replace S:=S.keep b_);(replace B:=B.trans (b_.mono B.size));(clear b_);(replace ⟨C_c0,C_c1⟩:=C.b2);(replace ⟨R_c0,R_c1,R_c2,R_c3,R_f0,R_f1,R_f2,R_f3⟩:=R.b4f);(replace ⟨T_c0,T_c1,T_c2,T_c3,T_f0,T_f1,T_f2,T_f3⟩:=T.b4f);(replace ⟨S_c0,S_c1,S_c2,S_c3⟩:=S.b4);(replace ⟨O_c0,O_c1,O_c2,O_c3⟩:=O.b4)))
   exact bodyPost_ret (v:=.tuple #[.agg #[.int .i64 0,.int .i64 0,.int .i64 0,.int .i64 0],.int .i64 0,.bool false]) (by simp [results,Tryz.results51,go_sem, *]) rfl (⟨by rw [hOk.out];simp only [M.fE],uj (uj (uj (uj B (by simp <;> omega) _) (by simp <;> omega) _) (by simp <;> omega) _) (by simp <;> omega) _⟩)
  | true=>
  have hs2:=uh (hse.out.trans hs)
  rw [hs] at PC
  simp only [M.d9] at PC
  clear hs hse
  have PC:=uh PC
  generalize t1h:M.pn (bl)=t1 at *
  replace t1h:=uh t1h
  generalize t2h:M.pd (bl)=t2 at *
  replace t2h:=uh t2h
  generalize t3h:M.pn (bh)=t3 at *
  replace t3h:=uh t3h
  generalize t4h:M.pd (bh)=t4 at *
  replace t4h:=uh t4h
  generalize y1h:M.pn (hl)=y1 at *
  replace y1h:=uh y1h
  generalize y2h:M.pd (hl)=y2 at *
  replace y2h:=uh y2h
  generalize y3h:M.pn (hh)=y3 at *
  replace y3h:=uh y3h
  generalize y4h:M.pd (hh)=y4 at *
  replace y4h:=uh y4h
  generalize z1h:M.pn (max bl hl)=z1 at *
  replace z1h:=uh z1h
  generalize z2h:M.pd (max bl hl)=z2 at *
  replace z2h:=uh z2h
  generalize z3h:M.pn (min bh hh)=z3 at *
  replace z3h:=uh z3h
  generalize z4h:M.pd (min bh hh)=z4 at *
  replace z4h:=uh z4h
  go_wp2_with (first
   | (go_at_call 66;(with_reducible refine (P1.out _).mono ?_);rintro e w5 ⟨rfl,hb5⟩;(replace C:=C.keep hb5);(replace R:=R.keep hb5);(replace T:=T.keep hb5);(replace B:=B.trans (hb5.mono B.size));(replace Q:=Q.keep hb5);(replace Q:=Q.alloc (.cells #[.int .i64 y1,.int .i64 y2,.int .i64 y3,.int .i64 y4] 42));(have S:=aH.new w5 #[.int .i64 y1,.int .i64 y2,.int .i64 y3,.int .i64 y4] 42);(have b_:=bA w5 (.cells #[.int .i64 y1,.int .i64 y2,.int .i64 y3,.int .i64 y4] 42));(replace C:=C.keep b_);(replace R:=R.keep b_);(replace T:=T.keep b_);(replace B:=B.trans (b_.mono B.size));(clear b_);(replace ⟨C_c0,C_c1⟩:=C.b2);(replace ⟨R_c0,R_c1,R_c2,R_c3,R_f0,R_f1,R_f2,R_f3⟩:=R.b4f);(replace ⟨T_c0,T_c1,T_c2,T_c3,T_f0,T_f1,T_f2,T_f3⟩:=T.b4f);(replace ⟨S_c0,S_c1,S_c2,S_c3⟩:=S.b4))
   | (go_at_call 67;(with_reducible refine (PC.out _).mono ?_);rintro e w6 ⟨rfl,hb6⟩;(replace C:=C.keep hb6);(replace R:=R.keep hb6);(replace T:=T.keep hb6);(replace S:=S.keep hb6);(replace B:=B.trans (hb6.mono B.size));(replace Q:=Q.keep hb6);(replace Q:=Q.alloc (.cells #[.int .i64 z1,.int .i64 z2,.int .i64 z3,.int .i64 z4] 42));(have O:=aH.new w6 #[.int .i64 z1,.int .i64 z2,.int .i64 z3,.int .i64 z4] 42);(have b_:=bA w6 (.cells #[.int .i64 z1,.int .i64 z2,.int .i64 z3,.int .i64 z4] 42));(replace C:=C.keep b_);(replace R:=R.keep b_);(replace T:=T.keep b_);(replace S:=S.keep b_);(replace B:=B.trans (b_.mono B.size));(clear b_);(replace ⟨C_c0,C_c1⟩:=C.b2);(replace ⟨R_c0,R_c1,R_c2,R_c3,R_f0,R_f1,R_f2,R_f3⟩:=R.b4f);(replace ⟨T_c0,T_c1,T_c2,T_c3,T_f0,T_f1,T_f2,T_f3⟩:=T.b4f);(replace ⟨S_c0,S_c1,S_c2,S_c3⟩:=S.b4);(replace ⟨O_c0,O_c1,O_c2,O_c3⟩:=O.b4)))
  go_roundw
  case rel=>exact ⟨k+1,by omega,by go_num,hN2,hs2,by rw [eL.out,eH.out,z1h.out,z2h.out,z3h.out,z4h.out];exact aH.pS T _ _ _ _,(((C.other (show w.heap.size≠w4.heap.size by omega) _).other (show w.heap.size≠w4.heap.size by omega) _).other (show w.heap.size≠w4.heap.size by omega) _).other (show w.heap.size≠w4.heap.size by omega) _,(((Q.other (show w.heap.size+1≠w4.heap.size by omega) _).other (show w.heap.size+1≠w4.heap.size by omega) _).other (show w.heap.size+1≠w4.heap.size by omega) _).other (show w.heap.size+1≠w4.heap.size by omega) _,(((R.other (show w.heap.size+1+1≠w4.heap.size by omega) _).other (show w.heap.size+1+1≠w4.heap.size by omega) _).other (show w.heap.size+1+1≠w4.heap.size by omega) _).other (show w.heap.size+1+1≠w4.heap.size by omega) _,uj (uj (uj (uj B (by simp <;> omega) _) (by simp <;> omega) _) (by simp <;> omega) _) (by simp <;> omega) _⟩
  case measure=>simp [intOf] <;> omega
 obtain rfl:k=5:=by omega
 have hNk:=uh (show M.bN a b X E=5 by rw [←hN.out];rfl)
 have hOk:=uh (show M.bOk a b X E=true by unfold M.bOk;rw [hNk.out,hbk.out,hbh.out];exact hsk.out)
 clear hN PK eL eH
 obtain ⟨k,hk5⟩:∃ k:Nat,k=5:=⟨5,rfl⟩
 rw [←hk5] at hNk hbk hbh
 have hk6:=uh (show (k:Int)=5 by omega)
 clear hk5
 generalize t1h:M.pn (bl)=t1 at *
 replace t1h:=uh t1h
 generalize t2h:M.pd (bl)=t2 at *
 replace t2h:=uh t2h
 generalize t3h:M.pn (bh)=t3 at *
 replace t3h:=uh t3h
 generalize t4h:M.pd (bh)=t4 at *
 replace t4h:=uh t4h
 go_wp2
 exact bodyPost_ret (v:=.tuple #[.agg #[.int .i64 t1,.int .i64 t2,.int .i64 t3,.int .i64 t4],.int .i64 5,.bool true]) (by simp [results,Tryz.results51,go_sem, *]) rfl (⟨by rw [hNk.out,hOk.out,hk6.out,hbk.out,hbh.out,t1h.out,t2h.out,t3h.out,t4h.out];simp only [M.d9],uj (uj (uj (uj B (by simp <;> omega) _) (by simp <;> omega) _) (by simp <;> omega) _) (by simp <;> omega) _⟩)
theorem mc (a b X Y E:Int) (w:World) (hg:M.good a b=true) (hX1:-10000≤X) (hX2:X≤10000) (hE1:0≤E) (hE2:E≤20) :
  Calls Tryz.prog 30 #[.agg #[.int .i64 a,.int .i64 b],.agg #[.int .i64 X,.int .i64 Y,.int .i64 E]] w fun e w'=>e=.returned (.tuple #[.agg #[.int .i64 (M.pick (M.bOk a b X E) (M.pn (M.bL a b X E (M.bN a b X E)))),.int .i64 (M.pick (M.bOk a b X E) (M.pd (M.bL a b X E (M.bN a b X E)))),.int .i64 (M.pick (M.bOk a b X E) (M.pn (M.bH a b X E (M.bN a b X E)))),.int .i64 (M.pick (M.bOk a b X E) (M.pd (M.bH a b X E (M.bN a b X E))))],.bool (M.bOk a b X E)])∧Below w.heap.size w w':=by
 have P1:=fun W=>qA a b X Y E W hg hX1 hX2 hE1 hE2
 generalize M.pick (M.bOk a b X E) (M.pn (M.bL a b X E (M.bN a b X E)))=p1 at *
 generalize M.pick (M.bOk a b X E) (M.pd (M.bL a b X E (M.bN a b X E)))=p2 at *
 generalize M.pick (M.bOk a b X E) (M.pn (M.bH a b X E (M.bN a b X E)))=p3 at *
 generalize M.pick (M.bOk a b X E) (M.pd (M.bH a b X E (M.bN a b X E)))=p4 at *
 generalize M.pick (M.bOk a b X E) ((M.bN a b X E:Nat):Int)=nn at *
 generalize M.bOk a b X E=s at *
 have P1:=uh P1
 have C:=((aH.new w #[.int .i64 a,.int .i64 b] 28).alloc (.cells #[.int .i64 X,.int .i64 Y,.int .i64 E] 45)).alloc (.cells #[.int .i64 0,.int .i64 0,.int .i64 0,.int .i64 0] 42)
 have Q:=(aH.new (w.alloc (.cells #[.int .i64 a,.int .i64 b] 28)) #[.int .i64 X,.int .i64 Y,.int .i64 E] 45).alloc (.cells #[.int .i64 0,.int .i64 0,.int .i64 0,.int .i64 0] 42)
 rw [ui] at Q
 have R:=aH.new ((w.alloc (.cells #[.int .i64 a,.int .i64 b] 28)).alloc (.cells #[.int .i64 X,.int .i64 Y,.int .i64 E] 45)) #[.int .i64 0,.int .i64 0,.int .i64 0,.int .i64 0] 42
 rw [ui,ui] at R
 have B:=(((uk w.heap.size w).alloc (ul _) (.cells #[.int .i64 a,.int .i64 b] 28)).alloc (by rw [ui];omega) (.cells #[.int .i64 X,.int .i64 Y,.int .i64 E] 45)).alloc (by rw [ui,ui];omega) (.cells #[.int .i64 0,.int .i64 0,.int .i64 0,.int .i64 0] 42)
 generalize hw3:((w.alloc (.cells #[.int .i64 a,.int .i64 b] 28)).alloc (.cells #[.int .i64 X,.int .i64 Y,.int .i64 E] 45)).alloc (.cells #[.int .i64 0,.int .i64 0,.int .i64 0,.int .i64 0] 42)=wc at *
 have ⟨q0,q1,q2⟩:=Q.aQ
 have C_c0:=C.box.c0
 have C_c1:=C.box.c1
 go_enter Tryz.func30,Tryz.ntmps30
 go_wp2_with (go_at_call 51;(with_reducible refine (P1.out _).mono ?_);rintro e w4 ⟨rfl,hb4⟩;(replace C:=C.keep hb4);(replace R:=R.keep hb4);(replace B:=B.trans (hb4.mono B.size));(have T:=aH.new w4 #[.int .i64 p1,.int .i64 p2,.int .i64 p3,.int .i64 p4] 42);(have b_:=bA w4 (.cells #[.int .i64 p1,.int .i64 p2,.int .i64 p3,.int .i64 p4] 42));(replace C:=C.keep b_);(replace R:=R.keep b_);(replace B:=B.trans (b_.mono B.size));(clear b_);(replace ⟨C_c0,C_c1⟩:=C.b2);(replace ⟨R_c0,R_c1,R_c2,R_c3,R_f0,R_f1,R_f2,R_f3⟩:=R.b4f);(replace ⟨T_c0,T_c1,T_c2,T_c3⟩:=T.b4))
 exact bodyPost_ret (v:=.tuple #[.agg #[.int .i64 p1,.int .i64 p2,.int .i64 p3,.int .i64 p4],.bool s]) (by simp [results,Tryz.results30,go_sem, *]) rfl (⟨rfl,uj (uj (uj (uj B (by simp <;> omega) _) (by simp <;> omega) _) (by simp <;> omega) _) (by simp <;> omega) _⟩)
namespace M
def cv (a b x e:Int):Int:=x*x*x+a*x*e*e*e*e+b*e*e*e*e*e*e
def bR (a b X Y E:Int):Bool:=if E=0 then decide (X=0) && decide (Y=0) else M.ins X (-10000) 10000 && M.ins E 1 20 && (M.gcd X E == 1) && decide (Y*Y=cv a b X E)
theorem qH (a b x e:Int):x*x*x+a*x*(e*e)*(e*e)+b*(e*e)*(e*e)*(e*e)=cv a b x e:=by unfold cv;grind
end M
theorem f8 (a b x e:Int) (w:World) (ha1:-1000≤a) (ha2:a≤1000) (hb1:-10000≤b) (hb2:b≤10000) (hx1:-10000≤x) (hx2:x≤10000) (he1:-20≤e) (he2:e≤20) :
  Calls Tryz.prog 58 #[.agg #[.int .i64 a,.int .i64 b],.int .i64 x,.int .i64 e] w fun e' w'=>e'=.returned (.int .i64 (M.cv a b x e))∧Below w.heap.size w w':=by
 have sb1:=M.aL (x:=x) (y:=x) (m:=10000) (n:=10000) (by omega) (by omega) (by omega) (by omega)
 have sb2:=M.aL (x:=x*x) (y:=x) (m:=100000000) (n:=10000) (by omega) (by omega) (by omega) (by omega)
 have sb3:=M.aL (x:=a) (y:=x) (m:=1000) (n:=10000) (by omega) (by omega) (by omega) (by omega)
 have sb4:=M.aL (x:=a*x) (y:=e) (m:=10000000) (n:=20) (by omega) (by omega) (by omega) (by omega)
 have sb5:=M.aL (x:=a*x*e) (y:=e) (m:=200000000) (n:=20) (by omega) (by omega) (by omega) (by omega)
 have sb6:=M.aL (x:=a*x*e*e) (y:=e) (m:=4000000000) (n:=20) (by omega) (by omega) (by omega) (by omega)
 have sb7:=M.aL (x:=a*x*e*e*e) (y:=e) (m:=80000000000) (n:=20) (by omega) (by omega) (by omega) (by omega)
 have sb8:=M.aL (x:=b) (y:=e) (m:=10000) (n:=20) (by omega) (by omega) (by omega) (by omega)
 have sb9:=M.aL (x:=b*e) (y:=e) (m:=200000) (n:=20) (by omega) (by omega) (by omega) (by omega)
 have sb10:=M.aL (x:=b*e*e) (y:=e) (m:=4000000) (n:=20) (by omega) (by omega) (by omega) (by omega)
 have sb11:=M.aL (x:=b*e*e*e) (y:=e) (m:=80000000) (n:=20) (by omega) (by omega) (by omega) (by omega)
 have sb12:=M.aL (x:=b*e*e*e*e) (y:=e) (m:=1600000000) (n:=20) (by omega) (by omega) (by omega) (by omega)
 have sb13:=M.aL (x:=b*e*e*e*e*e) (y:=e) (m:=32000000000) (n:=20) (by omega) (by omega) (by omega) (by omega)
 have hcv:=uh (M.qH a b x e)
 go_enter Tryz.func58,Tryz.ntmps58
 go_wp2
 go_ret
 exact ⟨by rfl,(by repeat (first | exact uk _ _ | refine aP ?_ _ | refine aS ?_ (by assumption) | refine Below.drew ?_ | refine uj ?_ (by first | exact ul _ | exact Nat.le_add_right _ _ | (simp <;> omega)) _ | refine aK ?_ _))⟩
theorem pO (a b x e:Int) (w:World) (ha1:-1000≤a) (ha2:a≤1000) (hb1:-10000≤b) (hb2:b≤10000) (hx1:-10000≤x) (hx2:x≤10000) (he1:-20≤e) (he2:e≤20) :
  Calls Tryz.prog 47 #[.agg #[.int .i64 a,.int .i64 b],.int .i64 x,.int .i64 e] w fun e' w'=>e'=.returned (.int .i64 (M.cv a b x e))∧Below w.heap.size w w':=by
 have sb14:=M.aL (x:=x) (y:=x) (m:=10000) (n:=10000) (by omega) (by omega) (by omega) (by omega)
 have sb15:=M.aL (x:=x*x) (y:=x) (m:=100000000) (n:=10000) (by omega) (by omega) (by omega) (by omega)
 have sb16:=M.aL (x:=a) (y:=x) (m:=1000) (n:=10000) (by omega) (by omega) (by omega) (by omega)
 have sb17:=M.aL (x:=e) (y:=e) (m:=20) (n:=20) (by omega) (by omega) (by omega) (by omega)
 have sb18:=M.aL (x:=a*x) (y:=e*e) (m:=10000000) (n:=400) (by omega) (by omega) (by omega) (by omega)
 have sb19:=M.aL (x:=a*x*(e*e)) (y:=e*e) (m:=4000000000) (n:=400) (by omega) (by omega) (by omega) (by omega)
 have sb20:=M.aL (x:=b) (y:=e*e) (m:=10000) (n:=400) (by omega) (by omega) (by omega) (by omega)
 have sb21:=M.aL (x:=b*(e*e)) (y:=e*e) (m:=4000000) (n:=400) (by omega) (by omega) (by omega) (by omega)
 have sb22:=M.aL (x:=b*(e*e)*(e*e)) (y:=e*e) (m:=1600000000) (n:=400) (by omega) (by omega) (by omega) (by omega)
 have hcv:=uh (M.qH a b x e)
 go_enter Tryz.func47,Tryz.ntmps47
 go_wp2
 go_ret
 exact ⟨by rw [←hcv.out];rfl,(by repeat (first | exact uk _ _ | refine aP ?_ _ | refine aS ?_ (by assumption) | refine Below.drew ?_ | refine uj ?_ (by first | exact ul _ | exact Nat.le_add_right _ _ | (simp <;> omega)) _ | refine aK ?_ _))⟩
theorem M.kx {a b x e:Int} (ha1:-1000≤a) (ha2:a≤1000) (hb1:-10000≤b) (hb2:b≤10000) (hx1:-10000≤x) (hx2:x≤10000) (he1:-20≤e) (he2:e≤20):-4000000000000≤M.cv a b x e∧M.cv a b x e≤4000000000000:=by
 have sb23:=M.aL (x:=x) (y:=x) (m:=10000) (n:=10000) (by omega) (by omega) (by omega) (by omega)
 have sb24:=M.aL (x:=x*x) (y:=x) (m:=100000000) (n:=10000) (by omega) (by omega) (by omega) (by omega)
 have sb25:=M.aL (x:=a) (y:=x) (m:=1000) (n:=10000) (by omega) (by omega) (by omega) (by omega)
 have sb26:=M.aL (x:=a*x) (y:=e) (m:=10000000) (n:=20) (by omega) (by omega) (by omega) (by omega)
 have sb27:=M.aL (x:=a*x*e) (y:=e) (m:=200000000) (n:=20) (by omega) (by omega) (by omega) (by omega)
 have sb28:=M.aL (x:=a*x*e*e) (y:=e) (m:=4000000000) (n:=20) (by omega) (by omega) (by omega) (by omega)
 have sb29:=M.aL (x:=a*x*e*e*e) (y:=e) (m:=80000000000) (n:=20) (by omega) (by omega) (by omega) (by omega)
 have sb30:=M.aL (x:=b) (y:=e) (m:=10000) (n:=20) (by omega) (by omega) (by omega) (by omega)
 have sb31:=M.aL (x:=b*e) (y:=e) (m:=200000) (n:=20) (by omega) (by omega) (by omega) (by omega)
 have sb32:=M.aL (x:=b*e*e) (y:=e) (m:=4000000) (n:=20) (by omega) (by omega) (by omega) (by omega)
 have sb33:=M.aL (x:=b*e*e*e) (y:=e) (m:=80000000) (n:=20) (by omega) (by omega) (by omega) (by omega)
 have sb34:=M.aL (x:=b*e*e*e*e) (y:=e) (m:=1600000000) (n:=20) (by omega) (by omega) (by omega) (by omega)
 have sb35:=M.aL (x:=b*e*e*e*e*e) (y:=e) (m:=32000000000) (n:=20) (by omega) (by omega) (by omega) (by omega)
 unfold M.cv
 omega
theorem M.sv {Y v:Int} (h:Y*Y=v) (hv:v≤4000000000000):-3000000≤Y∧Y≤3000000:=by
 constructor
 ·rcases Int.lt_or_le Y (-3000000) with q | q
  ·have:=Int.mul_le_mul (a:=3000000) (b:=3000000) (c:=-Y) (d:=-Y) (by omega) (by omega) (by omega) (by omega)
   rw [Int.neg_mul_neg] at this
   omega
  exact q
 rcases Int.lt_or_le 3000000 Y with q | q
 ·have:=Int.mul_le_mul (a:=3000000) (b:=3000000) (c:=Y) (d:=Y) (by omega) (by omega) (by omega) (by omega)
  omega
 exact q
theorem ov (a b X Y E:Int) (w:World) :
  Calls Tryz.prog 39 #[.agg #[.int .i64 a,.int .i64 b],.agg #[.int .i64 X,.int .i64 Y,.int .i64 E]] w fun e w'=>e=.returned (.bool (M.good a b && M.bR a b X Y E))∧Below w.heap.size w w':=by
 have PC:=fun W=>jb a b W
 have PI:=uh fun n lo hi W=>cr n lo hi W
 have C:=(aH.new w #[.int .i64 a,.int .i64 b] 28).alloc (.cells #[.int .i64 X,.int .i64 Y,.int .i64 E] 45)
 have Q:=(aH.new (w.alloc (.cells #[.int .i64 a,.int .i64 b] 28)) #[.int .i64 X,.int .i64 Y,.int .i64 E] 45)
 rw [ui] at Q
 have B:=((uk w.heap.size w).alloc (ul _) (.cells #[.int .i64 a,.int .i64 b] 28)).alloc (by rw [ui];omega) (.cells #[.int .i64 X,.int .i64 Y,.int .i64 E] 45)
 generalize hw3:(w.alloc (.cells #[.int .i64 a,.int .i64 b] 28)).alloc (.cells #[.int .i64 X,.int .i64 Y,.int .i64 E] 45)=wc at *
 have ⟨q0,q1,q2⟩:=Q.aQ
 have C_c0:=C.box.c0
 have C_c1:=C.box.c1
 cases hgd:M.good a b with
 | false=>
  rw [hgd] at PC
  have PC:=uh PC
  go_enter Tryz.func39,Tryz.ntmps39
  go_wp2_with (go_at_call 35;(with_reducible refine (PC.out _).mono ?_);rintro e w4 ⟨rfl,hb4⟩;(replace C:=C.keep hb4);(replace B:=B.trans (hb4.mono B.size));(replace Q:=Q.keep hb4);(have ⟨z0,z1,z2⟩:=Q.aQ);(replace ⟨C_c0,C_c1⟩:=C.b2))
  go_ret
  exact ⟨rfl,B⟩
 | true=>
 obtain ⟨ha1,ha2,hb1,hb2⟩:=M.ah (M.bE hgd)
 rw [hgd] at PC
 have PC:=uh PC
 clear hgd
 rw [Bool.true_and]
 by_cases hE:E=0
 ·by_cases hX:X=0
  ·by_cases hY:Y=0
   ·subst hE hX hY
    go_enter Tryz.func39,Tryz.ntmps39
    go_wp2_with (go_at_call 35;(with_reducible refine (PC.out _).mono ?_);rintro e w4 ⟨rfl,hb4⟩;(replace C:=C.keep hb4);(replace B:=B.trans (hb4.mono B.size));(replace Q:=Q.keep hb4);(have ⟨z0,z1,z2⟩:=Q.aQ);(replace ⟨C_c0,C_c1⟩:=C.b2))
    go_ret
    exact ⟨rfl,B⟩
   have hres:=uh (show M.bR a b X Y E=false by unfold M.bR;rw [if_pos hE];simp [hY])
   have hi:=uh (show M.ins E 1 20=false by unfold M.ins;simp;omega)
   subst hE hX
   rw [hres.out]
   have PE:=fun W=>PI.out 0 1 20 W
   rw [hi.out] at PE
   have PE:=uh PE
   have hi2:=uh (show M.ins 0 (-10000) 10000=true by decide)
   have PX:=fun W=>PI.out 0 (-10000) 10000 W
   rw [hi2.out] at PX
   have PX:=uh PX
   clear PI
   go_enter Tryz.func39,Tryz.ntmps39
   go_wp2_with (first
    | (go_at_call 35;(with_reducible refine (PC.out _).mono ?_);rintro e w4 ⟨rfl,hb4⟩;(replace C:=C.keep hb4);(replace B:=B.trans (hb4.mono B.size));(replace Q:=Q.keep hb4);(have ⟨z0,z1,z2⟩:=Q.aQ);(replace ⟨C_c0,C_c1⟩:=C.b2))
    | (go_at_call 36;first | ((with_reducible refine (PX.out _).mono ?_);rintro e w6 ⟨rfl,rfl⟩) | ((with_reducible refine (PE.out _).mono ?_);rintro e w6 ⟨rfl,rfl⟩)))
   go_ret
   exact ⟨rfl,B⟩
  have hX0:(X == 0)=false:=by rw [beq_eq_false_iff_ne];exact hX
  subst hE
  have hres0:(M.ins X (-10000) 10000=false∨M.ins 0 1 20=false)→M.bR a b X Y 0=false:=fun _=>by unfold M.bR;rw [if_pos rfl];simp [hX]
  have hE0:M.ins 0 1 20=false:=by decide
  have P1:=fun W=>PI.out X (-10000) 10000 W
  have P2:=fun W=>PI.out 0 1 20 W
  have P4:=fun W=>PI.out Y (-3000000) 3000000 W
  have hgb:=fun h=>M.el (n:=X) (lo:=-10000) (hi:=10000) h
  have hge:=fun h=>M.el (n:=0) (lo:=1) (hi:=20) h
  have hyb:=fun h=>M.sv (Y:=Y) (v:=M.cv a b X 0) h
  have hiy:M.ins Y (-3000000) 3000000=true ↔ (-3000000≤Y∧Y≤3000000):=by unfold M.ins;simp
  generalize M.ins X (-10000) 10000=i1 at *
  generalize M.ins 0 1 20=i2 at *
  generalize M.ins Y (-3000000) 3000000=i4 at *
  clear PI
  cases i1 with
  | false=>
   have hr2:=uh (show M.bR a b X Y 0=false from hres0 (Or.inl rfl))
   rw [hr2.out]
   have P1:=uh P1
   have P2:=uh P2
   have P4:=uh P4
   clear hgb hge hyb hiy hres0
   go_enter Tryz.func39,Tryz.ntmps39
   go_wp2_with (first
    | (go_at_call 35;(with_reducible refine (PC.out _).mono ?_);rintro e w4 ⟨rfl,hb4⟩;(replace C:=C.keep hb4);(replace B:=B.trans (hb4.mono B.size));(replace Q:=Q.keep hb4);(have ⟨z0,z1,z2⟩:=Q.aQ);(replace ⟨C_c0,C_c1⟩:=C.b2))
    | (go_at_call 36;first | ((with_reducible refine (P1.out _).mono ?_);rintro e w6 ⟨rfl,rfl⟩) | ((with_reducible refine (P2.out _).mono ?_);rintro e w6 ⟨rfl,rfl⟩) | ((with_reducible refine (P4.out _).mono ?_);rintro e w6 ⟨rfl,rfl⟩)))
   go_ret
   exact ⟨rfl,B⟩
  | true=>
  cases i2 with
  | false=>
   have hr2:=uh (show M.bR a b X Y 0=false from hres0 (Or.inr rfl))
   rw [hr2.out]
   have P1:=uh P1
   have P2:=uh P2
   have P4:=uh P4
   clear hgb hge hyb hiy hres0
   go_enter Tryz.func39,Tryz.ntmps39
   go_wp2_with (first
    | (go_at_call 35;(with_reducible refine (PC.out _).mono ?_);rintro e w4 ⟨rfl,hb4⟩;(replace C:=C.keep hb4);(replace B:=B.trans (hb4.mono B.size));(replace Q:=Q.keep hb4);(have ⟨z0,z1,z2⟩:=Q.aQ);(replace ⟨C_c0,C_c1⟩:=C.b2))
    | (go_at_call 36;first | ((with_reducible refine (P1.out _).mono ?_);rintro e w6 ⟨rfl,rfl⟩) | ((with_reducible refine (P2.out _).mono ?_);rintro e w6 ⟨rfl,rfl⟩) | ((with_reducible refine (P4.out _).mono ?_);rintro e w6 ⟨rfl,rfl⟩)))
   go_ret
   exact ⟨rfl,B⟩
  | true=>exact absurd hE0 (by decide)
 have hE0:(E == 0)=false:=by rw [beq_eq_false_iff_ne];exact hE
 have hpt:M.bR a b X Y E=(M.ins X (-10000) 10000 && M.ins E 1 20 && (M.gcd X E == 1) && decide (Y*Y=M.cv a b X E)):=by unfold M.bR;rw [if_neg hE]
 have hres0:(M.ins X (-10000) 10000=false∨M.ins E 1 20=false)→M.bR a b X Y E=false:=fun h=>by rw [hpt];rcases h with h | h <;> rw [h] <;> simp
 have P1:=fun W=>PI.out X (-10000) 10000 W
 have P2:=fun W=>PI.out E 1 20 W
 have P4:=fun W=>PI.out Y (-3000000) 3000000 W
 have hgb:=fun h=>M.el (n:=X) (lo:=-10000) (hi:=10000) h
 have hge:=fun h=>M.el (n:=E) (lo:=1) (hi:=20) h
 have hyb:=fun h=>M.sv (Y:=Y) (v:=M.cv a b X E) h
 have hiy:M.ins Y (-3000000) 3000000=true ↔ (-3000000≤Y∧Y≤3000000):=by unfold M.ins;simp
 generalize M.ins X (-10000) 10000=i1 at *
 generalize M.ins E 1 20=i2 at *
 generalize M.ins Y (-3000000) 3000000=i4 at *
 clear PI
 cases i1 with
 | false=>
  have hr2:=uh (show M.bR a b X Y E=false from hres0 (Or.inl rfl))
  rw [hr2.out]
  have P1:=uh P1
  have P2:=uh P2
  have P4:=uh P4
  clear hgb hge hyb hiy hres0
  go_enter Tryz.func39,Tryz.ntmps39
  go_wp2_with (first
   | (go_at_call 35;(with_reducible refine (PC.out _).mono ?_);rintro e w4 ⟨rfl,hb4⟩;(replace C:=C.keep hb4);(replace B:=B.trans (hb4.mono B.size));(replace Q:=Q.keep hb4);(have ⟨z0,z1,z2⟩:=Q.aQ);(replace ⟨C_c0,C_c1⟩:=C.b2))
   | (go_at_call 36;first | ((with_reducible refine (P1.out _).mono ?_);rintro e w6 ⟨rfl,rfl⟩) | ((with_reducible refine (P2.out _).mono ?_);rintro e w6 ⟨rfl,rfl⟩) | ((with_reducible refine (P4.out _).mono ?_);rintro e w6 ⟨rfl,rfl⟩)))
  go_ret
  exact ⟨rfl,B⟩
 | true=>
 cases i2 with
 | false=>
  have hr2:=uh (show M.bR a b X Y E=false from hres0 (Or.inr rfl))
  rw [hr2.out]
  have P1:=uh P1
  have P2:=uh P2
  have P4:=uh P4
  clear hgb hge hyb hiy hres0
  go_enter Tryz.func39,Tryz.ntmps39
  go_wp2_with (first
   | (go_at_call 35;(with_reducible refine (PC.out _).mono ?_);rintro e w4 ⟨rfl,hb4⟩;(replace C:=C.keep hb4);(replace B:=B.trans (hb4.mono B.size));(replace Q:=Q.keep hb4);(have ⟨z0,z1,z2⟩:=Q.aQ);(replace ⟨C_c0,C_c1⟩:=C.b2))
   | (go_at_call 36;first | ((with_reducible refine (P1.out _).mono ?_);rintro e w6 ⟨rfl,rfl⟩) | ((with_reducible refine (P2.out _).mono ?_);rintro e w6 ⟨rfl,rfl⟩) | ((with_reducible refine (P4.out _).mono ?_);rintro e w6 ⟨rfl,rfl⟩)))
  go_ret
  exact ⟨rfl,B⟩
 | true=>
 rw [Bool.true_and,Bool.true_and] at hpt
 have hb1:=hgb rfl
 have hb2:=hge rfl
 obtain ⟨x1,x2⟩:=hb1
 obtain ⟨e1,e2⟩:=hb2
 have PG:=uh fun W=>ik X E W (by omega) (by omega) (by omega) (by omega)
 have hcb:=M.kx (a:=a) (b:=b) (x:=X) (e:=E) ha1 ha2 (by omega) (by omega) x1 x2 (by omega) (by omega)
 have PV:=fun W=>f8 a b X E W ha1 ha2 (by omega) (by omega) x1 x2 (by omega) (by omega)
 clear hgb hge hres0
 generalize M.gcd X E=gg at *
 by_cases hg1:gg=1
 ·have hg2:(gg == 1)=true:=by rw [beq_iff_eq];exact hg1
  rw [hg2,Bool.true_and] at hpt
  cases i4 with
  | false=>
   have hr2:=uh (show M.bR a b X Y E=false by rw [hpt];simp only [decide_eq_false_iff_not];intro hyy;have:=hiy.2 (hyb hyy (by omega));cases this)
   rw [hr2.out]
   clear hpt hiy hyb hcb PV
   have P1:=uh P1
   have P2:=uh P2
   have P4:=uh P4
   go_enter Tryz.func39,Tryz.ntmps39
   go_wp2_with (first
    | (go_at_call 35;(with_reducible refine (PC.out _).mono ?_);rintro e w4 ⟨rfl,hb4⟩;(replace C:=C.keep hb4);(replace B:=B.trans (hb4.mono B.size));(replace Q:=Q.keep hb4);(have ⟨z0,z1,z2⟩:=Q.aQ);(replace ⟨C_c0,C_c1⟩:=C.b2))
    | (go_at_call 36;first | ((with_reducible refine (P1.out _).mono ?_);rintro e w6 ⟨rfl,rfl⟩) | ((with_reducible refine (P2.out _).mono ?_);rintro e w6 ⟨rfl,rfl⟩) | ((with_reducible refine (P4.out _).mono ?_);rintro e w6 ⟨rfl,rfl⟩))
    | (go_at_call 57;(refine (PG.out _).mono ?_);rintro e w7 ⟨rfl,m_,rfl⟩))
   go_ret
   exact ⟨rfl,aK B _⟩
  | true=>
  obtain ⟨y1,y2⟩:=hiy.1 rfl
  have hyy:=M.aL (x:=Y) (y:=Y) (m:=3000000) (n:=3000000) (by omega) (by omega) (by omega) (by omega)
  generalize M.cv a b X E=v at *
  have hpt:=uh hpt
  rw [hpt.out]
  clear hiy hyb hcb
  have PV:=uh PV
  have P1:=uh P1
  have P2:=uh P2
  have P4:=uh P4
  go_enter Tryz.func39,Tryz.ntmps39
  go_upto_region 7 with (first
   | (go_at_call 35;(with_reducible refine (PC.out _).mono ?_);rintro e w4 ⟨rfl,hb4⟩;(replace C:=C.keep hb4);(replace B:=B.trans (hb4.mono B.size));(replace Q:=Q.keep hb4);(have ⟨z0,z1,z2⟩:=Q.aQ);(replace ⟨C_c0,C_c1⟩:=C.b2))
   | (go_at_call 36;first | ((with_reducible refine (P1.out _).mono ?_);rintro e w6 ⟨rfl,rfl⟩) | ((with_reducible refine (P2.out _).mono ?_);rintro e w6 ⟨rfl,rfl⟩) | ((with_reducible refine (P4.out _).mono ?_);rintro e w6 ⟨rfl,rfl⟩))
   | (go_at_call 57;(refine (PG.out _).mono ?_);rintro e w7 ⟨rfl,m_,rfl⟩))
  have C2:aH (w4.drewN m_) w.heap.size 28 #[.int .i64 a,.int .i64 b]:=by unfold aH at *;rw [World.heap_drewN];exact C
  have Q2:aH (w4.drewN m_) (w.heap.size+1) 45 #[.int .i64 X,.int .i64 Y,.int .i64 E]:=by unfold aH at *;rw [World.heap_drewN];exact Q
  have B2:=aK B m_
  generalize w4.drewN m_=wd at *
  clear C Q B
  refine Rg.bF 13 [.is (.pointer (some ⟨w.heap.size+1,1,none⟩)),.is (.int .i64 Y),.is (.pointer (some ⟨w.heap.size+1,1,none⟩)),.is (.int .i64 Y),.is (.int .i64 (Y*Y)),.is (.agg #[.int .i64 a,.int .i64 b]),.is (.pointer (some ⟨w.heap.size+1,0,none⟩)),.is (.int .i64 X),.is (.pointer (some ⟨w.heap.size+1,2,none⟩)),.is (.int .i64 E),.is (.int .i64 v),.is (.bool (decide (Y*Y=v))),.is (.bool (decide (Y*Y=v)))] (by kernel_rfl) (by kernel_rfl) (by kernel_rfl) ⟨?_,?_,?_,?_,?_,?_,?_,?_,?_,?_,?_,?_,?_,trivial⟩ ?_
  ·intro _ ac_ w_ hB hr
   have e3:ac_.tmps[3]?=some (.pointer (some ⟨w.heap.size+1,0,none⟩)):=hr 3 (by decide)
   exact Rg.aG rfl (by go_simp)
  ·intro _ ac_ w_ hB hr
   have e35:=Rg.ev1 (hr 35 (by decide))
   have k1:=aE hB Q2.aQ.2.1
   exact Rg.aG rfl (by go_simp)
  ·intro _ ac_ w_ hB hr
   have e3:ac_.tmps[3]?=some (.pointer (some ⟨w.heap.size+1,0,none⟩)):=hr 3 (by decide)
   exact Rg.aG rfl (by go_simp)
  ·intro _ ac_ w_ hB hr
   have e37:=Rg.ev1 (hr 37 (by decide))
   have k1:=aE hB Q2.aQ.2.1
   exact Rg.aG rfl (by go_simp)
  ·intro _ ac_ w_ hB hr
   have e36:=Rg.ev1 (hr 36 (by decide))
   have e38:=Rg.ev1 (hr 38 (by decide))
   exact Rg.aG rfl (by go_simp <;> exact Rg.wo (by omega))
  ·intro _ ac_ w_ hB hr
   have e2:ac_.tmps[2]?=some (.pointer (some ⟨w.heap.size,0,none⟩)):=hr 2 (by decide)
   have k0:=aE hB C2.box.c0
   have k1:=aE hB C2.box.c1
   exact Rg.aG rfl (by go_simp)
  ·intro _ ac_ w_ hB hr
   have e3:ac_.tmps[3]?=some (.pointer (some ⟨w.heap.size+1,0,none⟩)):=hr 3 (by decide)
   exact Rg.aG rfl (by go_simp)
  ·intro _ ac_ w_ hB hr
   have e41:=Rg.ev1 (hr 41 (by decide))
   have k0:=aE hB Q2.aQ.1
   exact Rg.aG rfl (by go_simp)
  ·intro _ ac_ w_ hB hr
   have e3:ac_.tmps[3]?=some (.pointer (some ⟨w.heap.size+1,0,none⟩)):=hr 3 (by decide)
   exact Rg.aG rfl (by go_simp)
  ·intro _ ac_ w_ hB hr
   have e43:=Rg.ev1 (hr 43 (by decide))
   have k2:=aE hB Q2.aQ.2.2
   exact Rg.aG rfl (by go_simp)
  ·intro _ ac_ w_ hB hr
   have e40:=Rg.ev1 (hr 40 (by decide))
   have e42:=Rg.ev1 (hr 42 (by decide))
   have e44:=Rg.ev1 (hr 44 (by decide))
   have ef:=Rg.ef ac_
   exact Rg.bK rfl (by go_simp) (PV.out _)
  ·intro _ ac_ w_ hB hr
   have e39:=Rg.ev1 (hr 39 (by decide))
   have e45:=Rg.ev1 (hr 45 (by decide))
   exact Rg.aG rfl (by go_simp;first | done | rfl | (by_cases hv_:Y*Y=v <;> simp [hv_];done))
  ·intro _ ac_ w_ hB hr
   have e46:=Rg.ev1 (hr 46 (by decide))
   exact Rg.aG rfl (by go_simp)
  intro vals wz hB hv hne
  have v_12:vals 12=.bool (decide (Y*Y=v)):=hv 12 (by decide)
  simp only [Rg.am,Rg.fill,Act.put,Nat.reduceAdd]
  clear hv
  simp only [v_12]
  clear v_12
  unfold Rg.aV
  go_wp2
  go_ret
  exact ⟨rfl,B2.trans (hB.mono B2.size)⟩
 have hg2:(gg == 1)=false:=by rw [beq_eq_false_iff_ne];exact hg1
 have hr2:=uh (show M.bR a b X Y E=false by rw [hpt,hg2];rfl)
 rw [hr2.out]
 clear hpt hiy hyb hcb PV
 have P1:=uh P1
 have P2:=uh P2
 have P4:=uh P4
 go_enter Tryz.func39,Tryz.ntmps39
 go_wp2_with (first
  | (go_at_call 35;(with_reducible refine (PC.out _).mono ?_);rintro e w4 ⟨rfl,hb4⟩;(replace C:=C.keep hb4);(replace B:=B.trans (hb4.mono B.size));(replace Q:=Q.keep hb4);(have ⟨z0,z1,z2⟩:=Q.aQ);(replace ⟨C_c0,C_c1⟩:=C.b2))
  | (go_at_call 36;first | ((with_reducible refine (P1.out _).mono ?_);rintro e w6 ⟨rfl,rfl⟩) | ((with_reducible refine (P2.out _).mono ?_);rintro e w6 ⟨rfl,rfl⟩) | ((with_reducible refine (P4.out _).mono ?_);rintro e w6 ⟨rfl,rfl⟩))
  | (go_at_call 57;(refine (PG.out _).mono ?_);rintro e w7 ⟨rfl,m_,rfl⟩))
 go_ret
 exact ⟨rfl,aK B _⟩
end
end Go.Proofs.YtgfkcoablfjbcaaGreatDoor
