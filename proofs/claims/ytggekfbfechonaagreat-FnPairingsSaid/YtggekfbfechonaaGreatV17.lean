/-
  Joined texts: contracts and plain lemmas.
-/
import Derived.Test.YtggekfbfechonaaGreatV1
import Derived.Test.YtggekfbfechonaaGreatV16
set_option linter.unusedSimpArgs false
set_option linter.unusedVariables false
set_option maxRecDepth 100000
set_option maxHeartbeats 8000000
namespace Go.Proofs.YtggekfbfechonaaGreat
section
open Go.RowKit
def f9 (W:World) (h:Nat):Prop:=∃ X Y E:Int,aH W h 27 #[.int .i64 X,.int .i64 Y,.int .i64 E]
def b8 (S:Nat) (W W':World):Prop:=∀ h,S≤h→f9 W h→f9 W' h
theorem b8.self (S:Nat) (W:World):b8 S W W:=fun _ _ h=>h
theorem b8.below {S:Nat} {W W':World} (hb:Below W.heap.size W W'):b8 S W W':=fun _ _ h=>by
 obtain ⟨X,Y,E,h⟩:=h;exact ⟨X,Y,E,h.keep hb⟩
theorem b8.grown {S g:Nat} {W W':World} (hg:W.grownBy W' (some g)) (hS:g<S):b8 S W W':=fun _ hS2 h=>by
 obtain ⟨X,Y,E,h⟩:=h;exact ⟨X,Y,E,h.aV hg (by omega)⟩
theorem b8.put {S g:Nat} {W:World} (h:f9 W g) (X Y E:Int):b8 S W (((W.setCell ⟨g,0,none⟩ (.int .i64 X)).setCell ⟨g,1,none⟩ (.int .i64 Y)).setCell ⟨g,2,none⟩ (.int .i64 E)):=fun k _ hk=>by
 by_cases e:k=g
 ·subst e
  obtain ⟨X0,Y0,E0,h⟩:=h;exact ⟨X,Y,E,h.pV _ _ _⟩
 obtain ⟨X0,Y0,E0,hk⟩:=hk;exact ⟨X0,Y0,E0,((hk.other e _).other e _).other e _⟩
theorem b8.ir {S g:Nat} {W:World} (h:∃ a b:Int,aH W g 25 #[.int .i64 a,.int .i64 b]) (hT:(25:TypeId)≠27) (X Y:Int):b8 S W ((W.setCell ⟨g,0,none⟩ (.int .i64 X)).setCell ⟨g,1,none⟩ (.int .i64 Y)):=fun k _ hk=>by
 obtain ⟨X0,Y0,E0,hk⟩:=hk
 have e:k≠g:=by
  rintro rfl;obtain ⟨a,b,h⟩:=h;unfold aH at h hk;rw [h] at hk;cases hk
 exact ⟨X0,Y0,E0,(hk.other e _).other e _⟩
def FS (lo hi:Int) (u:Value):Prop:=∃ x:Int,(lo≤x∧x≤hi)∧u=.int .i64 x
def tM (u:Value):Prop:=∃ (X Y E:Int) (q:Bool),u=.tuple #[.agg #[.int .i64 X,.int .i64 Y,.int .i64 E],.bool q]
def nW (u:Value):Prop:=∃ X Y E:Int,u=.agg #[.int .i64 X,.int .i64 Y,.int .i64 E]
def oP (u:Value):Prop:=∃ q:Bool,u=.bool q
def qm (S:Nat) (u:Value) (W:World):Prop:=∃ h,u=.pointer (some ⟨h,0,none⟩)∧S≤h∧f9 W h
theorem qO (g B:Nat) (v:Value) (n K:Nat) (a b:Int) (w:World) (h:cX w g B v n K) (hk:K≤700000000) :
  Calls Tryz.prog 110 #[.pointer (some ⟨g,0,none⟩),.agg #[.int .i64 a,.int .i64 b]] w (pm w g B v n (K+10)):=by
 have hl:=h.size;obtain ⟨wc,hw3,C,R,BB⟩:=iD w #[.int .i64 a,.int .i64 b] 25 #[.int .i64 0,.int .i64 0,.int .i64 0] 27;have st:=(St.start h).keep BB;have hB:=st.lt;have hwc:=BB.size
 have nC:w.heap.size≠g:=by omega
 have nR:w.heap.size+1≠g:=by omega
 have hRl:=R.lt
 have HG:=fun w=>eI a b w
 clear h BB;go_enter Tryz.func110,Tryz.ntmps110
 go_wp2_with fail
 refine (jf g B v n _ 8 _ st.cur (by omega) (by omega) (by omega)).mono ?_;rintro e OY ⟨t1,rfl,xS,p_⟩;replace st:=st.call xS p_;have JD:=p_.size;replace C:=C.aV p_ nC;replace R:=R.aV p_ nR;clear xS p_;have ⟨Fk,C_1,CH,CI,Fl⟩:=C.box;have ⟨Ar,As,H4,t_,xQ,xW⟩:=R.bg;have At:=R.lt;cases t1
 case true=>
  go_wp2;exact bodyPost_ret (v:=.agg #[.int .i64 0,.int .i64 0,.int .i64 0]) (by simp [results,Tryz.results110,go_sem, *]) rfl (⟨0,0,0,rfl,(((st.aR (c:=w.heap.size+1) (o:=0) (by omega) (by omega) (by omega) (.int .i64 0)).aR (c:=w.heap.size+1) (o:=1) (by omega) (by omega) (by omega) (.int .i64 0)).aR (c:=w.heap.size+1) (o:=2) (by omega) (by omega) (by omega) (.int .i64 0)).cur.mono (by omega),(((st.aR (c:=w.heap.size+1) (o:=0) (by omega) (by omega) (by omega) (.int .i64 0)).aR (c:=w.heap.size+1) (o:=1) (by omega) (by omega) (by omega) (.int .i64 0)).aR (c:=w.heap.size+1) (o:=2) (by omega) (by omega) (by omega) (.int .i64 0)).gr⟩)
 case false=>
 cases hg:M.good a b <;> rw [hg] at HG <;> replace HG:=xL HG
 ·go_wp2_with fail
  refine (HG.out _).mono ?_;rintro e w9 ⟨rfl,xi⟩;clear Fk C_1 CH CI Fl;clear Ar As H4 t_ xQ xW At;replace st:=st.keep xi;replace C:=C.keep xi;replace R:=R.keep xi;have ⟨Fk,C_1,CH,CI,Fl⟩:=C.box;have ⟨Ar,As,H4,t_,xQ,xW⟩:=R.bg;have At:=R.lt;go_wp2;exact bodyPost_ret (v:=.agg #[.int .i64 0,.int .i64 0,.int .i64 0]) (by simp [results,Tryz.results110,go_sem, *]) rfl (⟨0,0,0,rfl,(((st.aR (c:=w.heap.size+1) (o:=0) (by omega) (by omega) (by omega) (.int .i64 0)).aR (c:=w.heap.size+1) (o:=1) (by omega) (by omega) (by omega) (.int .i64 0)).aR (c:=w.heap.size+1) (o:=2) (by omega) (by omega) (by omega) (.int .i64 0)).cur.mono (by omega),(((st.aR (c:=w.heap.size+1) (o:=0) (by omega) (by omega) (by omega) (.int .i64 0)).aR (c:=w.heap.size+1) (o:=1) (by omega) (by omega) (by omega) (.int .i64 0)).aR (c:=w.heap.size+1) (o:=2) (by omega) (by omega) (by omega) (.int .i64 0)).gr⟩)
 go_wp2_with fail
 refine (HG.out _).mono ?_;rintro e w9 ⟨rfl,xi⟩;clear Fk C_1 CH CI Fl;clear Ar As H4 t_ xQ xW At;replace st:=st.keep xi;replace C:=C.keep xi;replace R:=R.keep xi;have sz9:=xi.size;clear xi HG;have hgd:=xL hg;clear hg
 go_wp2_with fail
 refine (cJ g B v n _ 60 _ st.cur (by omega) (by omega) (by omega)).mono ?_;rintro e w_f ⟨f,rfl,⟨f_lo,f_hi⟩,xS,p_⟩;replace st:=st.call xS p_;have sz_f:=p_.size;replace C:=C.aV p_ nC;replace R:=R.aV p_ nR;clear xS p_
 go_upto_region 4 with fail
 have hf1:-30≤f - 30:=by omega
 have hf2:f - 30≤29:=by omega
 generalize f - 30=F at *;go_wp2
 go_loopw [6] (fun vi wq=>∃ j:Nat,j≤60∧vi=.int .i64 j∧St w wq g B v n (K+2+2)∧aH wq w.heap.size 25 #[.int .i64 a,.int .i64 b]∧aH wq (w.heap.size+1) 27 #[.int .i64 0,.int .i64 0,.int .i64 0]) (fun vi _=>60 - (intOf vi).toNat)
 case atStart=>exact ⟨0,by omega,rfl,st,C,R⟩
 case round=>
 clear st C R;obtain ⟨j,hj,rfl,st,C,R⟩:=hrel
 by_cases hlt:j<60
 ·have hx1:-200≤F+(j:Int):=by omega
  have hx2:F+(j:Int)≤200:=by omega
  have PA:=xL fun W=>tw a b (F+(j:Int)) W hgd.out hx1 hx2
  have ⟨Fk,C_1,CH,CI,Fl⟩:=C.box
  go_wp2_with fail
  (refine (PA.out _).mono ?_);rintro e w7 ⟨A,l,cp,rfl,hl2,hP,hok,yC⟩
  clear Fk C_1 CH CI Fl;replace hok:=xL hok;have sz7:=yC.size;have zr7:=st.size;have zs7:=st.le;replace st:=st.keep yC;replace C:=C.keep yC;replace R:=R.keep yC;clear yC PA
  obtain ⟨m,hm⟩:∃ m,Hid (l.length=m):=⟨_,xL rfl⟩
  rw [hm.out] at hl2 ⊢;replace hP:=xL hP
  by_cases hm0:m=0
  ·subst hm0
   go_wp2
   go_roundw
   case rel=>exact ⟨j+1,by omega,by go_num,st,C,R⟩
   case measure=>simp [intOf];omega
  have hmp:(0:Int)<(m:Int):=by omega
  go_wp2_with fail
  refine (cJ g B v n _ m _ st.cur (by omega) (by omega) (by omega)).mono ?_;rintro e KA ⟨i,rfl,⟨i_lo,i_hi⟩,xS,p_⟩
  obtain ⟨i,rfl⟩:∃ k:Nat,i=k:=⟨i.toNat,by omega⟩
  obtain ⟨⟨X,Y,E⟩,hp⟩:∃ p,l[i]?=some p:=⟨_,List.getElem?_eq_getElem (by have:=hm.out;omega)⟩
  obtain ⟨ga,rfl,hga,q0,q1,q2⟩:=hP.out i _ hp;have GQ:=xL (And.intro hgd.out (hok.out _ (List.mem_of_getElem? hp)))
  dsimp only at q0 q1 q2 GQ
  replace q0:=Gr.eU p_ q0 (by omega);replace q1:=Gr.eU p_ q1 (by omega);replace q2:=Gr.eU p_ q2 (by omega);clear hp hok hP hm;replace st:=st.call xS p_;have sz_i:=p_.size;replace C:=C.aV p_ nC;replace R:=R.aV p_ nR;clear xS p_
  have him:(i:Int)<(m:Int):=by omega
  have him2:i<m:=by omega
  have hRi:=R.lt;have hCi:=C.lt;have Q:=aH.new KA #[.int .i64 X,.int .i64 Y,.int .i64 E] 27;have zi:=st.size;have zj:=st.le;replace st:=st.alloc (.cells #[.int .i64 X,.int .i64 Y,.int .i64 E] 27);replace C:=C.alloc (.cells #[.int .i64 X,.int .i64 Y,.int .i64 E] 27);replace R:=R.alloc (.cells #[.int .i64 X,.int .i64 Y,.int .i64 E] 27)
  have nQ:KA.heap.size≠g:=by omega
  go_upto_region 10 with fail
  clear q0 q1 q2;generalize hG:KA.heap.size=G at *;have Mo:=R.lt;have Mb:=C.lt;have hGl:=Q.lt;have hgr:=st.size;generalize KA.alloc (.cells #[.int .i64 X,.int .i64 Y,.int .i64 E] 27)=wr at *;clear hG;refine Rg.fP (fun l W=>A3 wr g B v n ((K+2+2+2)+Rg.zg [(3,2)] l) W) (fun i u W=>match i with | 3=>FS 0 3 u | 4=>FS (1) 4 u | 5=>tM u | 6=>tM u | 7=>nW u | 8=>oP u | 9=>qm wr.heap.size u W | 11=>oP u | _=>True) (b8 wr.heap.size) [3,4,5,6,7,8,9,10,11] [.agg #[.int .i64 a,.int .i64 b],.agg #[.int .i64 X,.int .i64 Y,.int .i64 E],.pointer (some ⟨g,0,none⟩),undef,undef,undef,undef,undef,undef,undef,undef,undef] (by kernel_rfl) (by kernel_rfl) (by decide) (fun l l2 W h q=>by rw [←Rg.ft (C:=[(3,2)]) (l:=l) fun p hp=>h p.1 (by revert p;decide)];exact q) (fun i u w1 w2 hR h=>match i,h with | 0,h=>(trivial) | 1,h=>(trivial) | 2,h=>(trivial) | 3,h=>(h) | 4,h=>(h) | 5,h=>(h) | 6,h=>(h) | 7,h=>(h) | 8,h=>(h) | 9,h=>(by obtain ⟨Bb,BP,ET,Ha⟩:=h;exact ⟨Bb,BP,ET,hR Bb ET Ha⟩) | 10,h=>(trivial) | 11,h=>(h) | n_+12,_=>trivial) (A3.start st) ⟨?_,?_,?_,?_,?_,?_,?_,?_,?_,?_,?_,?_,trivial⟩ ?_
  ·unfold Rg.aU
   intro zZ w_ l_ j_ s_ xm xo yB xn xS hr;refine ⟨rfl,?_⟩;rw [if_neg (by decide)];have e3:zZ.tmps[3]?=some (.pointer (some ⟨w.heap.size,0,none⟩)):=hr 3 (by decide);have xj:=C.aV s_.2 nC;have ⟨k0,k1,_,_,_⟩:=xj.box
   (first | (go_simp;done) | (go_simp;exact Rg.wr (by omega) (by omega)) | (go_simp;omega) | (go_simp;rfl) | (go_simp;exact ⟨rfl,rfl⟩))
  ·unfold Rg.aU
   intro zZ w_ l_ j_ s_ xm xo yB xn xS hr;refine ⟨rfl,?_⟩;rw [if_neg (by decide)];have e8:zZ.tmps[8]?=some (.pointer (some ⟨G,0,none⟩)):=hr 8 (by decide);have xj:=Q.aV s_.2 nQ;have ⟨k0,k1,k2⟩:=xj.aK
   (first | (go_simp;done) | (go_simp;exact Rg.wr (by omega) (by omega)) | (go_simp;omega) | (go_simp;rfl) | (go_simp;exact ⟨rfl,rfl⟩))
  ·unfold Rg.aU
   intro zZ w_ l_ j_ s_ xm xo yB xn xS hr;refine ⟨rfl,?_⟩;rw [if_neg (by decide)];have e0:zZ.tmps[0]?=some (.pointer (some ⟨g,0,none⟩)):=hr 0 (by decide)
   go_simp
  ·unfold Rg.aU
   intro zZ w_ l_ j_ s_ xm xo yB xn xS hr;have e44:zZ.tmps[44]?=some (.pointer (some ⟨g,0,none⟩)):=hr 44 (by decide)
   have ef:∀ f,zZ.eval (.func f)=.func (.func f) #[] #[]:=fun _=>rfl
   have ec:=Rg.ec zZ;refine ⟨rfl,?_⟩;rw [if_pos (by decide)];have DO:=Rg.fY [(3,2)] l_;rw [show Rg.zg [(3,2)] (fun _=>true)=2 from rfl] at DO;refine Rg.gW (by go_simp;exact ⟨rfl,rfl⟩) ?_;refine (cJ g B v n _ 4 _ s_.1 (by omega) (by omega) (by omega)).mono ?_;rintro e_ Fg ⟨u_,rfl,Dq,Ac,p_⟩;exact ⟨_,rfl,by (try dsimp only);rw [Rg.gL (c:=2) (by decide) rfl xo];exact s_.call Ac p_,⟨u_,Dq,rfl⟩,b8.grown p_ hgr⟩
  ·unfold Rg.aU
   intro zZ w_ l_ j_ s_ xm xo yB xn xS hr;have e45:zZ.tmps[45]?=some (j_ 3):=hr 45 (by decide);have ec:=Rg.ec zZ;refine ⟨rfl,?_⟩;rw [if_pos (by decide)];obtain ⟨x_,⟨CY,CZ⟩,yX⟩:=xm 3 (by decide) (xn 3 (by kernel_rfl));rw [yX] at e45;refine Rg.fE (x:=.int .i64 (1+x_)) (w2:=w_) (by (first | (go_simp;done) | (go_simp;exact Rg.wr (by omega) (by omega)) | (go_simp;omega) | (go_simp;rfl) | (go_simp;exact ⟨rfl,rfl⟩))) ?_;exact ⟨by (try dsimp only);rw [Rg.bD (by decide)];exact s_,⟨_,⟨by omega,by omega⟩,rfl⟩,b8.self _ _⟩
  ·unfold Rg.aU
   intro zZ w_ l_ j_ s_ xm xo yB xn xS hr;have e42:zZ.tmps[42]?=some (.agg #[.int .i64 a,.int .i64 b]):=hr 42 (by decide);have e43:zZ.tmps[43]?=some (.agg #[.int .i64 X,.int .i64 Y,.int .i64 E]):=hr 43 (by decide);have e46:zZ.tmps[46]?=some (j_ 4):=hr 46 (by decide)
   have ef:∀ f,zZ.eval (.func f)=.func (.func f) #[] #[]:=fun _=>rfl
   refine ⟨rfl,?_⟩;rw [if_pos (by decide)];obtain ⟨x_,⟨CY,CZ⟩,yX⟩:=xm 4 (by decide) (xn 4 (by kernel_rfl));rw [yX] at e46;refine Rg.gW (by go_simp;exact ⟨rfl,rfl⟩) ?_;refine (kS a b X Y E x_ _ GQ.out.1 GQ.out.2 (by omega) (by omega)).mono ?_;rintro e_ Fg ⟨rfl,xZ⟩;exact ⟨_,rfl,by (try dsimp only);rw [Rg.bD (by decide)];exact s_.keep xZ,⟨_,_,_,_,rfl⟩,b8.below xZ⟩
  ·unfold Rg.aU
   intro zZ w_ l_ j_ s_ xm xo yB xn xS hr;have e47:zZ.tmps[47]?=some (j_ 5):=hr 47 (by decide);refine ⟨rfl,?_⟩;rw [if_pos (by decide)];obtain ⟨X_,Y_,E_,q_,yX⟩:=xm 5 (by decide) (xn 5 (by kernel_rfl));rw [yX] at e47;refine Rg.fE (x:=.tuple #[.agg #[.int .i64 X_,.int .i64 Y_,.int .i64 E_],.bool q_]) (w2:=w_) (by (first | (go_simp;done) | (go_simp;exact Rg.wr (by omega) (by omega)) | (go_simp;omega) | (go_simp;rfl) | (go_simp;exact ⟨rfl,rfl⟩))) ?_;exact ⟨by (try dsimp only);rw [Rg.bD (by decide)];exact s_,⟨_,_,_,_,rfl⟩,b8.self _ _⟩
  ·unfold Rg.aU
   intro zZ w_ l_ j_ s_ xm xo yB xn xS hr;have e41:zZ.tmps[41]?=some (j_ 6):=hr 41 (by decide);refine ⟨rfl,?_⟩;rw [if_pos (by decide)];obtain ⟨X_,Y_,E_,q_,yX⟩:=xm 6 (by decide) (xn 6 (by kernel_rfl));rw [yX] at e41;refine Rg.fE (x:=.agg #[.int .i64 X_,.int .i64 Y_,.int .i64 E_]) (w2:=w_) (by (first | (go_simp;done) | (go_simp;exact Rg.wr (by omega) (by omega)) | (go_simp;omega) | (go_simp;rfl) | (go_simp;exact ⟨rfl,rfl⟩))) ?_;exact ⟨by (try dsimp only);rw [Rg.bD (by decide)];exact s_,⟨_,_,_,rfl⟩,b8.self _ _⟩
  ·unfold Rg.aU
   intro zZ w_ l_ j_ s_ xm xo yB xn xS hr;have e41:zZ.tmps[41]?=some (j_ 6):=hr 41 (by decide);refine ⟨rfl,?_⟩;rw [if_pos (by decide)];obtain ⟨X_,Y_,E_,q_,yX⟩:=xm 6 (by decide) (xn 6 (by kernel_rfl));rw [yX] at e41;refine Rg.fE (x:=.bool q_) (w2:=w_) (by (first | (go_simp;done) | (go_simp;exact Rg.wr (by omega) (by omega)) | (go_simp;omega) | (go_simp;rfl) | (go_simp;exact ⟨rfl,rfl⟩))) ?_;exact ⟨by (try dsimp only);rw [Rg.bD (by decide)];exact s_,⟨_,rfl⟩,b8.self _ _⟩
  ·unfold Rg.aU
   intro zZ w_ l_ j_ s_ xm xo yB xn xS hr;refine ⟨rfl,?_⟩;rw [if_pos (by decide)];refine Rg.wU (x:=.pointer (some ⟨w_.heap.size,0,none⟩)) (ob:=.cells #[.int .i64 0,.int .i64 0,.int .i64 0] 27) (by (first | (go_simp;done) | (go_simp;exact Rg.wr (by omega) (by omega)) | (go_simp;omega) | (go_simp;rfl) | (go_simp;exact ⟨rfl,rfl⟩))) ?_;exact ⟨by (try dsimp only);rw [Rg.bD (by decide)];exact s_.keep (bA _ _),⟨_,rfl,s_.2.size,⟨0,0,0,aH.new _ _ _⟩⟩,b8.below (bA _ _)⟩
  ·unfold Rg.aU
   intro zZ w_ l_ j_ s_ xm xo yB xn xS hr;have e9:zZ.tmps[9]?=some (j_ 9):=hr 9 (by decide);have e48:zZ.tmps[48]?=some (j_ 7):=hr 48 (by decide);refine ⟨rfl,?_⟩;rw [if_pos (by decide)];obtain ⟨h_,MY,xk,Aa⟩:=xm 9 (by decide) (xn 9 (by kernel_rfl));rw [MY] at e9;obtain ⟨X_,Y_,E_,yX⟩:=xm 7 (by decide) (xn 7 (by kernel_rfl));rw [yX] at e48
   have xR:A3 wr g B v n ((K+2+2+2)+Rg.zg [(3,2)] (Rg.upd l_ 10)) (((w_.setCell ⟨h_,0,none⟩ (.int .i64 X_)).setCell ⟨h_,1,none⟩ (.int .i64 Y_)).setCell ⟨h_,2,none⟩ (.int .i64 E_))∧True∧b8 wr.heap.size w_ (((w_.setCell ⟨h_,0,none⟩ (.int .i64 X_)).setCell ⟨h_,1,none⟩ (.int .i64 Y_)).setCell ⟨h_,2,none⟩ (.int .i64 E_)):=⟨by (try dsimp only);rw [Rg.bD (by decide)];exact ((s_.put (by omega) (by omega) xk 0 _).put (by omega) (by omega) xk 1 _).put (by omega) (by omega) xk 2 _,trivial,b8.put Aa _ _ _⟩
   obtain ⟨X0_,Y0_,E0_,Aa⟩:=Aa;have ⟨Aj,Ak,C4,Al,Am,CE⟩:=Aa.bg;unfold Oper.wp
   go_simp
   all_goals first | exact xR | exact xR.1 | exact ⟨undef,xR⟩ | exact ⟨_,rfl,xR⟩
  ·unfold Rg.aU
   intro zZ w_ l_ j_ s_ xm xo yB xn xS hr;have e49:zZ.tmps[49]?=some (j_ 8):=hr 49 (by decide);refine ⟨rfl,?_⟩;rw [if_pos (by decide)];obtain ⟨q_,yX⟩:=xm 8 (by decide) (xn 8 (by kernel_rfl));rw [yX] at e49;refine Rg.fE (x:=.bool q_) (w2:=w_) (by (first | (go_simp;done) | (go_simp;exact Rg.wr (by omega) (by omega)) | (go_simp;omega) | (go_simp;rfl) | (go_simp;exact ⟨rfl,rfl⟩))) ?_;exact ⟨by (try dsimp only);rw [Rg.bD (by decide)];exact s_,⟨_,rfl⟩,b8.self _ _⟩
  intro vals wz s_ hF hv;obtain ⟨h_,zV,xk,XN,YN,EN,N⟩:=hF 9 (by decide);obtain ⟨ok,yR⟩:=hF 11 (by decide);simp only [Rg.ay,Rg.fill,Act.put,Nat.reduceAdd];clear hv hF;simp only [zV,yR];clear zV yR;replace s_:A3 wr g B v n ((K+2+2+2)+2) wz:=s_;replace st:=st.call s_.1 s_.2;replace C:=C.aV s_.2 nC;replace R:=R.aV s_.2 nR;replace Q:=Q.aV s_.2 nQ;have szz:=s_.2.size;clear s_
  have nRN:w.heap.size+1≠h_:=by omega
  have nRG:w.heap.size+1≠G:=by omega
  have ⟨Ar,As,H4,t_,xQ,xW⟩:=R.bg;have At:=R.lt;have ⟨CN,CO,CP,AH,AJ,AK⟩:=Q.bg;have CQ:=Q.lt;have ⟨N_0,N_1,N_2,KC,KD,KE⟩:=N.bg;have N_l:=N.lt;cases ok
  ·go_wp2
   exact bodyPost_ret (v:=.agg #[.int .i64 X,.int .i64 Y,.int .i64 E]) (by simp [results,Tryz.results110,go_sem, *]) rfl (⟨X,Y,E,rfl,(((st.aR (c:=w.heap.size+1) (o:=0) (by omega) (by omega) (by omega) (.int .i64 X)).aR (c:=w.heap.size+1) (o:=1) (by omega) (by omega) (by omega) (.int .i64 Y)).aR (c:=w.heap.size+1) (o:=2) (by omega) (by omega) (by omega) (.int .i64 E)).cur.mono (by omega),(((st.aR (c:=w.heap.size+1) (o:=0) (by omega) (by omega) (by omega) (.int .i64 X)).aR (c:=w.heap.size+1) (o:=1) (by omega) (by omega) (by omega) (.int .i64 Y)).aR (c:=w.heap.size+1) (o:=2) (by omega) (by omega) (by omega) (.int .i64 E)).gr⟩)
  go_wp2;exact bodyPost_ret (v:=.agg #[.int .i64 XN,.int .i64 YN,.int .i64 EN]) (by simp [results,Tryz.results110,go_sem, *]) rfl (⟨XN,YN,EN,rfl,(((st.aR (c:=w.heap.size+1) (o:=0) (by omega) (by omega) (by omega) (.int .i64 XN)).aR (c:=w.heap.size+1) (o:=1) (by omega) (by omega) (by omega) (.int .i64 YN)).aR (c:=w.heap.size+1) (o:=2) (by omega) (by omega) (by omega) (.int .i64 EN)).cur.mono (by omega),(((st.aR (c:=w.heap.size+1) (o:=0) (by omega) (by omega) (by omega) (.int .i64 XN)).aR (c:=w.heap.size+1) (o:=1) (by omega) (by omega) (by omega) (.int .i64 YN)).aR (c:=w.heap.size+1) (o:=2) (by omega) (by omega) (by omega) (.int .i64 EN)).gr⟩)
 obtain rfl:j=60:=by omega
 have ⟨Ar,As,H4,t_,xQ,xW⟩:=R.bg;have At:=R.lt;go_wp2;exact bodyPost_ret (v:=.agg #[.int .i64 0,.int .i64 0,.int .i64 0]) (by simp [results,Tryz.results110,go_sem, *]) rfl (⟨0,0,0,rfl,(((st.aR (c:=w.heap.size+1) (o:=0) (by omega) (by omega) (by omega) (.int .i64 0)).aR (c:=w.heap.size+1) (o:=1) (by omega) (by omega) (by omega) (.int .i64 0)).aR (c:=w.heap.size+1) (o:=2) (by omega) (by omega) (by omega) (.int .i64 0)).cur.mono (by omega),(((st.aR (c:=w.heap.size+1) (o:=0) (by omega) (by omega) (by omega) (.int .i64 0)).aR (c:=w.heap.size+1) (o:=1) (by omega) (by omega) (by omega) (.int .i64 0)).aR (c:=w.heap.size+1) (o:=2) (by omega) (by omega) (by omega) (.int .i64 0)).gr⟩)
theorem nf (g B:Nat) (v:Value) (n K:Nat) (w:World) (h:cX w g B v n K) (hk:K≤600000000) :
  Calls Tryz.prog 71 #[.pointer (some ⟨g,0,none⟩)] w (jy w g B v n (K+50)):=by
 have hl:=h.size;obtain ⟨wc,hw3,R,BB⟩:=pi w #[.int .i64 0,.int .i64 0] 25;have st:=(St.start h).keep BB;have hB:=st.lt;have hwc:=BB.size
 have nR:w.heap.size≠g:=by omega
 have hRl:=R.lt;clear h BB;go_enter Tryz.func71,Tryz.ntmps71
 go_wp2_with fail
 refine (tV g B v n _ _ st.cur (by omega)).mono ?_;rintro e Ba ⟨a,b,rfl,xS,p_⟩;replace st:=st.call xS p_;have FN:=p_.size;replace R:=R.aV p_ nR;clear xS p_;have E:=aH.new Ba #[.int .i64 a,.int .i64 b] 25;have zlE:=st.size;have zgE:=st.le;replace st:=st.alloc (.cells #[.int .i64 a,.int .i64 b] 25);replace R:=R.alloc (.cells #[.int .i64 a,.int .i64 b] 25)
 have nE:Ba.heap.size≠g:=by omega
 go_wp2_with fail
 generalize Ba.heap.size=G at *;refine (cJ g B v n _ 30 _ st.cur (by omega) (by omega) (by omega)).mono ?_;rintro e Cp ⟨x,rfl,⟨JV,JU⟩,xS,p_⟩;replace st:=st.call xS p_;have JF:=p_.size;replace R:=R.aV p_ nR;replace E:=E.aV p_ nE;clear xS p_
 by_cases x0:x=0
 ·subst x0
  go_wp2_with fail
  have zA:=st;replace st:=st.alloc (.cells #[.int .i64 (-1001),.int .i64 (-1000),.int .i64 1000,.int .i64 1001,.int .i64 (-9223372036854775808)] 3);replace R:=R.alloc (.cells #[.int .i64 (-1001),.int .i64 (-1000),.int .i64 1000,.int .i64 1001,.int .i64 (-9223372036854775808)] 3);replace E:=E.alloc (.cells #[.int .i64 (-1001),.int .i64 (-1000),.int .i64 1000,.int .i64 1001,.int .i64 (-9223372036854775808)] 3);refine (cS g B v n _ [-1001,-1000,1000,1001,-9223372036854775808] (Cp).heap.size 5 _ st.cur (by omega) rfl (by omega) (by omega) (by have:=zA.size;omega) (be _ _ _)).mono ?_;rintro e Cq ⟨y,rfl,-,xS,p_⟩;replace st:=st.call xS p_;have Cn:=p_.size;replace R:=R.aV p_ nR;replace E:=E.aV p_ nE;clear xS p_;clear zA;have ⟨Cu,Cv,AQ,AS,Cw⟩:=E.box
  go_upto_region 9 with fail
  clear Cu Cv AQ AS Cw;replace E:aH _ G 25 #[.int .i64 y,.int .i64 b]:=E.set 0 (.int .i64 y)
  replace st:=(st.aR (c:=G) (o:=0) (by omega) (by omega) (by omega) (.int .i64 y))
  replace R:=(R.other (k:=G) (i:=0) (by omega) (.int .i64 y))
  generalize (Cq.setCell ⟨G,0,none⟩ (.int .i64 y))=w8 at *;have ⟨Ar,As,t_,xQ,At⟩:=R.box;have ⟨Cu,Cv,AQ,AS,Cw⟩:=E.box;go_wp2;exact bodyPost_ret (v:=.agg #[.int .i64 y,.int .i64 b]) (by simp [results,Tryz.results71,go_sem, *]) rfl (⟨y,b,rfl,((st.aR (c:=w.heap.size) (o:=0) (by omega) (by omega) (by omega) (.int .i64 y)).aR (c:=w.heap.size) (o:=1) (by omega) (by omega) (by omega) (.int .i64 b)).cur.mono (by omega),((st.aR (c:=w.heap.size) (o:=0) (by omega) (by omega) (by omega) (.int .i64 y)).aR (c:=w.heap.size) (o:=1) (by omega) (by omega) (by omega) (.int .i64 b)).gr⟩)
 by_cases x1:x=1
 ·subst x1
  go_wp2_with fail
  have zA:=st;replace st:=st.alloc (.cells #[.int .i64 (-10001),.int .i64 (-10000),.int .i64 10000,.int .i64 10001,.int .i64 9223372036854775807] 3);replace R:=R.alloc (.cells #[.int .i64 (-10001),.int .i64 (-10000),.int .i64 10000,.int .i64 10001,.int .i64 9223372036854775807] 3);replace E:=E.alloc (.cells #[.int .i64 (-10001),.int .i64 (-10000),.int .i64 10000,.int .i64 10001,.int .i64 9223372036854775807] 3);refine (cS g B v n _ [-10001,-10000,10000,10001,9223372036854775807] (Cp).heap.size 5 _ st.cur (by omega) rfl (by omega) (by omega) (by have:=zA.size;omega) (be _ _ _)).mono ?_;rintro e Cq ⟨y,rfl,-,xS,p_⟩;replace st:=st.call xS p_;have Cn:=p_.size;replace R:=R.aV p_ nR;replace E:=E.aV p_ nE;clear xS p_;clear zA;have ⟨Cu,Cv,AQ,AS,Cw⟩:=E.box
  go_upto_region 9 with fail
  clear Cu Cv AQ AS Cw;replace E:aH _ G 25 #[.int .i64 a,.int .i64 y]:=E.set 1 (.int .i64 y)
  replace st:=(st.aR (c:=G) (o:=1) (by omega) (by omega) (by omega) (.int .i64 y))
  replace R:=(R.other (k:=G) (i:=1) (by omega) (.int .i64 y))
  generalize (Cq.setCell ⟨G,1,none⟩ (.int .i64 y))=w8 at *;have ⟨Ar,As,t_,xQ,At⟩:=R.box;have ⟨Cu,Cv,AQ,AS,Cw⟩:=E.box;go_wp2;exact bodyPost_ret (v:=.agg #[.int .i64 a,.int .i64 y]) (by simp [results,Tryz.results71,go_sem, *]) rfl (⟨a,y,rfl,((st.aR (c:=w.heap.size) (o:=0) (by omega) (by omega) (by omega) (.int .i64 a)).aR (c:=w.heap.size) (o:=1) (by omega) (by omega) (by omega) (.int .i64 y)).cur.mono (by omega),((st.aR (c:=w.heap.size) (o:=0) (by omega) (by omega) (by omega) (.int .i64 a)).aR (c:=w.heap.size) (o:=1) (by omega) (by omega) (by omega) (.int .i64 y)).gr⟩)
 by_cases x2:x=2
 ·subst x2
  go_wp2_with fail
  have zA:=st;replace st:=st.alloc (.cells #[.int .i64 0,.int .i64 (-3),.int .i64 (-12)] 3);replace R:=R.alloc (.cells #[.int .i64 0,.int .i64 (-3),.int .i64 (-12)] 3);replace E:=E.alloc (.cells #[.int .i64 0,.int .i64 (-3),.int .i64 (-12)] 3);refine (cS g B v n _ [0,-3,-12] (Cp).heap.size 3 _ st.cur (by omega) rfl (by omega) (by omega) (by have:=zA.size;omega) (be _ _ _)).mono ?_;rintro e Cq ⟨y,rfl,-,xS,p_⟩;replace st:=st.call xS p_;have Cn:=p_.size;replace R:=R.aV p_ nR;replace E:=E.aV p_ nE;clear xS p_;clear zA
  go_wp2_with fail
  have zA:=st;replace st:=st.alloc (.cells #[.int .i64 0,.int .i64 2,.int .i64 16] 3);replace R:=R.alloc (.cells #[.int .i64 0,.int .i64 2,.int .i64 16] 3);replace E:=E.alloc (.cells #[.int .i64 0,.int .i64 2,.int .i64 16] 3);refine (cS g B v n _ [0,2,16] (Cq).heap.size 3 _ st.cur (by omega) rfl (by omega) (by omega) (by have:=zA.size;omega) (be _ _ _)).mono ?_;rintro e w_z ⟨z,rfl,-,xS,p_⟩;replace st:=st.call xS p_;have OW:=p_.size;replace R:=R.aV p_ nR;replace E:=E.aV p_ nE;clear xS p_;clear zA;have ⟨Cu,Cv,AQ,AS,Cw⟩:=E.box
  go_upto_region 9 with fail
  clear Cu Cv AQ AS Cw;replace E:aH _ G 25 #[.int .i64 y,.int .i64 z]:=(E.set 0 (.int .i64 y)).set 1 (.int .i64 z)
  replace st:=((st.aR (c:=G) (o:=0) (by omega) (by omega) (by omega) (.int .i64 y)).aR (c:=G) (o:=1) (by omega) (by omega) (by omega) (.int .i64 z))
  replace R:=((R.other (k:=G) (i:=0) (by omega) (.int .i64 y)).other (k:=G) (i:=1) (by omega) (.int .i64 z))
  generalize ((w_z.setCell ⟨G,0,none⟩ (.int .i64 y)).setCell ⟨G,1,none⟩ (.int .i64 z))=w8 at *;have ⟨Ar,As,t_,xQ,At⟩:=R.box;have ⟨Cu,Cv,AQ,AS,Cw⟩:=E.box;go_wp2;exact bodyPost_ret (v:=.agg #[.int .i64 y,.int .i64 z]) (by simp [results,Tryz.results71,go_sem, *]) rfl (⟨y,z,rfl,((st.aR (c:=w.heap.size) (o:=0) (by omega) (by omega) (by omega) (.int .i64 y)).aR (c:=w.heap.size) (o:=1) (by omega) (by omega) (by omega) (.int .i64 z)).cur.mono (by omega),((st.aR (c:=w.heap.size) (o:=0) (by omega) (by omega) (by omega) (.int .i64 y)).aR (c:=w.heap.size) (o:=1) (by omega) (by omega) (by omega) (.int .i64 z)).gr⟩)
 have b0:(x == 0)=false:=by simpa using x0
 have b1:(x == 1)=false:=by simpa using x1
 have b2:(x == 2)=false:=by simpa using x2
 have ⟨Ar,As,t_,xQ,At⟩:=R.box;have ⟨Cu,Cv,AQ,AS,Cw⟩:=E.box;go_wp2;exact bodyPost_ret (v:=.agg #[.int .i64 a,.int .i64 b]) (by simp [results,Tryz.results71,go_sem, *]) rfl (⟨a,b,rfl,((st.aR (c:=w.heap.size) (o:=0) (by omega) (by omega) (by omega) (.int .i64 a)).aR (c:=w.heap.size) (o:=1) (by omega) (by omega) (by omega) (.int .i64 b)).cur.mono (by omega),((st.aR (c:=w.heap.size) (o:=0) (by omega) (by omega) (by omega) (.int .i64 a)).aR (c:=w.heap.size) (o:=1) (by omega) (by omega) (by omega) (.int .i64 b)).gr⟩)
theorem ng (g B:Nat) (v:Value) (n K:Nat) (w:World) (h:cX w g B v n K) (hk:K≤500000000) :
  Calls Tryz.prog 99 #[.pointer (some ⟨g,0,none⟩)] w (pk w g B v n (K+100)):=by
 have hl:=h.size;obtain ⟨wc,hw3,R,Q,BB⟩:=iD w #[.int .i64 0,.int .i64 0] 25 #[.int .i64 0,.int .i64 0,.int .i64 0] 27;have st:=(St.start h).keep BB;have hB:=st.lt;have hwc:=BB.size
 have nR:w.heap.size≠g:=by omega
 have nQ:w.heap.size+1≠g:=by omega
 clear h BB;go_enter Tryz.func99,Tryz.ntmps99
 go_wp2_with fail
 refine (qP g B v n _ _ st.cur (by omega)).mono ?_;rintro e Ba ⟨a,b,X,Y,E,rfl,GQ,xS,p_⟩;replace st:=st.call xS p_;have FN:=p_.size;replace R:=R.aV p_ nR;replace Q:=Q.aV p_ nQ;clear xS p_;have zrc:=R.lt;have zqc:=Q.lt;have C:=aH.new Ba #[.int .i64 a,.int .i64 b] 25;have zlC:=st.size;have zgC:=st.le;replace st:=st.alloc (.cells #[.int .i64 a,.int .i64 b] 25);replace R:=R.alloc (.cells #[.int .i64 a,.int .i64 b] 25);replace Q:=Q.alloc (.cells #[.int .i64 a,.int .i64 b] 25)
 have nC:Ba.heap.size≠g:=by omega
 have U:=aH.new (Ba.alloc (.cells #[.int .i64 a,.int .i64 b] 25)) #[.int .i64 X,.int .i64 Y,.int .i64 E] 27;have zlU:=st.size;have zgU:=st.le;replace st:=st.alloc (.cells #[.int .i64 X,.int .i64 Y,.int .i64 E] 27);replace R:=R.alloc (.cells #[.int .i64 X,.int .i64 Y,.int .i64 E] 27);replace Q:=Q.alloc (.cells #[.int .i64 X,.int .i64 Y,.int .i64 E] 27);replace C:=C.alloc (.cells #[.int .i64 X,.int .i64 Y,.int .i64 E] 27);rw [xM] at U zlU zgU
 have nU:Ba.heap.size+1≠g:=by omega
 go_wp2_with fail
 generalize Ba.heap.size=G at *;refine (jf g B v n _ 3 _ st.cur (by omega) (by omega) (by omega)).mono ?_;rintro e Da ⟨t,rfl,xS,p_⟩;replace st:=st.call xS p_;have OV:=p_.size;replace R:=R.aV p_ nR;replace Q:=Q.aV p_ nQ;replace C:=C.aV p_ nC;replace U:=U.aV p_ nU;clear xS p_
 go_upto_if 15 with fail
 go_cut [] from 6 to 26 (fun wx=>St w wx g B v n (K+20+2+2)∧aH wx w.heap.size 25 #[.int .i64 0,.int .i64 0]∧aH wx (w.heap.size+1) 27 #[.int .i64 0,.int .i64 0,.int .i64 0]∧aH wx G 25 #[.int .i64 a,.int .i64 b]∧f9 wx (G+1))
 case first=>as_aux_lemma=>
  cases t
  case false=>
   go_wp2
   go_meet
   exact ⟨st.up (by omega),R,Q,C,⟨X,Y,E,U⟩⟩
  case true=>
  go_upto_region 3 with fail
  have Mo:=R.lt;have Mb:=C.lt;have hUl:=U.lt;have hQl:=Q.lt;have hgr:=st.size;refine Rg.fP (fun l W=>A3 Da g B v n ((K+20+2)+Rg.zg [(3,2)] l) W) (fun i u W=>match i with | 3=>FS 0 8 u | 4=>FS (-4) 4 u | 5=>tM u | 6=>tM u | 7=>nW u | 8=>oP u | 9=>qm Da.heap.size u W | 11=>oP u | _=>True) (b8 Da.heap.size) [3,4,5,6,7,8,9,10,11] [.agg #[.int .i64 a,.int .i64 b],.agg #[.int .i64 X,.int .i64 Y,.int .i64 E],.pointer (some ⟨g,0,none⟩),undef,undef,undef,undef,undef,undef,undef,undef,undef] (by kernel_rfl) (by kernel_rfl) (by decide) (fun l l2 W h q=>by rw [←Rg.ft (C:=[(3,2)]) (l:=l) fun p hp=>h p.1 (by revert p;decide)];exact q) (fun i u w1 w2 hR h=>match i,h with | 0,h=>(trivial) | 1,h=>(trivial) | 2,h=>(trivial) | 3,h=>(h) | 4,h=>(h) | 5,h=>(h) | 6,h=>(h) | 7,h=>(h) | 8,h=>(h) | 9,h=>(by obtain ⟨Bb,BP,ET,Ha⟩:=h;exact ⟨Bb,BP,ET,hR Bb ET Ha⟩) | 10,h=>(trivial) | 11,h=>(h) | n_+12,_=>trivial) (A3.start st) ⟨?_,?_,?_,?_,?_,?_,?_,?_,?_,?_,?_,?_,trivial⟩ ?_
  ·unfold Rg.aU
   intro zZ w_ l_ j_ s_ xm xo yB xn xS hr;refine ⟨rfl,?_⟩;rw [if_neg (by decide)];have e4:zZ.tmps[4]?=some (.pointer (some ⟨G,0,none⟩)):=hr 4 (by decide);have xj:=C.aV s_.2 nC;have ⟨k0,k1,_,_,_⟩:=xj.box
   (first | (go_simp;done) | (go_simp;exact Rg.wr (by omega) (by omega)) | (go_simp;omega) | (go_simp;rfl) | (go_simp;exact ⟨rfl,rfl⟩))
  ·unfold Rg.aU
   intro zZ w_ l_ j_ s_ xm xo yB xn xS hr;refine ⟨rfl,?_⟩;rw [if_neg (by decide)];have e5:zZ.tmps[5]?=some (.pointer (some ⟨G+1,0,none⟩)):=hr 5 (by decide);have xj:=U.aV s_.2 nU;have ⟨k0,k1,k2⟩:=xj.aK
   (first | (go_simp;done) | (go_simp;exact Rg.wr (by omega) (by omega)) | (go_simp;omega) | (go_simp;rfl) | (go_simp;exact ⟨rfl,rfl⟩))
  ·unfold Rg.aU
   intro zZ w_ l_ j_ s_ xm xo yB xn xS hr;refine ⟨rfl,?_⟩;rw [if_neg (by decide)];have e0:zZ.tmps[0]?=some (.pointer (some ⟨g,0,none⟩)):=hr 0 (by decide)
   go_simp
  ·unfold Rg.aU
   intro zZ w_ l_ j_ s_ xm xo yB xn xS hr;have e19:zZ.tmps[19]?=some (.pointer (some ⟨g,0,none⟩)):=hr 19 (by decide)
   have ef:∀ f,zZ.eval (.func f)=.func (.func f) #[] #[]:=fun _=>rfl
   have ec:=Rg.ec zZ;refine ⟨rfl,?_⟩;rw [if_pos (by decide)];have DO:=Rg.fY [(3,2)] l_;rw [show Rg.zg [(3,2)] (fun _=>true)=2 from rfl] at DO;refine Rg.gW (by go_simp;exact ⟨rfl,rfl⟩) ?_;refine (cJ g B v n _ 9 _ s_.1 (by omega) (by omega) (by omega)).mono ?_;rintro e_ Fg ⟨u_,rfl,Dq,Ac,p_⟩;exact ⟨_,rfl,by (try dsimp only);rw [Rg.gL (c:=2) (by decide) rfl xo];exact s_.call Ac p_,⟨u_,Dq,rfl⟩,b8.grown p_ hgr⟩
  ·unfold Rg.aU
   intro zZ w_ l_ j_ s_ xm xo yB xn xS hr;have e20:zZ.tmps[20]?=some (j_ 3):=hr 20 (by decide);have ec:=Rg.ec zZ;refine ⟨rfl,?_⟩;rw [if_pos (by decide)];obtain ⟨x_,⟨CY,CZ⟩,yX⟩:=xm 3 (by decide) (xn 3 (by kernel_rfl));rw [yX] at e20;refine Rg.fE (x:=.int .i64 (x_ - 4)) (w2:=w_) (by (first | (go_simp;done) | (go_simp;exact Rg.wr (by omega) (by omega)) | (go_simp;omega) | (go_simp;rfl) | (go_simp;exact ⟨rfl,rfl⟩))) ?_;exact ⟨by (try dsimp only);rw [Rg.bD (by decide)];exact s_,⟨_,⟨by omega,by omega⟩,rfl⟩,b8.self _ _⟩
  ·unfold Rg.aU
   intro zZ w_ l_ j_ s_ xm xo yB xn xS hr;have e17:zZ.tmps[17]?=some (.agg #[.int .i64 a,.int .i64 b]):=hr 17 (by decide);have e18:zZ.tmps[18]?=some (.agg #[.int .i64 X,.int .i64 Y,.int .i64 E]):=hr 18 (by decide);have e21:zZ.tmps[21]?=some (j_ 4):=hr 21 (by decide)
   have ef:∀ f,zZ.eval (.func f)=.func (.func f) #[] #[]:=fun _=>rfl
   refine ⟨rfl,?_⟩;rw [if_pos (by decide)];obtain ⟨x_,⟨CY,CZ⟩,yX⟩:=xm 4 (by decide) (xn 4 (by kernel_rfl));rw [yX] at e21;refine Rg.gW (by go_simp;exact ⟨rfl,rfl⟩) ?_;refine (kS a b X Y E x_ _ GQ.out.1 GQ.out.2 (by omega) (by omega)).mono ?_;rintro e_ Fg ⟨rfl,xZ⟩;exact ⟨_,rfl,by (try dsimp only);rw [Rg.bD (by decide)];exact s_.keep xZ,⟨_,_,_,_,rfl⟩,b8.below xZ⟩
  ·unfold Rg.aU
   intro zZ w_ l_ j_ s_ xm xo yB xn xS hr;have e22:zZ.tmps[22]?=some (j_ 5):=hr 22 (by decide);refine ⟨rfl,?_⟩;rw [if_pos (by decide)];obtain ⟨X_,Y_,E_,q_,yX⟩:=xm 5 (by decide) (xn 5 (by kernel_rfl));rw [yX] at e22;refine Rg.fE (x:=.tuple #[.agg #[.int .i64 X_,.int .i64 Y_,.int .i64 E_],.bool q_]) (w2:=w_) (by (first | (go_simp;done) | (go_simp;exact Rg.wr (by omega) (by omega)) | (go_simp;omega) | (go_simp;rfl) | (go_simp;exact ⟨rfl,rfl⟩))) ?_;exact ⟨by (try dsimp only);rw [Rg.bD (by decide)];exact s_,⟨_,_,_,_,rfl⟩,b8.self _ _⟩
  ·unfold Rg.aU
   intro zZ w_ l_ j_ s_ xm xo yB xn xS hr;have e16:zZ.tmps[16]?=some (j_ 6):=hr 16 (by decide);refine ⟨rfl,?_⟩;rw [if_pos (by decide)];obtain ⟨X_,Y_,E_,q_,yX⟩:=xm 6 (by decide) (xn 6 (by kernel_rfl));rw [yX] at e16;refine Rg.fE (x:=.agg #[.int .i64 X_,.int .i64 Y_,.int .i64 E_]) (w2:=w_) (by (first | (go_simp;done) | (go_simp;exact Rg.wr (by omega) (by omega)) | (go_simp;omega) | (go_simp;rfl) | (go_simp;exact ⟨rfl,rfl⟩))) ?_;exact ⟨by (try dsimp only);rw [Rg.bD (by decide)];exact s_,⟨_,_,_,rfl⟩,b8.self _ _⟩
  ·unfold Rg.aU
   intro zZ w_ l_ j_ s_ xm xo yB xn xS hr;have e16:zZ.tmps[16]?=some (j_ 6):=hr 16 (by decide);refine ⟨rfl,?_⟩;rw [if_pos (by decide)];obtain ⟨X_,Y_,E_,q_,yX⟩:=xm 6 (by decide) (xn 6 (by kernel_rfl));rw [yX] at e16;refine Rg.fE (x:=.bool q_) (w2:=w_) (by (first | (go_simp;done) | (go_simp;exact Rg.wr (by omega) (by omega)) | (go_simp;omega) | (go_simp;rfl) | (go_simp;exact ⟨rfl,rfl⟩))) ?_;exact ⟨by (try dsimp only);rw [Rg.bD (by decide)];exact s_,⟨_,rfl⟩,b8.self _ _⟩
  ·unfold Rg.aU
   intro zZ w_ l_ j_ s_ xm xo yB xn xS hr;refine ⟨rfl,?_⟩;rw [if_pos (by decide)];refine Rg.wU (x:=.pointer (some ⟨w_.heap.size,0,none⟩)) (ob:=.cells #[.int .i64 0,.int .i64 0,.int .i64 0] 27) (by (first | (go_simp;done) | (go_simp;exact Rg.wr (by omega) (by omega)) | (go_simp;omega) | (go_simp;rfl) | (go_simp;exact ⟨rfl,rfl⟩))) ?_;exact ⟨by (try dsimp only);rw [Rg.bD (by decide)];exact s_.keep (bA _ _),⟨_,rfl,s_.2.size,⟨0,0,0,aH.new _ _ _⟩⟩,b8.below (bA _ _)⟩
  ·unfold Rg.aU
   intro zZ w_ l_ j_ s_ xm xo yB xn xS hr;have e6:zZ.tmps[6]?=some (j_ 9):=hr 6 (by decide);have e23:zZ.tmps[23]?=some (j_ 7):=hr 23 (by decide);refine ⟨rfl,?_⟩;rw [if_pos (by decide)];obtain ⟨h_,MY,xk,Aa⟩:=xm 9 (by decide) (xn 9 (by kernel_rfl));rw [MY] at e6;obtain ⟨X_,Y_,E_,yX⟩:=xm 7 (by decide) (xn 7 (by kernel_rfl));rw [yX] at e23
   have xR:A3 Da g B v n ((K+20+2)+Rg.zg [(3,2)] (Rg.upd l_ 10)) (((w_.setCell ⟨h_,0,none⟩ (.int .i64 X_)).setCell ⟨h_,1,none⟩ (.int .i64 Y_)).setCell ⟨h_,2,none⟩ (.int .i64 E_))∧True∧b8 Da.heap.size w_ (((w_.setCell ⟨h_,0,none⟩ (.int .i64 X_)).setCell ⟨h_,1,none⟩ (.int .i64 Y_)).setCell ⟨h_,2,none⟩ (.int .i64 E_)):=⟨by (try dsimp only);rw [Rg.bD (by decide)];exact ((s_.put (by omega) (by omega) xk 0 _).put (by omega) (by omega) xk 1 _).put (by omega) (by omega) xk 2 _,trivial,b8.put Aa _ _ _⟩
   obtain ⟨X0_,Y0_,E0_,Aa⟩:=Aa;have ⟨Aj,Ak,C4,Al,Am,CE⟩:=Aa.bg;unfold Oper.wp
   go_simp
   all_goals first | exact xR | exact xR.1 | exact ⟨undef,xR⟩ | exact ⟨_,rfl,xR⟩
  ·unfold Rg.aU
   intro zZ w_ l_ j_ s_ xm xo yB xn xS hr;have e24:zZ.tmps[24]?=some (j_ 8):=hr 24 (by decide);refine ⟨rfl,?_⟩;rw [if_pos (by decide)];obtain ⟨q_,yX⟩:=xm 8 (by decide) (xn 8 (by kernel_rfl));rw [yX] at e24;refine Rg.fE (x:=.bool q_) (w2:=w_) (by (first | (go_simp;done) | (go_simp;exact Rg.wr (by omega) (by omega)) | (go_simp;omega) | (go_simp;rfl) | (go_simp;exact ⟨rfl,rfl⟩))) ?_;exact ⟨by (try dsimp only);rw [Rg.bD (by decide)];exact s_,⟨_,rfl⟩,b8.self _ _⟩
  intro vals wz s_ hF hv;obtain ⟨h_,zV,xk,XN,YN,EN,N⟩:=hF 9 (by decide);obtain ⟨ok,yR⟩:=hF 11 (by decide);simp only [Rg.ay,Rg.fill,Act.put,Nat.reduceAdd];clear hv hF;simp only [zV,yR];clear zV yR;replace s_:A3 Da g B v n ((K+20+2)+2) wz:=s_;replace st:=st.call s_.1 s_.2;replace R:=R.aV s_.2 nR;replace Q:=Q.aV s_.2 nQ;replace C:=C.aV s_.2 nC;replace U:=U.aV s_.2 nU;have szz:=s_.2.size;clear s_;have ⟨Cx,Cy,Cz,yL,yM,AV⟩:=U.bg;have C0:=U.lt;have ⟨N_0,N_1,N_2,KC,KD,KE⟩:=N.bg;have N_l:=N.lt;cases ok
  ·go_wp2
   go_meet
   exact ⟨st.up (by omega),R,Q,C,⟨X,Y,E,U⟩⟩
  go_wp2
  go_meet
  exact ⟨((((st.aR (c:=G+1) (o:=0) (by omega) (by omega) (by omega) _).aR (c:=G+1) (o:=1) (by omega) (by omega) (by omega) _).aR (c:=G+1) (o:=2) (by omega) (by omega) (by omega) _)).up (by omega),((R.other (by omega) _).other (by omega) _).other (by omega) _,((Q.other (by omega) _).other (by omega) _).other (by omega) _,((C.other (by omega) _).other (by omega) _).other (by omega) _,⟨XN,YN,EN,U.qY _ _ _⟩⟩
 case rest=>as_aux_lemma=>
 clear st R Q C U;obtain ⟨st,R,Q,C,X1,Y1,E1,U⟩:=hcut;clear GQ;have szx:=U.lt
 go_wp2_with fail
 refine (cJ g B v n _ 24 _ st.cur (by omega) (by omega) (by omega)).mono ?_;rintro e Cp ⟨x,rfl,⟨JV,JU⟩,xS,p_⟩;replace st:=st.call xS p_;have JF:=p_.size;replace R:=R.aV p_ nR;replace Q:=Q.aV p_ nQ;replace C:=C.aV p_ nC;replace U:=U.aV p_ nU;clear xS p_
 by_cases x0:x=0
 ·subst x0
  have ⟨Cx,Cy,Cz,yL,yM,AV⟩:=U.bg;have C0:=U.lt
  go_wp2_with fail
  clear Cx Cy Cz yL yM AV C0;have zA:=st;replace st:=st.alloc (.cells #[.int .i64 10001,.int .i64 (-10001),.int .i64 (wrap64 (X1+1))] 3);replace R:=R.alloc (.cells #[.int .i64 10001,.int .i64 (-10001),.int .i64 (wrap64 (X1+1))] 3);replace Q:=Q.alloc (.cells #[.int .i64 10001,.int .i64 (-10001),.int .i64 (wrap64 (X1+1))] 3);replace C:=C.alloc (.cells #[.int .i64 10001,.int .i64 (-10001),.int .i64 (wrap64 (X1+1))] 3);replace U:=U.alloc (.cells #[.int .i64 10001,.int .i64 (-10001),.int .i64 (wrap64 (X1+1))] 3);refine (cS g B v n _ [10001,-10001,wrap64 (X1+1)] (Cp).heap.size 3 _ st.cur (by omega) rfl (by omega) (by omega) (by have:=zA.size;omega) (be _ _ _)).mono ?_;rintro e Cq ⟨y,rfl,-,xS,p_⟩;replace st:=st.call xS p_;have Cn:=p_.size;replace R:=R.aV p_ nR;replace Q:=Q.aV p_ nQ;replace C:=C.aV p_ nC;replace U:=U.aV p_ nU;clear xS p_;clear zA;have ⟨Cx,Cy,Cz,yL,yM,AV⟩:=U.bg;have C0:=U.lt
  go_upto_region 18 with fail
  clear Cx Cy Cz yL yM AV C0;replace U:aH _ (G+1) 27 #[.int .i64 y,.int .i64 Y1,.int .i64 E1]:=U.set 0 (.int .i64 y);replace st:=st.aR (c:=G+1) (o:=0) (by omega) (by omega) (by omega) (.int .i64 y);replace R:=R.other (k:=G+1) (i:=0) (by omega) (.int .i64 y);replace Q:=Q.other (k:=G+1) (i:=0) (by omega) (.int .i64 y);replace C:=C.other (k:=G+1) (i:=0) (by omega) (.int .i64 y);generalize Cq.setCell ⟨G+1,0,none⟩ (.int .i64 y)=w8 at *
  have TW:A7 w g B v n (K+100) w.heap.size (w.heap.size+1) [(G,25,#[.int .i64 a,.int .i64 b]),(G+1,27,#[.int .i64 y,.int .i64 Y1,.int .i64 E1])] 25 27 _ _ w8:=⟨⟨st.cur.mono (by omega),st.gr⟩,fun x hx=>(by rcases List.mem_cons.1 hx with rfl | hx;exact C;rcases List.mem_cons.1 hx with rfl | hx;exact U;cases hx),R,Q,⟨xP _,by omega,by omega,by omega,by omega⟩,fun x hx=>(by rcases List.mem_cons.1 hx with rfl | hx;(show w.heap.size+1<G;omega);rcases List.mem_cons.1 hx with rfl | hx;(show w.heap.size+1<G+1;omega);cases hx)⟩
  clear st R Q C U;refine Rg.fP (fun l W=>A7 w g B v n (K+100) w.heap.size (w.heap.size+1) [(G,25,#[.int .i64 a,.int .i64 b]),(G+1,27,#[.int .i64 y,.int .i64 Y1,.int .i64 E1])] 25 27 (bif l 2 then #[.int .i64 a,.int .i64 b] else #[.int .i64 0,.int .i64 0]) (bif l 3 then #[.int .i64 y,.int .i64 Y1,.int .i64 E1] else #[.int .i64 0,.int .i64 0,.int .i64 0]) W) (fun _ _ _=>True) (fun _ _=>True) [2,3] [.agg #[.int .i64 a,.int .i64 b],.agg #[.int .i64 y,.int .i64 Y1,.int .i64 E1],undef,undef] (by kernel_rfl) (by kernel_rfl) (by decide) (fun l l2 W h q=>by rw [←h 2 (by decide),←h 3 (by decide)];exact q) (fun _ _ _ _ _ _=>trivial) TW.drew ⟨?_,?_,?_,?_,trivial⟩ ?_
  ·unfold Rg.aU
   intro zZ w_ l_ j_ s_ xm xo yB xn xS hr;refine ⟨rfl,?_⟩;rw [if_neg (by decide)];have e4:zZ.tmps[4]?=some (.pointer (some ⟨G,0,none⟩)):=hr 4 (by decide);have xj:aH w_ G 25 #[.int .i64 a,.int .i64 b]:=s_.hV (G,25,#[.int .i64 a,.int .i64 b]) (by simp);have ⟨k0,k1,_,_,_⟩:=xj.box
   (first | (go_simp;done) | (go_simp;exact Rg.wr (by omega) (by omega)) | (go_simp;omega) | (go_simp;rfl) | (go_simp;exact ⟨rfl,rfl⟩))
  ·unfold Rg.aU
   intro zZ w_ l_ j_ s_ xm xo yB xn xS hr;refine ⟨rfl,?_⟩;rw [if_neg (by decide)];have e5:zZ.tmps[5]?=some (.pointer (some ⟨G+1,0,none⟩)):=hr 5 (by decide);have xj:aH w_ (G+1) 27 #[.int .i64 y,.int .i64 Y1,.int .i64 E1]:=s_.hV (G+1,27,#[.int .i64 y,.int .i64 Y1,.int .i64 E1]) (by simp);have ⟨k0,k1,k2⟩:=xj.aK
   (first | (go_simp;done) | (go_simp;exact Rg.wr (by omega) (by omega)) | (go_simp;omega) | (go_simp;rfl) | (go_simp;exact ⟨rfl,rfl⟩))
  ·unfold Rg.aU
   intro zZ w_ l_ j_ s_ xm xo yB xn xS hr;have e2:zZ.tmps[2]?=some (.pointer (some ⟨w.heap.size,0,none⟩)):=hr 2 (by decide);have Ia:zZ.tmps[68]?=some (.agg #[.int .i64 a,.int .i64 b]):=hr 68 (by decide);refine ⟨rfl,?_⟩;rw [if_pos (by decide)];have q_:=s_;simp only [xo,cond_false] at q_;have xR:=And.intro (q_.jj (.int .i64 a) (.int .i64 b)) (And.intro True.intro True.intro)
   skip
   have ⟨Aj,Ak,Al,Am,_⟩:=q_.R.box;unfold Oper.wp
   go_simp
   all_goals first | exact xR | exact xR.1 | exact ⟨undef,xR⟩ | exact ⟨_,rfl,xR⟩
  ·unfold Rg.aU
   intro zZ w_ l_ j_ s_ xm xo yB xn xS hr;have e3:zZ.tmps[3]?=some (.pointer (some ⟨w.heap.size+1,0,none⟩)):=hr 3 (by decide);have Ib:zZ.tmps[69]?=some (.agg #[.int .i64 y,.int .i64 Y1,.int .i64 E1]):=hr 69 (by decide);refine ⟨rfl,?_⟩;rw [if_pos (by decide)];have q_:=s_;simp only [xo,cond_false] at q_;have xR:=And.intro (q_.ir (.int .i64 y) (.int .i64 Y1) (.int .i64 E1)) (And.intro True.intro True.intro);have ⟨Aj,Ak,C4,Al,Am,CE⟩:=q_.Q.bg;unfold Oper.wp
   go_simp
   all_goals first | exact xR | exact xR.1 | exact ⟨undef,xR⟩ | exact ⟨_,rfl,xR⟩
  intro vals wz s_ hF hv;simp only [Rg.ay,Rg.fill,Act.put,Nat.reduceAdd];clear hv hF;simp only [cond_true] at s_;obtain ⟨⟨xS,p_⟩,-,R,Q,-,-⟩:=s_;have ⟨Ar,As,t_,xQ,At⟩:=R.box;have ⟨CN,CO,CP,AH,AJ,AK⟩:=Q.bg;have CQ:=Q.lt;go_wp2;exact bodyPost_ret (v:=.tuple #[.agg #[.int .i64 a,.int .i64 b],.agg #[.int .i64 y,.int .i64 Y1,.int .i64 E1]]) (by simp [results,Tryz.results99,go_sem, *]) rfl (⟨a,b,y,Y1,E1,rfl,xS.mono (by omega),p_⟩)
 by_cases x1:x=1
 ·subst x1
  have ⟨Cx,Cy,Cz,yL,yM,AV⟩:=U.bg;have C0:=U.lt
  go_wp2_with fail
  clear Cx Cy Cz yL yM AV C0;have zA:=st;replace st:=st.alloc (.cells #[.int .i64 (wrap64 (Y1+1)),.int .i64 4611686018427387904,.int .i64 (-9223372036854775808)] 3);replace R:=R.alloc (.cells #[.int .i64 (wrap64 (Y1+1)),.int .i64 4611686018427387904,.int .i64 (-9223372036854775808)] 3);replace Q:=Q.alloc (.cells #[.int .i64 (wrap64 (Y1+1)),.int .i64 4611686018427387904,.int .i64 (-9223372036854775808)] 3);replace C:=C.alloc (.cells #[.int .i64 (wrap64 (Y1+1)),.int .i64 4611686018427387904,.int .i64 (-9223372036854775808)] 3);replace U:=U.alloc (.cells #[.int .i64 (wrap64 (Y1+1)),.int .i64 4611686018427387904,.int .i64 (-9223372036854775808)] 3);refine (cS g B v n _ [wrap64 (Y1+1),4611686018427387904,-9223372036854775808] (Cp).heap.size 3 _ st.cur (by omega) rfl (by omega) (by omega) (by have:=zA.size;omega) (be _ _ _)).mono ?_;rintro e Cq ⟨y,rfl,-,xS,p_⟩;replace st:=st.call xS p_;have Cn:=p_.size;replace R:=R.aV p_ nR;replace Q:=Q.aV p_ nQ;replace C:=C.aV p_ nC;replace U:=U.aV p_ nU;clear xS p_;clear zA;have ⟨Cx,Cy,Cz,yL,yM,AV⟩:=U.bg;have C0:=U.lt
  go_upto_region 18 with fail
  clear Cx Cy Cz yL yM AV C0;replace U:aH _ (G+1) 27 #[.int .i64 X1,.int .i64 y,.int .i64 E1]:=U.set 1 (.int .i64 y);replace st:=st.aR (c:=G+1) (o:=1) (by omega) (by omega) (by omega) (.int .i64 y);replace R:=R.other (k:=G+1) (i:=1) (by omega) (.int .i64 y);replace Q:=Q.other (k:=G+1) (i:=1) (by omega) (.int .i64 y);replace C:=C.other (k:=G+1) (i:=1) (by omega) (.int .i64 y);generalize Cq.setCell ⟨G+1,1,none⟩ (.int .i64 y)=w8 at *
  have TW:A7 w g B v n (K+100) w.heap.size (w.heap.size+1) [(G,25,#[.int .i64 a,.int .i64 b]),(G+1,27,#[.int .i64 X1,.int .i64 y,.int .i64 E1])] 25 27 _ _ w8:=⟨⟨st.cur.mono (by omega),st.gr⟩,fun x hx=>(by rcases List.mem_cons.1 hx with rfl | hx;exact C;rcases List.mem_cons.1 hx with rfl | hx;exact U;cases hx),R,Q,⟨xP _,by omega,by omega,by omega,by omega⟩,fun x hx=>(by rcases List.mem_cons.1 hx with rfl | hx;(show w.heap.size+1<G;omega);rcases List.mem_cons.1 hx with rfl | hx;(show w.heap.size+1<G+1;omega);cases hx)⟩
  clear st R Q C U;refine Rg.fP (fun l W=>A7 w g B v n (K+100) w.heap.size (w.heap.size+1) [(G,25,#[.int .i64 a,.int .i64 b]),(G+1,27,#[.int .i64 X1,.int .i64 y,.int .i64 E1])] 25 27 (bif l 2 then #[.int .i64 a,.int .i64 b] else #[.int .i64 0,.int .i64 0]) (bif l 3 then #[.int .i64 X1,.int .i64 y,.int .i64 E1] else #[.int .i64 0,.int .i64 0,.int .i64 0]) W) (fun _ _ _=>True) (fun _ _=>True) [2,3] [.agg #[.int .i64 a,.int .i64 b],.agg #[.int .i64 X1,.int .i64 y,.int .i64 E1],undef,undef] (by kernel_rfl) (by kernel_rfl) (by decide) (fun l l2 W h q=>by rw [←h 2 (by decide),←h 3 (by decide)];exact q) (fun _ _ _ _ _ _=>trivial) TW.drew ⟨?_,?_,?_,?_,trivial⟩ ?_
  ·unfold Rg.aU
   intro zZ w_ l_ j_ s_ xm xo yB xn xS hr;refine ⟨rfl,?_⟩;rw [if_neg (by decide)];have e4:zZ.tmps[4]?=some (.pointer (some ⟨G,0,none⟩)):=hr 4 (by decide);have xj:aH w_ G 25 #[.int .i64 a,.int .i64 b]:=s_.hV (G,25,#[.int .i64 a,.int .i64 b]) (by simp);have ⟨k0,k1,_,_,_⟩:=xj.box
   (first | (go_simp;done) | (go_simp;exact Rg.wr (by omega) (by omega)) | (go_simp;omega) | (go_simp;rfl) | (go_simp;exact ⟨rfl,rfl⟩))
  ·unfold Rg.aU
   intro zZ w_ l_ j_ s_ xm xo yB xn xS hr;refine ⟨rfl,?_⟩;rw [if_neg (by decide)];have e5:zZ.tmps[5]?=some (.pointer (some ⟨G+1,0,none⟩)):=hr 5 (by decide);have xj:aH w_ (G+1) 27 #[.int .i64 X1,.int .i64 y,.int .i64 E1]:=s_.hV (G+1,27,#[.int .i64 X1,.int .i64 y,.int .i64 E1]) (by simp);have ⟨k0,k1,k2⟩:=xj.aK
   (first | (go_simp;done) | (go_simp;exact Rg.wr (by omega) (by omega)) | (go_simp;omega) | (go_simp;rfl) | (go_simp;exact ⟨rfl,rfl⟩))
  ·unfold Rg.aU
   intro zZ w_ l_ j_ s_ xm xo yB xn xS hr;have e2:zZ.tmps[2]?=some (.pointer (some ⟨w.heap.size,0,none⟩)):=hr 2 (by decide);have Ia:zZ.tmps[68]?=some (.agg #[.int .i64 a,.int .i64 b]):=hr 68 (by decide);refine ⟨rfl,?_⟩;rw [if_pos (by decide)];have q_:=s_;simp only [xo,cond_false] at q_;have xR:=And.intro (q_.jj (.int .i64 a) (.int .i64 b)) (And.intro True.intro True.intro)
   skip
   have ⟨Aj,Ak,Al,Am,_⟩:=q_.R.box;unfold Oper.wp
   go_simp
   all_goals first | exact xR | exact xR.1 | exact ⟨undef,xR⟩ | exact ⟨_,rfl,xR⟩
  ·unfold Rg.aU
   intro zZ w_ l_ j_ s_ xm xo yB xn xS hr;have e3:zZ.tmps[3]?=some (.pointer (some ⟨w.heap.size+1,0,none⟩)):=hr 3 (by decide);have Ib:zZ.tmps[69]?=some (.agg #[.int .i64 X1,.int .i64 y,.int .i64 E1]):=hr 69 (by decide);refine ⟨rfl,?_⟩;rw [if_pos (by decide)];have q_:=s_;simp only [xo,cond_false] at q_;have xR:=And.intro (q_.ir (.int .i64 X1) (.int .i64 y) (.int .i64 E1)) (And.intro True.intro True.intro);have ⟨Aj,Ak,C4,Al,Am,CE⟩:=q_.Q.bg;unfold Oper.wp
   go_simp
   all_goals first | exact xR | exact xR.1 | exact ⟨undef,xR⟩ | exact ⟨_,rfl,xR⟩
  intro vals wz s_ hF hv;simp only [Rg.ay,Rg.fill,Act.put,Nat.reduceAdd];clear hv hF;simp only [cond_true] at s_;obtain ⟨⟨xS,p_⟩,-,R,Q,-,-⟩:=s_;have ⟨Ar,As,t_,xQ,At⟩:=R.box;have ⟨CN,CO,CP,AH,AJ,AK⟩:=Q.bg;have CQ:=Q.lt;go_wp2;exact bodyPost_ret (v:=.tuple #[.agg #[.int .i64 a,.int .i64 b],.agg #[.int .i64 X1,.int .i64 y,.int .i64 E1]]) (by simp [results,Tryz.results99,go_sem, *]) rfl (⟨a,b,X1,y,E1,rfl,xS.mono (by omega),p_⟩)
 by_cases x2:x=2
 ·subst x2
  go_wp2_with fail
  have zA:=st;replace st:=st.alloc (.cells #[.int .i64 (-1),.int .i64 0,.int .i64 2,.int .i64 21] 3);replace R:=R.alloc (.cells #[.int .i64 (-1),.int .i64 0,.int .i64 2,.int .i64 21] 3);replace Q:=Q.alloc (.cells #[.int .i64 (-1),.int .i64 0,.int .i64 2,.int .i64 21] 3);replace C:=C.alloc (.cells #[.int .i64 (-1),.int .i64 0,.int .i64 2,.int .i64 21] 3);replace U:=U.alloc (.cells #[.int .i64 (-1),.int .i64 0,.int .i64 2,.int .i64 21] 3);refine (cS g B v n _ [-1,0,2,21] (Cp).heap.size 4 _ st.cur (by omega) rfl (by omega) (by omega) (by have:=zA.size;omega) (be _ _ _)).mono ?_;rintro e Cq ⟨y,rfl,-,xS,p_⟩;replace st:=st.call xS p_;have Cn:=p_.size;replace R:=R.aV p_ nR;replace Q:=Q.aV p_ nQ;replace C:=C.aV p_ nC;replace U:=U.aV p_ nU;clear xS p_;clear zA;have ⟨Cx,Cy,Cz,yL,yM,AV⟩:=U.bg;have C0:=U.lt
  go_upto_region 18 with fail
  clear Cx Cy Cz yL yM AV C0;replace U:aH _ (G+1) 27 #[.int .i64 X1,.int .i64 Y1,.int .i64 y]:=U.set 2 (.int .i64 y);replace st:=st.aR (c:=G+1) (o:=2) (by omega) (by omega) (by omega) (.int .i64 y);replace R:=R.other (k:=G+1) (i:=2) (by omega) (.int .i64 y);replace Q:=Q.other (k:=G+1) (i:=2) (by omega) (.int .i64 y);replace C:=C.other (k:=G+1) (i:=2) (by omega) (.int .i64 y);generalize Cq.setCell ⟨G+1,2,none⟩ (.int .i64 y)=w8 at *
  have TW:A7 w g B v n (K+100) w.heap.size (w.heap.size+1) [(G,25,#[.int .i64 a,.int .i64 b]),(G+1,27,#[.int .i64 X1,.int .i64 Y1,.int .i64 y])] 25 27 _ _ w8:=⟨⟨st.cur.mono (by omega),st.gr⟩,fun x hx=>(by rcases List.mem_cons.1 hx with rfl | hx;exact C;rcases List.mem_cons.1 hx with rfl | hx;exact U;cases hx),R,Q,⟨xP _,by omega,by omega,by omega,by omega⟩,fun x hx=>(by rcases List.mem_cons.1 hx with rfl | hx;(show w.heap.size+1<G;omega);rcases List.mem_cons.1 hx with rfl | hx;(show w.heap.size+1<G+1;omega);cases hx)⟩
  clear st R Q C U;refine Rg.fP (fun l W=>A7 w g B v n (K+100) w.heap.size (w.heap.size+1) [(G,25,#[.int .i64 a,.int .i64 b]),(G+1,27,#[.int .i64 X1,.int .i64 Y1,.int .i64 y])] 25 27 (bif l 2 then #[.int .i64 a,.int .i64 b] else #[.int .i64 0,.int .i64 0]) (bif l 3 then #[.int .i64 X1,.int .i64 Y1,.int .i64 y] else #[.int .i64 0,.int .i64 0,.int .i64 0]) W) (fun _ _ _=>True) (fun _ _=>True) [2,3] [.agg #[.int .i64 a,.int .i64 b],.agg #[.int .i64 X1,.int .i64 Y1,.int .i64 y],undef,undef] (by kernel_rfl) (by kernel_rfl) (by decide) (fun l l2 W h q=>by rw [←h 2 (by decide),←h 3 (by decide)];exact q) (fun _ _ _ _ _ _=>trivial) TW.drew ⟨?_,?_,?_,?_,trivial⟩ ?_
  ·unfold Rg.aU
   intro zZ w_ l_ j_ s_ xm xo yB xn xS hr;refine ⟨rfl,?_⟩;rw [if_neg (by decide)];have e4:zZ.tmps[4]?=some (.pointer (some ⟨G,0,none⟩)):=hr 4 (by decide);have xj:aH w_ G 25 #[.int .i64 a,.int .i64 b]:=s_.hV (G,25,#[.int .i64 a,.int .i64 b]) (by simp);have ⟨k0,k1,_,_,_⟩:=xj.box
   (first | (go_simp;done) | (go_simp;exact Rg.wr (by omega) (by omega)) | (go_simp;omega) | (go_simp;rfl) | (go_simp;exact ⟨rfl,rfl⟩))
  ·unfold Rg.aU
   intro zZ w_ l_ j_ s_ xm xo yB xn xS hr;refine ⟨rfl,?_⟩;rw [if_neg (by decide)];have e5:zZ.tmps[5]?=some (.pointer (some ⟨G+1,0,none⟩)):=hr 5 (by decide);have xj:aH w_ (G+1) 27 #[.int .i64 X1,.int .i64 Y1,.int .i64 y]:=s_.hV (G+1,27,#[.int .i64 X1,.int .i64 Y1,.int .i64 y]) (by simp);have ⟨k0,k1,k2⟩:=xj.aK
   (first | (go_simp;done) | (go_simp;exact Rg.wr (by omega) (by omega)) | (go_simp;omega) | (go_simp;rfl) | (go_simp;exact ⟨rfl,rfl⟩))
  ·unfold Rg.aU
   intro zZ w_ l_ j_ s_ xm xo yB xn xS hr;have e2:zZ.tmps[2]?=some (.pointer (some ⟨w.heap.size,0,none⟩)):=hr 2 (by decide);have Ia:zZ.tmps[68]?=some (.agg #[.int .i64 a,.int .i64 b]):=hr 68 (by decide);refine ⟨rfl,?_⟩;rw [if_pos (by decide)];have q_:=s_;simp only [xo,cond_false] at q_;have xR:=And.intro (q_.jj (.int .i64 a) (.int .i64 b)) (And.intro True.intro True.intro)
   skip
   have ⟨Aj,Ak,Al,Am,_⟩:=q_.R.box;unfold Oper.wp
   go_simp
   all_goals first | exact xR | exact xR.1 | exact ⟨undef,xR⟩ | exact ⟨_,rfl,xR⟩
  ·unfold Rg.aU
   intro zZ w_ l_ j_ s_ xm xo yB xn xS hr;have e3:zZ.tmps[3]?=some (.pointer (some ⟨w.heap.size+1,0,none⟩)):=hr 3 (by decide);have Ib:zZ.tmps[69]?=some (.agg #[.int .i64 X1,.int .i64 Y1,.int .i64 y]):=hr 69 (by decide);refine ⟨rfl,?_⟩;rw [if_pos (by decide)];have q_:=s_;simp only [xo,cond_false] at q_;have xR:=And.intro (q_.ir (.int .i64 X1) (.int .i64 Y1) (.int .i64 y)) (And.intro True.intro True.intro);have ⟨Aj,Ak,C4,Al,Am,CE⟩:=q_.Q.bg;unfold Oper.wp
   go_simp
   all_goals first | exact xR | exact xR.1 | exact ⟨undef,xR⟩ | exact ⟨_,rfl,xR⟩
  intro vals wz s_ hF hv;simp only [Rg.ay,Rg.fill,Act.put,Nat.reduceAdd];clear hv hF;simp only [cond_true] at s_;obtain ⟨⟨xS,p_⟩,-,R,Q,-,-⟩:=s_;have ⟨Ar,As,t_,xQ,At⟩:=R.box;have ⟨CN,CO,CP,AH,AJ,AK⟩:=Q.bg;have CQ:=Q.lt;go_wp2;exact bodyPost_ret (v:=.tuple #[.agg #[.int .i64 a,.int .i64 b],.agg #[.int .i64 X1,.int .i64 Y1,.int .i64 y]]) (by simp [results,Tryz.results99,go_sem, *]) rfl (⟨a,b,X1,Y1,y,rfl,xS.mono (by omega),p_⟩)
 by_cases x3:x=3
 ·subst x3
  go_wp2_with fail
  refine (nf g B v n _ _ st.cur (by omega)).mono ?_;rintro e Cq ⟨a2,b2,rfl,xS,p_⟩;replace st:=st.call xS p_;have Cn:=p_.size;replace R:=R.aV p_ nR;replace Q:=Q.aV p_ nQ;replace C:=C.aV p_ nC;replace U:=U.aV p_ nU;clear xS p_;have ⟨Fk,C_1,CH,CI,Fl⟩:=C.box
  go_upto_region 18 with fail
  clear Fk C_1 CH CI Fl;replace C:=C.set2 (.int .i64 a2) (.int .i64 b2);replace R:=(R.other (k:=G) (i:=0) (by omega) (.int .i64 a2)).other (k:=G) (i:=1) (by omega) (.int .i64 b2);replace Q:=(Q.other (k:=G) (i:=0) (by omega) (.int .i64 a2)).other (k:=G) (i:=1) (by omega) (.int .i64 b2);replace U:=(U.other (k:=G) (i:=0) (by omega) (.int .i64 a2)).other (k:=G) (i:=1) (by omega) (.int .i64 b2);replace st:=(st.aR (c:=G) (o:=0) (by omega) (by omega) (by omega) (.int .i64 a2)).aR (c:=G) (o:=1) (by omega) (by omega) (by omega) (.int .i64 b2);generalize (Cq.setCell ⟨G,0,none⟩ (.int .i64 a2)).setCell ⟨G,1,none⟩ (.int .i64 b2)=w8 at *
  have TW:A7 w g B v n (K+100) w.heap.size (w.heap.size+1) [(G,25,#[.int .i64 a2,.int .i64 b2]),(G+1,27,#[.int .i64 X1,.int .i64 Y1,.int .i64 E1])] 25 27 _ _ w8:=⟨⟨st.cur.mono (by omega),st.gr⟩,fun x hx=>(by rcases List.mem_cons.1 hx with rfl | hx;exact C;rcases List.mem_cons.1 hx with rfl | hx;exact U;cases hx),R,Q,⟨xP _,by omega,by omega,by omega,by omega⟩,fun x hx=>(by rcases List.mem_cons.1 hx with rfl | hx;(show w.heap.size+1<G;omega);rcases List.mem_cons.1 hx with rfl | hx;(show w.heap.size+1<G+1;omega);cases hx)⟩
  clear st R Q C U;refine Rg.fP (fun l W=>A7 w g B v n (K+100) w.heap.size (w.heap.size+1) [(G,25,#[.int .i64 a2,.int .i64 b2]),(G+1,27,#[.int .i64 X1,.int .i64 Y1,.int .i64 E1])] 25 27 (bif l 2 then #[.int .i64 a2,.int .i64 b2] else #[.int .i64 0,.int .i64 0]) (bif l 3 then #[.int .i64 X1,.int .i64 Y1,.int .i64 E1] else #[.int .i64 0,.int .i64 0,.int .i64 0]) W) (fun _ _ _=>True) (fun _ _=>True) [2,3] [.agg #[.int .i64 a2,.int .i64 b2],.agg #[.int .i64 X1,.int .i64 Y1,.int .i64 E1],undef,undef] (by kernel_rfl) (by kernel_rfl) (by decide) (fun l l2 W h q=>by rw [←h 2 (by decide),←h 3 (by decide)];exact q) (fun _ _ _ _ _ _=>trivial) TW.drew ⟨?_,?_,?_,?_,trivial⟩ ?_
  ·unfold Rg.aU
   intro zZ w_ l_ j_ s_ xm xo yB xn xS hr;refine ⟨rfl,?_⟩;rw [if_neg (by decide)];have e4:zZ.tmps[4]?=some (.pointer (some ⟨G,0,none⟩)):=hr 4 (by decide);have xj:aH w_ G 25 #[.int .i64 a2,.int .i64 b2]:=s_.hV (G,25,#[.int .i64 a2,.int .i64 b2]) (by simp);have ⟨k0,k1,_,_,_⟩:=xj.box
   (first | (go_simp;done) | (go_simp;exact Rg.wr (by omega) (by omega)) | (go_simp;omega) | (go_simp;rfl) | (go_simp;exact ⟨rfl,rfl⟩))
  ·unfold Rg.aU
   intro zZ w_ l_ j_ s_ xm xo yB xn xS hr;refine ⟨rfl,?_⟩;rw [if_neg (by decide)];have e5:zZ.tmps[5]?=some (.pointer (some ⟨G+1,0,none⟩)):=hr 5 (by decide);have xj:aH w_ (G+1) 27 #[.int .i64 X1,.int .i64 Y1,.int .i64 E1]:=s_.hV (G+1,27,#[.int .i64 X1,.int .i64 Y1,.int .i64 E1]) (by simp);have ⟨k0,k1,k2⟩:=xj.aK
   (first | (go_simp;done) | (go_simp;exact Rg.wr (by omega) (by omega)) | (go_simp;omega) | (go_simp;rfl) | (go_simp;exact ⟨rfl,rfl⟩))
  ·unfold Rg.aU
   intro zZ w_ l_ j_ s_ xm xo yB xn xS hr;have e2:zZ.tmps[2]?=some (.pointer (some ⟨w.heap.size,0,none⟩)):=hr 2 (by decide);have Ia:zZ.tmps[68]?=some (.agg #[.int .i64 a2,.int .i64 b2]):=hr 68 (by decide);refine ⟨rfl,?_⟩;rw [if_pos (by decide)];have q_:=s_;simp only [xo,cond_false] at q_;have xR:=And.intro (q_.jj (.int .i64 a2) (.int .i64 b2)) (And.intro True.intro True.intro)
   skip
   have ⟨Aj,Ak,Al,Am,_⟩:=q_.R.box;unfold Oper.wp
   go_simp
   all_goals first | exact xR | exact xR.1 | exact ⟨undef,xR⟩ | exact ⟨_,rfl,xR⟩
  ·unfold Rg.aU
   intro zZ w_ l_ j_ s_ xm xo yB xn xS hr;have e3:zZ.tmps[3]?=some (.pointer (some ⟨w.heap.size+1,0,none⟩)):=hr 3 (by decide);have Ib:zZ.tmps[69]?=some (.agg #[.int .i64 X1,.int .i64 Y1,.int .i64 E1]):=hr 69 (by decide);refine ⟨rfl,?_⟩;rw [if_pos (by decide)];have q_:=s_;simp only [xo,cond_false] at q_;have xR:=And.intro (q_.ir (.int .i64 X1) (.int .i64 Y1) (.int .i64 E1)) (And.intro True.intro True.intro);have ⟨Aj,Ak,C4,Al,Am,CE⟩:=q_.Q.bg;unfold Oper.wp
   go_simp
   all_goals first | exact xR | exact xR.1 | exact ⟨undef,xR⟩ | exact ⟨_,rfl,xR⟩
  intro vals wz s_ hF hv;simp only [Rg.ay,Rg.fill,Act.put,Nat.reduceAdd];clear hv hF;simp only [cond_true] at s_;obtain ⟨⟨xS,p_⟩,-,R,Q,-,-⟩:=s_;have ⟨Ar,As,t_,xQ,At⟩:=R.box;have ⟨CN,CO,CP,AH,AJ,AK⟩:=Q.bg;have CQ:=Q.lt;go_wp2;exact bodyPost_ret (v:=.tuple #[.agg #[.int .i64 a2,.int .i64 b2],.agg #[.int .i64 X1,.int .i64 Y1,.int .i64 E1]]) (by simp [results,Tryz.results99,go_sem, *]) rfl (⟨a2,b2,X1,Y1,E1,rfl,xS.mono (by omega),p_⟩)
 by_cases x4:x=4
 ·subst x4
  go_wp2_with fail
  have zA:=st;replace st:=st.alloc (.cells #[.int .i64 10000,.int .i64 10001] 3);replace R:=R.alloc (.cells #[.int .i64 10000,.int .i64 10001] 3);replace Q:=Q.alloc (.cells #[.int .i64 10000,.int .i64 10001] 3);replace C:=C.alloc (.cells #[.int .i64 10000,.int .i64 10001] 3);replace U:=U.alloc (.cells #[.int .i64 10000,.int .i64 10001] 3);refine (cS g B v n _ [10000,10001] (Cp).heap.size 2 _ st.cur (by omega) rfl (by omega) (by omega) (by have:=zA.size;omega) (be _ _ _)).mono ?_;rintro e Cq ⟨y,rfl,-,xS,p_⟩;replace st:=st.call xS p_;have Cn:=p_.size;replace R:=R.aV p_ nR;replace Q:=Q.aV p_ nQ;replace C:=C.aV p_ nC;replace U:=U.aV p_ nU;clear xS p_;clear zA
  go_wp2_with fail
  have zA:=st;replace st:=st.alloc (.cells #[.int .i64 1000000,.int .i64 (-1000000)] 3);replace R:=R.alloc (.cells #[.int .i64 1000000,.int .i64 (-1000000)] 3);replace Q:=Q.alloc (.cells #[.int .i64 1000000,.int .i64 (-1000000)] 3);replace C:=C.alloc (.cells #[.int .i64 1000000,.int .i64 (-1000000)] 3);replace U:=U.alloc (.cells #[.int .i64 1000000,.int .i64 (-1000000)] 3);refine (cS g B v n _ [1000000,-1000000] (Cq).heap.size 2 _ st.cur (by omega) rfl (by omega) (by omega) (by have:=zA.size;omega) (be _ _ _)).mono ?_;rintro e w_z ⟨z,rfl,-,xS,p_⟩;replace st:=st.call xS p_;have OW:=p_.size;replace R:=R.aV p_ nR;replace Q:=Q.aV p_ nQ;replace C:=C.aV p_ nC;replace U:=U.aV p_ nU;clear xS p_;clear zA;have ⟨Ar,As,t_,xQ,At⟩:=R.box;have ⟨CN,CO,CP,AH,AJ,AK⟩:=Q.bg;have CQ:=Q.lt;go_wp2;exact bodyPost_ret (v:=.tuple #[.agg #[.int .i64 1,.int .i64 (-10000)],.agg #[.int .i64 y,.int .i64 z,.int .i64 1]]) (by simp [results,Tryz.results99,go_sem, *]) rfl (⟨1,(-10000),y,z,1,rfl,(((((st.aR (c:=w.heap.size) (o:=0) (by omega) (by omega) (by omega) (.int .i64 1)).aR (c:=w.heap.size) (o:=1) (by omega) (by omega) (by omega) (.int .i64 (-10000))).aR (c:=w.heap.size+1) (o:=0) (by omega) (by omega) (by omega) (.int .i64 y)).aR (c:=w.heap.size+1) (o:=1) (by omega) (by omega) (by omega) (.int .i64 z)).aR (c:=w.heap.size+1) (o:=2) (by omega) (by omega) (by omega) (.int .i64 1)).cur.mono (by omega),(((((st.aR (c:=w.heap.size) (o:=0) (by omega) (by omega) (by omega) (.int .i64 1)).aR (c:=w.heap.size) (o:=1) (by omega) (by omega) (by omega) (.int .i64 (-10000))).aR (c:=w.heap.size+1) (o:=0) (by omega) (by omega) (by omega) (.int .i64 y)).aR (c:=w.heap.size+1) (o:=1) (by omega) (by omega) (by omega) (.int .i64 z)).aR (c:=w.heap.size+1) (o:=2) (by omega) (by omega) (by omega) (.int .i64 1)).gr⟩)
 have b0:(x == 0)=false:=by simpa using x0
 have b1:(x == 1)=false:=by simpa using x1
 have b2:(x == 2)=false:=by simpa using x2
 have b3:(x == 3)=false:=by simpa using x3
 have b4:(x == 4)=false:=by simpa using x4
 go_upto_region 18 with fail
 generalize Cp=w8 at *
 have TW:A7 w g B v n (K+100) w.heap.size (w.heap.size+1) [(G,25,#[.int .i64 a,.int .i64 b]),(G+1,27,#[.int .i64 X1,.int .i64 Y1,.int .i64 E1])] 25 27 _ _ w8:=⟨⟨st.cur.mono (by omega),st.gr⟩,fun x hx=>(by rcases List.mem_cons.1 hx with rfl | hx;exact C;rcases List.mem_cons.1 hx with rfl | hx;exact U;cases hx),R,Q,⟨xP _,by omega,by omega,by omega,by omega⟩,fun x hx=>(by rcases List.mem_cons.1 hx with rfl | hx;(show w.heap.size+1<G;omega);rcases List.mem_cons.1 hx with rfl | hx;(show w.heap.size+1<G+1;omega);cases hx)⟩
 clear st R Q C U;refine Rg.fP (fun l W=>A7 w g B v n (K+100) w.heap.size (w.heap.size+1) [(G,25,#[.int .i64 a,.int .i64 b]),(G+1,27,#[.int .i64 X1,.int .i64 Y1,.int .i64 E1])] 25 27 (bif l 2 then #[.int .i64 a,.int .i64 b] else #[.int .i64 0,.int .i64 0]) (bif l 3 then #[.int .i64 X1,.int .i64 Y1,.int .i64 E1] else #[.int .i64 0,.int .i64 0,.int .i64 0]) W) (fun _ _ _=>True) (fun _ _=>True) [2,3] [.agg #[.int .i64 a,.int .i64 b],.agg #[.int .i64 X1,.int .i64 Y1,.int .i64 E1],undef,undef] (by kernel_rfl) (by kernel_rfl) (by decide) (fun l l2 W h q=>by rw [←h 2 (by decide),←h 3 (by decide)];exact q) (fun _ _ _ _ _ _=>trivial) TW.drew ⟨?_,?_,?_,?_,trivial⟩ ?_
 ·unfold Rg.aU
  intro zZ w_ l_ j_ s_ xm xo yB xn xS hr;refine ⟨rfl,?_⟩;rw [if_neg (by decide)];have e4:zZ.tmps[4]?=some (.pointer (some ⟨G,0,none⟩)):=hr 4 (by decide);have xj:aH w_ G 25 #[.int .i64 a,.int .i64 b]:=s_.hV (G,25,#[.int .i64 a,.int .i64 b]) (by simp);have ⟨k0,k1,_,_,_⟩:=xj.box
  (first | (go_simp;done) | (go_simp;exact Rg.wr (by omega) (by omega)) | (go_simp;omega) | (go_simp;rfl) | (go_simp;exact ⟨rfl,rfl⟩))
 ·unfold Rg.aU
  intro zZ w_ l_ j_ s_ xm xo yB xn xS hr;refine ⟨rfl,?_⟩;rw [if_neg (by decide)];have e5:zZ.tmps[5]?=some (.pointer (some ⟨G+1,0,none⟩)):=hr 5 (by decide);have xj:aH w_ (G+1) 27 #[.int .i64 X1,.int .i64 Y1,.int .i64 E1]:=s_.hV (G+1,27,#[.int .i64 X1,.int .i64 Y1,.int .i64 E1]) (by simp);have ⟨k0,k1,k2⟩:=xj.aK
  (first | (go_simp;done) | (go_simp;exact Rg.wr (by omega) (by omega)) | (go_simp;omega) | (go_simp;rfl) | (go_simp;exact ⟨rfl,rfl⟩))
 ·unfold Rg.aU
  intro zZ w_ l_ j_ s_ xm xo yB xn xS hr;have e2:zZ.tmps[2]?=some (.pointer (some ⟨w.heap.size,0,none⟩)):=hr 2 (by decide);have Ia:zZ.tmps[68]?=some (.agg #[.int .i64 a,.int .i64 b]):=hr 68 (by decide);refine ⟨rfl,?_⟩;rw [if_pos (by decide)];have q_:=s_;simp only [xo,cond_false] at q_;have xR:=And.intro (q_.jj (.int .i64 a) (.int .i64 b)) (And.intro True.intro True.intro)
  skip
  have ⟨Aj,Ak,Al,Am,_⟩:=q_.R.box;unfold Oper.wp
  go_simp
  all_goals first | exact xR | exact xR.1 | exact ⟨undef,xR⟩ | exact ⟨_,rfl,xR⟩
 ·unfold Rg.aU
  intro zZ w_ l_ j_ s_ xm xo yB xn xS hr;have e3:zZ.tmps[3]?=some (.pointer (some ⟨w.heap.size+1,0,none⟩)):=hr 3 (by decide);have Ib:zZ.tmps[69]?=some (.agg #[.int .i64 X1,.int .i64 Y1,.int .i64 E1]):=hr 69 (by decide);refine ⟨rfl,?_⟩;rw [if_pos (by decide)];have q_:=s_;simp only [xo,cond_false] at q_;have xR:=And.intro (q_.ir (.int .i64 X1) (.int .i64 Y1) (.int .i64 E1)) (And.intro True.intro True.intro);have ⟨Aj,Ak,C4,Al,Am,CE⟩:=q_.Q.bg;unfold Oper.wp
  go_simp
  all_goals first | exact xR | exact xR.1 | exact ⟨undef,xR⟩ | exact ⟨_,rfl,xR⟩
 intro vals wz s_ hF hv;simp only [Rg.ay,Rg.fill,Act.put,Nat.reduceAdd];clear hv hF;simp only [cond_true] at s_;obtain ⟨⟨xS,p_⟩,-,R,Q,-,-⟩:=s_;have ⟨Ar,As,t_,xQ,At⟩:=R.box;have ⟨CN,CO,CP,AH,AJ,AK⟩:=Q.bg;have CQ:=Q.lt;go_wp2;exact bodyPost_ret (v:=.tuple #[.agg #[.int .i64 a,.int .i64 b],.agg #[.int .i64 X1,.int .i64 Y1,.int .i64 E1]]) (by simp [results,Tryz.results99,go_sem, *]) rfl (⟨a,b,X1,Y1,E1,rfl,xS.mono (by omega),p_⟩)
end
end Go.Proofs.YtggekfbfechonaaGreat
