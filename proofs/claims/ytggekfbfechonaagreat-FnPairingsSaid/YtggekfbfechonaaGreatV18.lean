/-
  Joined texts: contracts and plain lemmas.
-/
import Derived.Test.YtggekfbfechonaaGreatV1
import Derived.Test.YtggekfbfechonaaGreatV17
import Derived.Test.YtggekfbfechonaaGreatV16
set_option linter.unusedSimpArgs false
set_option linter.unusedVariables false
set_option maxRecDepth 100000
set_option maxHeartbeats 8000000
namespace Go.Proofs.YtggekfbfechonaaGreat
section
open Go.RowKit
def oX (W:World) (h:Nat):Prop:=∃ a b:Int,aH W h 25 #[.int .i64 a,.int .i64 b]
structure AA (w:World) (g B:Nat) (v:Value) (n K e c r1 r2 r3:Nat) (a b:Int) (T:TypeId) (xs:Array Value) (W:World):Prop where
 rd:A3 w g B v n K W
 E:aH W e 25 #[.int .i64 a,.int .i64 b]
 L:aH W c T xs
 R1:oX W r1
 R2:f9 W r2
 R3:f9 W r3
 hn:w.heap.size≤r1∧r1<r2∧r2<r3∧r3<e∧r3<c∧g<w.heap.size∧B≤g
theorem oX.aV {W W':World} {h g:Nat} (q:oX W h) (hg:W.grownBy W' (some g)) (hn:h≠g):oX W' h:=by
 obtain ⟨a,b,q⟩:=q;exact ⟨a,b,q.aV hg hn⟩
theorem f9.aV {W W':World} {h g:Nat} (q:f9 W h) (hg:W.grownBy W' (some g)) (hn:h≠g):f9 W' h:=by
 obtain ⟨a,b,c,q⟩:=q;exact ⟨a,b,c,q.aV hg hn⟩
theorem AA.call {w W W':World} {g B n K K' e c r1 r2 r3:Nat} {v:Value} {a b:Int} {T:TypeId} {xs:Array Value} (h:AA w g B v n K e c r1 r2 r3 a b T xs W) (hc:cX W' g B v n K') (hg:W.grownBy W' (some g)):AA w g B v n K' e c r1 r2 r3 a b T xs W':=by
 have hn:=h.hn;exact ⟨h.rd.call hc hg,h.E.aV hg (by omega),h.L.aV hg (by omega),h.R1.aV hg (by omega),h.R2.aV hg (by omega),h.R3.aV hg (by omega),hn⟩
theorem AA.jj {w W:World} {g B n K e c r1 r2 r3:Nat} {v:Value} {a b:Int} {T:TypeId} {xs:Array Value} (h:AA w g B v n K e c r1 r2 r3 a b T xs W) (x y:Int):AA w g B v n K e c r1 r2 r3 a b T xs ((W.setCell ⟨r1,0,none⟩ (.int .i64 x)).setCell ⟨r1,1,none⟩ (.int .i64 y)):=by
 have hn:=h.hn;obtain ⟨rd,E,L,⟨a1,b1,R1⟩,⟨x2,y2,z2,R2⟩,⟨x3,y3,z3,R3⟩,-⟩:=h;exact ⟨(rd.put (by omega) (by omega) (by omega) 0 _).put (by omega) (by omega) (by omega) 1 _,(E.other (by omega) _).other (by omega) _,(L.other (by omega) _).other (by omega) _,⟨x,y,R1.set2 _ _⟩,⟨x2,y2,z2,(R2.other (by omega) _).other (by omega) _⟩,⟨x3,y3,z3,(R3.other (by omega) _).other (by omega) _⟩,hn⟩
theorem AA.ir {w W:World} {g B n K e c r1 r2 r3:Nat} {v:Value} {a b:Int} {T:TypeId} {xs:Array Value} (h:AA w g B v n K e c r1 r2 r3 a b T xs W) (x y z:Int):AA w g B v n K e c r1 r2 r3 a b T xs (((W.setCell ⟨r2,0,none⟩ (.int .i64 x)).setCell ⟨r2,1,none⟩ (.int .i64 y)).setCell ⟨r2,2,none⟩ (.int .i64 z)):=by
 have hn:=h.hn;obtain ⟨rd,E,L,⟨a1,b1,R1⟩,⟨x2,y2,z2,R2⟩,⟨x3,y3,z3,R3⟩,-⟩:=h;exact ⟨((rd.put (by omega) (by omega) (by omega) 0 _).put (by omega) (by omega) (by omega) 1 _).put (by omega) (by omega) (by omega) 2 _,((E.other (by omega) _).other (by omega) _).other (by omega) _,((L.other (by omega) _).other (by omega) _).other (by omega) _,⟨a1,b1,((R1.other (by omega) _).other (by omega) _).other (by omega) _⟩,⟨x,y,z,R2.pV _ _ _⟩,⟨x3,y3,z3,((R3.other (by omega) _).other (by omega) _).other (by omega) _⟩,hn⟩
theorem AA.vU {w W:World} {g B n K e c r1 r2 r3:Nat} {v:Value} {a b:Int} {T:TypeId} {xs:Array Value} (h:AA w g B v n K e c r1 r2 r3 a b T xs W) (x y z:Int):AA w g B v n K e c r1 r2 r3 a b T xs (((W.setCell ⟨r3,0,none⟩ (.int .i64 x)).setCell ⟨r3,1,none⟩ (.int .i64 y)).setCell ⟨r3,2,none⟩ (.int .i64 z)):=by
 have hn:=h.hn;obtain ⟨rd,E,L,⟨a1,b1,R1⟩,⟨x2,y2,z2,R2⟩,⟨x3,y3,z3,R3⟩,-⟩:=h;exact ⟨((rd.put (by omega) (by omega) (by omega) 0 _).put (by omega) (by omega) (by omega) 1 _).put (by omega) (by omega) (by omega) 2 _,((E.other (by omega) _).other (by omega) _).other (by omega) _,((L.other (by omega) _).other (by omega) _).other (by omega) _,⟨a1,b1,((R1.other (by omega) _).other (by omega) _).other (by omega) _⟩,⟨x2,y2,z2,((R2.other (by omega) _).other (by omega) _).other (by omega) _⟩,⟨x,y,z,R3.pV _ _ _⟩,hn⟩
theorem AA.drew {w W:World} {g B n K e c r1 r2 r3:Nat} {v:Value} {a b:Int} {T:TypeId} {xs:Array Value} (h:AA w g B v n K e c r1 r2 r3 a b T xs W):AA w g B v n K e c r1 r2 r3 a b T xs W.drew:=h.call (h.rd.1.keep (xO _ _).drew) (fW (dE _ _) 1)
def wE (xs:Array Value):Prop:=∀ k:Nat,k<4→∃ X Y E:Int,xs[k*3]?=some (.int .i64 X)∧xs[k*3+1]?=some (.int .i64 Y)∧xs[k*3+2]?=some (.int .i64 E)
def tK (c:Nat) (u:Value):Prop:=∃ k:Nat,k<4∧u=.pointer (some ⟨c,k*3,none⟩)
theorem ig (g B:Nat) (v:Value) (n K:Nat) (w:World) (h:cX w g B v n K) (hk:K≤400000000) :
  Calls Tryz.prog 82 #[.pointer (some ⟨g,0,none⟩)] w (pq w g B v n (K+120)):=by
 have hl:=h.size;obtain ⟨wc,hw3,R,Q,U,BB⟩:=fM w #[.int .i64 0,.int .i64 0] 25 #[.int .i64 0,.int .i64 0,.int .i64 0] 27 #[.int .i64 0,.int .i64 0,.int .i64 0] 27;have st:=(St.start h).keep BB;have hB:=st.lt;have hwc:=BB.size
 have nR:w.heap.size≠g:=by omega
 have nQ:w.heap.size+1≠g:=by omega
 have nU:w.heap.size+1+1≠g:=by omega
 have hUl:=U.lt;clear h BB;go_enter Tryz.func82,Tryz.ntmps82
 go_wp2_with fail
 refine (jf g B v n _ 3 _ st.cur (by omega) (by omega) (by omega)).mono ?_;rintro e Da ⟨t,rfl,xS,p_⟩;replace st:=st.call xS p_;have OV:=p_.size;replace R:=R.aV p_ nR;replace Q:=Q.aV p_ nQ;replace U:=U.aV p_ nU;clear xS p_;have hUl2:=U.lt;cases t
 case true=>
  have E:=aH.new Da #[.int .i64 (-16),.int .i64 25] 25;have zlE:=st.size;have zgE:=st.le;replace st:=st.alloc (.cells #[.int .i64 (-16),.int .i64 25] 25);replace R:=R.alloc (.cells #[.int .i64 (-16),.int .i64 25] 25);replace Q:=Q.alloc (.cells #[.int .i64 (-16),.int .i64 25] 25);replace U:=U.alloc (.cells #[.int .i64 (-16),.int .i64 25] 25)
  have nE:Da.heap.size≠g:=by omega
  have L:=aH.new (Da.alloc (.cells #[.int .i64 (-16),.int .i64 25] 25)) #[.int .i64 0,.int .i64 5,.int .i64 1,.int .i64 4,.int .i64 5,.int .i64 1,.int .i64 (-4),.int .i64 5,.int .i64 1,.int .i64 0,.int .i64 (-5),.int .i64 1] 27;rw [xM] at L;have zlL:=st.size;replace st:=st.alloc (.cells #[.int .i64 0,.int .i64 5,.int .i64 1,.int .i64 4,.int .i64 5,.int .i64 1,.int .i64 (-4),.int .i64 5,.int .i64 1,.int .i64 0,.int .i64 (-5),.int .i64 1] 27);replace R:=R.alloc (.cells #[.int .i64 0,.int .i64 5,.int .i64 1,.int .i64 4,.int .i64 5,.int .i64 1,.int .i64 (-4),.int .i64 5,.int .i64 1,.int .i64 0,.int .i64 (-5),.int .i64 1] 27);replace Q:=Q.alloc (.cells #[.int .i64 0,.int .i64 5,.int .i64 1,.int .i64 4,.int .i64 5,.int .i64 1,.int .i64 (-4),.int .i64 5,.int .i64 1,.int .i64 0,.int .i64 (-5),.int .i64 1] 27);replace U:=U.alloc (.cells #[.int .i64 0,.int .i64 5,.int .i64 1,.int .i64 4,.int .i64 5,.int .i64 1,.int .i64 (-4),.int .i64 5,.int .i64 1,.int .i64 0,.int .i64 (-5),.int .i64 1] 27);replace E:=E.alloc (.cells #[.int .i64 0,.int .i64 5,.int .i64 1,.int .i64 4,.int .i64 5,.int .i64 1,.int .i64 (-4),.int .i64 5,.int .i64 1,.int .i64 0,.int .i64 (-5),.int .i64 1] 27)
  have nL:Da.heap.size+1≠g:=by omega
  go_wp2_with fail
  generalize Da.heap.size=G at *;refine (jf g B v n _ 2 _ st.cur (by omega) (by omega) (by omega)).mono ?_;rintro e w_s ⟨s,rfl,xS,p_⟩;replace st:=st.call xS p_;have sz_s:=p_.size;replace R:=R.aV p_ nR;replace Q:=Q.aV p_ nQ;replace U:=U.aV p_ nU;replace E:=E.aV p_ nE;replace L:=L.aV p_ nL;clear xS p_;cases s
  case false=>
   go_upto_region 7 with fail
   have hT:Hid (wE #[.int .i64 0,.int .i64 5,.int .i64 1,.int .i64 4,.int .i64 5,.int .i64 1,.int .i64 (-4),.int .i64 5,.int .i64 1,.int .i64 0,.int .i64 (-5),.int .i64 1]):=xL (fun k hk=>match k,hk with | 0,_=>⟨0,5,1,rfl,rfl,rfl⟩ | 1,_=>⟨4,5,1,rfl,rfl,rfl⟩ | 2,_=>⟨(-4),5,1,rfl,rfl,rfl⟩ | 3,_=>⟨0,(-5),1,rfl,rfl,rfl⟩)
   have TW:AA w g B v n (K+2+2) G (G+1) w.heap.size (w.heap.size+1) (w.heap.size+1+1) (-16) 25 27 #[.int .i64 0,.int .i64 5,.int .i64 1,.int .i64 4,.int .i64 5,.int .i64 1,.int .i64 (-4),.int .i64 5,.int .i64 1,.int .i64 0,.int .i64 (-5),.int .i64 1] _:=⟨⟨st.cur,st.gr⟩,E,L,⟨_,_,R⟩,⟨_,_,_,Q⟩,⟨_,_,_,U⟩,by omega⟩
   generalize (#[.int .i64 0,.int .i64 5,.int .i64 1,.int .i64 4,.int .i64 5,.int .i64 1,.int .i64 (-4),.int .i64 5,.int .i64 1,.int .i64 0,.int .i64 (-5),.int .i64 1]:Array Value)=xs at *;clear st R Q U E L;refine Rg.fP (fun l W=>AA w g B v n ((K+2+2)+Rg.zg [(3,2),(8,2)] l) G (G+1) w.heap.size (w.heap.size+1) (w.heap.size+1+1) (-16) 25 27 xs W) (fun i u W=>match i with | 3=>FS 0 3 u | 4=>tK (G+1) u | 5=>nW u | 8=>FS 0 3 u | 9=>tK (G+1) u | 10=>nW u | _=>True) (fun _ _=>True) [3,4,5,8,9,10,11,12,13] [.agg #[.int .i64 (-16),.int .i64 25],.slice (some ⟨G+1,0,none⟩) 4 4,.pointer (some ⟨g,0,none⟩),undef,undef,undef,.slice (some ⟨G+1,0,none⟩) 4 4,.pointer (some ⟨g,0,none⟩),undef,undef,undef,undef,undef,undef] (by kernel_rfl) (by kernel_rfl) (by decide) (fun l l2 W h q=>by rw [←Rg.ft (C:=[(3,2),(8,2)]) (l:=l) fun p hp=>h p.1 (by revert p;decide)];exact q) (fun i u w1 w2 hR h=>match i,h with | 0,h=>trivial | 1,h=>trivial | 2,h=>trivial | 3,h=>h | 4,h=>h | 5,h=>h | 6,h=>trivial | 7,h=>trivial | 8,h=>h | 9,h=>h | 10,h=>h | 11,h=>trivial | 12,h=>trivial | 13,h=>trivial | n_+14,_=>trivial) TW.drew ⟨?_,?_,?_,?_,?_,?_,?_,?_,?_,?_,?_,?_,?_,?_,trivial⟩ ?_
   ·unfold Rg.aU
    intro zZ w_ l_ j_ s_ xm xo yB xn xS hr;refine ⟨rfl,?_⟩;rw [if_neg (by decide)];have e5:zZ.tmps[5]?=some (.pointer (some ⟨G,0,none⟩)):=hr 5 (by decide);have ⟨k0,k1,_,_,_⟩:=s_.E.box
    (first | (go_simp;done) | (go_simp;exact Rg.wr (by omega) (by omega)) | (go_simp;omega) | (go_simp;rfl) | (go_simp;exact ⟨rfl,rfl⟩))
   ·unfold Rg.aU
    intro zZ w_ l_ j_ s_ xm xo yB xn xS hr;refine ⟨rfl,?_⟩;rw [if_neg (by decide)];have e6:zZ.tmps[6]?=some (.slice (some ⟨G+1,0,none⟩) 4 4):=hr 6 (by decide)
    go_simp
   ·unfold Rg.aU
    intro zZ w_ l_ j_ s_ xm xo yB xn xS hr;refine ⟨rfl,?_⟩;rw [if_neg (by decide)];have e0:zZ.tmps[0]?=some (.pointer (some ⟨g,0,none⟩)):=hr 0 (by decide)
    go_simp
   ·unfold Rg.aU
    intro zZ w_ l_ j_ s_ xm xo yB xn xS hr;have e27:zZ.tmps[27]?=some (.pointer (some ⟨g,0,none⟩)):=hr 27 (by decide)
    have ef:∀ f,zZ.eval (.func f)=.func (.func f) #[] #[]:=fun _=>rfl
    have ec:=Rg.ec zZ;refine ⟨rfl,?_⟩;rw [if_pos (by decide)];have DO:=Rg.fY [(3,2),(8,2)] l_;rw [show Rg.zg [(3,2),(8,2)] (fun _=>true)=4 from rfl] at DO;refine Rg.gW (by go_simp;exact ⟨rfl,rfl⟩) ?_;have GX:=s_.hn;refine (cJ g B v n _ 4 _ s_.rd.1 (by omega) (by omega) (by omega)).mono ?_;rintro e_ Fg ⟨u_,rfl,Dq,Ac,p_⟩;exact ⟨_,rfl,by (try dsimp only);rw [Rg.gL (c:=2) (by decide) rfl xo];exact s_.call Ac p_,⟨u_,Dq,rfl⟩,trivial⟩
   ·unfold Rg.aU
    intro zZ w_ l_ j_ s_ xm xo yB xn xS hr;have e26:zZ.tmps[26]?=some (.slice (some ⟨G+1,0,none⟩) 4 4):=hr 26 (by decide);have e28:zZ.tmps[28]?=some (j_ 3):=hr 28 (by decide);refine ⟨rfl,?_⟩;rw [if_pos (by decide)];obtain ⟨x_,⟨CY,CZ⟩,yX⟩:=xm 3 (by decide) (xn 3 (by kernel_rfl));rw [yX] at e28
    obtain ⟨k_,rfl⟩:∃ k:Nat,x_=k:=⟨x_.toNat,by omega⟩
    have Bb:(k_:Int)<4:=by omega
    have BP:k_<4:=by omega
    refine Rg.fE (x:=.pointer (some ⟨G+1,k_*3,none⟩)) (w2:=w_) (by (first | (go_simp;done) | (go_simp;exact Rg.wr (by omega) (by omega)) | (go_simp;omega) | (go_simp;rfl) | (go_simp;exact ⟨rfl,rfl⟩))) ?_;exact ⟨by (try dsimp only);rw [Rg.bD (by decide)];exact s_,⟨k_,BP,rfl⟩,trivial⟩
   ·unfold Rg.aU
    intro zZ w_ l_ j_ s_ xm xo yB xn xS hr;have e29:zZ.tmps[29]?=some (j_ 4):=hr 29 (by decide);refine ⟨rfl,?_⟩;rw [if_pos (by decide)];obtain ⟨k_,Ex,yX⟩:=xm 4 (by decide) (xn 4 (by kernel_rfl));rw [yX] at e29;obtain ⟨X_,Y_,E_,HR,HS,HU⟩:=hT.out k_ Ex;have k0:=(s_.L.cell (k_*3)).trans HR;have k1:=(s_.L.cell (k_*3+1)).trans HS;have k2:=(s_.L.cell (k_*3+2)).trans HU;refine Rg.fE (x:=.agg #[.int .i64 X_,.int .i64 Y_,.int .i64 E_]) (w2:=w_) (by (first | (go_simp;done) | (go_simp;exact Rg.wr (by omega) (by omega)) | (go_simp;omega) | (go_simp;rfl) | (go_simp;exact ⟨rfl,rfl⟩))) ?_;exact ⟨by (try dsimp only);rw [Rg.bD (by decide)];exact s_,⟨_,_,_,rfl⟩,trivial⟩
   ·unfold Rg.aU
    intro zZ w_ l_ j_ s_ xm xo yB xn xS hr;refine ⟨rfl,?_⟩;rw [if_neg (by decide)];have e6:zZ.tmps[6]?=some (.slice (some ⟨G+1,0,none⟩) 4 4):=hr 6 (by decide)
    go_simp
   ·unfold Rg.aU
    intro zZ w_ l_ j_ s_ xm xo yB xn xS hr;refine ⟨rfl,?_⟩;rw [if_neg (by decide)];have e0:zZ.tmps[0]?=some (.pointer (some ⟨g,0,none⟩)):=hr 0 (by decide)
    go_simp
   ·unfold Rg.aU
    intro zZ w_ l_ j_ s_ xm xo yB xn xS hr;have e32:zZ.tmps[32]?=some (.pointer (some ⟨g,0,none⟩)):=hr 32 (by decide)
    have ef:∀ f,zZ.eval (.func f)=.func (.func f) #[] #[]:=fun _=>rfl
    have ec:=Rg.ec zZ;refine ⟨rfl,?_⟩;rw [if_pos (by decide)];have DO:=Rg.fY [(3,2),(8,2)] l_;rw [show Rg.zg [(3,2),(8,2)] (fun _=>true)=4 from rfl] at DO;refine Rg.gW (by go_simp;exact ⟨rfl,rfl⟩) ?_;have GX:=s_.hn;refine (cJ g B v n _ 4 _ s_.rd.1 (by omega) (by omega) (by omega)).mono ?_;rintro e_ Fg ⟨u_,rfl,Dq,Ac,p_⟩;exact ⟨_,rfl,by (try dsimp only);rw [Rg.gL (c:=2) (by decide) rfl xo];exact s_.call Ac p_,⟨u_,Dq,rfl⟩,trivial⟩
   ·unfold Rg.aU
    intro zZ w_ l_ j_ s_ xm xo yB xn xS hr;have e31:zZ.tmps[31]?=some (.slice (some ⟨G+1,0,none⟩) 4 4):=hr 31 (by decide);have e33:zZ.tmps[33]?=some (j_ 8):=hr 33 (by decide);refine ⟨rfl,?_⟩;rw [if_pos (by decide)];obtain ⟨x_,⟨CY,CZ⟩,yX⟩:=xm 8 (by decide) (xn 8 (by kernel_rfl));rw [yX] at e33
    obtain ⟨k_,rfl⟩:∃ k:Nat,x_=k:=⟨x_.toNat,by omega⟩
    have Bb:(k_:Int)<4:=by omega
    have BP:k_<4:=by omega
    refine Rg.fE (x:=.pointer (some ⟨G+1,k_*3,none⟩)) (w2:=w_) (by (first | (go_simp;done) | (go_simp;exact Rg.wr (by omega) (by omega)) | (go_simp;omega) | (go_simp;rfl) | (go_simp;exact ⟨rfl,rfl⟩))) ?_;exact ⟨by (try dsimp only);rw [Rg.bD (by decide)];exact s_,⟨k_,BP,rfl⟩,trivial⟩
   ·unfold Rg.aU
    intro zZ w_ l_ j_ s_ xm xo yB xn xS hr;have e34:zZ.tmps[34]?=some (j_ 9):=hr 34 (by decide);refine ⟨rfl,?_⟩;rw [if_pos (by decide)];obtain ⟨k_,Ex,yX⟩:=xm 9 (by decide) (xn 9 (by kernel_rfl));rw [yX] at e34;obtain ⟨X_,Y_,E_,HR,HS,HU⟩:=hT.out k_ Ex;have k0:=(s_.L.cell (k_*3)).trans HR;have k1:=(s_.L.cell (k_*3+1)).trans HS;have k2:=(s_.L.cell (k_*3+2)).trans HU;refine Rg.fE (x:=.agg #[.int .i64 X_,.int .i64 Y_,.int .i64 E_]) (w2:=w_) (by (first | (go_simp;done) | (go_simp;exact Rg.wr (by omega) (by omega)) | (go_simp;omega) | (go_simp;rfl) | (go_simp;exact ⟨rfl,rfl⟩))) ?_;exact ⟨by (try dsimp only);rw [Rg.bD (by decide)];exact s_,⟨_,_,_,rfl⟩,trivial⟩
   ·unfold Rg.aU
    intro zZ w_ l_ j_ s_ xm xo yB xn xS hr;have e2:zZ.tmps[2]?=some (.pointer (some ⟨w.heap.size,0,none⟩)):=hr 2 (by decide);have e25:zZ.tmps[25]?=some (.agg #[.int .i64 (-16),.int .i64 25]):=hr 25 (by decide);refine ⟨rfl,?_⟩;rw [if_pos (by decide)]
    have xR:AA w g B v n ((K+2+2)+Rg.zg [(3,2),(8,2)] (Rg.upd l_ 11)) G (G+1) w.heap.size (w.heap.size+1) (w.heap.size+1+1) (-16) 25 27 xs ((w_.setCell ⟨w.heap.size,0,none⟩ (.int .i64 (-16))).setCell ⟨w.heap.size,1,none⟩ (.int .i64 25))∧True∧True:=⟨by (try dsimp only);rw [Rg.bD (by decide)];exact s_.jj (-16) 25,trivial,trivial⟩
    obtain ⟨FU,ES,Aa⟩:=s_.R1;have ⟨Aj,Ak,Al,Am,_⟩:=Aa.box;unfold Oper.wp
    go_simp
    all_goals first | exact xR | exact xR.1 | exact ⟨undef,xR⟩ | exact ⟨_,rfl,xR⟩
   ·unfold Rg.aU
    intro zZ w_ l_ j_ s_ xm xo yB xn xS hr;have e3:zZ.tmps[3]?=some (.pointer (some ⟨w.heap.size+1,0,none⟩)):=hr 3 (by decide);have e30:zZ.tmps[30]?=some (j_ 5):=hr 30 (by decide);refine ⟨rfl,?_⟩;rw [if_pos (by decide)];obtain ⟨X_,Y_,E_,yX⟩:=xm 5 (by decide) (xn 5 (by kernel_rfl));rw [yX] at e30
    have xR:AA w g B v n ((K+2+2)+Rg.zg [(3,2),(8,2)] (Rg.upd l_ 12)) G (G+1) w.heap.size (w.heap.size+1) (w.heap.size+1+1) (-16) 25 27 xs (((w_.setCell ⟨w.heap.size+1,0,none⟩ (.int .i64 X_)).setCell ⟨w.heap.size+1,1,none⟩ (.int .i64 Y_)).setCell ⟨w.heap.size+1,2,none⟩ (.int .i64 E_))∧True∧True:=⟨by (try dsimp only);rw [Rg.bD (by decide)];exact s_.ir X_ Y_ E_,trivial,trivial⟩
    obtain ⟨FU,ES,IZ,Aa⟩:=s_.R2;have ⟨Aj,Ak,C4,Al,Am,CE⟩:=Aa.bg;unfold Oper.wp
    go_simp
    all_goals first | exact xR | exact xR.1 | exact ⟨undef,xR⟩ | exact ⟨_,rfl,xR⟩
   ·unfold Rg.aU
    intro zZ w_ l_ j_ s_ xm xo yB xn xS hr;have e4:zZ.tmps[4]?=some (.pointer (some ⟨w.heap.size+1+1,0,none⟩)):=hr 4 (by decide);have e35:zZ.tmps[35]?=some (j_ 10):=hr 35 (by decide);refine ⟨rfl,?_⟩;rw [if_pos (by decide)];obtain ⟨X_,Y_,E_,yX⟩:=xm 10 (by decide) (xn 10 (by kernel_rfl));rw [yX] at e35
    have xR:AA w g B v n ((K+2+2)+Rg.zg [(3,2),(8,2)] (Rg.upd l_ 13)) G (G+1) w.heap.size (w.heap.size+1) (w.heap.size+1+1) (-16) 25 27 xs (((w_.setCell ⟨w.heap.size+1+1,0,none⟩ (.int .i64 X_)).setCell ⟨w.heap.size+1+1,1,none⟩ (.int .i64 Y_)).setCell ⟨w.heap.size+1+1,2,none⟩ (.int .i64 E_))∧True∧True:=⟨by (try dsimp only);rw [Rg.bD (by decide)];exact s_.vU X_ Y_ E_,trivial,trivial⟩
    obtain ⟨FU,ES,IZ,Aa⟩:=s_.R3;have ⟨Aj,Ak,C4,Al,Am,CE⟩:=Aa.bg;unfold Oper.wp
    go_simp
    all_goals first | exact xR | exact xR.1 | exact ⟨undef,xR⟩ | exact ⟨_,rfl,xR⟩
   intro vals wz s_ hF hv;simp only [Rg.ay,Rg.fill,Act.put,Nat.reduceAdd];clear hv hF;replace s_:AA w g B v n (K+2+2+4) G (G+1) w.heap.size (w.heap.size+1) (w.heap.size+1+1) (-16) 25 27 xs wz:=s_;have GX:=s_.hn;obtain ⟨⟨xS,p_⟩,-,-,⟨a1,b1,R⟩,⟨X1,Y1,E1,Q⟩,⟨X2,Y2,E2,U⟩,-⟩:=s_;have ⟨Ar,As,t_,xQ,At⟩:=R.box;have ⟨CN,CO,CP,AH,AJ,AK⟩:=Q.bg;have CQ:=Q.lt;have ⟨Cx,Cy,Cz,yL,yM,AV⟩:=U.bg;have C0:=U.lt;go_wp2;exact bodyPost_ret (v:=.tuple #[.agg #[.int .i64 a1,.int .i64 b1],.agg #[.int .i64 X1,.int .i64 Y1,.int .i64 E1],.agg #[.int .i64 X2,.int .i64 Y2,.int .i64 E2]]) (by simp [results,Tryz.results82,go_sem, *]) rfl (⟨a1,b1,X1,Y1,E1,X2,Y2,E2,rfl,xS.mono (by omega),p_⟩)
  case true=>
  have zs:=st.size;have zt:=st.le;clear L;have ⟨Cu,Cv,AQ,AS,Cw⟩:=E.box
  go_upto_region 6 with fail
  clear Cu Cv AQ AS Cw;replace E:=E.set2 (.int .i64 (-82)) (.int .i64 0);replace R:=(R.other (k:=G) (i:=0) (by omega) (.int .i64 (-82))).other (k:=G) (i:=1) (by omega) (.int .i64 0);replace Q:=(Q.other (k:=G) (i:=0) (by omega) (.int .i64 (-82))).other (k:=G) (i:=1) (by omega) (.int .i64 0);replace U:=(U.other (k:=G) (i:=0) (by omega) (.int .i64 (-82))).other (k:=G) (i:=1) (by omega) (.int .i64 0);replace st:=(st.aR (c:=G) (o:=0) (by omega) (by omega) (by omega) (.int .i64 (-82))).aR (c:=G) (o:=1) (by omega) (by omega) (by omega) (.int .i64 0);have zw:=st.size;have zv:=st.le;have zu:=U.lt;have ze:=E.lt;generalize (w_s.setCell ⟨G,0,none⟩ (.int .i64 (-82))).setCell ⟨G,1,none⟩ (.int .i64 0)=w8 at *;have L:=aH.new w8 #[.int .i64 (-1),.int .i64 9,.int .i64 1,.int .i64 (-8),.int .i64 12,.int .i64 1,.int .i64 (-9),.int .i64 3,.int .i64 1,.int .i64 0,.int .i64 0,.int .i64 1] 27;replace st:=st.alloc (.cells #[.int .i64 (-1),.int .i64 9,.int .i64 1,.int .i64 (-8),.int .i64 12,.int .i64 1,.int .i64 (-9),.int .i64 3,.int .i64 1,.int .i64 0,.int .i64 0,.int .i64 1] 27);replace R:=R.alloc (.cells #[.int .i64 (-1),.int .i64 9,.int .i64 1,.int .i64 (-8),.int .i64 12,.int .i64 1,.int .i64 (-9),.int .i64 3,.int .i64 1,.int .i64 0,.int .i64 0,.int .i64 1] 27);replace Q:=Q.alloc (.cells #[.int .i64 (-1),.int .i64 9,.int .i64 1,.int .i64 (-8),.int .i64 12,.int .i64 1,.int .i64 (-9),.int .i64 3,.int .i64 1,.int .i64 0,.int .i64 0,.int .i64 1] 27);replace U:=U.alloc (.cells #[.int .i64 (-1),.int .i64 9,.int .i64 1,.int .i64 (-8),.int .i64 12,.int .i64 1,.int .i64 (-9),.int .i64 3,.int .i64 1,.int .i64 0,.int .i64 0,.int .i64 1] 27);replace E:=E.alloc (.cells #[.int .i64 (-1),.int .i64 9,.int .i64 1,.int .i64 (-8),.int .i64 12,.int .i64 1,.int .i64 (-9),.int .i64 3,.int .i64 1,.int .i64 0,.int .i64 0,.int .i64 1] 27)
  go_upto_region 7 with fail
  generalize w8.heap.size=G2 at *;have hT:Hid (wE #[.int .i64 (-1),.int .i64 9,.int .i64 1,.int .i64 (-8),.int .i64 12,.int .i64 1,.int .i64 (-9),.int .i64 3,.int .i64 1,.int .i64 0,.int .i64 0,.int .i64 1]):=xL (fun k hk=>match k,hk with | 0,_=>⟨(-1),9,1,rfl,rfl,rfl⟩ | 1,_=>⟨(-8),12,1,rfl,rfl,rfl⟩ | 2,_=>⟨(-9),3,1,rfl,rfl,rfl⟩ | 3,_=>⟨0,0,1,rfl,rfl,rfl⟩)
  have TW:AA w g B v n (K+2+2) G (G2) w.heap.size (w.heap.size+1) (w.heap.size+1+1) (-82) 0 27 #[.int .i64 (-1),.int .i64 9,.int .i64 1,.int .i64 (-8),.int .i64 12,.int .i64 1,.int .i64 (-9),.int .i64 3,.int .i64 1,.int .i64 0,.int .i64 0,.int .i64 1] _:=⟨⟨st.cur,st.gr⟩,E,L,⟨_,_,R⟩,⟨_,_,_,Q⟩,⟨_,_,_,U⟩,by omega⟩
  generalize (#[.int .i64 (-1),.int .i64 9,.int .i64 1,.int .i64 (-8),.int .i64 12,.int .i64 1,.int .i64 (-9),.int .i64 3,.int .i64 1,.int .i64 0,.int .i64 0,.int .i64 1]:Array Value)=xs at *;clear st R Q U E L;refine Rg.fP (fun l W=>AA w g B v n ((K+2+2)+Rg.zg [(3,2),(8,2)] l) G (G2) w.heap.size (w.heap.size+1) (w.heap.size+1+1) (-82) 0 27 xs W) (fun i u W=>match i with | 3=>FS 0 3 u | 4=>tK (G2) u | 5=>nW u | 8=>FS 0 3 u | 9=>tK (G2) u | 10=>nW u | _=>True) (fun _ _=>True) [3,4,5,8,9,10,11,12,13] [.agg #[.int .i64 (-82),.int .i64 0],.slice (some ⟨G2,0,none⟩) 4 4,.pointer (some ⟨g,0,none⟩),undef,undef,undef,.slice (some ⟨G2,0,none⟩) 4 4,.pointer (some ⟨g,0,none⟩),undef,undef,undef,undef,undef,undef] (by kernel_rfl) (by kernel_rfl) (by decide) (fun l l2 W h q=>by rw [←Rg.ft (C:=[(3,2),(8,2)]) (l:=l) fun p hp=>h p.1 (by revert p;decide)];exact q) (fun i u w1 w2 hR h=>match i,h with | 0,h=>trivial | 1,h=>trivial | 2,h=>trivial | 3,h=>h | 4,h=>h | 5,h=>h | 6,h=>trivial | 7,h=>trivial | 8,h=>h | 9,h=>h | 10,h=>h | 11,h=>trivial | 12,h=>trivial | 13,h=>trivial | n_+14,_=>trivial) TW.drew ⟨?_,?_,?_,?_,?_,?_,?_,?_,?_,?_,?_,?_,?_,?_,trivial⟩ ?_
  ·unfold Rg.aU
   intro zZ w_ l_ j_ s_ xm xo yB xn xS hr;refine ⟨rfl,?_⟩;rw [if_neg (by decide)];have e5:zZ.tmps[5]?=some (.pointer (some ⟨G,0,none⟩)):=hr 5 (by decide);have ⟨k0,k1,_,_,_⟩:=s_.E.box
   (first | (go_simp;done) | (go_simp;exact Rg.wr (by omega) (by omega)) | (go_simp;omega) | (go_simp;rfl) | (go_simp;exact ⟨rfl,rfl⟩))
  ·unfold Rg.aU
   intro zZ w_ l_ j_ s_ xm xo yB xn xS hr;refine ⟨rfl,?_⟩;rw [if_neg (by decide)];have e6:zZ.tmps[6]?=some (.slice (some ⟨G2,0,none⟩) 4 4):=hr 6 (by decide)
   go_simp
  ·unfold Rg.aU
   intro zZ w_ l_ j_ s_ xm xo yB xn xS hr;refine ⟨rfl,?_⟩;rw [if_neg (by decide)];have e0:zZ.tmps[0]?=some (.pointer (some ⟨g,0,none⟩)):=hr 0 (by decide)
   go_simp
  ·unfold Rg.aU
   intro zZ w_ l_ j_ s_ xm xo yB xn xS hr;have e27:zZ.tmps[27]?=some (.pointer (some ⟨g,0,none⟩)):=hr 27 (by decide)
   have ef:∀ f,zZ.eval (.func f)=.func (.func f) #[] #[]:=fun _=>rfl
   have ec:=Rg.ec zZ;refine ⟨rfl,?_⟩;rw [if_pos (by decide)];have DO:=Rg.fY [(3,2),(8,2)] l_;rw [show Rg.zg [(3,2),(8,2)] (fun _=>true)=4 from rfl] at DO;refine Rg.gW (by go_simp;exact ⟨rfl,rfl⟩) ?_;have GX:=s_.hn;refine (cJ g B v n _ 4 _ s_.rd.1 (by omega) (by omega) (by omega)).mono ?_;rintro e_ Fg ⟨u_,rfl,Dq,Ac,p_⟩;exact ⟨_,rfl,by (try dsimp only);rw [Rg.gL (c:=2) (by decide) rfl xo];exact s_.call Ac p_,⟨u_,Dq,rfl⟩,trivial⟩
  ·unfold Rg.aU
   intro zZ w_ l_ j_ s_ xm xo yB xn xS hr;have e26:zZ.tmps[26]?=some (.slice (some ⟨G2,0,none⟩) 4 4):=hr 26 (by decide);have e28:zZ.tmps[28]?=some (j_ 3):=hr 28 (by decide);refine ⟨rfl,?_⟩;rw [if_pos (by decide)];obtain ⟨x_,⟨CY,CZ⟩,yX⟩:=xm 3 (by decide) (xn 3 (by kernel_rfl));rw [yX] at e28
   obtain ⟨k_,rfl⟩:∃ k:Nat,x_=k:=⟨x_.toNat,by omega⟩
   have Bb:(k_:Int)<4:=by omega
   have BP:k_<4:=by omega
   refine Rg.fE (x:=.pointer (some ⟨G2,k_*3,none⟩)) (w2:=w_) (by (first | (go_simp;done) | (go_simp;exact Rg.wr (by omega) (by omega)) | (go_simp;omega) | (go_simp;rfl) | (go_simp;exact ⟨rfl,rfl⟩))) ?_;exact ⟨by (try dsimp only);rw [Rg.bD (by decide)];exact s_,⟨k_,BP,rfl⟩,trivial⟩
  ·unfold Rg.aU
   intro zZ w_ l_ j_ s_ xm xo yB xn xS hr;have e29:zZ.tmps[29]?=some (j_ 4):=hr 29 (by decide);refine ⟨rfl,?_⟩;rw [if_pos (by decide)];obtain ⟨k_,Ex,yX⟩:=xm 4 (by decide) (xn 4 (by kernel_rfl));rw [yX] at e29;obtain ⟨X_,Y_,E_,HR,HS,HU⟩:=hT.out k_ Ex;have k0:=(s_.L.cell (k_*3)).trans HR;have k1:=(s_.L.cell (k_*3+1)).trans HS;have k2:=(s_.L.cell (k_*3+2)).trans HU;refine Rg.fE (x:=.agg #[.int .i64 X_,.int .i64 Y_,.int .i64 E_]) (w2:=w_) (by (first | (go_simp;done) | (go_simp;exact Rg.wr (by omega) (by omega)) | (go_simp;omega) | (go_simp;rfl) | (go_simp;exact ⟨rfl,rfl⟩))) ?_;exact ⟨by (try dsimp only);rw [Rg.bD (by decide)];exact s_,⟨_,_,_,rfl⟩,trivial⟩
  ·unfold Rg.aU
   intro zZ w_ l_ j_ s_ xm xo yB xn xS hr;refine ⟨rfl,?_⟩;rw [if_neg (by decide)];have e6:zZ.tmps[6]?=some (.slice (some ⟨G2,0,none⟩) 4 4):=hr 6 (by decide)
   go_simp
  ·unfold Rg.aU
   intro zZ w_ l_ j_ s_ xm xo yB xn xS hr;refine ⟨rfl,?_⟩;rw [if_neg (by decide)];have e0:zZ.tmps[0]?=some (.pointer (some ⟨g,0,none⟩)):=hr 0 (by decide)
   go_simp
  ·unfold Rg.aU
   intro zZ w_ l_ j_ s_ xm xo yB xn xS hr;have e32:zZ.tmps[32]?=some (.pointer (some ⟨g,0,none⟩)):=hr 32 (by decide)
   have ef:∀ f,zZ.eval (.func f)=.func (.func f) #[] #[]:=fun _=>rfl
   have ec:=Rg.ec zZ;refine ⟨rfl,?_⟩;rw [if_pos (by decide)];have DO:=Rg.fY [(3,2),(8,2)] l_;rw [show Rg.zg [(3,2),(8,2)] (fun _=>true)=4 from rfl] at DO;refine Rg.gW (by go_simp;exact ⟨rfl,rfl⟩) ?_;have GX:=s_.hn;refine (cJ g B v n _ 4 _ s_.rd.1 (by omega) (by omega) (by omega)).mono ?_;rintro e_ Fg ⟨u_,rfl,Dq,Ac,p_⟩;exact ⟨_,rfl,by (try dsimp only);rw [Rg.gL (c:=2) (by decide) rfl xo];exact s_.call Ac p_,⟨u_,Dq,rfl⟩,trivial⟩
  ·unfold Rg.aU
   intro zZ w_ l_ j_ s_ xm xo yB xn xS hr;have e31:zZ.tmps[31]?=some (.slice (some ⟨G2,0,none⟩) 4 4):=hr 31 (by decide);have e33:zZ.tmps[33]?=some (j_ 8):=hr 33 (by decide);refine ⟨rfl,?_⟩;rw [if_pos (by decide)];obtain ⟨x_,⟨CY,CZ⟩,yX⟩:=xm 8 (by decide) (xn 8 (by kernel_rfl));rw [yX] at e33
   obtain ⟨k_,rfl⟩:∃ k:Nat,x_=k:=⟨x_.toNat,by omega⟩
   have Bb:(k_:Int)<4:=by omega
   have BP:k_<4:=by omega
   refine Rg.fE (x:=.pointer (some ⟨G2,k_*3,none⟩)) (w2:=w_) (by (first | (go_simp;done) | (go_simp;exact Rg.wr (by omega) (by omega)) | (go_simp;omega) | (go_simp;rfl) | (go_simp;exact ⟨rfl,rfl⟩))) ?_;exact ⟨by (try dsimp only);rw [Rg.bD (by decide)];exact s_,⟨k_,BP,rfl⟩,trivial⟩
  ·unfold Rg.aU
   intro zZ w_ l_ j_ s_ xm xo yB xn xS hr;have e34:zZ.tmps[34]?=some (j_ 9):=hr 34 (by decide);refine ⟨rfl,?_⟩;rw [if_pos (by decide)];obtain ⟨k_,Ex,yX⟩:=xm 9 (by decide) (xn 9 (by kernel_rfl));rw [yX] at e34;obtain ⟨X_,Y_,E_,HR,HS,HU⟩:=hT.out k_ Ex;have k0:=(s_.L.cell (k_*3)).trans HR;have k1:=(s_.L.cell (k_*3+1)).trans HS;have k2:=(s_.L.cell (k_*3+2)).trans HU;refine Rg.fE (x:=.agg #[.int .i64 X_,.int .i64 Y_,.int .i64 E_]) (w2:=w_) (by (first | (go_simp;done) | (go_simp;exact Rg.wr (by omega) (by omega)) | (go_simp;omega) | (go_simp;rfl) | (go_simp;exact ⟨rfl,rfl⟩))) ?_;exact ⟨by (try dsimp only);rw [Rg.bD (by decide)];exact s_,⟨_,_,_,rfl⟩,trivial⟩
  ·unfold Rg.aU
   intro zZ w_ l_ j_ s_ xm xo yB xn xS hr;have e2:zZ.tmps[2]?=some (.pointer (some ⟨w.heap.size,0,none⟩)):=hr 2 (by decide);have e25:zZ.tmps[25]?=some (.agg #[.int .i64 (-82),.int .i64 0]):=hr 25 (by decide);refine ⟨rfl,?_⟩;rw [if_pos (by decide)]
   have xR:AA w g B v n ((K+2+2)+Rg.zg [(3,2),(8,2)] (Rg.upd l_ 11)) G (G2) w.heap.size (w.heap.size+1) (w.heap.size+1+1) (-82) 0 27 xs ((w_.setCell ⟨w.heap.size,0,none⟩ (.int .i64 (-82))).setCell ⟨w.heap.size,1,none⟩ (.int .i64 0))∧True∧True:=⟨by (try dsimp only);rw [Rg.bD (by decide)];exact s_.jj (-82) 0,trivial,trivial⟩
   obtain ⟨FU,ES,Aa⟩:=s_.R1;have ⟨Aj,Ak,Al,Am,_⟩:=Aa.box;unfold Oper.wp
   go_simp
   all_goals first | exact xR | exact xR.1 | exact ⟨undef,xR⟩ | exact ⟨_,rfl,xR⟩
  ·unfold Rg.aU
   intro zZ w_ l_ j_ s_ xm xo yB xn xS hr;have e3:zZ.tmps[3]?=some (.pointer (some ⟨w.heap.size+1,0,none⟩)):=hr 3 (by decide);have e30:zZ.tmps[30]?=some (j_ 5):=hr 30 (by decide);refine ⟨rfl,?_⟩;rw [if_pos (by decide)];obtain ⟨X_,Y_,E_,yX⟩:=xm 5 (by decide) (xn 5 (by kernel_rfl));rw [yX] at e30
   have xR:AA w g B v n ((K+2+2)+Rg.zg [(3,2),(8,2)] (Rg.upd l_ 12)) G (G2) w.heap.size (w.heap.size+1) (w.heap.size+1+1) (-82) 0 27 xs (((w_.setCell ⟨w.heap.size+1,0,none⟩ (.int .i64 X_)).setCell ⟨w.heap.size+1,1,none⟩ (.int .i64 Y_)).setCell ⟨w.heap.size+1,2,none⟩ (.int .i64 E_))∧True∧True:=⟨by (try dsimp only);rw [Rg.bD (by decide)];exact s_.ir X_ Y_ E_,trivial,trivial⟩
   obtain ⟨FU,ES,IZ,Aa⟩:=s_.R2;have ⟨Aj,Ak,C4,Al,Am,CE⟩:=Aa.bg;unfold Oper.wp
   go_simp
   all_goals first | exact xR | exact xR.1 | exact ⟨undef,xR⟩ | exact ⟨_,rfl,xR⟩
  ·unfold Rg.aU
   intro zZ w_ l_ j_ s_ xm xo yB xn xS hr;have e4:zZ.tmps[4]?=some (.pointer (some ⟨w.heap.size+1+1,0,none⟩)):=hr 4 (by decide);have e35:zZ.tmps[35]?=some (j_ 10):=hr 35 (by decide);refine ⟨rfl,?_⟩;rw [if_pos (by decide)];obtain ⟨X_,Y_,E_,yX⟩:=xm 10 (by decide) (xn 10 (by kernel_rfl));rw [yX] at e35
   have xR:AA w g B v n ((K+2+2)+Rg.zg [(3,2),(8,2)] (Rg.upd l_ 13)) G (G2) w.heap.size (w.heap.size+1) (w.heap.size+1+1) (-82) 0 27 xs (((w_.setCell ⟨w.heap.size+1+1,0,none⟩ (.int .i64 X_)).setCell ⟨w.heap.size+1+1,1,none⟩ (.int .i64 Y_)).setCell ⟨w.heap.size+1+1,2,none⟩ (.int .i64 E_))∧True∧True:=⟨by (try dsimp only);rw [Rg.bD (by decide)];exact s_.vU X_ Y_ E_,trivial,trivial⟩
   obtain ⟨FU,ES,IZ,Aa⟩:=s_.R3;have ⟨Aj,Ak,C4,Al,Am,CE⟩:=Aa.bg;unfold Oper.wp
   go_simp
   all_goals first | exact xR | exact xR.1 | exact ⟨undef,xR⟩ | exact ⟨_,rfl,xR⟩
  intro vals wz s_ hF hv;simp only [Rg.ay,Rg.fill,Act.put,Nat.reduceAdd];clear hv hF;replace s_:AA w g B v n (K+2+2+4) G (G2) w.heap.size (w.heap.size+1) (w.heap.size+1+1) (-82) 0 27 xs wz:=s_;have GX:=s_.hn;obtain ⟨⟨xS,p_⟩,-,-,⟨a1,b1,R⟩,⟨X1,Y1,E1,Q⟩,⟨X2,Y2,E2,U⟩,-⟩:=s_;have ⟨Ar,As,t_,xQ,At⟩:=R.box;have ⟨CN,CO,CP,AH,AJ,AK⟩:=Q.bg;have CQ:=Q.lt;have ⟨Cx,Cy,Cz,yL,yM,AV⟩:=U.bg;have C0:=U.lt;go_wp2;exact bodyPost_ret (v:=.tuple #[.agg #[.int .i64 a1,.int .i64 b1],.agg #[.int .i64 X1,.int .i64 Y1,.int .i64 E1],.agg #[.int .i64 X2,.int .i64 Y2,.int .i64 E2]]) (by simp [results,Tryz.results82,go_sem, *]) rfl (⟨a1,b1,X1,Y1,E1,X2,Y2,E2,rfl,xS.mono (by omega),p_⟩)
 case false=>
 go_wp2_with fail
 refine (ng g B v n _ _ st.cur (by omega)).mono ?_;rintro e Ba ⟨a,b,X,Y,E,rfl,xS,p_⟩;replace st:=st.call xS p_;have FN:=p_.size;replace R:=R.aV p_ nR;replace Q:=Q.aV p_ nQ;replace U:=U.aV p_ nU;clear xS p_;have zrc:=R.lt;have zqc:=Q.lt;have zuc:=U.lt;have C:=aH.new Ba #[.int .i64 a,.int .i64 b] 25;have zlC:=st.size;have zgC:=st.le;replace st:=st.alloc (.cells #[.int .i64 a,.int .i64 b] 25);replace R:=R.alloc (.cells #[.int .i64 a,.int .i64 b] 25);replace Q:=Q.alloc (.cells #[.int .i64 a,.int .i64 b] 25);replace U:=U.alloc (.cells #[.int .i64 a,.int .i64 b] 25)
 have nC:Ba.heap.size≠g:=by omega
 have F:=aH.new (Ba.alloc (.cells #[.int .i64 a,.int .i64 b] 25)) #[.int .i64 X,.int .i64 Y,.int .i64 E] 27;have zlF:=st.size;have zgF:=st.le;replace st:=st.alloc (.cells #[.int .i64 X,.int .i64 Y,.int .i64 E] 27);replace R:=R.alloc (.cells #[.int .i64 X,.int .i64 Y,.int .i64 E] 27);replace Q:=Q.alloc (.cells #[.int .i64 X,.int .i64 Y,.int .i64 E] 27);replace U:=U.alloc (.cells #[.int .i64 X,.int .i64 Y,.int .i64 E] 27);replace C:=C.alloc (.cells #[.int .i64 X,.int .i64 Y,.int .i64 E] 27);rw [xM] at F zlF zgF
 go_upto_region 9 with fail
 generalize Ba.heap.size=G at *
 skip
 have TW:AA w g B v n (K+2+100) G (G+1) w.heap.size (w.heap.size+1) (w.heap.size+1+1) a b 27 #[.int .i64 X,.int .i64 Y,.int .i64 E] _:=⟨⟨st.cur,st.gr⟩,C,F,⟨_,_,R⟩,⟨_,_,_,Q⟩,⟨_,_,_,U⟩,by omega⟩
 clear st R Q U C F;refine Rg.fP (fun l W=>AA w g B v n ((K+2+100)+Rg.zg [(4,10)] l) G (G+1) w.heap.size (w.heap.size+1) (w.heap.size+1+1) a b 27 #[.int .i64 X,.int .i64 Y,.int .i64 E] W) (fun i u W=>match i with | 4=>nW u | _=>True) (fun _ _=>True) [4,5,6,7] [.agg #[.int .i64 a,.int .i64 b],.agg #[.int .i64 X,.int .i64 Y,.int .i64 E],.pointer (some ⟨g,0,none⟩),.agg #[.int .i64 a,.int .i64 b],undef,undef,undef,undef] (by kernel_rfl) (by kernel_rfl) (by decide) (fun l l2 W h q=>by rw [←Rg.ft (C:=[(4,10)]) (l:=l) fun p hp=>h p.1 (by revert p;decide)];exact q) (fun i u w1 w2 hR h=>match i,h with | 0,h=>trivial | 1,h=>trivial | 2,h=>trivial | 3,h=>trivial | 4,h=>h | 5,h=>trivial | 6,h=>trivial | 7,h=>trivial | n_+8,_=>trivial) TW.drew ⟨?_,?_,?_,?_,?_,?_,?_,?_,trivial⟩ ?_
 ·unfold Rg.aU
  intro zZ w_ l_ j_ s_ xm xo yB xn xS hr;refine ⟨rfl,?_⟩;rw [if_neg (by decide)];have e7:zZ.tmps[7]?=some (.pointer (some ⟨G,0,none⟩)):=hr 7 (by decide);have ⟨k0,k1,_,_,_⟩:=s_.E.box
  (first | (go_simp;done) | (go_simp;exact Rg.wr (by omega) (by omega)) | (go_simp;omega) | (go_simp;rfl) | (go_simp;exact ⟨rfl,rfl⟩))
 ·unfold Rg.aU
  intro zZ w_ l_ j_ s_ xm xo yB xn xS hr;refine ⟨rfl,?_⟩;rw [if_neg (by decide)];have e8:zZ.tmps[8]?=some (.pointer (some ⟨G+1,0,none⟩)):=hr 8 (by decide);have ⟨k0,k1,k2⟩:=s_.L.aK
  (first | (go_simp;done) | (go_simp;exact Rg.wr (by omega) (by omega)) | (go_simp;omega) | (go_simp;rfl) | (go_simp;exact ⟨rfl,rfl⟩))
 ·unfold Rg.aU
  intro zZ w_ l_ j_ s_ xm xo yB xn xS hr;refine ⟨rfl,?_⟩;rw [if_neg (by decide)];have e0:zZ.tmps[0]?=some (.pointer (some ⟨g,0,none⟩)):=hr 0 (by decide)
  go_simp
 ·unfold Rg.aU
  intro zZ w_ l_ j_ s_ xm xo yB xn xS hr;refine ⟨rfl,?_⟩;rw [if_neg (by decide)];have e7:zZ.tmps[7]?=some (.pointer (some ⟨G,0,none⟩)):=hr 7 (by decide);have ⟨k0,k1,_,_,_⟩:=s_.E.box
  (first | (go_simp;done) | (go_simp;exact Rg.wr (by omega) (by omega)) | (go_simp;omega) | (go_simp;rfl) | (go_simp;exact ⟨rfl,rfl⟩))
 ·unfold Rg.aU
  intro zZ w_ l_ j_ s_ xm xo yB xn xS hr;have e43:zZ.tmps[43]?=some (.pointer (some ⟨g,0,none⟩)):=hr 43 (by decide);have e44:zZ.tmps[44]?=some (.agg #[.int .i64 a,.int .i64 b]):=hr 44 (by decide)
  have ef:∀ f,zZ.eval (.func f)=.func (.func f) #[] #[]:=fun _=>rfl
  refine ⟨rfl,?_⟩;rw [if_pos (by decide)];have DO:=Rg.fY [(4,10)] l_;rw [show Rg.zg [(4,10)] (fun _=>true)=10 from rfl] at DO;refine Rg.gW (by go_simp;exact ⟨rfl,rfl⟩) ?_;have GX:=s_.hn;refine (qO g B v n _ a b _ s_.rd.1 (by omega)).mono ?_;rintro e_ Fg ⟨X_,Y_,E_,rfl,Ac,p_⟩;exact ⟨_,rfl,by (try dsimp only);rw [Rg.gL (c:=10) (by decide) rfl xo];exact s_.call Ac p_,⟨_,_,_,rfl⟩,trivial⟩
 ·unfold Rg.aU
  intro zZ w_ l_ j_ s_ xm xo yB xn xS hr;have e2:zZ.tmps[2]?=some (.pointer (some ⟨w.heap.size,0,none⟩)):=hr 2 (by decide);have e41:zZ.tmps[41]?=some (.agg #[.int .i64 a,.int .i64 b]):=hr 41 (by decide);refine ⟨rfl,?_⟩;rw [if_pos (by decide)]
  have xR:AA w g B v n ((K+2+100)+Rg.zg [(4,10)] (Rg.upd l_ 5)) G (G+1) w.heap.size (w.heap.size+1) (w.heap.size+1+1) a b 27 #[.int .i64 X,.int .i64 Y,.int .i64 E] ((w_.setCell ⟨w.heap.size,0,none⟩ (.int .i64 a)).setCell ⟨w.heap.size,1,none⟩ (.int .i64 b))∧True∧True:=⟨by (try dsimp only);rw [Rg.bD (by decide)];exact s_.jj a b,trivial,trivial⟩
  obtain ⟨FU,ES,Aa⟩:=s_.R1;have ⟨Aj,Ak,Al,Am,_⟩:=Aa.box;unfold Oper.wp
  go_simp
  all_goals first | exact xR | exact xR.1 | exact ⟨undef,xR⟩ | exact ⟨_,rfl,xR⟩
 ·unfold Rg.aU
  intro zZ w_ l_ j_ s_ xm xo yB xn xS hr;have e3:zZ.tmps[3]?=some (.pointer (some ⟨w.heap.size+1,0,none⟩)):=hr 3 (by decide);have e42:zZ.tmps[42]?=some (.agg #[.int .i64 X,.int .i64 Y,.int .i64 E]):=hr 42 (by decide);refine ⟨rfl,?_⟩;rw [if_pos (by decide)]
  have xR:AA w g B v n ((K+2+100)+Rg.zg [(4,10)] (Rg.upd l_ 6)) G (G+1) w.heap.size (w.heap.size+1) (w.heap.size+1+1) a b 27 #[.int .i64 X,.int .i64 Y,.int .i64 E] (((w_.setCell ⟨w.heap.size+1,0,none⟩ (.int .i64 X)).setCell ⟨w.heap.size+1,1,none⟩ (.int .i64 Y)).setCell ⟨w.heap.size+1,2,none⟩ (.int .i64 E))∧True∧True:=⟨by (try dsimp only);rw [Rg.bD (by decide)];exact s_.ir X Y E,trivial,trivial⟩
  obtain ⟨FU,ES,IZ,Aa⟩:=s_.R2;have ⟨Aj,Ak,C4,Al,Am,CE⟩:=Aa.bg;unfold Oper.wp
  go_simp
  all_goals first | exact xR | exact xR.1 | exact ⟨undef,xR⟩ | exact ⟨_,rfl,xR⟩
 ·unfold Rg.aU
  intro zZ w_ l_ j_ s_ xm xo yB xn xS hr;have e4:zZ.tmps[4]?=some (.pointer (some ⟨w.heap.size+1+1,0,none⟩)):=hr 4 (by decide);have e45:zZ.tmps[45]?=some (j_ 4):=hr 45 (by decide);refine ⟨rfl,?_⟩;rw [if_pos (by decide)];obtain ⟨X_,Y_,E_,yX⟩:=xm 4 (by decide) (xn 4 (by kernel_rfl));rw [yX] at e45
  have xR:AA w g B v n ((K+2+100)+Rg.zg [(4,10)] (Rg.upd l_ 7)) G (G+1) w.heap.size (w.heap.size+1) (w.heap.size+1+1) a b 27 #[.int .i64 X,.int .i64 Y,.int .i64 E] (((w_.setCell ⟨w.heap.size+1+1,0,none⟩ (.int .i64 X_)).setCell ⟨w.heap.size+1+1,1,none⟩ (.int .i64 Y_)).setCell ⟨w.heap.size+1+1,2,none⟩ (.int .i64 E_))∧True∧True:=⟨by (try dsimp only);rw [Rg.bD (by decide)];exact s_.vU X_ Y_ E_,trivial,trivial⟩
  obtain ⟨FU,ES,IZ,Aa⟩:=s_.R3;have ⟨Aj,Ak,C4,Al,Am,CE⟩:=Aa.bg;unfold Oper.wp
  go_simp
  all_goals first | exact xR | exact xR.1 | exact ⟨undef,xR⟩ | exact ⟨_,rfl,xR⟩
 intro vals wz s_ hF hv;simp only [Rg.ay,Rg.fill,Act.put,Nat.reduceAdd];clear hv hF;replace s_:AA w g B v n (K+2+100+10) G (G+1) w.heap.size (w.heap.size+1) (w.heap.size+1+1) a b 27 #[.int .i64 X,.int .i64 Y,.int .i64 E] wz:=s_;have GX:=s_.hn;obtain ⟨⟨xS,p_⟩,-,-,⟨a1,b1,R⟩,⟨X1,Y1,E1,Q⟩,⟨X2,Y2,E2,U⟩,-⟩:=s_;have ⟨Ar,As,t_,xQ,At⟩:=R.box;have ⟨CN,CO,CP,AH,AJ,AK⟩:=Q.bg;have CQ:=Q.lt;have ⟨Cx,Cy,Cz,yL,yM,AV⟩:=U.bg;have C0:=U.lt;go_wp2;exact bodyPost_ret (v:=.tuple #[.agg #[.int .i64 a1,.int .i64 b1],.agg #[.int .i64 X1,.int .i64 Y1,.int .i64 E1],.agg #[.int .i64 X2,.int .i64 Y2,.int .i64 E2]]) (by simp [results,Tryz.results82,go_sem, *]) rfl (⟨a1,b1,X1,Y1,E1,X2,Y2,E2,rfl,xS.mono (by omega),p_⟩)
def M.at5 (j:Nat) (x0 x1 x2 x3 x4:Int):Int:=match j with | 0=>x0 | 1=>x1 | 2=>x2 | 3=>x3 | _=>x4
theorem ez (a b X1 Y1 E1 X2 Y2 E2:Int) (w:World) :
  Calls Tryz.prog 28 #[.agg #[.int .i64 a,.int .i64 b],.agg #[.int .i64 X1,.int .i64 Y1,.int .i64 E1],.agg #[.int .i64 X2,.int .i64 Y2,.int .i64 E2]] w fun e w'=>e=.returned (.tuple #[.agg #[.int .i64 (M.xp (M.gj a b X1 Y1 E1 X2 Y2 E2)),.int .i64 (M.xr (M.gj a b X1 Y1 E1 X2 Y2 E2)),.int .i64 (M.xu (M.gj a b X1 Y1 E1 X2 Y2 E2)),.int .i64 (M.xv (M.gj a b X1 Y1 E1 X2 Y2 E2))],.bool (M.gj a b X1 Y1 E1 X2 Y2 E2).isSome])∧Below w.heap.size w w':=by
 have y_:∀ W,Calls Tryz.prog 55 #[.agg #[.int .i64 a,.int .i64 b],.agg #[.int .i64 X1,.int .i64 Y1,.int .i64 E1]] W fun e w'=>e=.returned (.bool (M.cO a b X1 Y1 E1))∧Below W.heap.size W w':=fun W=>dM a b X1 Y1 E1 W
 have zO:∀ W,Calls Tryz.prog 55 #[.agg #[.int .i64 a,.int .i64 b],.agg #[.int .i64 X2,.int .i64 Y2,.int .i64 E2]] W fun e w'=>e=.returned (.bool (M.cO a b X2 Y2 E2))∧Below W.heap.size W w':=fun W=>dM a b X2 Y2 E2 W
 unfold M.gj;obtain ⟨wc,hw3,C,Q,U,R,B⟩:=fO w #[.int .i64 a,.int .i64 b] 25 #[.int .i64 X1,.int .i64 Y1,.int .i64 E1] 27 #[.int .i64 X2,.int .i64 Y2,.int .i64 E2] 27 #[.int .i64 0,.int .i64 0,.int .i64 0,.int .i64 0] 33;have f_:=C.box.c0;have i_:=C.box.c1;have ⟨q0,q1,q2⟩:=Q.aK;have ⟨u0,u1,u2⟩:=U.aK
 cases h0:M.cO a b X1 Y1 E1 with
 | false=>
  simp only [h0,Bool.true_and,Bool.false_and,Bool.and_false] at y_ zO ⊢;replace y_:=xL y_;replace zO:=xL zO;rw [M.gl];go_enter Tryz.func28,Tryz.ntmps28
  go_wp2_with (first | (go_at_call 55;(with_reducible refine (y_.out _).mono ?_);rintro e w4 ⟨rfl,hb4⟩;replace B:=d_ B hb4;replace C:=C.keep hb4;replace Q:=Q.keep hb4;replace U:=U.keep hb4;replace R:=R.keep hb4;have f_:=C.box.c0;have i_:=C.box.c1;(have ⟨q0,q1,q2⟩:=Q.aK);(have ⟨u0,u1,u2⟩:=U.aK);(have ⟨r0,r1,r2,r3,z0,z1,z2,z3,rl⟩:=R.aN)) | (go_at_call 55;(with_reducible refine (zO.out _).mono ?_);rintro e w5 ⟨rfl,hb5⟩;replace B:=d_ B hb5;replace C:=C.keep hb5;replace Q:=Q.keep hb5;replace U:=U.keep hb5;replace R:=R.keep hb5;have f_:=C.box.c0;have i_:=C.box.c1;(have ⟨q0,q1,q2⟩:=Q.aK);(have ⟨u0,u1,u2⟩:=U.aK);(have ⟨r0,r1,r2,r3,z0,z1,z2,z3,rl⟩:=R.aN)))
  exact bodyPost_ret (v:=.tuple #[.agg #[.int .i64 0,.int .i64 0,.int .i64 0,.int .i64 0],.bool false]) (by simp [results,Tryz.results28,go_sem, *]) rfl (⟨rfl,xN (xN (xN (xN B (by dsimp only;omega) _) (by dsimp only;omega) _) (by dsimp only;omega) _) (by dsimp only;omega) _⟩)
 | true=>
 cases h1:M.cO a b X2 Y2 E2 with
 | false=>
  simp only [h0,h1,Bool.true_and,Bool.false_and,Bool.and_false] at y_ zO ⊢;replace y_:=xL y_;replace zO:=xL zO;rw [M.gl];go_enter Tryz.func28,Tryz.ntmps28
  go_wp2_with (first | (go_at_call 55;(with_reducible refine (y_.out _).mono ?_);rintro e w4 ⟨rfl,hb4⟩;replace B:=d_ B hb4;replace C:=C.keep hb4;replace Q:=Q.keep hb4;replace U:=U.keep hb4;replace R:=R.keep hb4;have f_:=C.box.c0;have i_:=C.box.c1;(have ⟨q0,q1,q2⟩:=Q.aK);(have ⟨u0,u1,u2⟩:=U.aK);(have ⟨r0,r1,r2,r3,z0,z1,z2,z3,rl⟩:=R.aN)) | (go_at_call 55;(with_reducible refine (zO.out _).mono ?_);rintro e w5 ⟨rfl,hb5⟩;replace B:=d_ B hb5;replace C:=C.keep hb5;replace Q:=Q.keep hb5;replace U:=U.keep hb5;replace R:=R.keep hb5;have f_:=C.box.c0;have i_:=C.box.c1;(have ⟨q0,q1,q2⟩:=Q.aK);(have ⟨u0,u1,u2⟩:=U.aK);(have ⟨r0,r1,r2,r3,z0,z1,z2,z3,rl⟩:=R.aN)))
  exact bodyPost_ret (v:=.tuple #[.agg #[.int .i64 0,.int .i64 0,.int .i64 0,.int .i64 0],.bool false]) (by simp [results,Tryz.results28,go_sem, *]) rfl (⟨rfl,xN (xN (xN (xN B (by dsimp only;omega) _) (by dsimp only;omega) _) (by dsimp only;omega) _) (by dsimp only;omega) _⟩)
 | true=>
 simp only [h0,h1,Bool.true_and,Bool.and_self] at y_ zO ⊢;rw [M.co];replace y_:=xL y_;replace zO:=xL zO;obtain ⟨hg,hp1⟩:=M.bp h0;obtain ⟨-,hp2⟩:=M.bp h1;have hin:=M.am hg;have hm2:=M.gy hp2;have hs:=M.dk hin hp1 hp2;have hd:=M.dk hin hp1 hm2;obtain ⟨l1,t1,q1,-,-⟩:=M.HB.ex hg hp1;obtain ⟨l2,t2,q2,-,-⟩:=M.HB.ex hg hp2;obtain ⟨l3,t3,q3,-,-⟩:=M.HB.ex hg hs;obtain ⟨l4,t4,q4,-,-⟩:=M.HB.ex hg hd;unfold M.uz;rw [M.nr q1 q2 q3 q4];obtain ⟨i1,a1,b1,c1,-⟩:=q1;obtain ⟨i2,a2,b2,c2,-⟩:=q2;obtain ⟨i3,a3,b3,c3,-⟩:=q3;obtain ⟨i4,a4,b4,c4,-⟩:=q4
 have Fn:=fun W=>fS a b X1 Y1 E1 X2 Y2 E2 W hg hp1 hp2
 have Fo:=fun W=>fS a b X1 Y1 E1 X2 (-Y2) E2 W hg hp1 hm2
 obtain ⟨-,-,-,-,y1,y2⟩:=M.b6 hin hp2
 have PO:=fun W=>jg X2 Y2 E2 W (by omega) (by omega)
 have FO:=fun W g K=>gt g a b X1 Y1 E1 l1 t1 W K hg hp1 i1
 have EP:=fun W g K=>gt g a b X2 Y2 E2 l2 t2 W K hg hp2 i2
 have CB:=fun W g K=>gt g a b _ _ _ l3 t3 W K hg hs i3
 have Ea:=fun W g K=>gt g a b _ _ _ l4 t4 W K hg hd i4
 have PP:=fun W g K=>ru g l3 t3 l4 t4 W K c3 c4 (by omega) (by omega) (by omega) (by omega)
 have FR:=fun W g K=>fu g (l3+l4) (t3+t4) l1 t1 W K (by omega) c1 (by omega) (by omega) (by omega) (by omega)
 have Fq:=fun W g K=>fu g (l3+l4 - t1) (t3+t4 - l1) l2 t2 W K (by omega) c2 (by omega) (by omega) (by omega) (by omega)
 have KF:=fun W g K=>fu g (l3+l4 - t1 - t2) (t3+t4 - l1 - l2) l1 t1 W K (by omega) c1 (by omega) (by omega) (by omega) (by omega)
 have KG:=fun W g K=>fu g (l3+l4 - t1 - t2 - t1) (t3+t4 - l1 - l2 - l1) l2 t2 W K (by omega) c2 (by omega) (by omega) (by omega) (by omega)
 have PI:=fun W=>mX (l3+l4 - t1 - t2 - t1 - t2) (t3+t4 - l1 - l2 - l1 - l2) W (dN (by omega) (by omega) (by omega))
 clear h0 h1 hg hp1 hp2 hin hm2 hs hd i1 i2 i3 i4 y1 y2 a1 a2 a3 a4 b1 b2 b3 b4 c1 c2 c3 c4;generalize M.bk a X1 Y1 E1 X2 (-Y2) E2=o4,M.dB a X1 Y1 E1 X2 (-Y2) E2=E4,M.dO a X1 Y1 E1 X2 (-Y2) E2=Y4,M.dC a X1 Y1 E1 X2 (-Y2) E2=X4,M.bk a X1 Y1 E1 X2 Y2 E2=o3,M.dB a X1 Y1 E1 X2 Y2 E2=E3,M.dO a X1 Y1 E1 X2 Y2 E2=Y3,M.dC a X1 Y1 E1 X2 Y2 E2=X3 at *;generalize hT0:l3+l4=s0 at *;generalize hV0:t3+t4=v0 at *;generalize hT1:s0 - t1=s1 at *;generalize hV1:v0 - l1=v1 at *;generalize hT2:s1 - t2=s2 at *;generalize hV2:v1 - l2=v2 at *;generalize hT3:s2 - t1=s3 at *;generalize hV3:v2 - l1=v3 at *;generalize hT4:s3 - t2=s4 at *;generalize hV4:v3 - l2=v4 at *;clear hT0 hV0 hT1 hV1 hT2 hV2 hT3 hV3 hT4 hV4;generalize hY:-Y2=m2 at *;clear hY;generalize hG:M.gd (o3 && o4) (some (s4,v4))=gv at *;replace hG:=xL hG;replace Fn:=xL Fn;replace Fo:=xL Fo;replace PO:=xL PO;replace FO:=xL FO;replace EP:=xL EP;replace CB:=xL CB;replace Ea:=xL Ea;replace PP:=xL PP;replace FR:=xL FR;replace Fq:=xL Fq;replace KF:=xL KF;replace KG:=xL KG;replace PI:=xL PI;go_enter Tryz.func28,Tryz.ntmps28
 go_upto_region 4 with (first | (go_at_call 55;(with_reducible refine (y_.out _).mono ?_);rintro e w4 ⟨rfl,hb4⟩;replace B:=d_ B hb4;replace C:=C.keep hb4;replace Q:=Q.keep hb4;replace U:=U.keep hb4;replace R:=R.keep hb4;have f_:=C.box.c0;have i_:=C.box.c1;(have ⟨q0,q1,q2⟩:=Q.aK);(have ⟨u0,u1,u2⟩:=U.aK);(have ⟨r0,r1,r2,r3,z0,z1,z2,z3,rl⟩:=R.aN)) | (go_at_call 55;(with_reducible refine (zO.out _).mono ?_);rintro e w5 ⟨rfl,hb5⟩;replace B:=d_ B hb5;replace C:=C.keep hb5;replace Q:=Q.keep hb5;replace U:=U.keep hb5;replace R:=R.keep hb5;have f_:=C.box.c0;have i_:=C.box.c1;(have ⟨q0,q1,q2⟩:=Q.aK);(have ⟨u0,u1,u2⟩:=U.aK);(have ⟨r0,r1,r2,r3,z0,z1,z2,z3,rl⟩:=R.aN)) | (go_at_call 87;(with_reducible refine (Fn.out _).mono ?_);rintro e w6 ⟨rfl,hb6⟩;replace B:=d_ B hb6;replace C:=C.keep hb6;replace Q:=Q.keep hb6;replace U:=U.keep hb6;replace R:=R.keep hb6;have f_:=C.box.c0;have i_:=C.box.c1;(have ⟨q0,q1,q2⟩:=Q.aK);(have ⟨u0,u1,u2⟩:=U.aK);(have ⟨r0,r1,r2,r3,z0,z1,z2,z3,rl⟩:=R.aN);have B0:=B;have Hf:=B.size;replace B:=B.alloc Hf (.cells #[.int .i64 X3,.int .i64 Y3,.int .i64 E3] 27);replace C:=C.alloc (.cells #[.int .i64 X3,.int .i64 Y3,.int .i64 E3] 27);replace Q:=Q.alloc (.cells #[.int .i64 X3,.int .i64 Y3,.int .i64 E3] 27);replace U:=U.alloc (.cells #[.int .i64 X3,.int .i64 Y3,.int .i64 E3] 27);replace R:=R.alloc (.cells #[.int .i64 X3,.int .i64 Y3,.int .i64 E3] 27);have S:=aH.new w6 #[.int .i64 X3,.int .i64 Y3,.int .i64 E3] 27;have f_:=C.box.c0;have i_:=C.box.c1;(have ⟨q0,q1,q2⟩:=Q.aK);(have ⟨u0,u1,u2⟩:=U.aK);(have ⟨r0,r1,r2,r3,z0,z1,z2,z3,rl⟩:=R.aN)))
 generalize w6.alloc (.cells #[.int .i64 X3,.int .i64 Y3,.int .i64 E3] 27)=wd at *;have ⟨k0,k1,_,_,_⟩:=C.box;have ⟨k2,k3,k4⟩:=Q.aK;have ⟨k5,k6,k7⟩:=U.aK;clear f_ i_ q0 q1 q2 u0 u1 u2 r0 r1 r2 r3 z0 z1 z2 z3;refine Rg.uZ 8 9 27 #[.int .i64 0,.int .i64 0,.int .i64 0] #[.int .i64 X4,.int .i64 Y4,.int .i64 E4] [.is (.agg #[.int .i64 a,.int .i64 b]),.is (.agg #[.int .i64 X1,.int .i64 Y1,.int .i64 E1]),.is (.agg #[.int .i64 X2,.int .i64 Y2,.int .i64 E2]),.is (.agg #[.int .i64 X2,.int .i64 m2,.int .i64 E2]),.is (.tuple #[.agg #[.int .i64 X4,.int .i64 Y4,.int .i64 E4],.bool o4]),.is (.tuple #[.agg #[.int .i64 X4,.int .i64 Y4,.int .i64 E4],.bool o4]),.is (.agg #[.int .i64 X4,.int .i64 Y4,.int .i64 E4]),.is (.bool o4),.is (undef),.is (undef),.is (.bool o4)] (by kernel_rfl) (by kernel_rfl) (by kernel_rfl) (fun j h1 h2=>match j,h1,h2 with | 0,h1,h2=>rfl | 1,h1,h2=>rfl | 2,h1,h2=>rfl | 3,h1,h2=>rfl | 4,h1,h2=>rfl | 5,h1,h2=>rfl | 6,h1,h2=>rfl | 7,h1,h2=>rfl | 8,h1,h2=>absurd rfl h1 | 9,h1,h2=>absurd rfl h2 | 10,h1,h2=>rfl | n+11,_,_=>rfl) (by decide) ⟨?_,?_,?_,?_,?_,?_,?_,?_,?_,?_,?_,trivial⟩ ?_
 ·unfold Rg.bw
  rw [if_neg (by decide),if_neg (by decide)];intro zZ w_ hB hr;have e3:zZ.tmps[3]?=some (.pointer (some ⟨w.heap.size,0,none⟩)):=hr 3 (by decide);have k0:=aE hB k0;have k1:=aE hB k1;exact Rg.aG rfl (by go_simp)
 ·unfold Rg.bw
  rw [if_neg (by decide),if_neg (by decide)];intro zZ w_ hB hr;have e4:zZ.tmps[4]?=some (.pointer (some ⟨w.heap.size+1,0,none⟩)):=hr 4 (by decide);have k0:=aE hB k2;have k1:=aE hB k3;have k2:=aE hB k4;exact Rg.aG rfl (by go_simp)
 ·unfold Rg.bw
  rw [if_neg (by decide),if_neg (by decide)];intro zZ w_ hB hr;have e5:zZ.tmps[5]?=some (.pointer (some ⟨w.heap.size+1+1,0,none⟩)):=hr 5 (by decide);have k0:=aE hB k5;have k1:=aE hB k6;have k2:=aE hB k7;exact Rg.aG rfl (by go_simp)
 ·unfold Rg.bw
  rw [if_neg (by decide),if_neg (by decide)];intro zZ w_ hB hr;have e39:=Rg.c_ (hr 39 (by decide));have ef:=Rg.ef zZ;exact Rg.bX rfl (by go_simp) (PO.out _)
 ·unfold Rg.bw
  rw [if_neg (by decide),if_neg (by decide)];intro zZ w_ hB hr;have e37:=Rg.c_ (hr 37 (by decide));have e38:=Rg.c_ (hr 38 (by decide));have e40:=Rg.c_ (hr 40 (by decide));have ef:=Rg.ef zZ;exact Rg.bX rfl (by go_simp) (Fo.out _)
 ·unfold Rg.bw
  rw [if_neg (by decide),if_neg (by decide)];intro zZ w_ hB hr;have e41:=Rg.c_ (hr 41 (by decide));exact Rg.aG rfl (by go_simp)
 ·unfold Rg.bw
  rw [if_neg (by decide),if_neg (by decide)];intro zZ w_ hB hr;have e36:=Rg.c_ (hr 36 (by decide));exact Rg.aG rfl (by go_simp)
 ·unfold Rg.bw
  rw [if_neg (by decide),if_neg (by decide)];intro zZ w_ hB hr;have e36:=Rg.c_ (hr 36 (by decide));exact Rg.aG rfl (by go_simp)
 ·unfold Rg.bw
  rw [if_pos rfl];intro zZ w_;exact Rg.nd rfl (by first | (go_simp;done) | (go_simp;rfl))
 ·unfold Rg.bw
  rw [if_neg (by decide),if_pos rfl];intro zZ w_ h_ hh hn hr;have e10:zZ.tmps[10]?=some (.pointer (some ⟨h_,0,none⟩)):=hr 10 (by decide);have e42:=Rg.c_ (hr 42 (by decide));have ⟨y0,y1,y2,x0,x1,x2⟩:=hn.bg;refine ⟨rfl,?_⟩;unfold Oper.wp
  go_simp
  exact ⟨aH.qY hn _ _ _,xN (xN (xN (xO _ _) hh _) hh _) hh _⟩
 ·unfold Rg.bw
  rw [if_neg (by decide),if_neg (by decide)];intro zZ w_ hB hr;have e43:=Rg.c_ (hr 43 (by decide));exact Rg.aG rfl (by go_simp)
 intro vals wz h_ hh hn Ay hB hv;have yH:vals 10=.bool o4:=hv 10 (by decide) (by decide) (by decide);simp only [Rg.ay,Rg.fill,Act.put,Nat.reduceAdd];clear hv;simp only [Ay,yH];clear Ay yH;have hd1:=rl;replace hB:Below wd.heap.size wd wz:=hB;replace B:=d_ B hB;replace C:=C.keep hB;replace Q:=Q.keep hB;replace U:=U.keep hB;replace R:=R.keep hB;replace S:=S.keep hB;have D:aH wz h_ 27 #[.int .i64 X4,.int .i64 Y4,.int .i64 E4]:=hn;clear hB hn hd1 rl k0 k1 k2 k3 k4 k5 k6 k7;have ⟨r0,r1,r2,r3,z0,z1,z2,z3,rl⟩:=R.aN
 cases o3 with
 | false=>
  obtain rfl:gv=none:=hG.out.symm;go_wp2;exact bodyPost_ret (v:=.tuple #[.agg #[.int .i64 0,.int .i64 0,.int .i64 0,.int .i64 0],.bool false]) (by simp [results,Tryz.results28,go_sem, *]) rfl (⟨rfl,xN (xN (xN (xN B (by dsimp only;omega) _) (by dsimp only;omega) _) (by dsimp only;omega) _) (by dsimp only;omega) _⟩)
 | true=>
 cases o4 with
 | false=>
  obtain rfl:gv=none:=hG.out.symm;go_wp2;exact bodyPost_ret (v:=.tuple #[.agg #[.int .i64 0,.int .i64 0,.int .i64 0,.int .i64 0],.bool false]) (by simp [results,Tryz.results28,go_sem, *]) rfl (⟨rfl,xN (xN (xN (xN B (by dsimp only;omega) _) (by dsimp only;omega) _) (by dsimp only;omega) _) (by dsimp only;omega) _⟩)
 | true=>
 obtain rfl:gv=some (s4,v4):=hG.out.symm;clear hG;clear r0 r1 r2 r3 z0 z1 z2 z3
 go_upto_region 8 with fail
 have K:=aH.new wz #[.bool true] 106;have hz0:=B.size;replace B:=B.alloc hz0 (.cells #[.bool true] 106);replace C:=C.alloc (.cells #[.bool true] 106);replace Q:=Q.alloc (.cells #[.bool true] 106);replace U:=U.alloc (.cells #[.bool true] 106);replace R:=R.alloc (.cells #[.bool true] 106);replace S:=S.alloc (.cells #[.bool true] 106);replace D:=D.alloc (.cells #[.bool true] 106);generalize wz.alloc (.cells #[.bool true] 106)=we at *;generalize hkz:wz.heap.size=kz at *;clear hkz;have ⟨k0,k1,_,_,_⟩:=C.box;have ⟨k2,k3,k4⟩:=Q.aK;have ⟨k5,k6,k7⟩:=U.aK;refine Rg.bS 10 [.is (.pointer (some ⟨kz,0,none⟩)),.is (.agg #[.int .i64 a,.int .i64 b]),.is (.agg #[.int .i64 X1,.int .i64 Y1,.int .i64 E1]),.is (.agg #[.int .i64 l1,.int .i64 t1]),.is (.pointer (some ⟨kz,0,none⟩)),.is (.agg #[.int .i64 a,.int .i64 b]),.is (.agg #[.int .i64 X2,.int .i64 Y2,.int .i64 E2]),.is (.agg #[.int .i64 l2,.int .i64 t2]),.new (we.heap.size) 74 #[.int .i64 0,.int .i64 0],.new (we.heap.size) 74 #[.int .i64 0,.int .i64 0]] (by kernel_rfl) (by kernel_rfl) (by kernel_rfl) ⟨?_,?_,?_,?_,?_,?_,?_,?_,?_,?_,fun h_=>absurd h_ (by decide),fun h_=>absurd h_ (by decide),trivial⟩ ?_
 ·intro _ zZ w_ hB hr
  have e12:zZ.tmps[12]?=some (.pointer (some ⟨kz,0,none⟩)):=hr 12 (by decide);exact Rg.aG rfl (by go_simp)
 ·intro _ zZ w_ hB hr
  have e3:zZ.tmps[3]?=some (.pointer (some ⟨w.heap.size,0,none⟩)):=hr 3 (by decide);have k0:=aE hB k0;have k1:=aE hB k1;exact Rg.aG rfl (by go_simp)
 ·intro _ zZ w_ hB hr
  have e4:zZ.tmps[4]?=some (.pointer (some ⟨w.heap.size+1,0,none⟩)):=hr 4 (by decide);have k0:=aE hB k2;have k1:=aE hB k3;have k2:=aE hB k4;exact Rg.aG rfl (by go_simp)
 ·intro _ zZ w_ hB hr
  have e53:=Rg.c_ (hr 53 (by decide));have e54:=Rg.c_ (hr 54 (by decide));have e55:=Rg.c_ (hr 55 (by decide));have ef:=Rg.ef zZ;exact Rg.bX rfl (by go_simp) (FO.out _ _ (K.keep hB))
 ·intro _ zZ w_ hB hr
  have e12:zZ.tmps[12]?=some (.pointer (some ⟨kz,0,none⟩)):=hr 12 (by decide);exact Rg.aG rfl (by go_simp)
 ·intro _ zZ w_ hB hr
  have e3:zZ.tmps[3]?=some (.pointer (some ⟨w.heap.size,0,none⟩)):=hr 3 (by decide);have k0:=aE hB k0;have k1:=aE hB k1;exact Rg.aG rfl (by go_simp)
 ·intro _ zZ w_ hB hr
  have e5:zZ.tmps[5]?=some (.pointer (some ⟨w.heap.size+1+1,0,none⟩)):=hr 5 (by decide);have k0:=aE hB k5;have k1:=aE hB k6;have k2:=aE hB k7;exact Rg.aG rfl (by go_simp)
 ·intro _ zZ w_ hB hr
  have e57:=Rg.c_ (hr 57 (by decide));have e58:=Rg.c_ (hr 58 (by decide));have e59:=Rg.c_ (hr 59 (by decide));have ef:=Rg.ef zZ;exact Rg.bX rfl (by go_simp) (EP.out _ _ (K.keep hB))
 ·intro _ zZ w_ hB hr
  exact ⟨by have:=hB.size;omega,rfl,by first | (go_simp;done) | (go_simp;rfl)⟩
 ·intro _ zZ w_ hB hr
  exact ⟨by have:=hB.size;omega,rfl,by first | (go_simp;done) | (go_simp;rfl)⟩
 intro vals wf hB hv hne;have n13:(Rg.Val.new (we.heap.size) 74 #[.int .i64 0,.int .i64 0]).ok (vals 8) wf:=hv 8 (by decide);have n14:(Rg.Val.new (we.heap.size) 74 #[.int .i64 0,.int .i64 0]).ok (vals 9) wf:=hv 9 (by decide);have EM:vals 3=.agg #[.int .i64 l1,.int .i64 t1]:=hv 3 (by decide);have Af:vals 7=.agg #[.int .i64 l2,.int .i64 t2]:=hv 7 (by decide);simp only [Rg.ay,Rg.fill,Act.put,Nat.reduceAdd];clear hv;have D7:=hne 8 9 (by decide) (by decide) (by decide) rfl rfl;obtain ⟨g13,DJ,Ay,D6⟩:=n13;replace D6:aH wf g13 74 #[.int .i64 0,.int .i64 0]:=D6;obtain ⟨g14,Ij,zV,Iv⟩:=n14;replace Iv:aH wf g14 74 #[.int .i64 0,.int .i64 0]:=Iv;rw [Ay,zV] at D7
 have Dj:g13≠g14:=fun e=>D7 (by rw [e])
 simp only [Ay,zV,EM,Af];clear Ay zV EM Af;clear k0 k1 k2 k3 k4 k5 k6 k7;have ⟨y0,y1,n0,n1,_⟩:=D6.box;have ⟨y2,y3,n2,n3,_⟩:=Iv.box;have GB:=Ne.symm Dj;unfold Rg.aX Rg.aX Rg.aX Oper.wp
 go_simp
 have hB2:Below we.heap.size we ((((wf.setCell ⟨g13,0,none⟩ (.int .i64 l1)).setCell ⟨g13,1,none⟩ (.int .i64 t1)).setCell ⟨g14,0,none⟩ (.int .i64 l2)).setCell ⟨g14,1,none⟩ (.int .i64 t2)):=(xN (xN (xN (xN hB DJ _) DJ _) Ij _) Ij _)
 have T1:=(aH.set2 D6 (.int .i64 l1) (.int .i64 t1)).bI Dj (.int .i64 l2) (.int .i64 t2);have T2:=aH.set2 (Iv.bI GB (.int .i64 l1) (.int .i64 t1)) (.int .i64 l2) (.int .i64 t2);generalize ((((wf.setCell ⟨g13,0,none⟩ (.int .i64 l1)).setCell ⟨g13,1,none⟩ (.int .i64 t1)).setCell ⟨g14,0,none⟩ (.int .i64 l2)).setCell ⟨g14,1,none⟩ (.int .i64 t2))=wg at *;clear y0 y1 y2 y3 n0 n1 n2 n3 D6 Iv hB hne;replace B:=d_ B hB2;replace C:=C.keep hB2;replace Q:=Q.keep hB2;replace U:=U.keep hB2;replace R:=R.keep hB2;replace S:=S.keep hB2;replace D:=D.keep hB2;replace K:=K.keep hB2;clear hB2;have Hw:=K.lt;have H5:=R.lt
 go_upto_region 9 with fail
 have ⟨k0,k1,_,_,_⟩:=C.box;have ⟨k2,k3,k4⟩:=S.aK;have ⟨k5,k6,k7⟩:=D.aK;refine Rg.bS 11 [.is (.pointer (some ⟨kz,0,none⟩)),.is (.pointer (some ⟨kz,0,none⟩)),.is (.agg #[.int .i64 a,.int .i64 b]),.is (.agg #[.int .i64 X3,.int .i64 Y3,.int .i64 E3]),.is (.agg #[.int .i64 l3,.int .i64 t3]),.is (.pointer (some ⟨kz,0,none⟩)),.is (.agg #[.int .i64 a,.int .i64 b]),.is (.agg #[.int .i64 X4,.int .i64 Y4,.int .i64 E4]),.is (.agg #[.int .i64 l4,.int .i64 t4]),.is (.agg #[.int .i64 s0,.int .i64 v0]),.new (wg.heap.size) 74 #[.int .i64 0,.int .i64 0]] (by kernel_rfl) (by kernel_rfl) (by kernel_rfl) ⟨?_,?_,?_,?_,?_,?_,?_,?_,?_,?_,?_,fun h_=>absurd h_ (by decide),trivial⟩ ?_
 ·intro _ zZ w_ hB hr
  have e12:zZ.tmps[12]?=some (.pointer (some ⟨kz,0,none⟩)):=hr 12 (by decide);exact Rg.aG rfl (by go_simp)
 ·intro _ zZ w_ hB hr
  have e12:zZ.tmps[12]?=some (.pointer (some ⟨kz,0,none⟩)):=hr 12 (by decide);exact Rg.aG rfl (by go_simp)
 ·intro _ zZ w_ hB hr
  have e3:zZ.tmps[3]?=some (.pointer (some ⟨w.heap.size,0,none⟩)):=hr 3 (by decide);have k0:=aE hB k0;have k1:=aE hB k1;exact Rg.aG rfl (by go_simp)
 ·intro _ zZ w_ hB hr
  have e8:zZ.tmps[8]?=some (.pointer (some ⟨w6.heap.size,0,none⟩)):=hr 8 (by decide);have k0:=aE hB k2;have k1:=aE hB k3;have k2:=aE hB k4;exact Rg.aG rfl (by go_simp)
 ·intro _ zZ w_ hB hr
  have e62:=Rg.c_ (hr 62 (by decide));have e63:=Rg.c_ (hr 63 (by decide));have e64:=Rg.c_ (hr 64 (by decide));have ef:=Rg.ef zZ;exact Rg.bX rfl (by go_simp) (CB.out _ _ (K.keep hB))
 ·intro _ zZ w_ hB hr
  have e12:zZ.tmps[12]?=some (.pointer (some ⟨kz,0,none⟩)):=hr 12 (by decide);exact Rg.aG rfl (by go_simp)
 ·intro _ zZ w_ hB hr
  have e3:zZ.tmps[3]?=some (.pointer (some ⟨w.heap.size,0,none⟩)):=hr 3 (by decide);have k0:=aE hB k0;have k1:=aE hB k1;exact Rg.aG rfl (by go_simp)
 ·intro _ zZ w_ hB hr
  have e10:zZ.tmps[10]?=some (.pointer (some ⟨h_,0,none⟩)):=hr 10 (by decide);have k0:=aE hB k5;have k1:=aE hB k6;have k2:=aE hB k7;exact Rg.aG rfl (by go_simp)
 ·intro _ zZ w_ hB hr
  have e66:=Rg.c_ (hr 66 (by decide));have e67:=Rg.c_ (hr 67 (by decide));have Ia:=Rg.c_ (hr 68 (by decide));have ef:=Rg.ef zZ;exact Rg.bX rfl (by go_simp) (Ea.out _ _ (K.keep hB))
 ·intro _ zZ w_ hB hr
  have e61:=Rg.c_ (hr 61 (by decide));have e65:=Rg.c_ (hr 65 (by decide));have Ib:=Rg.c_ (hr 69 (by decide));have ef:=Rg.ef zZ;exact Rg.bX rfl (by go_simp) (PP.out _ _ (K.keep hB))
 ·intro _ zZ w_ hB hr
  exact ⟨by have:=hB.size;omega,rfl,by first | (go_simp;done) | (go_simp;rfl)⟩
 intro vals wh hB hv hne;have n15:(Rg.Val.new (wg.heap.size) 74 #[.int .i64 0,.int .i64 0]).ok (vals 10) wh:=hv 10 (by decide);have zV:vals 9=.agg #[.int .i64 s0,.int .i64 v0]:=hv 9 (by decide);simp only [Rg.ay,Rg.fill,Act.put,Nat.reduceAdd];clear hv;obtain ⟨g15,Ew,yH,DC⟩:=n15;replace DC:aH wh g15 74 #[.int .i64 0,.int .i64 0]:=DC;simp only [yH,zV];clear yH zV;clear k0 k1 k2 k3 k4 k5 k6 k7;have ⟨y0,y1,n0,n1,_⟩:=DC.box;unfold Rg.aX Rg.aX Oper.wp
 go_simp
 have hB2:Below wg.heap.size wg ((wh.setCell ⟨g15,0,none⟩ (.int .i64 s0)).setCell ⟨g15,1,none⟩ (.int .i64 v0)):=(xN (xN hB Ew _) Ew _)
 have T:=aH.set2 DC (.int .i64 s0) (.int .i64 v0);generalize ((wh.setCell ⟨g15,0,none⟩ (.int .i64 s0)).setCell ⟨g15,1,none⟩ (.int .i64 v0))=wi at *;clear y0 y1 n0 n1 DC hB hne;replace B:=d_ B hB2;replace R:=R.keep hB2;replace K:=K.keep hB2;replace T1:=T1.keep hB2;replace T2:=T2.keep hB2;have hKg:=Nat.lt_of_lt_of_le Hw Ew;have hRg:=Nat.lt_of_lt_of_le H5 Ew;clear Hw H5;clear hB2 C Q U S D;have ⟨y0,y1,_,_,_⟩:=T1.box;have ⟨y2,y3,_,_,_⟩:=T2.box;have ⟨x0,x1,m0,m1,_⟩:=T.box
 go_wp2_with fail
 have hTi:=T.lt;have L:=aH.new wi #[.int .i64 l1,.int .i64 t1,.int .i64 l2,.int .i64 t2,.int .i64 l1,.int .i64 t1,.int .i64 l2,.int .i64 t2] 74;have hzi:=B.size;replace B:=B.alloc hzi (.cells #[.int .i64 l1,.int .i64 t1,.int .i64 l2,.int .i64 t2,.int .i64 l1,.int .i64 t1,.int .i64 l2,.int .i64 t2] 74);replace R:=R.alloc (.cells #[.int .i64 l1,.int .i64 t1,.int .i64 l2,.int .i64 t2,.int .i64 l1,.int .i64 t1,.int .i64 l2,.int .i64 t2] 74);replace K:=K.alloc (.cells #[.int .i64 l1,.int .i64 t1,.int .i64 l2,.int .i64 t2,.int .i64 l1,.int .i64 t1,.int .i64 l2,.int .i64 t2] 74);replace T:=T.alloc (.cells #[.int .i64 l1,.int .i64 t1,.int .i64 l2,.int .i64 t2,.int .i64 l1,.int .i64 t1,.int .i64 l2,.int .i64 t2] 74);clear T1 T2 y0 y1 y2 y3 x0 x1 m0 m1;generalize wi.heap.size=kl,wi.alloc (.cells #[.int .i64 l1,.int .i64 t1,.int .i64 l2,.int .i64 t2,.int .i64 l1,.int .i64 t1,.int .i64 l2,.int .i64 t2] 74)=wj at *
 go_loopw [77] (fun vi wq=>∃ j:Nat,j≤4∧vi=.int .i64 j∧Below w.heap.size w wq∧aH wq g15 74 #[.int .i64 (M.at5 j s0 s1 s2 s3 s4),.int .i64 (M.at5 j v0 v1 v2 v3 v4)]∧aH wq kz 106 #[.bool true]∧aH wq (w.heap.size+1+1+1) 33 #[.int .i64 0,.int .i64 0,.int .i64 0,.int .i64 0]∧aH wq kl 74 #[.int .i64 l1,.int .i64 t1,.int .i64 l2,.int .i64 t2,.int .i64 l1,.int .i64 t1,.int .i64 l2,.int .i64 t2]) (fun vi _=>4 - (intOf vi).toNat)
 case atStart=>exact ⟨0,by omega,rfl,B,T,K,R,L⟩
 case round=>
 clear B T K R L;obtain ⟨j,hj,rfl,B,T,K,R,L⟩:=hrel
 have hj5:j=0∨j=1∨j=2∨j=3∨j=4:=by omega
 clear hj
 rcases hj5 with rfl | rfl | rfl | rfl | rfl
 ·replace T:aH _ g15 74 #[.int .i64 s0,.int .i64 v0]:=T
  have ⟨x0,x1,m0,m1,_⟩:=T.box;have y0:=(L.cell 0).trans (show _=some (Value.int .i64 l1) from rfl);have y1:=(L.cell 1).trans (show _=some (Value.int .i64 t1) from rfl)
  go_wp2_with fail
  refine (FR.out _ _ (K.alloc (.cells #[.int .i64 l1,.int .i64 t1] 74))).mono ?_;rintro e wk ⟨rfl,hk⟩;have hzj:=B.size;replace B:=(B.alloc hzj (.cells #[.int .i64 l1,.int .i64 t1] 74)).trans (hk.mono (by rw [xM];omega));replace T:=(T.alloc (.cells #[.int .i64 l1,.int .i64 t1] 74)).keep hk;replace K:=(K.alloc (.cells #[.int .i64 l1,.int .i64 t1] 74)).keep hk;replace R:=(R.alloc (.cells #[.int .i64 l1,.int .i64 t1] 74)).keep hk;replace L:=(L.alloc (.cells #[.int .i64 l1,.int .i64 t1] 74)).keep hk;clear x0 x1 m0 m1 y0 y1 hk;have ⟨x0,x1,m0,m1,_⟩:=T.box;go_wp2
  go_roundw
  case rel=>exact ⟨1,by omega,by go_num,xN (xN B (by dsimp only;omega) _) (by dsimp only;omega) _,T.set2 _ _,K.bI (by omega) _ _,R.bI (by omega) _ _,L.bI (by omega) _ _⟩
  case measure=>simp [intOf]
 ·replace T:aH _ g15 74 #[.int .i64 s1,.int .i64 v1]:=T
  have ⟨x0,x1,m0,m1,_⟩:=T.box;have y0:=(L.cell 2).trans (show _=some (Value.int .i64 l2) from rfl);have y1:=(L.cell 3).trans (show _=some (Value.int .i64 t2) from rfl)
  go_wp2_with fail
  refine (Fq.out _ _ (K.alloc (.cells #[.int .i64 l2,.int .i64 t2] 74))).mono ?_;rintro e wk ⟨rfl,hk⟩;have hzj:=B.size;replace B:=(B.alloc hzj (.cells #[.int .i64 l2,.int .i64 t2] 74)).trans (hk.mono (by rw [xM];omega));replace T:=(T.alloc (.cells #[.int .i64 l2,.int .i64 t2] 74)).keep hk;replace K:=(K.alloc (.cells #[.int .i64 l2,.int .i64 t2] 74)).keep hk;replace R:=(R.alloc (.cells #[.int .i64 l2,.int .i64 t2] 74)).keep hk;replace L:=(L.alloc (.cells #[.int .i64 l2,.int .i64 t2] 74)).keep hk;clear x0 x1 m0 m1 y0 y1 hk;have ⟨x0,x1,m0,m1,_⟩:=T.box;go_wp2
  go_roundw
  case rel=>exact ⟨2,by omega,by go_num,xN (xN B (by dsimp only;omega) _) (by dsimp only;omega) _,T.set2 _ _,K.bI (by omega) _ _,R.bI (by omega) _ _,L.bI (by omega) _ _⟩
  case measure=>simp [intOf]
 ·replace T:aH _ g15 74 #[.int .i64 s2,.int .i64 v2]:=T
  have ⟨x0,x1,m0,m1,_⟩:=T.box;have y0:=(L.cell 4).trans (show _=some (Value.int .i64 l1) from rfl);have y1:=(L.cell 5).trans (show _=some (Value.int .i64 t1) from rfl)
  go_wp2_with fail
  refine (KF.out _ _ (K.alloc (.cells #[.int .i64 l1,.int .i64 t1] 74))).mono ?_;rintro e wk ⟨rfl,hk⟩;have hzj:=B.size;replace B:=(B.alloc hzj (.cells #[.int .i64 l1,.int .i64 t1] 74)).trans (hk.mono (by rw [xM];omega));replace T:=(T.alloc (.cells #[.int .i64 l1,.int .i64 t1] 74)).keep hk;replace K:=(K.alloc (.cells #[.int .i64 l1,.int .i64 t1] 74)).keep hk;replace R:=(R.alloc (.cells #[.int .i64 l1,.int .i64 t1] 74)).keep hk;replace L:=(L.alloc (.cells #[.int .i64 l1,.int .i64 t1] 74)).keep hk;clear x0 x1 m0 m1 y0 y1 hk;have ⟨x0,x1,m0,m1,_⟩:=T.box;go_wp2
  go_roundw
  case rel=>exact ⟨3,by omega,by go_num,xN (xN B (by dsimp only;omega) _) (by dsimp only;omega) _,T.set2 _ _,K.bI (by omega) _ _,R.bI (by omega) _ _,L.bI (by omega) _ _⟩
  case measure=>simp [intOf]
 ·replace T:aH _ g15 74 #[.int .i64 s3,.int .i64 v3]:=T
  have ⟨x0,x1,m0,m1,_⟩:=T.box;have y0:=(L.cell 6).trans (show _=some (Value.int .i64 l2) from rfl);have y1:=(L.cell 7).trans (show _=some (Value.int .i64 t2) from rfl)
  go_wp2_with fail
  refine (KG.out _ _ (K.alloc (.cells #[.int .i64 l2,.int .i64 t2] 74))).mono ?_;rintro e wk ⟨rfl,hk⟩;have hzj:=B.size;replace B:=(B.alloc hzj (.cells #[.int .i64 l2,.int .i64 t2] 74)).trans (hk.mono (by rw [xM];omega));replace T:=(T.alloc (.cells #[.int .i64 l2,.int .i64 t2] 74)).keep hk;replace K:=(K.alloc (.cells #[.int .i64 l2,.int .i64 t2] 74)).keep hk;replace R:=(R.alloc (.cells #[.int .i64 l2,.int .i64 t2] 74)).keep hk;replace L:=(L.alloc (.cells #[.int .i64 l2,.int .i64 t2] 74)).keep hk;clear x0 x1 m0 m1 y0 y1 hk;have ⟨x0,x1,m0,m1,_⟩:=T.box;go_wp2
  go_roundw
  case rel=>exact ⟨4,by omega,by go_num,xN (xN B (by dsimp only;omega) _) (by dsimp only;omega) _,T.set2 _ _,K.bI (by omega) _ _,R.bI (by omega) _ _,L.bI (by omega) _ _⟩
  case measure=>simp [intOf]
 replace T:aH _ g15 74 #[.int .i64 s4,.int .i64 v4]:=T;clear L;have ⟨x0,x1,_,_,_⟩:=T.box;have b0:=K.MS
 go_upto_region 15 with fail
 skip
 rename_i wy_
 refine Rg.bS 8 [.is (.agg #[.int .i64 s4,.int .i64 v4]),.is (.pointer (some ⟨kz,0,none⟩)),.is (.pointer (some ⟨kz,0,none⟩)),.is (.pointer (some ⟨kz,0,none⟩)),.is (.bool true),.is (.tuple #[.agg #[.int .i64 (M.pn s4),.int .i64 (M.pd s4),.int .i64 (M.pn v4),.int .i64 (M.pd v4)],.bool true]),.is (.agg #[.int .i64 (M.pn s4),.int .i64 (M.pd s4),.int .i64 (M.pn v4),.int .i64 (M.pd v4)]),.is (.bool true)] (by kernel_rfl) (by kernel_rfl) (by kernel_rfl) ⟨?_,?_,?_,?_,?_,?_,?_,?_,fun h_=>absurd h_ (by decide),fun h_=>absurd h_ (by decide),trivial⟩ ?_
 ·intro _ zZ w_ hB hr
  have e15:zZ.tmps[15]?=some (.pointer (some ⟨g15,0,none⟩)):=hr 15 (by decide);have k0:=aE hB x0;have k1:=aE hB x1;exact Rg.aG rfl (by go_simp)
 ·intro _ zZ w_ hB hr
  have e12:zZ.tmps[12]?=some (.pointer (some ⟨kz,0,none⟩)):=hr 12 (by decide);exact Rg.aG rfl (by go_simp)
 ·intro _ zZ w_ hB hr
  have e87:=Rg.c_ (hr 87 (by decide));exact Rg.aG rfl (by go_simp)
 ·intro _ zZ w_ hB hr
  have e88:=Rg.c_ (hr 88 (by decide));exact Rg.aG rfl (by go_simp)
 ·intro _ zZ w_ hB hr
  have e89:=Rg.c_ (hr 89 (by decide));have k0:=aE hB b0;exact Rg.aG rfl (by go_simp)
 ·intro _ zZ w_ hB hr
  have e86:=Rg.c_ (hr 86 (by decide));have e90:=Rg.c_ (hr 90 (by decide));have ef:=Rg.ef zZ;exact Rg.bX rfl (by go_simp) (PI.out _)
 ·intro _ zZ w_ hB hr
  have e91:=Rg.c_ (hr 91 (by decide));exact Rg.aG rfl (by go_simp)
 ·intro _ zZ w_ hB hr
  have e91:=Rg.c_ (hr 91 (by decide));exact Rg.aG rfl (by go_simp)
 intro vals wz9 hB hv hne;have DZ:vals 6=.agg #[.int .i64 (M.pn s4),.int .i64 (M.pd s4),.int .i64 (M.pn v4),.int .i64 (M.pd v4)]:=hv 6 (by decide);have Af:vals 7=.bool true:=hv 7 (by decide);simp only [Rg.ay,Rg.fill,Act.put,Nat.reduceAdd];clear hv;simp only [DZ,Af];clear DZ Af;replace B:=d_ B hB;replace R:=R.keep hB;have ⟨r0,r1,r2,r3,z0,z1,z2,z3,rl9⟩:=R.aN;clear hne hB;unfold Rg.aX Rg.aX Rg.aX Oper.wp
 go_simp
 go_wp2;exact bodyPost_ret (v:=.tuple #[.agg #[.int .i64 (M.pn s4),.int .i64 (M.pd s4),.int .i64 (M.pn v4),.int .i64 (M.pd v4)],.bool true]) (by simp [results,Tryz.results28,go_sem, *]) rfl (⟨rfl,xN (xN (xN (xN B (by dsimp only;omega) _) (by dsimp only;omega) _) (by dsimp only;omega) _) (by dsimp only;omega) _⟩)
end
section
namespace M
theorem gm {f:Bool} {s:Sp} {p:Int × Int} (h:gd f s=some p):f=true∧s=some p:=by
 cases f
 ·cases h
 exact ⟨rfl,h⟩
theorem lO {a b X1 Y1 E1 X2 Y2 E2:Int} (hg:good a b=true) (h1:bB a b X1 Y1 E1=true) (h2:bB a b X2 Y2 E2=true) (hk:bk a X1 Y1 E1 X2 Y2 E2=true) :
  ∃ l1 u1 l2 u2 l3 u3,HB a b X1 Y1 E1 l1 u1∧HB a b X2 Y2 E2 l2 u2∧HB a b (dC a X1 Y1 E1 X2 Y2 E2) (dO a X1 Y1 E1 X2 Y2 E2) (dB a X1 Y1 E1 X2 Y2 E2) l3 u3∧dA a b X1 Y1 E1 X2 Y2 E2=some (l3 - u1 - u2,u3 - l1 - l2):=by
 obtain ⟨l1,u1,q1,-,-⟩:=HB.ex hg h1;obtain ⟨l2,u2,q2,-,-⟩:=HB.ex hg h2;obtain ⟨l3,u3,q3,-,-⟩:=HB.ex hg (dk (am hg) h1 h2);refine ⟨l1,u1,l2,u2,l3,u3,q1,q2,q3,?_⟩;obtain ⟨i1,a1,b1,c1,-⟩:=q1;obtain ⟨i2,a2,b2,c2,-⟩:=q2;obtain ⟨i3,a3,b3,c3,-⟩:=q3;unfold dA;rw [if_pos hk,i1,i2,i3,d9 c3 c1 (by omega) (by omega) (by omega) (by omega),d9 (by omega) c2 (by omega) (by omega) (by omega) (by omega)]
theorem HB.one {a b X Y E l h l' h':Int} (p:HB a b X Y E l h) (q:HB a b X Y E l' h'):l=l'∧h=h':=by
 have:=p.is.symm.trans q.is
 injection this with e
 injection e with e1 e2
 exact ⟨e1,e2⟩
theorem qL {a b X1 Y1 E1 X2 Y2 E2:Int} (h:(cF a b X1 Y1 E1 X2 Y2 E2).isSome=true):cF a b X2 Y2 E2 X1 Y1 E1=cF a b X1 Y1 E1 X2 Y2 E2:=by
 obtain ⟨p,hp⟩:=Option.isSome_iff_exists.1 h;obtain ⟨g1,g2⟩:=gm hp;rw [Bool.and_eq_true] at g1;obtain ⟨hg,h1⟩:=bp g1.1;obtain ⟨-,h2⟩:=bp g1.2
 have hk:bk a X1 Y1 E1 X2 Y2 E2=true:=by
  cases hk:bk a X1 Y1 E1 X2 Y2 E2 with
  | true=>rfl
  | false=>
  unfold dA at g2;rw [hk] at g2;simp at g2
 obtain ⟨k1,k2,k3,k4⟩:=q7 hg h1 h2 hk;obtain ⟨l1,u1,l2,u2,l3,u3,q1,q2,q3,e⟩:=lO hg h1 h2 hk;obtain ⟨l1',u1',l2',u2',l3',u3',r1,r2,r3,e'⟩:=lO hg h2 h1 k1;rw [k2,k3,k4] at r3;obtain ⟨rfl,rfl⟩:=q3.one r3;obtain ⟨rfl,rfl⟩:=q1.one r2;obtain ⟨rfl,rfl⟩:=q2.one r1;unfold cF;rw [g1.1,g1.2,e,e',show l3 - u2 - u1=l3 - u1 - u2 by omega,show u3 - l2 - l1=u3 - l1 - l2 by omega]
theorem qJ {a b X1 Y1 E1 X2 Y2 E2:Int}:AP (cF a b X1 Y1 E1 X2 Y2 E2):=by
 unfold cF
 cases h0:cO a b X1 Y1 E1
 ·rw [Bool.false_and];exact di
 cases h1:cO a b X2 Y2 E2
 ·exact di
 exact fZ (bp h0).1 (bp h0).2 (bp h1).2
theorem rf {a b X1 Y1 E1 X2 Y2 E2 l h:Int} (hv:gj a b X1 Y1 E1 X2 Y2 E2=some (l,h)):l≤0∧0≤h∧aM l h=true:=by
 obtain ⟨g1,g2⟩:=gm hv;rw [Bool.and_eq_true] at g1;obtain ⟨hg,h1⟩:=bp g1.1;obtain ⟨-,h2⟩:=bp g1.2;have hm:=gy h2;obtain ⟨g3,g4⟩:=gm g2;rw [Bool.and_eq_true] at g3;have hin:=am hg;obtain ⟨l1,u1,q1,-,-⟩:=HB.ex hg h1;obtain ⟨l2,u2,q2,-,-⟩:=HB.ex hg h2;obtain ⟨l3,u3,q3,-,-⟩:=HB.ex hg (dk hin h1 h2);obtain ⟨l4,u4,q4,-,-⟩:=HB.ex hg (dk hin h1 hm);rw [nr q1 q2 q3 q4] at g4
 injection g4 with e
 injection e with e1 e2
 have k3:=q3.hld;have k4:=q4.hld;rw [gU hg h1 h2 g3.1] at k3;rw [gU hg h1 hm g3.2,sY] at k4;have hd:=eK hg;have kp:=xh.par hd (dw h1) (dw h2);have m1:=(k3.add k4).meet ((q1.hld.scale 2).add (q2.hld.scale 2)) kp;have m2:=((q1.hld.scale 2).add (q2.hld.scale 2)).meet (k3.add k4) kp.symm;have z1:=q1.lo;have z2:=q1.hi;have z3:=q2.lo;have z4:=q2.hi;have z5:=q3.lo;have z6:=q3.hi;have z7:=q4.lo;have z8:=q4.hi;have y1:=q1.le;have y2:=q2.le;have y3:=q3.le;have y4:=q4.le;refine ⟨by omega,by omega,dN (by omega) (by omega) (by omega)⟩
theorem pU {a b X Y E l h:Int} (hv:eR a b X Y E=some (l,h)):∃ l1 u1,dY a b X Y E=some (l1,u1)∧HB a b X Y E l1 u1∧l=l1+l1∧h=u1+u1∧cO a b X Y E=true:=by
 obtain ⟨g1,g2⟩:=gm hv;obtain ⟨hg,h1⟩:=bp g1;obtain ⟨l1,u1,q1,-,-⟩:=HB.ex hg h1;have i1:=q1.is;have a1:=q1.lo;have b1:=q1.hi;have c1:=q1.le;unfold dZ at g2;rw [i1,iG c1 c1 (by omega) (by omega) (by omega) (by omega)] at g2
 injection g2 with e
 injection e with e1 e2
 exact ⟨l1,u1,by unfold dY;rw [g1];exact i1,q1,e1.symm,e2.symm,g1⟩
theorem twice {a b X Y E l h l' h':Int} (hv:eR a b X Y E=some (l,h)) (hw:cF a b X Y E X Y E=some (l',h')):l≤h'∧l'≤h∧aM l' h'=true:=by
 obtain ⟨l1,u1,-,q,rfl,rfl,hp⟩:=pU hv;obtain ⟨hg,h1⟩:=bp hp;obtain ⟨g1,g2⟩:=gm hw
 have hk:bk a X Y E X Y E=true:=by
  cases hk:bk a X Y E X Y E with
  | true=>rfl
  | false=>
  unfold dA at g2;rw [hk] at g2;simp at g2
 obtain ⟨l1',u1',l2',u2',l3,u3,r1,r2,r3,e⟩:=lO hg h1 h1 hk;obtain ⟨rfl,rfl⟩:=q.one r1;obtain ⟨rfl,rfl⟩:=q.one r2;rw [e] at g2
 injection g2 with e
 injection e with e1 e2
 have k3:=r3.hld;rw [gU hg h1 h1 hk] at k3;have kd:=xh.vA (eK hg) (dw h1);have m1:=k3.meet (q.hld.scale 4) kd;have m2:=(q.hld.scale 4).meet k3 kd.symm;have a1:=q.lo;have b1:=q.hi;have c1:=q.le;have a3:=r3.lo;have b3:=r3.hi;have c3:=r3.le;refine ⟨by omega,by omega,dN (by omega) (by omega) (by omega)⟩
end M
end
section
open Go.RowKit
namespace M
theorem mi {x:Int} (h1:-409600000≤x) (h2:x≤409600000):(1≤pd x∧pd x≤4096)∧(-1000000000≤pn x∧pn x≤1000000000)∧((0<pn x ↔ 0<x)∧(pn x<0 ↔ x<0)):=by
 obtain ⟨-,h3,h4,h5,h6,h7,h8,h9,h10⟩:=gJ (bG h1 h2);refine ⟨⟨h3,h4⟩,⟨h9,h10⟩,?_⟩;generalize pn x=n,4096 / pd x=t at *;subst h6;refine ⟨⟨fun h=>Int.mul_pos h (by omega),fun h=>?_⟩,⟨fun h=>Int.mul_neg_of_neg_of_pos h (by omega),fun h=>?_⟩⟩
 ·rcases Int.lt_or_le 0 n with q | q
  ·exact q
  have:=Int.mul_nonpos_of_nonpos_of_nonneg q (show 0≤t by omega);omega
 rcases Int.lt_or_le n 0 with q | q
 ·exact q
 have:=Int.mul_nonneg q (show 0≤t by omega);omega
end M
theorem jk (n1 d1 n2 d2:Int) (w:World) (h1:-1000000000≤n1) (h2:n1≤1000000000) (h3:0≤d1) (h4:d1≤4096) (h5:-1000000000≤n2) (h6:n2≤1000000000) (h7:0≤d2) (h8:d2≤4096) :
  Calls Tryz.prog 33 #[.agg #[.int .i64 n1,.int .i64 d1],.agg #[.int .i64 n2,.int .i64 d2]] w fun e w'=>e=.returned (.bool (decide (n1*d2<n2*d1)))∧Below w.heap.size w w':=by
 have s1:=M.aL (x:=n1) (y:=d2) (m:=1000000000) (n:=4096) (by omega) (by omega) (by omega) (by omega);have s2:=M.aL (x:=n2) (y:=d1) (m:=1000000000) (n:=4096) (by omega) (by omega) (by omega) (by omega);generalize hp:n1*d2=p at *;generalize hq:n2*d1=q at *;obtain ⟨wc,hw3,C,D,B⟩:=iD w #[.int .i64 n1,.int .i64 d1] 31 #[.int .i64 n2,.int .i64 d2] 31;have ⟨k0,k1,_,_,_⟩:=C.box;have ⟨k2,k3,_,_,_⟩:=D.box;go_enter Tryz.func33,Tryz.ntmps33
 go_wp2;exact bodyPost_ret (v:=.bool (decide (p<q))) (by simp [results,Tryz.results33,go_sem, *]) rfl (⟨rfl,B⟩)
theorem i9 (x y:Int) (w:World) (h1:-409600000≤x) (h2:x≤409600000) (h3:-409600000≤y) (h4:y≤409600000) :
  Calls Tryz.prog 33 #[.agg #[.int .i64 (M.pn x),.int .i64 (M.pd x)],.agg #[.int .i64 (M.pn y),.int .i64 (M.pd y)]] w fun e w'=>e=.returned (.bool (decide (x<y)))∧Below w.heap.size w w':=by
 obtain ⟨⟨a1,a2⟩,⟨a3,a4⟩,-⟩:=M.mi h1 h2;obtain ⟨⟨b1,b2⟩,⟨b3,b4⟩,-⟩:=M.mi h3 h4;have H:=jk (M.pn x) (M.pd x) (M.pn y) (M.pd y) w a3 a4 (by omega) a2 b3 b4 (by omega) b2
 have e:decide (M.pn x*M.pd y<M.pn y*M.pd x)=decide (x<y):=by simp only [M.wZ h1 h2 h3 h4]
 rwa [e] at H
theorem vV (lo hi:Int) (w:World) (h1:-409600000≤lo) (h2:lo≤0) (h3:0≤hi) (h4:hi≤409600000) :
  Calls Tryz.prog 34 #[.agg #[.int .i64 (M.pn lo),.int .i64 (M.pd lo),.int .i64 (M.pn hi),.int .i64 (M.pd hi)],.agg #[.int .i64 0,.int .i64 1]] w fun e w'=>e=.returned (.bool true)∧Below w.heap.size w w':=by
 obtain ⟨⟨a1,a2⟩,⟨a3,a4⟩,a5,-⟩:=M.mi (x:=lo) h1 (by omega);obtain ⟨⟨b1,b2⟩,⟨b3,b4⟩,-,b5⟩:=M.mi (x:=hi) (by omega) h4
 have P1:=fun W=>jk 0 1 (M.pn lo) (M.pd lo) W (by omega) (by omega) (by omega) (by omega) a3 a4 (by omega) a2
 have P2:=fun W=>jk (M.pn hi) (M.pd hi) 0 1 W b3 b4 (by omega) b2 (by omega) (by omega) (by omega) (by omega)
 rw [show decide (0*M.pd lo<M.pn lo*1)=false from decide_eq_false (by rw [Int.zero_mul,Int.mul_one,a5];omega)] at P1;rw [show decide (M.pn hi*1<0*M.pd hi)=false from decide_eq_false (by rw [Int.zero_mul,Int.mul_one,b5];omega)] at P2;generalize M.pd hi=d2,M.pn hi=n2,M.pd lo=d1,M.pn lo=n1 at *;replace P1:=xL P1;replace P2:=xL P2;clear a1 a2 a3 a4 a5 b1 b2 b3 b4 b5 h1 h2 h3 h4;obtain ⟨wc,hw3,C,D,B⟩:=iD w #[.int .i64 n1,.int .i64 d1,.int .i64 n2,.int .i64 d2] 33 #[.int .i64 0,.int .i64 1] 31;have ⟨r0,r1,r2,r3,z0,z1,z2,z3,rl⟩:=C.aN;have ⟨k2,k3,_,_,_⟩:=D.box;go_enter Tryz.func34,Tryz.ntmps34
 go_wp2_with (first | (go_at_call 33;(with_reducible refine (P1.out _).mono ?_);rintro e w4 ⟨rfl,hb4⟩;replace B:=d_ B hb4;replace C:=C.keep hb4;replace D:=D.keep hb4;(have ⟨r0,r1,r2,r3,z0,z1,z2,z3,rl⟩:=C.aN);(have ⟨k2,k3,_,_,_⟩:=D.box)) | (go_at_call 33;(with_reducible refine (P2.out _).mono ?_);rintro e w5 ⟨rfl,hb5⟩;replace B:=d_ B hb5))
 exact bodyPost_ret (v:=.bool true) (by simp [results,Tryz.results34,go_sem, *]) rfl (⟨rfl,B⟩)
theorem sv (lo hi:Int) (w:World) (h:M.aM lo hi=true) :
  Calls Tryz.prog 66 #[.agg #[.int .i64 (M.pn lo),.int .i64 (M.pd lo),.int .i64 (M.pn hi),.int .i64 (M.pd hi)]] w fun e w'=>e=.returned (.tuple #[.agg #[.int .i64 lo,.int .i64 hi],.bool true])∧Below w.heap.size w w':=by
 obtain ⟨ab,a1,b1⟩:=M.bQ h;obtain ⟨hk1,d1,d2,hm1,hp1,g1,g2,n1,n2⟩:=M.gJ (M.bG (a:=lo) (by omega) (by omega));obtain ⟨hk2,e1,e2,hm2,hp2,g3,g4,n3,n4⟩:=M.gJ (M.bG (a:=hi) (by omega) (by omega))
 have P1:=fun W=>fB (M.pn lo) (M.pd lo) W
 have P2:=fun W=>fB (M.pn hi) (M.pd hi) W
 rw [hk1] at P1;rw [hk2] at P2
 have PV:=fun W=>iC lo hi W
 rw [h] at PV;replace PV:=xL PV;clear h;generalize M.pd hi=y2,M.pn hi=x2,M.pd lo=y1,M.pn lo=x1 at *
 have hy1:¬ y1=0:=by omega
 have hy2:¬ y2=0:=by omega
 have ht1:(4096:Int).tmod y1=0:=by rw [Int.tmod_eq_emod_of_nonneg (by omega)];exact hm1
 have ht2:(4096:Int).tmod y2=0:=by rw [Int.tmod_eq_emod_of_nonneg (by omega)];exact hm2
 have hq1:(4096:Int).tdiv y1=4096 / y1:=Int.tdiv_eq_ediv_of_nonneg (by omega);have hq2:(4096:Int).tdiv y2=4096 / y2:=Int.tdiv_eq_ediv_of_nonneg (by omega);generalize 4096 / y2=t2,4096 / y1=t1 at *;replace P1:=xL P1;replace P2:=xL P2;clear hk1 hk2 hm1 hm2;obtain ⟨wc,hw3,C,R2,B⟩:=iD w #[.int .i64 x1,.int .i64 y1,.int .i64 x2,.int .i64 y2] 33 #[.int .i64 0,.int .i64 0] 74;have ⟨r0,r1,r2,r3,_,_,_,_,_⟩:=C.aN;go_enter Tryz.func66,Tryz.ntmps66
 go_upto_region 3 with (first | (go_at_call 121;(with_reducible refine (P1.out _).mono ?_);rintro e w4 ⟨rfl,hb4⟩;replace B:=d_ B hb4;replace C:=C.keep hb4;replace R2:=R2.keep hb4;(have ⟨r0,r1,r2,r3,_,_,_,_,_⟩:=C.aN);(have ⟨s0,s1,Ah,Ai,rl⟩:=R2.box)) | (go_at_call 121;(with_reducible refine (P2.out _).mono ?_);rintro e w5 ⟨rfl,hb5⟩;replace B:=d_ B hb5;replace C:=C.keep hb5;replace R2:=R2.keep hb5;(have ⟨r0,r1,r2,r3,_,_,_,_,_⟩:=C.aN);(have ⟨s0,s1,Ah,Ai,rl⟩:=R2.box)))
 refine Rg.bS 18 [.is (.pointer (some ⟨w.heap.size,0,none⟩)),.is (.pointer (some ⟨w.heap.size,0,none⟩)),.is (.int .i64 x1),.is (.pointer (some ⟨w.heap.size,0,none⟩)),.is (.pointer (some ⟨w.heap.size,1,none⟩)),.is (.int .i64 y1),.is (.int .i64 t1),.is (.int .i64 lo),.is (.pointer (some ⟨w.heap.size,2,none⟩)),.is (.pointer (some ⟨w.heap.size,2,none⟩)),.is (.int .i64 x2),.is (.pointer (some ⟨w.heap.size,2,none⟩)),.is (.pointer (some ⟨w.heap.size,3,none⟩)),.is (.int .i64 y2),.is (.int .i64 t2),.is (.int .i64 hi),.is (.agg #[.int .i64 lo,.int .i64 hi]),.new (w5.heap.size) 74 #[.int .i64 0,.int .i64 0]] (by kernel_rfl) (by kernel_rfl) (by kernel_rfl) ⟨?_,?_,?_,?_,?_,?_,?_,?_,?_,?_,?_,?_,?_,?_,?_,?_,?_,?_,fun h_=>absurd h_ (by decide),trivial⟩ ?_
 ·intro _ zZ w_ hB hr
  have e1:zZ.tmps[1]?=some (.pointer (some ⟨w.heap.size,0,none⟩)):=hr 1 (by decide);exact Rg.aG rfl (by go_simp)
 ·intro _ zZ w_ hB hr
  have e30:=Rg.c_ (hr 30 (by decide));exact Rg.aG rfl (by go_simp)
 ·intro _ zZ w_ hB hr
  have e31:=Rg.c_ (hr 31 (by decide));have k0:=aE hB r0;exact Rg.aG rfl (by go_simp)
 ·intro _ zZ w_ hB hr
  have e1:zZ.tmps[1]?=some (.pointer (some ⟨w.heap.size,0,none⟩)):=hr 1 (by decide);exact Rg.aG rfl (by go_simp)
 ·intro _ zZ w_ hB hr
  have e33:=Rg.c_ (hr 33 (by decide));exact Rg.aG rfl (by go_simp)
 ·intro _ zZ w_ hB hr
  have e34:=Rg.c_ (hr 34 (by decide));have k1:=aE hB r1;exact Rg.aG rfl (by go_simp)
 ·intro _ zZ w_ hB hr
  have e35:=Rg.c_ (hr 35 (by decide));have ec:=Rg.ec zZ;exact Rg.aG rfl (by go_simp <;> exact Rg.wo (by omega))
 ·intro _ zZ w_ hB hr
  have e32:=Rg.c_ (hr 32 (by decide));have e36:=Rg.c_ (hr 36 (by decide));exact Rg.aG rfl (by go_simp <;> exact Rg.wo (by omega))
 ·intro _ zZ w_ hB hr
  have e1:zZ.tmps[1]?=some (.pointer (some ⟨w.heap.size,0,none⟩)):=hr 1 (by decide);exact Rg.aG rfl (by go_simp)
 ·intro _ zZ w_ hB hr
  have e38:=Rg.c_ (hr 38 (by decide));exact Rg.aG rfl (by go_simp)
 ·intro _ zZ w_ hB hr
  have e39:=Rg.c_ (hr 39 (by decide));have k2:=aE hB r2;exact Rg.aG rfl (by go_simp)
 ·intro _ zZ w_ hB hr
  have e1:zZ.tmps[1]?=some (.pointer (some ⟨w.heap.size,0,none⟩)):=hr 1 (by decide);exact Rg.aG rfl (by go_simp)
 ·intro _ zZ w_ hB hr
  have e41:=Rg.c_ (hr 41 (by decide));exact Rg.aG rfl (by go_simp)
 ·intro _ zZ w_ hB hr
  have e42:=Rg.c_ (hr 42 (by decide));have k3:=aE hB r3;exact Rg.aG rfl (by go_simp)
 ·intro _ zZ w_ hB hr
  have e43:=Rg.c_ (hr 43 (by decide));have ec:=Rg.ec zZ;exact Rg.aG rfl (by go_simp <;> exact Rg.wo (by omega))
 ·intro _ zZ w_ hB hr
  have e40:=Rg.c_ (hr 40 (by decide));have e44:=Rg.c_ (hr 44 (by decide));exact Rg.aG rfl (by go_simp <;> exact Rg.wo (by omega))
 ·intro _ zZ w_ hB hr
  have e37:=Rg.c_ (hr 37 (by decide));have e45:=Rg.c_ (hr 45 (by decide));exact Rg.aG rfl (by first | (go_simp;done) | (go_simp;rfl))
 ·intro _ zZ w_ hB hr
  exact ⟨by have:=hB.size;omega,rfl,by first | (go_simp;done) | (go_simp;rfl)⟩
 intro vals wh hB hv hne;have n4:(Rg.Val.new (w5.heap.size) 74 #[.int .i64 0,.int .i64 0]).ok (vals 17) wh:=hv 17 (by decide);have EK:vals 16=.agg #[.int .i64 lo,.int .i64 hi]:=hv 16 (by decide);simp only [Rg.ay,Rg.fill,Act.put,Nat.reduceAdd];clear hv;obtain ⟨g4,hg4,JJ,o4⟩:=n4;replace o4:aH wh g4 74 #[.int .i64 0,.int .i64 0]:=o4;simp only [JJ,EK];clear JJ EK;have ⟨Aj,Ak,Al,Am,_⟩:=o4.box;unfold Rg.aX Rg.aX Oper.wp
 go_simp
 have hB2:Below w5.heap.size w5 ((wh.setCell ⟨g4,0,none⟩ (.int .i64 lo)).setCell ⟨g4,1,none⟩ (.int .i64 hi)):=xN (xN hB hg4 _) hg4 _;have T:=aH.set2 o4 (.int .i64 lo) (.int .i64 hi);generalize ((wh.setCell ⟨g4,0,none⟩ (.int .i64 lo)).setCell ⟨g4,1,none⟩ (.int .i64 hi))=wi at *;clear Aj Ak Al Am o4 hB hne r0 r1 r2 r3 s0 s1 Ah Ai;replace B:=d_ B hB2;replace R2:=R2.keep hB2;clear hB2;have ⟨Fh,zp,_,_,_⟩:=T.box;have ⟨s0,s1,Ah,Ai,_⟩:=R2.box
 go_upto_region 4 with fail
 refine Rg.bS 3 [.is (.agg #[.int .i64 lo,.int .i64 hi]),.is (.agg #[.int .i64 lo,.int .i64 hi]),.is (.bool true)] (by kernel_rfl) (by kernel_rfl) (by kernel_rfl) ⟨?_,?_,?_,fun h_=>absurd h_ (by decide),fun h_=>absurd h_ (by decide),trivial⟩ ?_
 ·intro _ zZ w_ hB hr
  have e4:zZ.tmps[4]?=some (.pointer (some ⟨g4,0,none⟩)):=hr 4 (by decide);have k0:=aE hB Fh;have k1:=aE hB zp;exact Rg.aG rfl (by go_simp)
 ·intro _ zZ w_ hB hr
  have e4:zZ.tmps[4]?=some (.pointer (some ⟨g4,0,none⟩)):=hr 4 (by decide);have k0:=aE hB Fh;have k1:=aE hB zp;exact Rg.aG rfl (by go_simp)
 ·intro _ zZ w_ hB hr
  have e48:=Rg.c_ (hr 48 (by decide));have ef:=Rg.ef zZ;exact Rg.bX rfl (by go_simp) (PV.out _)
 intro vals wj hB hv hne;have v_0:vals 0=.agg #[.int .i64 lo,.int .i64 hi]:=hv 0 (by decide);have JM:vals 2=.bool true:=hv 2 (by decide);simp only [Rg.ay,Rg.fill,Act.put,Nat.reduceAdd];clear hv;simp only [v_0,JM];clear v_0 JM;replace B:=d_ B hB;replace R2:=R2.keep hB;have ⟨s2,s3,zf2,zf3,_⟩:=R2.box;clear hne hB;unfold Rg.aX Rg.aX Rg.aX Oper.wp
 go_simp
 go_wp2;exact bodyPost_ret (v:=.tuple #[.agg #[.int .i64 lo,.int .i64 hi],.bool true]) (by simp [results,Tryz.results66,go_sem, *]) rfl (⟨rfl,xN (xN B (by dsimp only;omega) _) (by dsimp only;omega) _⟩)
theorem kc (lo hi:Int) (w:World) (h:M.aM lo hi=true) :
  Calls Tryz.prog 14 #[.agg #[.int .i64 (M.pn lo),.int .i64 (M.pd lo),.int .i64 (M.pn hi),.int .i64 (M.pd hi)]] w fun e w'=>e=.returned (.bool true)∧Below w.heap.size w w':=by
 have PS:=xL fun W=>sv lo hi W h
 clear h;generalize M.pd hi=y2,M.pn hi=x2,M.pd lo=y1,M.pn lo=x1 at *;obtain ⟨wc,hw3,C,B⟩:=pi w #[.int .i64 x1,.int .i64 y1,.int .i64 x2,.int .i64 y2] 33;have ⟨r0,r1,r2,r3,_,_,_,_,_⟩:=C.aN;go_enter Tryz.func14,Tryz.ntmps14
 go_wp2_with (go_at_call 66;(with_reducible refine (PS.out _).mono ?_);rintro e w4 ⟨rfl,hb4⟩;replace B:=d_ B hb4)
 exact bodyPost_ret (v:=.bool true) (by simp [results,Tryz.results14,go_sem, *]) rfl (⟨rfl,B.alloc B.size _⟩)
end
end Go.Proofs.YtggekfbfechonaaGreat
