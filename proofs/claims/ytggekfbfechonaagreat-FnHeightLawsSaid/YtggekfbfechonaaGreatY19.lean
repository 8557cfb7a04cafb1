/-
  Joined texts: contracts and plain lemmas.
-/
import Derived.Test.YtggekfbfechonaaGreatY1
import Derived.Test.YtggekfbfechonaaGreatY18
import Derived.Test.YtggekfbfechonaaGreatY17
set_option linter.unusedSimpArgs false
set_option linter.unusedVariables false
set_option maxRecDepth 100000
set_option maxHeartbeats 8000000
namespace Go.Proofs.YtggekfbfechonaaGreat
section
open Go.RowKit
def lj (W:World) (h:Nat):Prop:=∃ a b:Int,aH W h 25 #[.int .i64 a,.int .i64 b]
structure Bu (w:World) (g B:Nat) (v:Value) (n K e c r1 r2 r3:Nat) (a b:Int) (T:TypeId) (xs:Array Value) (W:World):Prop where
 rd:zV w g B v n K W
 E:aH W e 25 #[.int .i64 a,.int .i64 b]
 L:aH W c T xs
 R1:lj W r1
 R2:fG W r2
 R3:fG W r3
 hn:w.heap.size≤r1∧r1<r2∧r2<r3∧r3<e∧r3<c∧g<w.heap.size∧B≤g
theorem lj.aR {W W':World} {h g:Nat} (q:lj W h) (hg:W.grownBy W' (some g)) (hn:h≠g):lj W' h:=by
 obtain ⟨a,b,q⟩:=q;exact ⟨a,b,q.aR hg hn⟩
theorem fG.aR {W W':World} {h g:Nat} (q:fG W h) (hg:W.grownBy W' (some g)) (hn:h≠g):fG W' h:=by
 obtain ⟨a,b,c,q⟩:=q;exact ⟨a,b,c,q.aR hg hn⟩
theorem Bu.call {w W W':World} {g B n K K' e c r1 r2 r3:Nat} {v:Value} {a b:Int} {T:TypeId} {xs:Array Value} (h:Bu w g B v n K e c r1 r2 r3 a b T xs W) (hc:cN W' g B v n K') (hg:W.grownBy W' (some g)):Bu w g B v n K' e c r1 r2 r3 a b T xs W':=by
 have hn:=h.hn;exact ⟨h.rd.call hc hg,h.E.aR hg (by omega),h.L.aR hg (by omega),h.R1.aR hg (by omega),h.R2.aR hg (by omega),h.R3.aR hg (by omega),hn⟩
theorem Bu.gQ {w W:World} {g B n K e c r1 r2 r3:Nat} {v:Value} {a b:Int} {T:TypeId} {xs:Array Value} (h:Bu w g B v n K e c r1 r2 r3 a b T xs W) (x y:Int):Bu w g B v n K e c r1 r2 r3 a b T xs ((W.setCell ⟨r1,0,none⟩ (.int .i64 x)).setCell ⟨r1,1,none⟩ (.int .i64 y)):=by
 have hn:=h.hn;obtain ⟨rd,E,L,⟨a1,b1,R1⟩,⟨x2,y2,z2,R2⟩,⟨x3,y3,z3,R3⟩,-⟩:=h;exact ⟨(rd.put (by omega) (by omega) (by omega) 0 _).put (by omega) (by omega) (by omega) 1 _,(E.other (by omega) _).other (by omega) _,(L.other (by omega) _).other (by omega) _,⟨x,y,R1.set2 _ _⟩,⟨x2,y2,z2,(R2.other (by omega) _).other (by omega) _⟩,⟨x3,y3,z3,(R3.other (by omega) _).other (by omega) _⟩,hn⟩
theorem Bu.gE {w W:World} {g B n K e c r1 r2 r3:Nat} {v:Value} {a b:Int} {T:TypeId} {xs:Array Value} (h:Bu w g B v n K e c r1 r2 r3 a b T xs W) (x y z:Int):Bu w g B v n K e c r1 r2 r3 a b T xs (((W.setCell ⟨r2,0,none⟩ (.int .i64 x)).setCell ⟨r2,1,none⟩ (.int .i64 y)).setCell ⟨r2,2,none⟩ (.int .i64 z)):=by
 have hn:=h.hn;obtain ⟨rd,E,L,⟨a1,b1,R1⟩,⟨x2,y2,z2,R2⟩,⟨x3,y3,z3,R3⟩,-⟩:=h;exact ⟨((rd.put (by omega) (by omega) (by omega) 0 _).put (by omega) (by omega) (by omega) 1 _).put (by omega) (by omega) (by omega) 2 _,((E.other (by omega) _).other (by omega) _).other (by omega) _,((L.other (by omega) _).other (by omega) _).other (by omega) _,⟨a1,b1,((R1.other (by omega) _).other (by omega) _).other (by omega) _⟩,⟨x,y,z,R2.kV _ _ _⟩,⟨x3,y3,z3,((R3.other (by omega) _).other (by omega) _).other (by omega) _⟩,hn⟩
theorem Bu.tU {w W:World} {g B n K e c r1 r2 r3:Nat} {v:Value} {a b:Int} {T:TypeId} {xs:Array Value} (h:Bu w g B v n K e c r1 r2 r3 a b T xs W) (x y z:Int):Bu w g B v n K e c r1 r2 r3 a b T xs (((W.setCell ⟨r3,0,none⟩ (.int .i64 x)).setCell ⟨r3,1,none⟩ (.int .i64 y)).setCell ⟨r3,2,none⟩ (.int .i64 z)):=by
 have hn:=h.hn;obtain ⟨rd,E,L,⟨a1,b1,R1⟩,⟨x2,y2,z2,R2⟩,⟨x3,y3,z3,R3⟩,-⟩:=h;exact ⟨((rd.put (by omega) (by omega) (by omega) 0 _).put (by omega) (by omega) (by omega) 1 _).put (by omega) (by omega) (by omega) 2 _,((E.other (by omega) _).other (by omega) _).other (by omega) _,((L.other (by omega) _).other (by omega) _).other (by omega) _,⟨a1,b1,((R1.other (by omega) _).other (by omega) _).other (by omega) _⟩,⟨x2,y2,z2,((R2.other (by omega) _).other (by omega) _).other (by omega) _⟩,⟨x,y,z,R3.kV _ _ _⟩,hn⟩
theorem Bu.drew {w W:World} {g B n K e c r1 r2 r3:Nat} {v:Value} {a b:Int} {T:TypeId} {xs:Array Value} (h:Bu w g B v n K e c r1 r2 r3 a b T xs W):Bu w g B v n K e c r1 r2 r3 a b T xs W.drew:=h.call (h.rd.1.keep (wK _ _).drew) (eS (ce _ _) 1)
theorem zW.call {w W W':World} {g B n K K' r1 r2:Nat} {v:Value} {L:List (Nat × TypeId × Array Value)} {T1 T2:TypeId} {xs ys:Array Value} (h:zW w g B v n K r1 r2 L T1 T2 xs ys W) (hc:cN W' g B v n K') (hg:W.grownBy W' (some g)) (hL:∀ x ∈ L,x.1≠g):zW w g B v n K' r1 r2 L T1 T2 xs ys W':=by
 have hn:=h.hn;exact ⟨h.rd.call hc hg,fun x hx=>(h.hV x hx).aR hg (hL x hx),h.R.aR hg (by omega),h.Q.aR hg (by omega),hn,h.hL⟩
theorem mJ (g B:Nat) (v:Value) (n K:Nat) (w:World) (h:cN w g B v n K) (hk:K≤800000000) :
  Calls Tryz.prog 72 #[.pointer (some ⟨g,0,none⟩)] w fun e w'=>∃ x:Int,e=.returned (.int .i64 x)∧cN w' g B v n (K+4)∧w.grownBy w' (some g):=by
 have st:=St.start h;go_enter Tryz.func72,Tryz.ntmps72
 go_wp2_with fail
 have xv:=st;replace st:=st.alloc (.cells #[.int .i64 (-1),.int .i64 6] 3);refine (cI g B v n _ [-1,6] (w).heap.size 2 _ st.cur (by omega) rfl (by omega) (by omega) (by have:=xv.size;omega) (bT _ _ _)).mono ?_;rintro e I_ ⟨x1,rfl,-,t_,j_⟩;replace st:=st.call t_ j_;have Iv:=j_.size;clear t_ j_;clear xv
 go_wp2_with fail
 have xv:=st;replace st:=st.alloc (.cells #[.int .i64 0,.int .i64 1,.int .i64 2,.int .i64 2,.int .i64 3,.int .i64 5,.int .i64 x1] 3);refine (cI g B v n _ [0,1,2,2,3,5,x1] (I_).heap.size 7 _ st.cur (by omega) rfl (by omega) (by omega) (by have:=xv.size;omega) (bT _ _ _)).mono ?_;rintro e JA ⟨x2,rfl,-,t_,j_⟩;replace st:=st.call t_ j_;have Iw:=j_.size;clear t_ j_;clear xv;go_wp2;go_ret;exact ⟨x2,rfl,st.cur,st.gr⟩
theorem i8 (v:Value) (n:Nat) (w:World) (h:cM w w.heap.size v n) :
  Calls Tryz.prog 40 #[v] w fun e w'=>∃ a b X1 Y1 E1 m:Int,e=.returned (.tuple #[.agg #[.int .i64 a,.int .i64 b],.agg #[.int .i64 X1,.int .i64 Y1,.int .i64 E1],.int .i64 m])∧Below w.heap.size w w':=by
 obtain ⟨A,cap,rfl,hn,wZ⟩:=h
 have h:cM w w.heap.size (.slice A n cap) n:=⟨A,cap,rfl,hn,wZ⟩
 clear wZ hn;obtain ⟨wc,hw3,R,Q,BB⟩:=el w #[.int .i64 0,.int .i64 0] 25 #[.int .i64 0,.int .i64 0,.int .i64 0] 27;have st:=St.rW h BB 90;have zc:=Q.lt;have zw:=BB.size;replace R:=R.alloc (.cells #[.slice A n cap,.int .i64 0,.int .u64 0] 90);replace Q:=Q.alloc (.cells #[.slice A n cap,.int .i64 0,.int .u64 0] 90)
 have nR:w.heap.size≠wc.heap.size:=by omega
 have nQ:w.heap.size+1≠wc.heap.size:=by omega
 clear h BB;go_enter Tryz.func40,Tryz.ntmps40
 go_wp2_with fail
 refine (dt _ w.heap.size _ n _ _ st.cur (by omega)).mono ?_;rintro e yt ⟨a,b,X1,Y1,E1,rfl,t_,j_⟩;replace st:=st.call t_ j_;have C1:=j_.size;replace R:=R.aR j_ nR;replace Q:=Q.aR j_ nQ;clear t_ j_;have zq:=Q.lt;have zg:=st.size;have C:=aH.new yt #[.int .i64 a,.int .i64 b] 25;have J4:=st.size;have J3:=st.le;replace st:=st.alloc (.cells #[.int .i64 a,.int .i64 b] 25);replace R:=R.alloc (.cells #[.int .i64 a,.int .i64 b] 25);replace Q:=Q.alloc (.cells #[.int .i64 a,.int .i64 b] 25);have F:=aH.new (yt.alloc (.cells #[.int .i64 a,.int .i64 b] 25)) #[.int .i64 X1,.int .i64 Y1,.int .i64 E1] 27;have Oy:=st.size;have Ox:=st.le;replace st:=st.alloc (.cells #[.int .i64 X1,.int .i64 Y1,.int .i64 E1] 27);replace R:=R.alloc (.cells #[.int .i64 X1,.int .i64 Y1,.int .i64 E1] 27);replace Q:=Q.alloc (.cells #[.int .i64 X1,.int .i64 Y1,.int .i64 E1] 27);replace C:=C.alloc (.cells #[.int .i64 X1,.int .i64 Y1,.int .i64 E1] 27);rw [wI] at F
 go_upto_region 3 with fail
 generalize yt.heap.size=G at *
 have TW:zW w wc.heap.size w.heap.size (.slice A n cap) n (0+100) w.heap.size (w.heap.size+1) [(G,25,#[.int .i64 a,.int .i64 b]),(G+1,27,#[.int .i64 X1,.int .i64 Y1,.int .i64 E1])] 25 27 _ _ _:=⟨⟨st.cur,st.gr⟩,fun x hx=>(by rcases List.mem_cons.1 hx with rfl | hx;exact C;rcases List.mem_cons.1 hx with rfl | hx;exact F;cases hx),R,Q,⟨wL _,by omega,by omega,by omega,by omega⟩,fun x hx=>(by rcases List.mem_cons.1 hx with rfl | hx;(show w.heap.size+1<G;omega);rcases List.mem_cons.1 hx with rfl | hx;(show w.heap.size+1<G+1;omega);cases hx)⟩
 have HN:∀ x ∈ ([(G,25,#[.int .i64 a,.int .i64 b]),(G+1,27,#[.int .i64 X1,.int .i64 Y1,.int .i64 E1])]:List (Nat × TypeId × Array Value)),x.1≠wc.heap.size:=fun x hx=>(by rcases List.mem_cons.1 hx with rfl | hx;(show G≠wc.heap.size;omega);rcases List.mem_cons.1 hx with rfl | hx;(show G+1≠wc.heap.size;omega);cases hx)
 clear st R Q C F;refine Rg.eB (fun l W=>zW w wc.heap.size w.heap.size (.slice A n cap) n ((0+100)+Rg.yL [(3,4)] l) w.heap.size (w.heap.size+1) [(G,25,#[.int .i64 a,.int .i64 b]),(G+1,27,#[.int .i64 X1,.int .i64 Y1,.int .i64 E1])] 25 27 (bif l 4 then #[.int .i64 a,.int .i64 b] else #[.int .i64 0,.int .i64 0]) (bif l 5 then #[.int .i64 X1,.int .i64 Y1,.int .i64 E1] else #[.int .i64 0,.int .i64 0,.int .i64 0]) W) (fun i u W=>match i with | 3=>pV u | 6=>pV u | _=>True) (fun _ _=>True) [3,4,5,6] [.agg #[.int .i64 a,.int .i64 b],.agg #[.int .i64 X1,.int .i64 Y1,.int .i64 E1],.pointer (some ⟨wc.heap.size,0,none⟩),undef,undef,undef,undef] (by kernel_rfl) (by kernel_rfl) (by decide) (fun l l2 W h q=>by rw [←Rg.di (C:=[(3,4)]) (l:=l) fun p hp=>h p.1 (by revert p;decide),←h 4 (by decide),←h 5 (by decide)];exact q) (fun i u w1 w2 hR h=>match i,h with | 0,h=>trivial | 1,h=>trivial | 2,h=>trivial | 3,h=>h | 4,h=>trivial | 5,h=>trivial | 6,h=>h | n_+7,_=>trivial) TW.drew ⟨?_,?_,?_,?_,?_,?_,?_,trivial⟩ ?_
 ·unfold Rg.aS
  intro zZ w_ l_ i_ s_ wu xA xE ww t_ hr;refine ⟨rfl,?_⟩;rw [if_neg (by decide)];have e6:zZ.tmps[6]?=some (.pointer (some ⟨G,0,none⟩)):=hr 6 (by decide);have wS:aH w_ G 25 #[.int .i64 a,.int .i64 b]:=s_.hV (G,25,#[.int .i64 a,.int .i64 b]) (by simp);have ⟨k0,k1,_,_,_⟩:=wS.box
  (first | (go_simp;done) | (go_simp;exact Rg.wr (by omega) (by omega)) | (go_simp;omega) | (go_simp;rfl) | (go_simp;exact ⟨rfl,rfl⟩))
 ·unfold Rg.aS
  intro zZ w_ l_ i_ s_ wu xA xE ww t_ hr;refine ⟨rfl,?_⟩;rw [if_neg (by decide)];have e7:zZ.tmps[7]?=some (.pointer (some ⟨G+1,0,none⟩)):=hr 7 (by decide);have wS:aH w_ (G+1) 27 #[.int .i64 X1,.int .i64 Y1,.int .i64 E1]:=s_.hV (G+1,27,#[.int .i64 X1,.int .i64 Y1,.int .i64 E1]) (by simp);have ⟨k0,k1,k2⟩:=wS.aK
  (first | (go_simp;done) | (go_simp;exact Rg.wr (by omega) (by omega)) | (go_simp;omega) | (go_simp;rfl) | (go_simp;exact ⟨rfl,rfl⟩))
 ·unfold Rg.aS
  intro zZ w_ l_ i_ s_ wu xA xE ww t_ hr;refine ⟨rfl,?_⟩;rw [if_neg (by decide)];have e5:zZ.tmps[5]?=some (.pointer (some ⟨wc.heap.size,0,none⟩)):=hr 5 (by decide)
  go_simp
 ·unfold Rg.aS
  intro zZ w_ l_ i_ s_ wu xA xE ww t_ hr;have e18:zZ.tmps[18]?=some (.pointer (some ⟨wc.heap.size,0,none⟩)):=hr 18 (by decide)
  have ef:∀ f,zZ.eval (.func f)=.func (.func f) #[] #[]:=fun _=>rfl
  refine ⟨rfl,?_⟩;rw [if_pos (by decide)];have CA:=Rg.ez [(3,4)] l_;rw [show Rg.yL [(3,4)] (fun _=>true)=4 from rfl] at CA;refine Rg.fV (by go_simp;exact ⟨rfl,rfl⟩) ?_;refine (mJ _ w.heap.size _ n _ _ s_.rd.1 (by omega)).mono ?_;rintro e_ EQ ⟨u_,rfl,y8,j_⟩;exact ⟨_,rfl,by (try dsimp only);rw [Rg.fa (c:=4) (by decide) rfl xA];exact s_.call y8 j_ HN,⟨u_,rfl⟩,trivial⟩
 ·unfold Rg.aS
  intro zZ w_ l_ i_ s_ wu xA xE ww t_ hr;have e2:zZ.tmps[2]?=some (.pointer (some ⟨w.heap.size,0,none⟩)):=hr 2 (by decide);have e16:zZ.tmps[16]?=some (.agg #[.int .i64 a,.int .i64 b]):=hr 16 (by decide);refine ⟨rfl,?_⟩;rw [if_pos (by decide)];have q_:=s_;simp only [xA,cond_false] at q_;have p_:=And.intro (q_.gQ (.int .i64 a) (.int .i64 b)) (And.intro True.intro True.intro)
  skip
  have ⟨yz,y6,y7,ym,_⟩:=q_.R.box;unfold Oper.wp
  go_simp
  all_goals first | exact p_ | exact p_.1 | exact ⟨undef,p_⟩ | exact ⟨_,rfl,p_⟩
 ·unfold Rg.aS
  intro zZ w_ l_ i_ s_ wu xA xE ww t_ hr;have e3:zZ.tmps[3]?=some (.pointer (some ⟨w.heap.size+1,0,none⟩)):=hr 3 (by decide);have e17:zZ.tmps[17]?=some (.agg #[.int .i64 X1,.int .i64 Y1,.int .i64 E1]):=hr 17 (by decide);refine ⟨rfl,?_⟩;rw [if_pos (by decide)];have q_:=s_;simp only [xA,cond_false] at q_;have p_:=And.intro (q_.gE (.int .i64 X1) (.int .i64 Y1) (.int .i64 E1)) (And.intro True.intro True.intro);have ⟨yz,y6,Bb,y7,ym,Ay⟩:=q_.Q.bF;unfold Oper.wp
  go_simp
  all_goals first | exact p_ | exact p_.1 | exact ⟨undef,p_⟩ | exact ⟨_,rfl,p_⟩
 ·unfold Rg.aS
  intro zZ w_ l_ i_ s_ wu xA xE ww t_ hr;have e19:zZ.tmps[19]?=some (i_ 3):=hr 19 (by decide);refine ⟨rfl,?_⟩;rw [if_pos (by decide)];obtain ⟨x_,xo⟩:=wu 3 (by decide) (ww 3 (by kernel_rfl));rw [xo] at e19;refine Rg.fK (x:=.int .i64 x_) (w2:=w_) (by (first | (go_simp;done) | (go_simp;exact Rg.wr (by omega) (by omega)) | (go_simp;omega) | (go_simp;rfl) | (go_simp;exact ⟨rfl,rfl⟩))) ?_;exact ⟨by (try dsimp only);rw [Rg.bC (by decide)];exact s_,⟨_,rfl⟩,trivial⟩
 intro vals wz s_ hF hv;obtain ⟨m,DK⟩:=hF 6 (by decide);simp only [Rg.ay,Rg.fill,Act.put,Nat.reduceAdd];clear hv hF;simp only [DK];clear DK;simp only [cond_true] at s_;obtain ⟨rd,-,R,Q,-,-⟩:=s_;have B:=rd.below zw;clear rd;have ⟨zS,zT,wM,wN,zU⟩:=R.box;have ⟨BK,BL,BM,yc,yd,ye⟩:=Q.bF;have BN:=Q.lt;go_wp2;exact bodyPost_ret (v:=.tuple #[.agg #[.int .i64 a,.int .i64 b],.agg #[.int .i64 X1,.int .i64 Y1,.int .i64 E1],.int .i64 m]) (by simp [results,Tryz.results40,go_sem, *]) rfl (⟨a,b,X1,Y1,E1,m,rfl,B⟩)
theorem iN (v:Value) (n:Nat) (w:World) (h:cM w w.heap.size v n) :
  Calls Tryz.prog 70 #[v] w fun e w'=>∃ a b X1 Y1 E1:Int,e=.returned (.tuple #[.agg #[.int .i64 a,.int .i64 b],.agg #[.int .i64 X1,.int .i64 Y1,.int .i64 E1]])∧Below w.heap.size w w':=by
 obtain ⟨A,cap,rfl,hn,wZ⟩:=h
 have h:cM w w.heap.size (.slice A n cap) n:=⟨A,cap,rfl,hn,wZ⟩
 clear wZ hn;obtain ⟨wc,hw3,R,Q,BB⟩:=el w #[.int .i64 0,.int .i64 0] 25 #[.int .i64 0,.int .i64 0,.int .i64 0] 27;have st:=St.rW h BB 90;have zc:=Q.lt;have zw:=BB.size;replace R:=R.alloc (.cells #[.slice A n cap,.int .i64 0,.int .u64 0] 90);replace Q:=Q.alloc (.cells #[.slice A n cap,.int .i64 0,.int .u64 0] 90)
 have nR:w.heap.size≠wc.heap.size:=by omega
 have nQ:w.heap.size+1≠wc.heap.size:=by omega
 clear h BB;go_enter Tryz.func70,Tryz.ntmps70
 go_wp2_with fail
 refine (dt _ w.heap.size _ n _ _ st.cur (by omega)).mono ?_;rintro e yt ⟨a,b,X1,Y1,E1,rfl,t_,j_⟩;replace st:=st.call t_ j_;have C1:=j_.size;replace R:=R.aR j_ nR;replace Q:=Q.aR j_ nQ;clear t_ j_;have B:=st.nd zw;clear st;have ⟨zS,zT,wM,wN,zU⟩:=R.box;have ⟨BK,BL,BM,yc,yd,ye⟩:=Q.bF;have BN:=Q.lt;go_wp2;exact bodyPost_ret (v:=.tuple #[.agg #[.int .i64 a,.int .i64 b],.agg #[.int .i64 X1,.int .i64 Y1,.int .i64 E1]]) (by simp [results,Tryz.results70,go_sem, *]) rfl (⟨a,b,X1,Y1,E1,rfl,(wJ (wJ (wJ (wJ (wJ B (by dsimp only;omega) _) (by dsimp only;omega) _) (by dsimp only;omega) _) (by dsimp only;omega) _) (by dsimp only;omega) _)⟩)
theorem nv (w:World) (c:Nat) (x y z:Value):w.grownBy (((w.setCell ⟨c,0,none⟩ x).setCell ⟨c,1,none⟩ y).setCell ⟨c,2,none⟩ z) (some c):=Gr.set (cG w c x y) 2 z
theorem St.pushed {w W W':World} {g B n K:Nat} {v:Value} {r:Option Nat} (h:St w W g B v n K) (hg:W.grownBy W' r) (hr:∀ k,r=some k→g≠k∧B≤k∧w.heap.size≤k):St w W' g B v n K:=by
 cases r with
 | none=>exact h.keep ⟨hg.os,hg.tape,hg.output,hg.size,fun i hi=>hg.block i hi (by simp)⟩
 | some c=>
 obtain ⟨h1,h2,h3⟩:=hr c rfl;exact ⟨h.cur.keepR hg h1 h2,⟨(hg.os).trans h.gr.os,(hg.tape).trans h.gr.tape,(hg.output).trans h.gr.output,Nat.le_trans h.gr.size hg.size,fun i hi hne=>(hg.block i (Nat.lt_of_lt_of_le hi h.gr.size) (fun e=>by have:=Option.some.inj e;omega)).trans (h.gr.block i hi hne)⟩,h.lt⟩
structure zJ (w:World) (g B:Nat) (v:Value) (n K r1 r2 r3:Nat) (L:List (Nat × TypeId × Array Value)) (W:World):Prop where
 rd:zV w g B v n K W
 hV:∀ x ∈ L,aH W x.1 x.2.1 x.2.2
 R1:lj W r1
 R2:fG W r2
 R3:fG W r3
 hn:w.heap.size≤r1∧r1<r2∧r2<r3∧g≠r1∧g≠r2∧g≠r3∧B≤r1
 hL:∀ x ∈ L,r3<x.1∧x.1≠g
theorem zJ.call {w W W':World} {g B n K K' r1 r2 r3:Nat} {v:Value} {L:List (Nat × TypeId × Array Value)} (h:zJ w g B v n K r1 r2 r3 L W) (hc:cN W' g B v n K') (hg:W.grownBy W' (some g)):zJ w g B v n K' r1 r2 r3 L W':=by
 have hn:=h.hn;exact ⟨h.rd.call hc hg,fun x hx=>(h.hV x hx).aR hg (h.hL x hx).2,h.R1.aR hg (by omega),h.R2.aR hg (by omega),h.R3.aR hg (by omega),hn,h.hL⟩
theorem zJ.drew {w W:World} {g B n K r1 r2 r3:Nat} {v:Value} {L:List (Nat × TypeId × Array Value)} (h:zJ w g B v n K r1 r2 r3 L W):zJ w g B v n K r1 r2 r3 L W.drew:=h.call (h.rd.1.keep (wK _ _).drew) (eS (ce _ _) 1)
theorem zJ.gQ {w W:World} {g B n K r1 r2 r3:Nat} {v:Value} {L:List (Nat × TypeId × Array Value)} (h:zJ w g B v n K r1 r2 r3 L W) (x y:Int):zJ w g B v n K r1 r2 r3 L ((W.setCell ⟨r1,0,none⟩ (.int .i64 x)).setCell ⟨r1,1,none⟩ (.int .i64 y)):=by
 have hn:=h.hn
 have hL:∀ y ∈ L,r1<y.1:=fun y hy=>by have:=(h.hL y hy).1;omega
 obtain ⟨rd,hV,⟨a1,b1,R1⟩,⟨x2,y2,z2,R2⟩,⟨x3,y3,z3,R3⟩,-,hL0⟩:=h;exact ⟨(rd.put (by omega) (by omega) (by omega) 0 _).put (by omega) (by omega) (by omega) 1 _,aH.cm (aH.cm hV hL) hL,⟨x,y,R1.set2 _ _⟩,⟨x2,y2,z2,(R2.other (by omega) _).other (by omega) _⟩,⟨x3,y3,z3,(R3.other (by omega) _).other (by omega) _⟩,hn,hL0⟩
theorem zJ.gE {w W:World} {g B n K r1 r2 r3:Nat} {v:Value} {L:List (Nat × TypeId × Array Value)} (h:zJ w g B v n K r1 r2 r3 L W) (x y z:Int):zJ w g B v n K r1 r2 r3 L (((W.setCell ⟨r2,0,none⟩ (.int .i64 x)).setCell ⟨r2,1,none⟩ (.int .i64 y)).setCell ⟨r2,2,none⟩ (.int .i64 z)):=by
 have hn:=h.hn
 have hL:∀ y ∈ L,r2<y.1:=fun y hy=>by have:=(h.hL y hy).1;omega
 obtain ⟨rd,hV,⟨a1,b1,R1⟩,⟨x2,y2,z2,R2⟩,⟨x3,y3,z3,R3⟩,-,hL0⟩:=h;exact ⟨((rd.put (by omega) (by omega) (by omega) 0 _).put (by omega) (by omega) (by omega) 1 _).put (by omega) (by omega) (by omega) 2 _,aH.cm (aH.cm (aH.cm hV hL) hL) hL,⟨a1,b1,((R1.other (by omega) _).other (by omega) _).other (by omega) _⟩,⟨x,y,z,R2.kV _ _ _⟩,⟨x3,y3,z3,((R3.other (by omega) _).other (by omega) _).other (by omega) _⟩,hn,hL0⟩
theorem zJ.tU {w W:World} {g B n K r1 r2 r3:Nat} {v:Value} {L:List (Nat × TypeId × Array Value)} (h:zJ w g B v n K r1 r2 r3 L W) (x y z:Int):zJ w g B v n K r1 r2 r3 L (((W.setCell ⟨r3,0,none⟩ (.int .i64 x)).setCell ⟨r3,1,none⟩ (.int .i64 y)).setCell ⟨r3,2,none⟩ (.int .i64 z)):=by
 have hn:=h.hn
 have hL:∀ y ∈ L,r3<y.1:=fun y hy=>(h.hL y hy).1
 obtain ⟨rd,hV,⟨a1,b1,R1⟩,⟨x2,y2,z2,R2⟩,⟨x3,y3,z3,R3⟩,-,hL0⟩:=h;exact ⟨((rd.put (by omega) (by omega) (by omega) 0 _).put (by omega) (by omega) (by omega) 1 _).put (by omega) (by omega) (by omega) 2 _,aH.cm (aH.cm (aH.cm hV hL) hL) hL,⟨a1,b1,((R1.other (by omega) _).other (by omega) _).other (by omega) _⟩,⟨x2,y2,z2,((R2.other (by omega) _).other (by omega) _).other (by omega) _⟩,⟨x,y,z,R3.kV _ _ _⟩,hn,hL0⟩
theorem fX (v:Value) (n:Nat) (w:World) (h:cM w w.heap.size v n) :
  Calls Tryz.prog 35 #[v] w fun e w'=>∃ a b X1 Y1 E1 m:Int,e=.returned (.tuple #[.agg #[.int .i64 a,.int .i64 b],.agg #[.int .i64 X1,.int .i64 Y1,.int .i64 E1],.int .i64 m])∧Below w.heap.size w w':=by
 obtain ⟨A,cap,rfl,hn,wZ⟩:=h
 have h:cM w w.heap.size (.slice A n cap) n:=⟨A,cap,rfl,hn,wZ⟩
 clear wZ hn;obtain ⟨wc,hw3,R,Q,BB⟩:=el w #[.int .i64 0,.int .i64 0] 25 #[.int .i64 0,.int .i64 0,.int .i64 0] 27;have st:=St.rW h BB 90;have zc:=Q.lt;have zw:=BB.size;replace R:=R.alloc (.cells #[.slice A n cap,.int .i64 0,.int .u64 0] 90);replace Q:=Q.alloc (.cells #[.slice A n cap,.int .i64 0,.int .u64 0] 90)
 have nR:w.heap.size≠wc.heap.size:=by omega
 have nQ:w.heap.size+1≠wc.heap.size:=by omega
 clear h BB;go_enter Tryz.func35,Tryz.ntmps35
 go_wp2_with fail
 refine (dt _ w.heap.size _ n _ _ st.cur (by omega)).mono ?_;rintro e yt ⟨a,b,X1,Y1,E1,rfl,t_,j_⟩;replace st:=st.call t_ j_;have C1:=j_.size;replace R:=R.aR j_ nR;replace Q:=Q.aR j_ nQ;clear t_ j_;have zq:=Q.lt;have zg:=st.size;have C:=aH.new yt #[.int .i64 a,.int .i64 b] 25;have J4:=st.size;have J3:=st.le;replace st:=st.alloc (.cells #[.int .i64 a,.int .i64 b] 25);replace R:=R.alloc (.cells #[.int .i64 a,.int .i64 b] 25);replace Q:=Q.alloc (.cells #[.int .i64 a,.int .i64 b] 25);have F:=aH.new (yt.alloc (.cells #[.int .i64 a,.int .i64 b] 25)) #[.int .i64 X1,.int .i64 Y1,.int .i64 E1] 27;have Oy:=st.size;have Ox:=st.le;replace st:=st.alloc (.cells #[.int .i64 X1,.int .i64 Y1,.int .i64 E1] 27);replace R:=R.alloc (.cells #[.int .i64 X1,.int .i64 Y1,.int .i64 E1] 27);replace Q:=Q.alloc (.cells #[.int .i64 X1,.int .i64 Y1,.int .i64 E1] 27);replace C:=C.alloc (.cells #[.int .i64 X1,.int .i64 Y1,.int .i64 E1] 27);rw [wI] at F
 go_upto_region 3 with fail
 generalize yt.heap.size=G at *
 have TW:zW w wc.heap.size w.heap.size (.slice A n cap) n (0+100) w.heap.size (w.heap.size+1) [(G,25,#[.int .i64 a,.int .i64 b]),(G+1,27,#[.int .i64 X1,.int .i64 Y1,.int .i64 E1])] 25 27 _ _ _:=⟨⟨st.cur,st.gr⟩,fun x hx=>(by rcases List.mem_cons.1 hx with rfl | hx;exact C;rcases List.mem_cons.1 hx with rfl | hx;exact F;cases hx),R,Q,⟨wL _,by omega,by omega,by omega,by omega⟩,fun x hx=>(by rcases List.mem_cons.1 hx with rfl | hx;(show w.heap.size+1<G;omega);rcases List.mem_cons.1 hx with rfl | hx;(show w.heap.size+1<G+1;omega);cases hx)⟩
 have HN:∀ x ∈ ([(G,25,#[.int .i64 a,.int .i64 b]),(G+1,27,#[.int .i64 X1,.int .i64 Y1,.int .i64 E1])]:List (Nat × TypeId × Array Value)),x.1≠wc.heap.size:=fun x hx=>(by rcases List.mem_cons.1 hx with rfl | hx;(show G≠wc.heap.size;omega);rcases List.mem_cons.1 hx with rfl | hx;(show G+1≠wc.heap.size;omega);cases hx)
 clear st R Q C F;refine Rg.eB (fun l W=>zW w wc.heap.size w.heap.size (.slice A n cap) n ((0+100)+Rg.yL [(5,2),(7,2)] l) w.heap.size (w.heap.size+1) [(G,25,#[.int .i64 a,.int .i64 b]),(G+1,27,#[.int .i64 X1,.int .i64 Y1,.int .i64 E1])] 25 27 (bif l 8 then #[.int .i64 a,.int .i64 b] else #[.int .i64 0,.int .i64 0]) (bif l 9 then #[.int .i64 X1,.int .i64 Y1,.int .i64 E1] else #[.int .i64 0,.int .i64 0,.int .i64 0]) W) (fun i u W=>match i with | 4=>iz [wc.heap.size,w.heap.size,w.heap.size+1] 2 u W | 5=>pV u | 6=>iz [wc.heap.size,w.heap.size,w.heap.size+1] 6 u W | 7=>pV u | 10=>pV u | _=>True) (DL [wc.heap.size,w.heap.size,w.heap.size+1]) [4,5,6,7,8,9,10] [.agg #[.int .i64 a,.int .i64 b],.agg #[.int .i64 X1,.int .i64 Y1,.int .i64 E1],.pointer (some ⟨wc.heap.size,0,none⟩),.pointer (some ⟨wc.heap.size,0,none⟩),undef,undef,undef,undef,undef,undef,undef] (by kernel_rfl) (by kernel_rfl) (by decide) (fun l l2 W h q=>by rw [←Rg.di (C:=[(5,2),(7,2)]) (l:=l) fun p hp=>h p.1 (by revert p;decide),←h 8 (by decide),←h 9 (by decide)];exact q) (fun i u w1 w2 hR h=>match i,h with | 0,h=>trivial | 1,h=>trivial | 2,h=>trivial | 3,h=>trivial | 4,h=>iz.keep h hR | 5,h=>h | 6,h=>iz.keep h hR | 7,h=>h | 8,h=>trivial | 9,h=>trivial | 10,h=>h | n_+11,_=>trivial) TW.drew ⟨?_,?_,?_,?_,?_,?_,?_,?_,?_,?_,?_,trivial⟩ ?_
 ·unfold Rg.aS
  intro zZ w_ l_ i_ s_ wu xA xE ww t_ hr;refine ⟨rfl,?_⟩;rw [if_neg (by decide)];have e6:zZ.tmps[6]?=some (.pointer (some ⟨G,0,none⟩)):=hr 6 (by decide);have wS:aH w_ G 25 #[.int .i64 a,.int .i64 b]:=s_.hV (G,25,#[.int .i64 a,.int .i64 b]) (by simp);have ⟨k0,k1,_,_,_⟩:=wS.box
  (first | (go_simp;done) | (go_simp;exact Rg.wr (by omega) (by omega)) | (go_simp;omega) | (go_simp;rfl) | (go_simp;exact ⟨rfl,rfl⟩))
 ·unfold Rg.aS
  intro zZ w_ l_ i_ s_ wu xA xE ww t_ hr;refine ⟨rfl,?_⟩;rw [if_neg (by decide)];have e7:zZ.tmps[7]?=some (.pointer (some ⟨G+1,0,none⟩)):=hr 7 (by decide);have wS:aH w_ (G+1) 27 #[.int .i64 X1,.int .i64 Y1,.int .i64 E1]:=s_.hV (G+1,27,#[.int .i64 X1,.int .i64 Y1,.int .i64 E1]) (by simp);have ⟨k0,k1,k2⟩:=wS.aK
  (first | (go_simp;done) | (go_simp;exact Rg.wr (by omega) (by omega)) | (go_simp;omega) | (go_simp;rfl) | (go_simp;exact ⟨rfl,rfl⟩))
 ·unfold Rg.aS
  intro zZ w_ l_ i_ s_ wu xA xE ww t_ hr;refine ⟨rfl,?_⟩;rw [if_neg (by decide)];have e5:zZ.tmps[5]?=some (.pointer (some ⟨wc.heap.size,0,none⟩)):=hr 5 (by decide)
  go_simp
 ·unfold Rg.aS
  intro zZ w_ l_ i_ s_ wu xA xE ww t_ hr;refine ⟨rfl,?_⟩;rw [if_neg (by decide)];have e5:zZ.tmps[5]?=some (.pointer (some ⟨wc.heap.size,0,none⟩)):=hr 5 (by decide)
  go_simp
 ·unfold Rg.aS
  intro zZ w_ l_ i_ s_ wu xA xE ww t_ hr;have ec:=Rg.ec zZ;refine ⟨rfl,?_⟩;rw [if_pos (by decide)];refine Rg.rU (x:=.slice (some ⟨w_.heap.size,0,none⟩) 2 2) (ob:=.cells (([0,13]:List Int).map (Value.int .i64)).toArray 3) (by first | (go_simp;done) | (go_simp;exact ⟨rfl,rfl⟩) | (go_simp;rfl)) ?_;have OY:=s_.rd.1.size;have OZ:=s_.R.lt;have Oa:=s_.Q.lt;exact ⟨by (try dsimp only);rw [Rg.bC (by decide)];exact s_.call (s_.rd.1.keep (bA _ _)) (bf (bA _ _) _) HN,iz.new w_ _ _ rfl (by simp only [List.mem_cons,List.not_mem_nil,or_false];omega),DL.lay (r:=wc.heap.size) (by simp) _ _⟩
 ·unfold Rg.aS
  intro zZ w_ l_ i_ s_ wu xA xE ww t_ hr;have e19:zZ.tmps[19]?=some (.pointer (some ⟨wc.heap.size,0,none⟩)):=hr 19 (by decide);have e20:zZ.tmps[20]?=some (i_ 4):=hr 20 (by decide)
  have ef:∀ f,zZ.eval (.func f)=.func (.func f) #[] #[]:=fun _=>rfl
  refine ⟨rfl,?_⟩;rw [if_pos (by decide)];have CA:=Rg.ez [(5,2),(7,2)] l_;rw [show Rg.yL [(5,2),(7,2)] (fun _=>true)=4 from rfl] at CA;obtain ⟨b_,MN,wZ⟩:=lr (X:=[wc.heap.size,w.heap.size,w.heap.size+1]) s_.rd.1 (by simp) (by omega) (by omega) (by omega) (wu 4 (by decide) (ww 4 (by kernel_rfl)));rw [MN] at e20;refine Rg.fV (by go_simp;exact ⟨rfl,rfl⟩) ?_;refine wZ.mono ?_;rintro e EQ ⟨u_,rfl,Eu,y8,j_⟩;exact ⟨u_,rfl,by (try dsimp only);rw [Rg.fa (c:=2) (by decide) rfl xA];exact s_.call y8 j_ HN,Eu,⟨_,by simp,j_⟩⟩
 ·unfold Rg.aS
  intro zZ w_ l_ i_ s_ wu xA xE ww t_ hr;have e21:zZ.tmps[21]?=some (i_ 5):=hr 21 (by decide);have ec:=Rg.ec zZ;refine ⟨rfl,?_⟩;rw [if_pos (by decide)];obtain ⟨x_,xo⟩:=wu 5 (by decide) (ww 5 (by kernel_rfl));rw [xo] at e21;refine Rg.rU (x:=.slice (some ⟨w_.heap.size,0,none⟩) 6 6) (ob:=.cells (([1,2,3,5,12,x_]:List Int).map (Value.int .i64)).toArray 3) (by first | (go_simp;done) | (go_simp;exact ⟨rfl,rfl⟩) | (go_simp;rfl)) ?_;have OY:=s_.rd.1.size;have OZ:=s_.R.lt;have Oa:=s_.Q.lt;exact ⟨by (try dsimp only);rw [Rg.bC (by decide)];exact s_.call (s_.rd.1.keep (bA _ _)) (bf (bA _ _) _) HN,iz.new w_ _ _ rfl (by simp only [List.mem_cons,List.not_mem_nil,or_false];omega),DL.lay (r:=wc.heap.size) (by simp) _ _⟩
 ·unfold Rg.aS
  intro zZ w_ l_ i_ s_ wu xA xE ww t_ hr;have e18:zZ.tmps[18]?=some (.pointer (some ⟨wc.heap.size,0,none⟩)):=hr 18 (by decide);have e22:zZ.tmps[22]?=some (i_ 6):=hr 22 (by decide)
  have ef:∀ f,zZ.eval (.func f)=.func (.func f) #[] #[]:=fun _=>rfl
  refine ⟨rfl,?_⟩;rw [if_pos (by decide)];have CA:=Rg.ez [(5,2),(7,2)] l_;rw [show Rg.yL [(5,2),(7,2)] (fun _=>true)=4 from rfl] at CA;obtain ⟨b_,MN,wZ⟩:=lr (X:=[wc.heap.size,w.heap.size,w.heap.size+1]) s_.rd.1 (by simp) (by omega) (by omega) (by omega) (wu 6 (by decide) (ww 6 (by kernel_rfl)));rw [MN] at e22;refine Rg.fV (by go_simp;exact ⟨rfl,rfl⟩) ?_;refine wZ.mono ?_;rintro e EQ ⟨u_,rfl,Eu,y8,j_⟩;exact ⟨u_,rfl,by (try dsimp only);rw [Rg.fa (c:=2) (by decide) rfl xA];exact s_.call y8 j_ HN,Eu,⟨_,by simp,j_⟩⟩
 ·unfold Rg.aS
  intro zZ w_ l_ i_ s_ wu xA xE ww t_ hr;have e2:zZ.tmps[2]?=some (.pointer (some ⟨w.heap.size,0,none⟩)):=hr 2 (by decide);have e16:zZ.tmps[16]?=some (.agg #[.int .i64 a,.int .i64 b]):=hr 16 (by decide);refine ⟨rfl,?_⟩;rw [if_pos (by decide)];have q_:=s_;simp only [xA,cond_false] at q_;have p_:=And.intro (q_.gQ (.int .i64 a) (.int .i64 b)) (And.intro True.intro (show DL [wc.heap.size,w.heap.size,w.heap.size+1] w_ ((w_.setCell ⟨w.heap.size,0,none⟩ (.int .i64 a)).setCell ⟨w.heap.size,1,none⟩ (.int .i64 b)) from ⟨w.heap.size,by simp,cG _ _ _ _⟩))
  skip
  have ⟨yz,y6,y7,ym,_⟩:=q_.R.box;unfold Oper.wp
  go_simp
  all_goals first | exact ⟨p_.1,p_.2.2⟩ | exact p_ | exact p_.1 | exact ⟨undef,p_⟩ | exact ⟨_,rfl,p_⟩
 ·unfold Rg.aS
  intro zZ w_ l_ i_ s_ wu xA xE ww t_ hr;have e3:zZ.tmps[3]?=some (.pointer (some ⟨w.heap.size+1,0,none⟩)):=hr 3 (by decide);have e17:zZ.tmps[17]?=some (.agg #[.int .i64 X1,.int .i64 Y1,.int .i64 E1]):=hr 17 (by decide);refine ⟨rfl,?_⟩;rw [if_pos (by decide)];have q_:=s_;simp only [xA,cond_false] at q_;have p_:=And.intro (q_.gE (.int .i64 X1) (.int .i64 Y1) (.int .i64 E1)) (And.intro True.intro (show DL [wc.heap.size,w.heap.size,w.heap.size+1] w_ (((w_.setCell ⟨w.heap.size+1,0,none⟩ (.int .i64 X1)).setCell ⟨w.heap.size+1,1,none⟩ (.int .i64 Y1)).setCell ⟨w.heap.size+1,2,none⟩ (.int .i64 E1)) from ⟨w.heap.size+1,by simp,nv _ _ _ _ _⟩));have ⟨yz,y6,Bb,y7,ym,Ay⟩:=q_.Q.bF;unfold Oper.wp
  go_simp
  all_goals first | exact ⟨p_.1,p_.2.2⟩ | exact p_ | exact p_.1 | exact ⟨undef,p_⟩ | exact ⟨_,rfl,p_⟩
 ·unfold Rg.aS
  intro zZ w_ l_ i_ s_ wu xA xE ww t_ hr;have e23:zZ.tmps[23]?=some (i_ 7):=hr 23 (by decide);refine ⟨rfl,?_⟩;rw [if_pos (by decide)];obtain ⟨x_,xo⟩:=wu 7 (by decide) (ww 7 (by kernel_rfl));rw [xo] at e23;refine Rg.fK (x:=.int .i64 x_) (w2:=w_) (by (first | (go_simp;done) | (go_simp;exact Rg.wr (by omega) (by omega)) | (go_simp;omega) | (go_simp;rfl) | (go_simp;exact ⟨rfl,rfl⟩))) ?_;exact ⟨by (try dsimp only);rw [Rg.bC (by decide)];exact s_,⟨_,rfl⟩,DL.self (r:=wc.heap.size) (by simp) _⟩
 intro vals wz s_ hF hv;obtain ⟨m,xU⟩:=hF 10 (by decide);simp only [Rg.ay,Rg.fill,Act.put,Nat.reduceAdd];clear hv hF;simp only [xU];clear xU;simp only [cond_true] at s_;obtain ⟨rd,-,R,Q,-,-⟩:=s_;have B:=rd.below zw;clear rd;have ⟨zS,zT,wM,wN,zU⟩:=R.box;have ⟨BK,BL,BM,yc,yd,ye⟩:=Q.bF;have BN:=Q.lt;go_wp2;exact bodyPost_ret (v:=.tuple #[.agg #[.int .i64 a,.int .i64 b],.agg #[.int .i64 X1,.int .i64 Y1,.int .i64 E1],.int .i64 m]) (by simp [results,Tryz.results35,go_sem, *]) rfl (⟨a,b,X1,Y1,E1,m,rfl,B⟩)
theorem i9 (v:Value) (n:Nat) (w:World) (h:cM w w.heap.size v n) :
  Calls Tryz.prog 52 #[v] w fun e w'=>∃ a b X1 Y1 E1:Int,e=.returned (.tuple #[.agg #[.int .i64 a,.int .i64 b],.agg #[.int .i64 X1,.int .i64 Y1,.int .i64 E1]])∧Below w.heap.size w w':=by
 obtain ⟨A,cap,rfl,hn,wZ⟩:=h
 have h:cM w w.heap.size (.slice A n cap) n:=⟨A,cap,rfl,hn,wZ⟩
 clear wZ hn;obtain ⟨wc,hw3,R,Q,BB⟩:=el w #[.int .i64 0,.int .i64 0] 25 #[.int .i64 0,.int .i64 0,.int .i64 0] 27;have h2:=(h.keepW BB).mY BB.size;have zw:=BB.size;clear h;go_enter Tryz.func52,Tryz.ntmps52
 go_wp2_with fail
 refine (iN _ n _ h2).mono ?_;rintro e w4 ⟨a,b,X1,Y1,E1,rfl,hb4⟩;have B:=BB.trans (hb4.mono zw);replace R:=R.keep hb4;replace Q:=Q.keep hb4;have ⟨zS,zT,wM,wN,zU⟩:=R.box;have ⟨BK,BL,BM,yc,yd,ye⟩:=Q.bF;have BN:=Q.lt;clear h2 hb4 BB;go_wp2;exact bodyPost_ret (v:=.tuple #[.agg #[.int .i64 a,.int .i64 b],.agg #[.int .i64 X1,.int .i64 Y1,.int .i64 E1]]) (by simp [results,Tryz.results52,go_sem, *]) rfl (⟨a,b,X1,Y1,E1,rfl,(wJ (wJ (wJ (wJ (wJ B (by dsimp only;omega) _) (by dsimp only;omega) _) (by dsimp only;omega) _) (by dsimp only;omega) _) (by dsimp only;omega) _)⟩)
theorem fW (v:Value) (n:Nat) (w:World) (h:cM w w.heap.size v n) :
  Calls Tryz.prog 46 #[v] w fun e w'=>∃ a b X1 Y1 E1 X2 Y2 E2:Int,e=.returned (.tuple #[.agg #[.int .i64 a,.int .i64 b],.agg #[.int .i64 X1,.int .i64 Y1,.int .i64 E1],.agg #[.int .i64 X2,.int .i64 Y2,.int .i64 E2]])∧Below w.heap.size w w':=by
 obtain ⟨A,cap,rfl,hn,wZ⟩:=h
 have h:cM w w.heap.size (.slice A n cap) n:=⟨A,cap,rfl,hn,wZ⟩
 clear wZ hn;obtain ⟨wc,hw3,R,Q,U,BB⟩:=eJ w #[.int .i64 0,.int .i64 0] 25 #[.int .i64 0,.int .i64 0,.int .i64 0] 27 #[.int .i64 0,.int .i64 0,.int .i64 0] 27;have st:=St.rW h BB 90;have zc:=U.lt;have zw:=BB.size;replace R:=R.alloc (.cells #[.slice A n cap,.int .i64 0,.int .u64 0] 90);replace Q:=Q.alloc (.cells #[.slice A n cap,.int .i64 0,.int .u64 0] 90);replace U:=U.alloc (.cells #[.slice A n cap,.int .i64 0,.int .u64 0] 90)
 have nR:w.heap.size≠wc.heap.size:=by omega
 have nQ:w.heap.size+1≠wc.heap.size:=by omega
 have nU:w.heap.size+1+1≠wc.heap.size:=by omega
 clear h BB;go_enter Tryz.func46,Tryz.ntmps46
 go_wp2_with fail
 refine (dt _ w.heap.size _ n _ _ st.cur (by omega)).mono ?_;rintro e yt ⟨a,b,X,Y,E,rfl,t_,j_⟩;replace st:=st.call t_ j_;have C1:=j_.size;replace R:=R.aR j_ nR;replace Q:=Q.aR j_ nQ;replace U:=U.aR j_ nU;clear t_ j_;have zq:=U.lt;have zg:=st.size;have C:=aH.new yt #[.int .i64 a,.int .i64 b] 25;have J4:=st.size;have J3:=st.le;replace st:=st.alloc (.cells #[.int .i64 a,.int .i64 b] 25);replace R:=R.alloc (.cells #[.int .i64 a,.int .i64 b] 25);replace Q:=Q.alloc (.cells #[.int .i64 a,.int .i64 b] 25);replace U:=U.alloc (.cells #[.int .i64 a,.int .i64 b] 25)
 have nC:yt.heap.size≠wc.heap.size:=by omega
 have F:=aH.new (yt.alloc (.cells #[.int .i64 a,.int .i64 b] 25)) #[.int .i64 X,.int .i64 Y,.int .i64 E] 27;have Oy:=st.size;have Ox:=st.le;replace st:=st.alloc (.cells #[.int .i64 X,.int .i64 Y,.int .i64 E] 27);replace R:=R.alloc (.cells #[.int .i64 X,.int .i64 Y,.int .i64 E] 27);replace Q:=Q.alloc (.cells #[.int .i64 X,.int .i64 Y,.int .i64 E] 27);replace U:=U.alloc (.cells #[.int .i64 X,.int .i64 Y,.int .i64 E] 27);replace C:=C.alloc (.cells #[.int .i64 X,.int .i64 Y,.int .i64 E] 27);rw [wI] at F
 have nF:yt.heap.size+1≠wc.heap.size:=by omega
 go_upto_region 3 with fail
 have hFl:=F.lt;have hgr:=st.size;generalize (yt.alloc (.cells #[.int .i64 a,.int .i64 b] 25)).alloc (.cells #[.int .i64 X,.int .i64 Y,.int .i64 E] 27)=wr,yt.heap.size=G at *;refine Rg.eB (fun l W=>zV wr wc.heap.size w.heap.size (.slice A n cap) n ((0+100)+Rg.yL [(3,2)] l) W) (fun i u W=>match i with | 3=>HJ 0 1 u | 4=>HJ (2) 3 u | 5=>pa u | 6=>pa u | 7=>qU u | 8=>kA u | 9=>nT wr.heap.size u W | 11=>kA u | _=>True) (bU wr.heap.size) [3,4,5,6,7,8,9,10,11] [.agg #[.int .i64 a,.int .i64 b],.agg #[.int .i64 X,.int .i64 Y,.int .i64 E],.pointer (some ⟨wc.heap.size,0,none⟩),undef,undef,undef,undef,undef,undef,undef,undef,undef] (by kernel_rfl) (by kernel_rfl) (by decide) (fun l l2 W h q=>by rw [←Rg.di (C:=[(3,2)]) (l:=l) fun p hp=>h p.1 (by revert p;decide)];exact q) (fun i u w1 w2 hR h=>match i,h with | 0,h=>(trivial) | 1,h=>(trivial) | 2,h=>(trivial) | 3,h=>(h) | 4,h=>(h) | 5,h=>(h) | 6,h=>(h) | 7,h=>(h) | 8,h=>(h) | 9,h=>(by obtain ⟨CZ,Dh,Fc,H9⟩:=h;exact ⟨CZ,Dh,Fc,hR CZ Fc H9⟩) | 10,h=>(trivial) | 11,h=>(h) | n_+12,_=>trivial) (zV.start st) ⟨?_,?_,?_,?_,?_,?_,?_,?_,?_,?_,?_,?_,trivial⟩ ?_
 ·unfold Rg.aS
  intro zZ w_ l_ i_ s_ wu xA xE ww t_ hr;refine ⟨rfl,?_⟩;rw [if_neg (by decide)];have e6:zZ.tmps[6]?=some (.pointer (some ⟨G,0,none⟩)):=hr 6 (by decide);have wS:=C.aR s_.2 nC;have ⟨k0,k1,_,_,_⟩:=wS.box
  (first | (go_simp;done) | (go_simp;exact Rg.wr (by omega) (by omega)) | (go_simp;omega) | (go_simp;rfl) | (go_simp;exact ⟨rfl,rfl⟩))
 ·unfold Rg.aS
  intro zZ w_ l_ i_ s_ wu xA xE ww t_ hr;refine ⟨rfl,?_⟩;rw [if_neg (by decide)];have e7:zZ.tmps[7]?=some (.pointer (some ⟨G+1,0,none⟩)):=hr 7 (by decide);have wS:=F.aR s_.2 nF;have ⟨k0,k1,k2⟩:=wS.aK
  (first | (go_simp;done) | (go_simp;exact Rg.wr (by omega) (by omega)) | (go_simp;omega) | (go_simp;rfl) | (go_simp;exact ⟨rfl,rfl⟩))
 ·unfold Rg.aS
  intro zZ w_ l_ i_ s_ wu xA xE ww t_ hr;refine ⟨rfl,?_⟩;rw [if_neg (by decide)];have e5:zZ.tmps[5]?=some (.pointer (some ⟨wc.heap.size,0,none⟩)):=hr 5 (by decide)
  go_simp
 ·unfold Rg.aS
  intro zZ w_ l_ i_ s_ wu xA xE ww t_ hr;have e21:zZ.tmps[21]?=some (.pointer (some ⟨wc.heap.size,0,none⟩)):=hr 21 (by decide)
  have ef:∀ f,zZ.eval (.func f)=.func (.func f) #[] #[]:=fun _=>rfl
  have ec:=Rg.ec zZ;refine ⟨rfl,?_⟩;rw [if_pos (by decide)];have CA:=Rg.ez [(3,2)] l_;rw [show Rg.yL [(3,2)] (fun _=>true)=2 from rfl] at CA;refine Rg.fV (by go_simp;exact ⟨rfl,rfl⟩) ?_;refine (cJ wc.heap.size w.heap.size (.slice A n cap) n _ 2 _ s_.1 (by omega) (by omega) (by omega)).mono ?_;rintro e_ EQ ⟨u_,rfl,Eu,y8,j_⟩;exact ⟨_,rfl,by (try dsimp only);rw [Rg.fa (c:=2) (by decide) rfl xA];exact s_.call y8 j_,⟨u_,Eu,rfl⟩,bU.grown j_ hgr⟩
 ·unfold Rg.aS
  intro zZ w_ l_ i_ s_ wu xA xE ww t_ hr;have e22:zZ.tmps[22]?=some (i_ 3):=hr 22 (by decide);have ec:=Rg.ec zZ;refine ⟨rfl,?_⟩;rw [if_pos (by decide)];obtain ⟨x_,⟨Dw,Dx⟩,xo⟩:=wu 3 (by decide) (ww 3 (by kernel_rfl));rw [xo] at e22;refine Rg.fK (x:=.int .i64 (2+x_)) (w2:=w_) (by (first | (go_simp;done) | (go_simp;exact Rg.wr (by omega) (by omega)) | (go_simp;omega) | (go_simp;rfl) | (go_simp;exact ⟨rfl,rfl⟩))) ?_;exact ⟨by (try dsimp only);rw [Rg.bC (by decide)];exact s_,⟨_,⟨by omega,by omega⟩,rfl⟩,bU.self _ _⟩
 ·unfold Rg.aS
  intro zZ w_ l_ i_ s_ wu xA xE ww t_ hr;have e19:zZ.tmps[19]?=some (.agg #[.int .i64 a,.int .i64 b]):=hr 19 (by decide);have e20:zZ.tmps[20]?=some (.agg #[.int .i64 X,.int .i64 Y,.int .i64 E]):=hr 20 (by decide);have e23:zZ.tmps[23]?=some (i_ 4):=hr 23 (by decide)
  have ef:∀ f,zZ.eval (.func f)=.func (.func f) #[] #[]:=fun _=>rfl
  refine ⟨rfl,?_⟩;rw [if_pos (by decide)];obtain ⟨x_,⟨Dw,Dx⟩,xo⟩:=wu 4 (by decide) (ww 4 (by kernel_rfl));rw [xo] at e23;refine Rg.fV (by go_simp;exact ⟨rfl,rfl⟩) ?_;refine (df a b X Y E x_ _).mono ?_;rintro e_ EQ ⟨rfl,wZ⟩;exact ⟨_,rfl,by (try dsimp only);rw [Rg.bC (by decide)];exact s_.keep wZ,⟨_,_,_,_,rfl⟩,bU.below wZ⟩
 ·unfold Rg.aS
  intro zZ w_ l_ i_ s_ wu xA xE ww t_ hr;have e24:zZ.tmps[24]?=some (i_ 5):=hr 24 (by decide);refine ⟨rfl,?_⟩;rw [if_pos (by decide)];obtain ⟨X_,Y_,E_,q_,xo⟩:=wu 5 (by decide) (ww 5 (by kernel_rfl));rw [xo] at e24;refine Rg.fK (x:=.tuple #[.agg #[.int .i64 X_,.int .i64 Y_,.int .i64 E_],.bool q_]) (w2:=w_) (by (first | (go_simp;done) | (go_simp;exact Rg.wr (by omega) (by omega)) | (go_simp;omega) | (go_simp;rfl) | (go_simp;exact ⟨rfl,rfl⟩))) ?_;exact ⟨by (try dsimp only);rw [Rg.bC (by decide)];exact s_,⟨_,_,_,_,rfl⟩,bU.self _ _⟩
 ·unfold Rg.aS
  intro zZ w_ l_ i_ s_ wu xA xE ww t_ hr;have e18:zZ.tmps[18]?=some (i_ 6):=hr 18 (by decide);refine ⟨rfl,?_⟩;rw [if_pos (by decide)];obtain ⟨X_,Y_,E_,q_,xo⟩:=wu 6 (by decide) (ww 6 (by kernel_rfl));rw [xo] at e18;refine Rg.fK (x:=.agg #[.int .i64 X_,.int .i64 Y_,.int .i64 E_]) (w2:=w_) (by (first | (go_simp;done) | (go_simp;exact Rg.wr (by omega) (by omega)) | (go_simp;omega) | (go_simp;rfl) | (go_simp;exact ⟨rfl,rfl⟩))) ?_;exact ⟨by (try dsimp only);rw [Rg.bC (by decide)];exact s_,⟨_,_,_,rfl⟩,bU.self _ _⟩
 ·unfold Rg.aS
  intro zZ w_ l_ i_ s_ wu xA xE ww t_ hr;have e18:zZ.tmps[18]?=some (i_ 6):=hr 18 (by decide);refine ⟨rfl,?_⟩;rw [if_pos (by decide)];obtain ⟨X_,Y_,E_,q_,xo⟩:=wu 6 (by decide) (ww 6 (by kernel_rfl));rw [xo] at e18;refine Rg.fK (x:=.bool q_) (w2:=w_) (by (first | (go_simp;done) | (go_simp;exact Rg.wr (by omega) (by omega)) | (go_simp;omega) | (go_simp;rfl) | (go_simp;exact ⟨rfl,rfl⟩))) ?_;exact ⟨by (try dsimp only);rw [Rg.bC (by decide)];exact s_,⟨_,rfl⟩,bU.self _ _⟩
 ·unfold Rg.aS
  intro zZ w_ l_ i_ s_ wu xA xE ww t_ hr;refine ⟨rfl,?_⟩;rw [if_pos (by decide)];refine Rg.rU (x:=.pointer (some ⟨w_.heap.size,0,none⟩)) (ob:=.cells #[.int .i64 0,.int .i64 0,.int .i64 0] 27) (by (first | (go_simp;done) | (go_simp;exact Rg.wr (by omega) (by omega)) | (go_simp;omega) | (go_simp;rfl) | (go_simp;exact ⟨rfl,rfl⟩))) ?_;exact ⟨by (try dsimp only);rw [Rg.bC (by decide)];exact s_.keep (bA _ _),⟨_,rfl,s_.2.size,⟨0,0,0,aH.new _ _ _⟩⟩,bU.below (bA _ _)⟩
 ·unfold Rg.aS
  intro zZ w_ l_ i_ s_ wu xA xE ww t_ hr;have e8:zZ.tmps[8]?=some (i_ 9):=hr 8 (by decide);have e25:zZ.tmps[25]?=some (i_ 7):=hr 25 (by decide);refine ⟨rfl,?_⟩;rw [if_pos (by decide)];obtain ⟨h_,H8,wt,yn⟩:=wu 9 (by decide) (ww 9 (by kernel_rfl));rw [H8] at e8;obtain ⟨X_,Y_,E_,xo⟩:=wu 7 (by decide) (ww 7 (by kernel_rfl));rw [xo] at e25
  have p_:zV wr wc.heap.size w.heap.size (.slice A n cap) n ((0+100)+Rg.yL [(3,2)] (Rg.upd l_ 10)) (((w_.setCell ⟨h_,0,none⟩ (.int .i64 X_)).setCell ⟨h_,1,none⟩ (.int .i64 Y_)).setCell ⟨h_,2,none⟩ (.int .i64 E_))∧True∧bU wr.heap.size w_ (((w_.setCell ⟨h_,0,none⟩ (.int .i64 X_)).setCell ⟨h_,1,none⟩ (.int .i64 Y_)).setCell ⟨h_,2,none⟩ (.int .i64 E_)):=⟨by (try dsimp only);rw [Rg.bC (by decide)];exact ((s_.put (by omega) (by omega) wt 0 _).put (by omega) (by omega) wt 1 _).put (by omega) (by omega) wt 2 _,trivial,bU.put yn _ _ _⟩
  obtain ⟨X0_,Y0_,E0_,yn⟩:=yn;have ⟨yz,y6,Bb,y7,ym,Ay⟩:=yn.bF;unfold Oper.wp
  go_simp
  all_goals first | exact p_ | exact p_.1 | exact ⟨undef,p_⟩ | exact ⟨_,rfl,p_⟩
 ·unfold Rg.aS
  intro zZ w_ l_ i_ s_ wu xA xE ww t_ hr;have e26:zZ.tmps[26]?=some (i_ 8):=hr 26 (by decide);refine ⟨rfl,?_⟩;rw [if_pos (by decide)];obtain ⟨q_,xo⟩:=wu 8 (by decide) (ww 8 (by kernel_rfl));rw [xo] at e26;refine Rg.fK (x:=.bool q_) (w2:=w_) (by (first | (go_simp;done) | (go_simp;exact Rg.wr (by omega) (by omega)) | (go_simp;omega) | (go_simp;rfl) | (go_simp;exact ⟨rfl,rfl⟩))) ?_;exact ⟨by (try dsimp only);rw [Rg.bC (by decide)];exact s_,⟨_,rfl⟩,bU.self _ _⟩
 intro vals wz s_ hF hv;obtain ⟨h_,yp,wt,XN,YN,EN,N⟩:=hF 9 (by decide);obtain ⟨ok,xI⟩:=hF 11 (by decide);simp only [Rg.ay,Rg.fill,Act.put,Nat.reduceAdd];clear hv hF;simp only [yp,xI];clear yp xI;replace s_:zV wr wc.heap.size w.heap.size (.slice A n cap) n ((0+100)+2) wz:=s_;replace st:=st.call s_.1 s_.2;replace R:=R.aR s_.2 nR;replace Q:=Q.aR s_.2 nQ;replace U:=U.aR s_.2 nU;replace C:=C.aR s_.2 nC;replace F:=F.aR s_.2 nF;have szz:=s_.2.size;clear s_;cases ok
 case false=>
  go_upto_region 6 with fail
  have TW:zJ w wc.heap.size w.heap.size (.slice A n cap) n (0+100+2+2) w.heap.size (w.heap.size+1) (w.heap.size+1+1) [(G,25,#[.int .i64 a,.int .i64 b]),(G+1,27,#[.int .i64 X,.int .i64 Y,.int .i64 E])] _:=⟨⟨st.cur.mono (by omega),st.gr⟩,fun x hx=>(by rcases List.mem_cons.1 hx with rfl | hx;exact C;rcases List.mem_cons.1 hx with rfl | hx;exact F;cases hx),⟨_,_,R⟩,⟨_,_,_,Q⟩,⟨_,_,_,U⟩,⟨wL _,by omega,by omega,by omega,by omega,by omega,by omega⟩,fun x hx=>(by rcases List.mem_cons.1 hx with rfl | hx;(show w.heap.size+1+1<G∧G≠wc.heap.size;omega);rcases List.mem_cons.1 hx with rfl | hx;(show w.heap.size+1+1<G+1∧G+1≠wc.heap.size;omega);cases hx)⟩
  clear st R Q U C F N;refine Rg.eB (fun l W=>zJ w wc.heap.size w.heap.size (.slice A n cap) n ((0+100+2+2)+Rg.yL [(4,10)] l) w.heap.size (w.heap.size+1) (w.heap.size+1+1) [(G,25,#[.int .i64 a,.int .i64 b]),(G+1,27,#[.int .i64 X,.int .i64 Y,.int .i64 E])] W) (fun i u W=>match i with | 4=>qU u | _=>True) (fun _ _=>True) [4,5,6,7] [.agg #[.int .i64 a,.int .i64 b],.agg #[.int .i64 X,.int .i64 Y,.int .i64 E],.pointer (some ⟨wc.heap.size,0,none⟩),.agg #[.int .i64 a,.int .i64 b],undef,undef,undef,undef] (by kernel_rfl) (by kernel_rfl) (by decide) (fun l l2 W h q=>by rw [←Rg.di (C:=[(4,10)]) (l:=l) fun p hp=>h p.1 (by revert p;decide)];exact q) (fun i u w1 w2 hR h=>match i,h with | 0,h=>trivial | 1,h=>trivial | 2,h=>trivial | 3,h=>trivial | 4,h=>h | 5,h=>trivial | 6,h=>trivial | 7,h=>trivial | n_+8,_=>trivial) TW.drew ⟨?_,?_,?_,?_,?_,?_,?_,?_,trivial⟩ ?_
  ·unfold Rg.aS
   intro zZ w_ l_ i_ s_ wu xA xE ww t_ hr;refine ⟨rfl,?_⟩;rw [if_neg (by decide)];have e6:zZ.tmps[6]?=some (.pointer (some ⟨G,0,none⟩)):=hr 6 (by decide);have wS:aH w_ (G) 25 #[.int .i64 a,.int .i64 b]:=s_.hV (G,25,#[.int .i64 a,.int .i64 b]) (by simp);have ⟨k0,k1,_,_,_⟩:=wS.box
   (first | (go_simp;done) | (go_simp;exact Rg.wr (by omega) (by omega)) | (go_simp;omega) | (go_simp;rfl) | (go_simp;exact ⟨rfl,rfl⟩))
  ·unfold Rg.aS
   intro zZ w_ l_ i_ s_ wu xA xE ww t_ hr;refine ⟨rfl,?_⟩;rw [if_neg (by decide)];have e7:zZ.tmps[7]?=some (.pointer (some ⟨G+1,0,none⟩)):=hr 7 (by decide);have wS:aH w_ (G+1) 27 #[.int .i64 X,.int .i64 Y,.int .i64 E]:=s_.hV (G+1,27,#[.int .i64 X,.int .i64 Y,.int .i64 E]) (by simp);have ⟨k0,k1,k2⟩:=wS.aK
   (first | (go_simp;done) | (go_simp;exact Rg.wr (by omega) (by omega)) | (go_simp;omega) | (go_simp;rfl) | (go_simp;exact ⟨rfl,rfl⟩))
  ·unfold Rg.aS
   intro zZ w_ l_ i_ s_ wu xA xE ww t_ hr;refine ⟨rfl,?_⟩;rw [if_neg (by decide)];have e5:zZ.tmps[5]?=some (.pointer (some ⟨wc.heap.size,0,none⟩)):=hr 5 (by decide)
   go_simp
  ·unfold Rg.aS
   intro zZ w_ l_ i_ s_ wu xA xE ww t_ hr;refine ⟨rfl,?_⟩;rw [if_neg (by decide)];have e6:zZ.tmps[6]?=some (.pointer (some ⟨G,0,none⟩)):=hr 6 (by decide);have wS:aH w_ (G) 25 #[.int .i64 a,.int .i64 b]:=s_.hV (G,25,#[.int .i64 a,.int .i64 b]) (by simp);have ⟨k0,k1,_,_,_⟩:=wS.box
   (first | (go_simp;done) | (go_simp;exact Rg.wr (by omega) (by omega)) | (go_simp;omega) | (go_simp;rfl) | (go_simp;exact ⟨rfl,rfl⟩))
  ·unfold Rg.aS
   intro zZ w_ l_ i_ s_ wu xA xE ww t_ hr;have e37:zZ.tmps[37]?=some (.pointer (some ⟨wc.heap.size,0,none⟩)):=hr 37 (by decide);have e38:zZ.tmps[38]?=some (.agg #[.int .i64 a,.int .i64 b]):=hr 38 (by decide)
   have ef:∀ f,zZ.eval (.func f)=.func (.func f) #[] #[]:=fun _=>rfl
   refine ⟨rfl,?_⟩;rw [if_pos (by decide)];have CA:=Rg.ez [(4,10)] l_;rw [show Rg.yL [(4,10)] (fun _=>true)=10 from rfl] at CA;refine Rg.fV (by go_simp;exact ⟨rfl,rfl⟩) ?_;refine (f9 wc.heap.size w.heap.size (.slice A n cap) n _ a b _ s_.rd.1 (by omega)).mono ?_;rintro e_ EQ ⟨X_,Y_,E_,rfl,y8,j_⟩;exact ⟨_,rfl,by (try dsimp only);rw [Rg.fa (c:=10) (by decide) rfl xA];exact s_.call y8 j_,⟨_,_,_,rfl⟩,trivial⟩
  ·unfold Rg.aS
   intro zZ w_ l_ i_ s_ wu xA xE ww t_ hr;have e2:zZ.tmps[2]?=some (.pointer (some ⟨w.heap.size,0,none⟩)):=hr 2 (by decide);have e35:zZ.tmps[35]?=some (.agg #[.int .i64 a,.int .i64 b]):=hr 35 (by decide);refine ⟨rfl,?_⟩;rw [if_pos (by decide)]
   have p_:zJ w wc.heap.size w.heap.size (.slice A n cap) n ((0+100+2+2)+Rg.yL [(4,10)] (Rg.upd l_ 5)) w.heap.size (w.heap.size+1) (w.heap.size+1+1) [(G,25,#[.int .i64 a,.int .i64 b]),(G+1,27,#[.int .i64 X,.int .i64 Y,.int .i64 E])] ((w_.setCell ⟨w.heap.size,0,none⟩ (.int .i64 a)).setCell ⟨w.heap.size,1,none⟩ (.int .i64 b))∧True∧True:=⟨by (try dsimp only);rw [Rg.bC (by decide)];exact s_.gQ a b,trivial,trivial⟩
   obtain ⟨FX,FZ,yn⟩:=s_.R1;have ⟨yz,y6,y7,ym,_⟩:=yn.box;unfold Oper.wp
   go_simp
   all_goals first | exact p_ | exact p_.1 | exact ⟨undef,p_⟩ | exact ⟨_,rfl,p_⟩
  ·unfold Rg.aS
   intro zZ w_ l_ i_ s_ wu xA xE ww t_ hr;have e3:zZ.tmps[3]?=some (.pointer (some ⟨w.heap.size+1,0,none⟩)):=hr 3 (by decide);have e36:zZ.tmps[36]?=some (.agg #[.int .i64 X,.int .i64 Y,.int .i64 E]):=hr 36 (by decide);refine ⟨rfl,?_⟩;rw [if_pos (by decide)]
   have p_:zJ w wc.heap.size w.heap.size (.slice A n cap) n ((0+100+2+2)+Rg.yL [(4,10)] (Rg.upd l_ 6)) w.heap.size (w.heap.size+1) (w.heap.size+1+1) [(G,25,#[.int .i64 a,.int .i64 b]),(G+1,27,#[.int .i64 X,.int .i64 Y,.int .i64 E])] (((w_.setCell ⟨w.heap.size+1,0,none⟩ (.int .i64 X)).setCell ⟨w.heap.size+1,1,none⟩ (.int .i64 Y)).setCell ⟨w.heap.size+1,2,none⟩ (.int .i64 E))∧True∧True:=⟨by (try dsimp only);rw [Rg.bC (by decide)];exact s_.gE X Y E,trivial,trivial⟩
   obtain ⟨FX,FZ,GB,yn⟩:=s_.R2;have ⟨yz,y6,Bb,y7,ym,Ay⟩:=yn.bF;unfold Oper.wp
   go_simp
   all_goals first | exact p_ | exact p_.1 | exact ⟨undef,p_⟩ | exact ⟨_,rfl,p_⟩
  ·unfold Rg.aS
   intro zZ w_ l_ i_ s_ wu xA xE ww t_ hr;have e4:zZ.tmps[4]?=some (.pointer (some ⟨w.heap.size+1+1,0,none⟩)):=hr 4 (by decide);have e39:zZ.tmps[39]?=some (i_ 4):=hr 39 (by decide);refine ⟨rfl,?_⟩;rw [if_pos (by decide)];obtain ⟨X_,Y_,E_,xo⟩:=wu 4 (by decide) (ww 4 (by kernel_rfl));rw [xo] at e39
   have p_:zJ w wc.heap.size w.heap.size (.slice A n cap) n ((0+100+2+2)+Rg.yL [(4,10)] (Rg.upd l_ 7)) w.heap.size (w.heap.size+1) (w.heap.size+1+1) [(G,25,#[.int .i64 a,.int .i64 b]),(G+1,27,#[.int .i64 X,.int .i64 Y,.int .i64 E])] (((w_.setCell ⟨w.heap.size+1+1,0,none⟩ (.int .i64 X_)).setCell ⟨w.heap.size+1+1,1,none⟩ (.int .i64 Y_)).setCell ⟨w.heap.size+1+1,2,none⟩ (.int .i64 E_))∧True∧True:=⟨by (try dsimp only);rw [Rg.bC (by decide)];exact s_.tU X_ Y_ E_,trivial,trivial⟩
   obtain ⟨FX,FZ,GB,yn⟩:=s_.R3;have ⟨yz,y6,Bb,y7,ym,Ay⟩:=yn.bF;unfold Oper.wp
   go_simp
   all_goals first | exact p_ | exact p_.1 | exact ⟨undef,p_⟩ | exact ⟨_,rfl,p_⟩
  intro vals wz2 s_ hF hv;simp only [Rg.ay,Rg.fill,Act.put,Nat.reduceAdd];clear hv hF;have hn_:=s_.hn;obtain ⟨rd,-,⟨a1,b1,R⟩,⟨X1,Y1,E1,Q⟩,⟨X2,Y2,E2,U⟩,-,-⟩:=s_;have B:=rd.below zw;clear rd;have ⟨zS,zT,wM,wN,zU⟩:=R.box;have ⟨BK,BL,BM,yc,yd,ye⟩:=Q.bF;have BN:=Q.lt;have ⟨Cm,Cn,Co,xS,xT,zo⟩:=U.bF;have Cp:=U.lt;go_wp2;exact bodyPost_ret (v:=.tuple #[.agg #[.int .i64 a1,.int .i64 b1],.agg #[.int .i64 X1,.int .i64 Y1,.int .i64 E1],.agg #[.int .i64 X2,.int .i64 Y2,.int .i64 E2]]) (by simp [results,Tryz.results46,go_sem, *]) rfl (⟨a1,b1,X1,Y1,E1,X2,Y2,E2,rfl,B⟩)
 case true=>
 go_wp2_with fail
 refine (gv _ w.heap.size _ n _ 2 _ st.cur (by omega) (by omega) (by omega)).mono ?_;rintro e w_q ⟨q,rfl,t_,j_⟩;replace st:=st.call t_ j_;have sz_q:=j_.size;replace R:=R.aR j_ nR;replace Q:=Q.aR j_ nQ;replace U:=U.aR j_ nU;replace C:=C.aR j_ nC;replace F:=F.aR j_ nF;replace N:=N.aR j_ (by omega);clear t_ j_;cases q
 case false=>
  go_upto_region 6 with fail
  have TW:zJ w wc.heap.size w.heap.size (.slice A n cap) n (0+100+2+2) w.heap.size (w.heap.size+1) (w.heap.size+1+1) [(G,25,#[.int .i64 a,.int .i64 b]),(G+1,27,#[.int .i64 X,.int .i64 Y,.int .i64 E])] _:=⟨⟨st.cur.mono (by omega),st.gr⟩,fun x hx=>(by rcases List.mem_cons.1 hx with rfl | hx;exact C;rcases List.mem_cons.1 hx with rfl | hx;exact F;cases hx),⟨_,_,R⟩,⟨_,_,_,Q⟩,⟨_,_,_,U⟩,⟨wL _,by omega,by omega,by omega,by omega,by omega,by omega⟩,fun x hx=>(by rcases List.mem_cons.1 hx with rfl | hx;(show w.heap.size+1+1<G∧G≠wc.heap.size;omega);rcases List.mem_cons.1 hx with rfl | hx;(show w.heap.size+1+1<G+1∧G+1≠wc.heap.size;omega);cases hx)⟩
  clear st R Q U C F N;refine Rg.eB (fun l W=>zJ w wc.heap.size w.heap.size (.slice A n cap) n ((0+100+2+2)+Rg.yL [(4,10)] l) w.heap.size (w.heap.size+1) (w.heap.size+1+1) [(G,25,#[.int .i64 a,.int .i64 b]),(G+1,27,#[.int .i64 X,.int .i64 Y,.int .i64 E])] W) (fun i u W=>match i with | 4=>qU u | _=>True) (fun _ _=>True) [4,5,6,7] [.agg #[.int .i64 a,.int .i64 b],.agg #[.int .i64 X,.int .i64 Y,.int .i64 E],.pointer (some ⟨wc.heap.size,0,none⟩),.agg #[.int .i64 a,.int .i64 b],undef,undef,undef,undef] (by kernel_rfl) (by kernel_rfl) (by decide) (fun l l2 W h q=>by rw [←Rg.di (C:=[(4,10)]) (l:=l) fun p hp=>h p.1 (by revert p;decide)];exact q) (fun i u w1 w2 hR h=>match i,h with | 0,h=>trivial | 1,h=>trivial | 2,h=>trivial | 3,h=>trivial | 4,h=>h | 5,h=>trivial | 6,h=>trivial | 7,h=>trivial | n_+8,_=>trivial) TW.drew ⟨?_,?_,?_,?_,?_,?_,?_,?_,trivial⟩ ?_
  ·unfold Rg.aS
   intro zZ w_ l_ i_ s_ wu xA xE ww t_ hr;refine ⟨rfl,?_⟩;rw [if_neg (by decide)];have e6:zZ.tmps[6]?=some (.pointer (some ⟨G,0,none⟩)):=hr 6 (by decide);have wS:aH w_ (G) 25 #[.int .i64 a,.int .i64 b]:=s_.hV (G,25,#[.int .i64 a,.int .i64 b]) (by simp);have ⟨k0,k1,_,_,_⟩:=wS.box
   (first | (go_simp;done) | (go_simp;exact Rg.wr (by omega) (by omega)) | (go_simp;omega) | (go_simp;rfl) | (go_simp;exact ⟨rfl,rfl⟩))
  ·unfold Rg.aS
   intro zZ w_ l_ i_ s_ wu xA xE ww t_ hr;refine ⟨rfl,?_⟩;rw [if_neg (by decide)];have e7:zZ.tmps[7]?=some (.pointer (some ⟨G+1,0,none⟩)):=hr 7 (by decide);have wS:aH w_ (G+1) 27 #[.int .i64 X,.int .i64 Y,.int .i64 E]:=s_.hV (G+1,27,#[.int .i64 X,.int .i64 Y,.int .i64 E]) (by simp);have ⟨k0,k1,k2⟩:=wS.aK
   (first | (go_simp;done) | (go_simp;exact Rg.wr (by omega) (by omega)) | (go_simp;omega) | (go_simp;rfl) | (go_simp;exact ⟨rfl,rfl⟩))
  ·unfold Rg.aS
   intro zZ w_ l_ i_ s_ wu xA xE ww t_ hr;refine ⟨rfl,?_⟩;rw [if_neg (by decide)];have e5:zZ.tmps[5]?=some (.pointer (some ⟨wc.heap.size,0,none⟩)):=hr 5 (by decide)
   go_simp
  ·unfold Rg.aS
   intro zZ w_ l_ i_ s_ wu xA xE ww t_ hr;refine ⟨rfl,?_⟩;rw [if_neg (by decide)];have e6:zZ.tmps[6]?=some (.pointer (some ⟨G,0,none⟩)):=hr 6 (by decide);have wS:aH w_ (G) 25 #[.int .i64 a,.int .i64 b]:=s_.hV (G,25,#[.int .i64 a,.int .i64 b]) (by simp);have ⟨k0,k1,_,_,_⟩:=wS.box
   (first | (go_simp;done) | (go_simp;exact Rg.wr (by omega) (by omega)) | (go_simp;omega) | (go_simp;rfl) | (go_simp;exact ⟨rfl,rfl⟩))
  ·unfold Rg.aS
   intro zZ w_ l_ i_ s_ wu xA xE ww t_ hr;have e37:zZ.tmps[37]?=some (.pointer (some ⟨wc.heap.size,0,none⟩)):=hr 37 (by decide);have e38:zZ.tmps[38]?=some (.agg #[.int .i64 a,.int .i64 b]):=hr 38 (by decide)
   have ef:∀ f,zZ.eval (.func f)=.func (.func f) #[] #[]:=fun _=>rfl
   refine ⟨rfl,?_⟩;rw [if_pos (by decide)];have CA:=Rg.ez [(4,10)] l_;rw [show Rg.yL [(4,10)] (fun _=>true)=10 from rfl] at CA;refine Rg.fV (by go_simp;exact ⟨rfl,rfl⟩) ?_;refine (f9 wc.heap.size w.heap.size (.slice A n cap) n _ a b _ s_.rd.1 (by omega)).mono ?_;rintro e_ EQ ⟨X_,Y_,E_,rfl,y8,j_⟩;exact ⟨_,rfl,by (try dsimp only);rw [Rg.fa (c:=10) (by decide) rfl xA];exact s_.call y8 j_,⟨_,_,_,rfl⟩,trivial⟩
  ·unfold Rg.aS
   intro zZ w_ l_ i_ s_ wu xA xE ww t_ hr;have e2:zZ.tmps[2]?=some (.pointer (some ⟨w.heap.size,0,none⟩)):=hr 2 (by decide);have e35:zZ.tmps[35]?=some (.agg #[.int .i64 a,.int .i64 b]):=hr 35 (by decide);refine ⟨rfl,?_⟩;rw [if_pos (by decide)]
   have p_:zJ w wc.heap.size w.heap.size (.slice A n cap) n ((0+100+2+2)+Rg.yL [(4,10)] (Rg.upd l_ 5)) w.heap.size (w.heap.size+1) (w.heap.size+1+1) [(G,25,#[.int .i64 a,.int .i64 b]),(G+1,27,#[.int .i64 X,.int .i64 Y,.int .i64 E])] ((w_.setCell ⟨w.heap.size,0,none⟩ (.int .i64 a)).setCell ⟨w.heap.size,1,none⟩ (.int .i64 b))∧True∧True:=⟨by (try dsimp only);rw [Rg.bC (by decide)];exact s_.gQ a b,trivial,trivial⟩
   obtain ⟨FX,FZ,yn⟩:=s_.R1;have ⟨yz,y6,y7,ym,_⟩:=yn.box;unfold Oper.wp
   go_simp
   all_goals first | exact p_ | exact p_.1 | exact ⟨undef,p_⟩ | exact ⟨_,rfl,p_⟩
  ·unfold Rg.aS
   intro zZ w_ l_ i_ s_ wu xA xE ww t_ hr;have e3:zZ.tmps[3]?=some (.pointer (some ⟨w.heap.size+1,0,none⟩)):=hr 3 (by decide);have e36:zZ.tmps[36]?=some (.agg #[.int .i64 X,.int .i64 Y,.int .i64 E]):=hr 36 (by decide);refine ⟨rfl,?_⟩;rw [if_pos (by decide)]
   have p_:zJ w wc.heap.size w.heap.size (.slice A n cap) n ((0+100+2+2)+Rg.yL [(4,10)] (Rg.upd l_ 6)) w.heap.size (w.heap.size+1) (w.heap.size+1+1) [(G,25,#[.int .i64 a,.int .i64 b]),(G+1,27,#[.int .i64 X,.int .i64 Y,.int .i64 E])] (((w_.setCell ⟨w.heap.size+1,0,none⟩ (.int .i64 X)).setCell ⟨w.heap.size+1,1,none⟩ (.int .i64 Y)).setCell ⟨w.heap.size+1,2,none⟩ (.int .i64 E))∧True∧True:=⟨by (try dsimp only);rw [Rg.bC (by decide)];exact s_.gE X Y E,trivial,trivial⟩
   obtain ⟨FX,FZ,GB,yn⟩:=s_.R2;have ⟨yz,y6,Bb,y7,ym,Ay⟩:=yn.bF;unfold Oper.wp
   go_simp
   all_goals first | exact p_ | exact p_.1 | exact ⟨undef,p_⟩ | exact ⟨_,rfl,p_⟩
  ·unfold Rg.aS
   intro zZ w_ l_ i_ s_ wu xA xE ww t_ hr;have e4:zZ.tmps[4]?=some (.pointer (some ⟨w.heap.size+1+1,0,none⟩)):=hr 4 (by decide);have e39:zZ.tmps[39]?=some (i_ 4):=hr 39 (by decide);refine ⟨rfl,?_⟩;rw [if_pos (by decide)];obtain ⟨X_,Y_,E_,xo⟩:=wu 4 (by decide) (ww 4 (by kernel_rfl));rw [xo] at e39
   have p_:zJ w wc.heap.size w.heap.size (.slice A n cap) n ((0+100+2+2)+Rg.yL [(4,10)] (Rg.upd l_ 7)) w.heap.size (w.heap.size+1) (w.heap.size+1+1) [(G,25,#[.int .i64 a,.int .i64 b]),(G+1,27,#[.int .i64 X,.int .i64 Y,.int .i64 E])] (((w_.setCell ⟨w.heap.size+1+1,0,none⟩ (.int .i64 X_)).setCell ⟨w.heap.size+1+1,1,none⟩ (.int .i64 Y_)).setCell ⟨w.heap.size+1+1,2,none⟩ (.int .i64 E_))∧True∧True:=⟨by (try dsimp only);rw [Rg.bC (by decide)];exact s_.tU X_ Y_ E_,trivial,trivial⟩
   obtain ⟨FX,FZ,GB,yn⟩:=s_.R3;have ⟨yz,y6,Bb,y7,ym,Ay⟩:=yn.bF;unfold Oper.wp
   go_simp
   all_goals first | exact p_ | exact p_.1 | exact ⟨undef,p_⟩ | exact ⟨_,rfl,p_⟩
  intro vals wz2 s_ hF hv;simp only [Rg.ay,Rg.fill,Act.put,Nat.reduceAdd];clear hv hF;have hn_:=s_.hn;obtain ⟨rd,-,⟨a1,b1,R⟩,⟨X1,Y1,E1,Q⟩,⟨X2,Y2,E2,U⟩,-,-⟩:=s_;have B:=rd.below zw;clear rd;have ⟨zS,zT,wM,wN,zU⟩:=R.box;have ⟨BK,BL,BM,yc,yd,ye⟩:=Q.bF;have BN:=Q.lt;have ⟨Cm,Cn,Co,xS,xT,zo⟩:=U.bF;have Cp:=U.lt;go_wp2;exact bodyPost_ret (v:=.tuple #[.agg #[.int .i64 a1,.int .i64 b1],.agg #[.int .i64 X1,.int .i64 Y1,.int .i64 E1],.agg #[.int .i64 X2,.int .i64 Y2,.int .i64 E2]]) (by simp [results,Tryz.results46,go_sem, *]) rfl (⟨a1,b1,X1,Y1,E1,X2,Y2,E2,rfl,B⟩)
 case true=>
 go_upto_region 5 with fail
 have TW:zJ w wc.heap.size w.heap.size (.slice A n cap) n (0+100+2+2) w.heap.size (w.heap.size+1) (w.heap.size+1+1) [(G,25,#[.int .i64 a,.int .i64 b]),(G+1,27,#[.int .i64 X,.int .i64 Y,.int .i64 E]),(h_,27,#[.int .i64 XN,.int .i64 YN,.int .i64 EN])] _:=⟨⟨st.cur.mono (by omega),st.gr⟩,fun x hx=>(by rcases List.mem_cons.1 hx with rfl | hx;exact C;rcases List.mem_cons.1 hx with rfl | hx;exact F;rcases List.mem_cons.1 hx with rfl | hx;exact N;cases hx),⟨_,_,R⟩,⟨_,_,_,Q⟩,⟨_,_,_,U⟩,⟨wL _,by omega,by omega,by omega,by omega,by omega,by omega⟩,fun x hx=>(by rcases List.mem_cons.1 hx with rfl | hx;(show w.heap.size+1+1<G∧G≠wc.heap.size;omega);rcases List.mem_cons.1 hx with rfl | hx;(show w.heap.size+1+1<G+1∧G+1≠wc.heap.size;omega);rcases List.mem_cons.1 hx with rfl | hx;(show w.heap.size+1+1<h_∧h_≠wc.heap.size;omega);cases hx)⟩
 clear st R Q U C F N;refine Rg.eB (fun l W=>zJ w wc.heap.size w.heap.size (.slice A n cap) n ((0+100+2+2)+Rg.yL [] l) w.heap.size (w.heap.size+1) (w.heap.size+1+1) [(G,25,#[.int .i64 a,.int .i64 b]),(G+1,27,#[.int .i64 X,.int .i64 Y,.int .i64 E]),(h_,27,#[.int .i64 XN,.int .i64 YN,.int .i64 EN])] W) (fun i u W=>match i with  | _=>True) (fun _ _=>True) [3,4,5] [.agg #[.int .i64 a,.int .i64 b],.agg #[.int .i64 X,.int .i64 Y,.int .i64 E],.agg #[.int .i64 XN,.int .i64 YN,.int .i64 EN],undef,undef,undef] (by kernel_rfl) (by kernel_rfl) (by decide) (fun l l2 W h q=>by rw [←Rg.di (C:=[]) (l:=l) fun p hp=>h p.1 (by revert p;decide)];exact q) (fun i u w1 w2 hR h=>match i,h with | 0,h=>trivial | 1,h=>trivial | 2,h=>trivial | 3,h=>trivial | 4,h=>trivial | 5,h=>trivial | n_+6,_=>trivial) TW.drew ⟨?_,?_,?_,?_,?_,?_,trivial⟩ ?_
 ·unfold Rg.aS
  intro zZ w_ l_ i_ s_ wu xA xE ww t_ hr;refine ⟨rfl,?_⟩;rw [if_neg (by decide)];have e6:zZ.tmps[6]?=some (.pointer (some ⟨G,0,none⟩)):=hr 6 (by decide);have wS:aH w_ (G) 25 #[.int .i64 a,.int .i64 b]:=s_.hV (G,25,#[.int .i64 a,.int .i64 b]) (by simp);have ⟨k0,k1,_,_,_⟩:=wS.box
  (first | (go_simp;done) | (go_simp;exact Rg.wr (by omega) (by omega)) | (go_simp;omega) | (go_simp;rfl) | (go_simp;exact ⟨rfl,rfl⟩))
 ·unfold Rg.aS
  intro zZ w_ l_ i_ s_ wu xA xE ww t_ hr;refine ⟨rfl,?_⟩;rw [if_neg (by decide)];have e7:zZ.tmps[7]?=some (.pointer (some ⟨G+1,0,none⟩)):=hr 7 (by decide);have wS:aH w_ (G+1) 27 #[.int .i64 X,.int .i64 Y,.int .i64 E]:=s_.hV (G+1,27,#[.int .i64 X,.int .i64 Y,.int .i64 E]) (by simp);have ⟨k0,k1,k2⟩:=wS.aK
  (first | (go_simp;done) | (go_simp;exact Rg.wr (by omega) (by omega)) | (go_simp;omega) | (go_simp;rfl) | (go_simp;exact ⟨rfl,rfl⟩))
 ·unfold Rg.aS
  intro zZ w_ l_ i_ s_ wu xA xE ww t_ hr;refine ⟨rfl,?_⟩;rw [if_neg (by decide)];have e8:zZ.tmps[8]?=some (.pointer (some ⟨h_,0,none⟩)):=hr 8 (by decide);have wS:aH w_ (h_) 27 #[.int .i64 XN,.int .i64 YN,.int .i64 EN]:=s_.hV (h_,27,#[.int .i64 XN,.int .i64 YN,.int .i64 EN]) (by simp);have ⟨k0,k1,k2⟩:=wS.aK
  (first | (go_simp;done) | (go_simp;exact Rg.wr (by omega) (by omega)) | (go_simp;omega) | (go_simp;rfl) | (go_simp;exact ⟨rfl,rfl⟩))
 ·unfold Rg.aS
  intro zZ w_ l_ i_ s_ wu xA xE ww t_ hr;have e2:zZ.tmps[2]?=some (.pointer (some ⟨w.heap.size,0,none⟩)):=hr 2 (by decide);have e32:zZ.tmps[32]?=some (.agg #[.int .i64 a,.int .i64 b]):=hr 32 (by decide);refine ⟨rfl,?_⟩;rw [if_pos (by decide)]
  have p_:zJ w wc.heap.size w.heap.size (.slice A n cap) n ((0+100+2+2)+Rg.yL [] (Rg.upd l_ 3)) w.heap.size (w.heap.size+1) (w.heap.size+1+1) [(G,25,#[.int .i64 a,.int .i64 b]),(G+1,27,#[.int .i64 X,.int .i64 Y,.int .i64 E]),(h_,27,#[.int .i64 XN,.int .i64 YN,.int .i64 EN])] ((w_.setCell ⟨w.heap.size,0,none⟩ (.int .i64 a)).setCell ⟨w.heap.size,1,none⟩ (.int .i64 b))∧True∧True:=⟨by (try dsimp only);rw [Rg.bC (by decide)];exact s_.gQ a b,trivial,trivial⟩
  obtain ⟨FX,FZ,yn⟩:=s_.R1;have ⟨yz,y6,y7,ym,_⟩:=yn.box;unfold Oper.wp
  go_simp
  all_goals first | exact p_ | exact p_.1 | exact ⟨undef,p_⟩ | exact ⟨_,rfl,p_⟩
 ·unfold Rg.aS
  intro zZ w_ l_ i_ s_ wu xA xE ww t_ hr;have e3:zZ.tmps[3]?=some (.pointer (some ⟨w.heap.size+1,0,none⟩)):=hr 3 (by decide);have e33:zZ.tmps[33]?=some (.agg #[.int .i64 X,.int .i64 Y,.int .i64 E]):=hr 33 (by decide);refine ⟨rfl,?_⟩;rw [if_pos (by decide)]
  have p_:zJ w wc.heap.size w.heap.size (.slice A n cap) n ((0+100+2+2)+Rg.yL [] (Rg.upd l_ 4)) w.heap.size (w.heap.size+1) (w.heap.size+1+1) [(G,25,#[.int .i64 a,.int .i64 b]),(G+1,27,#[.int .i64 X,.int .i64 Y,.int .i64 E]),(h_,27,#[.int .i64 XN,.int .i64 YN,.int .i64 EN])] (((w_.setCell ⟨w.heap.size+1,0,none⟩ (.int .i64 X)).setCell ⟨w.heap.size+1,1,none⟩ (.int .i64 Y)).setCell ⟨w.heap.size+1,2,none⟩ (.int .i64 E))∧True∧True:=⟨by (try dsimp only);rw [Rg.bC (by decide)];exact s_.gE X Y E,trivial,trivial⟩
  obtain ⟨FX,FZ,GB,yn⟩:=s_.R2;have ⟨yz,y6,Bb,y7,ym,Ay⟩:=yn.bF;unfold Oper.wp
  go_simp
  all_goals first | exact p_ | exact p_.1 | exact ⟨undef,p_⟩ | exact ⟨_,rfl,p_⟩
 ·unfold Rg.aS
  intro zZ w_ l_ i_ s_ wu xA xE ww t_ hr;have e4:zZ.tmps[4]?=some (.pointer (some ⟨w.heap.size+1+1,0,none⟩)):=hr 4 (by decide);have e34:zZ.tmps[34]?=some (.agg #[.int .i64 XN,.int .i64 YN,.int .i64 EN]):=hr 34 (by decide);refine ⟨rfl,?_⟩;rw [if_pos (by decide)]
  have p_:zJ w wc.heap.size w.heap.size (.slice A n cap) n ((0+100+2+2)+Rg.yL [] (Rg.upd l_ 5)) w.heap.size (w.heap.size+1) (w.heap.size+1+1) [(G,25,#[.int .i64 a,.int .i64 b]),(G+1,27,#[.int .i64 X,.int .i64 Y,.int .i64 E]),(h_,27,#[.int .i64 XN,.int .i64 YN,.int .i64 EN])] (((w_.setCell ⟨w.heap.size+1+1,0,none⟩ (.int .i64 XN)).setCell ⟨w.heap.size+1+1,1,none⟩ (.int .i64 YN)).setCell ⟨w.heap.size+1+1,2,none⟩ (.int .i64 EN))∧True∧True:=⟨by (try dsimp only);rw [Rg.bC (by decide)];exact s_.tU XN YN EN,trivial,trivial⟩
  obtain ⟨FX,FZ,GB,yn⟩:=s_.R3;have ⟨yz,y6,Bb,y7,ym,Ay⟩:=yn.bF;unfold Oper.wp
  go_simp
  all_goals first | exact p_ | exact p_.1 | exact ⟨undef,p_⟩ | exact ⟨_,rfl,p_⟩
 intro vals wz2 s_ hF hv;simp only [Rg.ay,Rg.fill,Act.put,Nat.reduceAdd];clear hv hF;have hn_:=s_.hn;obtain ⟨rd,-,⟨a1,b1,R⟩,⟨X1,Y1,E1,Q⟩,⟨X2,Y2,E2,U⟩,-,-⟩:=s_;have B:=rd.below zw;clear rd;have ⟨zS,zT,wM,wN,zU⟩:=R.box;have ⟨BK,BL,BM,yc,yd,ye⟩:=Q.bF;have BN:=Q.lt;have ⟨Cm,Cn,Co,xS,xT,zo⟩:=U.bF;have Cp:=U.lt;go_wp2;exact bodyPost_ret (v:=.tuple #[.agg #[.int .i64 a1,.int .i64 b1],.agg #[.int .i64 X1,.int .i64 Y1,.int .i64 E1],.agg #[.int .i64 X2,.int .i64 Y2,.int .i64 E2]]) (by simp [results,Tryz.results46,go_sem, *]) rfl (⟨a1,b1,X1,Y1,E1,X2,Y2,E2,rfl,B⟩)
end
section
open Go.RowKit Go.Shelf
def jQ (W:World) (v:Value):Prop:=∃ l,iH W v l∧l.length≤21
theorem ge (v:Value) (n:Nat) (w:World) (h:cM w w.heap.size v n) :
  Calls Tryz.prog 49 #[v] w fun e w'=>∃ (a b:Int) (v':Value),e=.returned (.tuple #[.agg #[.int .i64 a,.int .i64 b],v'])∧jQ w' v'∧Below w.heap.size w w':=by
 obtain ⟨A,cap,rfl,hn,wZ⟩:=h
 have h:cM w w.heap.size (.slice A n cap) n:=⟨A,cap,rfl,hn,wZ⟩
 clear wZ hn;obtain ⟨wc,hw3,R,BB⟩:=ix w #[.int .i64 0,.int .i64 0] 25;have st:=St.rW h BB 90;have zc:=R.lt;have zw:=BB.size;replace R:=R.alloc (.cells #[.slice A n cap,.int .i64 0,.int .u64 0] 90)
 have nR:w.heap.size≠wc.heap.size:=by omega
 clear h BB;go_enter Tryz.func49,Tryz.ntmps49
 go_wp2_with fail
 refine (dt _ w.heap.size _ n _ _ st.cur (by omega)).mono ?_;rintro e yt ⟨a,b,X,Y,E,rfl,t_,j_⟩;replace st:=st.call t_ j_;have C1:=j_.size;replace R:=R.aR j_ nR;clear t_ j_;have zq:=R.lt;have zg:=st.size;have C:=aH.new yt #[.int .i64 a,.int .i64 b] 25;have J4:=st.size;have J3:=st.le;replace st:=st.alloc (.cells #[.int .i64 a,.int .i64 b] 25);replace R:=R.alloc (.cells #[.int .i64 a,.int .i64 b] 25)
 have nC:yt.heap.size≠wc.heap.size:=by omega
 have F:=aH.new (yt.alloc (.cells #[.int .i64 a,.int .i64 b] 25)) #[.int .i64 X,.int .i64 Y,.int .i64 E] 27;have Oy:=st.size;have Ox:=st.le;replace st:=st.alloc (.cells #[.int .i64 X,.int .i64 Y,.int .i64 E] 27);replace R:=R.alloc (.cells #[.int .i64 X,.int .i64 Y,.int .i64 E] 27);replace C:=C.alloc (.cells #[.int .i64 X,.int .i64 Y,.int .i64 E] 27);rw [wI] at F
 have nF:yt.heap.size+1≠wc.heap.size:=by omega
 go_upto_region 3 with fail
 have hFl:=F.lt;have hgr:=st.size;have ⟨f0,f1,f2⟩:=F.aK;generalize yt.heap.size=G at *;generalize hwr:(yt.alloc (.cells #[.int .i64 a,.int .i64 b] 25)).alloc (.cells #[.int .i64 X,.int .i64 Y,.int .i64 E] 27)=wr at *
 go_upto_region 4 with fail
 have hown:Rw.Own DC (wr.alloc (.cells #[.int .i64 X,.int .i64 Y,.int .i64 E] 27)) wr.heap.size (.slice (some ⟨wr.heap.size,0,none⟩) 1 1) [(X,Y,E)]:=Rw.Own.ug DC (X,Y,E) wr wr.heap.size (wL _);have zr:=st.le;replace st:=st.alloc (.cells #[.int .i64 X,.int .i64 Y,.int .i64 E] 27);replace R:=R.alloc (.cells #[.int .i64 X,.int .i64 Y,.int .i64 E] 27);replace C:=C.alloc (.cells #[.int .i64 X,.int .i64 Y,.int .i64 E] 27);have hzl:=st.size;clear F f0 f1 f2 hwr;generalize wr.alloc (.cells #[.int .i64 X,.int .i64 Y,.int .i64 E] 27)=wl at *
 go_wp2_with fail
 have IL:=hown;refine (cJ _ w.heap.size _ n _ 4 _ st.cur (by omega) (by omega) (by omega)).mono ?_;rintro e w_p ⟨p,rfl,⟨In,Im⟩,t_,j_⟩;clear IL;replace hown:=hown.kept j_ (fun k hk e=>by have:=(hown.lt _ e).1;have:=Option.some.inj hk;omega);replace st:=st.call t_ j_;have sz_p:=j_.size;replace R:=R.aR j_ nR;replace C:=C.aR j_ nC;clear t_ j_
 go_wp2_with fail
 refine (gv _ w.heap.size _ n _ 16 _ st.cur (by omega) (by omega) (by omega)).mono ?_;rintro e w_o ⟨o,rfl,t_,j_⟩;replace hown:=hown.kept j_ (fun k hk e=>by have:=(hown.lt _ e).1;have:=Option.some.inj hk;omega);replace st:=st.call t_ j_;have sz_o:=j_.size;replace R:=R.aR j_ nR;replace C:=C.aR j_ nC;clear t_ j_;replace hzl:=hown.lt _ rfl
 replace hzl:wr.heap.size≤w_o.heap.size:=by omega
 generalize hH:wr.heap.size=H at *;cases o
 case false=>
  obtain ⟨nn,hnn,hn1⟩:∃ nn:Int,nn=p∧nn≤20:=⟨p,rfl,by omega⟩
  have hn0:0≤nn:=by omega
  rw [←hnn];clear hnn In Im
  go_upto_region 7 with fail
  have zH:G+1<H:=by omega
  clear hH
  have J5:∃ K,St w w_o wc.heap.size w.heap.size (.slice A n cap) n (K+10)∧K≤300:=⟨0+100+2+2+2,st.up (by omega),by omega⟩
  obtain ⟨K,st0,hK⟩:=J5;clear st
  go_loopw [7] (fun vs wq=>∃ l:List Pt,Hid (Rw.Own DC wq H vs l)∧Hid (1≤l.length)∧l.length≤21∧St w wq wc.heap.size w.heap.size (.slice A n cap) n (K+10*l.length)∧aH wq w.heap.size 25 #[.int .i64 0,.int .i64 0]∧aH wq G 25 #[.int .i64 a,.int .i64 b]∧H≤wq.heap.size) (fun vs _=>match vs with | .slice _ n _=>22 - n | _=>0)
  case atStart=>exact ⟨[(X,Y,E)],wH hown,wH (wL _),by show 1≤21;omega,st0,R,C,hzl⟩
  case round=>
  clear st0 R C hown hzl;obtain ⟨l,hown,hl1,hl2,st,R,C,hzl⟩:=hrel;obtain ⟨Av,cv,rfl,-,-,-⟩:=hown.out.seen
  obtain ⟨N,hN⟩:∃ N,N=l.length:=⟨_,rfl⟩
  rw [←hN] at hown hl1 hl2 st ⊢;replace hN:=wH hN;have ⟨c0,c1,_,_,_⟩:=C.box
  by_cases hlt:(N:Int)≤nn
  ·have Me:N≤20:=by omega
   go_wp2_with fail
   refine (f9 _ w.heap.size _ n _ a b _ st.cur (by omega)).mono ?_;rintro e w_4 ⟨x3,y3,e3,rfl,t_,j_⟩;have yJ:=hown.out.kept j_ (fun k hk e=>by have:=(hown.out.lt _ e).1;have:=Option.some.inj hk;omega);replace st:=st.call t_ j_;have Ob:=j_.size;replace R:=R.aR j_ nR;replace C:=C.aR j_ nC;clear t_ j_;clear c0 c1;have AN:=st.le
   go_wp2_with (at_builtin;refine Rw.mh ni H [(x3,y3,e3)] l _ ⟨_,0,none⟩ 1 1 (by rfl) (by rfl) (.tmp 30) (.tmp 34) (by rfl) (by rfl) (by rfl) (ks x3 y3 e3 (by simp)) (yJ.alloc _) (by simp;omega) (by have:=hN.out;simp;omega) ?_;intro v6 w6 hown6 zL E7)
   have hnb:=fun k hk=>(yJ.lt k hk).1
   go_roundw
   case rel=>
    refine ⟨l ++ [(x3,y3,e3)],wH hown6,wH (by rw [List.length_append];simp),by rw [List.length_append,←hN.out];show N+1≤21;omega,?_,(R.alloc _).fI zL ?_,(C.alloc _).fI zL ?_,by have:=zL.size;rw [wI] at this;omega⟩
    ·rw [List.length_append,←hN.out]
     exact ((st.alloc _).pushed zL (fun k hk=>by have:=hnb k hk;omega)).up (by show _≤K+10*(N+1);omega)
    all_goals exact fun k hk=>by have:=hnb k hk;omega
   case measure=>
   have:=hown6.seen;obtain ⟨Aq,cq,rfl,-,-,-⟩:=this;simp only [List.length_append,List.length_cons,List.length_nil];have:=hN.out;omega
  go_wp2_with fail
  refine (gv _ w.heap.size _ n _ 24 _ st.cur (by omega) (by omega) (by omega)).mono ?_;rintro e w_5 ⟨o5,rfl,t_,j_⟩;have yJ:=hown.out.kept j_ (fun k hk e=>by have:=(hown.out.lt _ e).1;have:=Option.some.inj hk;omega);replace st:=st.call t_ j_;have Oc:=j_.size;replace R:=R.aR j_ nR;replace C:=C.aR j_ nC;clear t_ j_;clear c0 c1;have ⟨c0,c1,_,_,_⟩:=C.box;have hb:=st.nd zw;have ⟨zS,zT,wM,wN,zU⟩:=R.box
  have nG:w.heap.size<G:=by omega
  have hp:=yJ.seen.Jm;have hpl:=yJ.lt
  have hp:=((iH.fI hp (Gr.set (World.grownBy.refl _ _) 0 (.int .i64 a)) (r:=some w.heap.size) (fun k hk e=>by cases hk;have:=(hpl w.heap.size (by rw [e];rfl)).1;omega)).fI (Gr.set (World.grownBy.refl _ _) 1 (.int .i64 b)) (r:=some w.heap.size) (fun k hk e=>by cases hk;have:=(hpl w.heap.size (by rw [e];rfl)).1;omega))
  replace hp:jQ _ _:=⟨_,hp,by have:=hN.out;omega⟩
  clear hpl yJ hown st;cases o5
  case true=>
   clear hp;go_wp2;exact bodyPost_ret (v:=.tuple #[.agg #[.int .i64 a,.int .i64 b],.slice none 0 0]) (by simp [results,Tryz.results49,go_sem, *]) rfl (⟨a,b,.slice none 0 0,rfl,⟨[],⟨none,0,rfl,Or.inl rfl⟩,Nat.zero_le _⟩,(wJ (wJ hb (by dsimp only;omega) _) (by dsimp only;omega) _)⟩)
  case false=>
  go_wp2;exact bodyPost_ret (v:=.tuple #[.agg #[.int .i64 a,.int .i64 b],.slice Av N cv]) (by simp [results,Tryz.results49,go_sem, *]) rfl (⟨a,b,.slice Av N cv,rfl,hp,(wJ (wJ hb (by dsimp only;omega) _) (by dsimp only;omega) _)⟩)
 case true=>
 go_wp2_with fail
 refine (cJ _ w.heap.size _ n _ 2 _ st.cur (by omega) (by omega) (by omega)).mono ?_;rintro e w_r ⟨r,rfl,⟨OM,OL⟩,t_,j_⟩;replace hown:=hown.kept j_ (fun k hk e=>by have:=(hown.lt _ e).1;have:=Option.some.inj hk;omega);replace st:=st.call t_ j_;have sz_r:=j_.size;replace R:=R.aR j_ nR;replace C:=C.aR j_ nC;clear t_ j_
 go_upto_region 7 with fail
 obtain ⟨nn,hnn,hn1⟩:∃ nn:Int,nn=19+r∧nn≤20:=⟨_,rfl,by omega⟩
 have hn0:0≤nn:=by omega
 rw [←hnn];clear hnn In Im OM OL
 replace hzl:H≤w_r.heap.size:=by omega
 have zH:G+1<H:=by omega
 clear hH
 have J5:∃ K,St w w_r wc.heap.size w.heap.size (.slice A n cap) n (K+10)∧K≤300:=⟨0+100+2+2+2,st.up (by omega),by omega⟩
 obtain ⟨K,st0,hK⟩:=J5;clear st
 go_loopw [7] (fun vs wq=>∃ l:List Pt,Hid (Rw.Own DC wq H vs l)∧Hid (1≤l.length)∧l.length≤21∧St w wq wc.heap.size w.heap.size (.slice A n cap) n (K+10*l.length)∧aH wq w.heap.size 25 #[.int .i64 0,.int .i64 0]∧aH wq G 25 #[.int .i64 a,.int .i64 b]∧H≤wq.heap.size) (fun vs _=>match vs with | .slice _ n _=>22 - n | _=>0)
 case atStart=>exact ⟨[(X,Y,E)],wH hown,wH (wL _),by show 1≤21;omega,st0,R,C,hzl⟩
 case round=>
 clear st0 R C hown hzl;obtain ⟨l,hown,hl1,hl2,st,R,C,hzl⟩:=hrel;obtain ⟨Av,cv,rfl,-,-,-⟩:=hown.out.seen
 obtain ⟨N,hN⟩:∃ N,N=l.length:=⟨_,rfl⟩
 rw [←hN] at hown hl1 hl2 st ⊢;replace hN:=wH hN;have ⟨c0,c1,_,_,_⟩:=C.box
 by_cases hlt:(N:Int)≤nn
 ·have Me:N≤20:=by omega
  go_wp2_with fail
  refine (f9 _ w.heap.size _ n _ a b _ st.cur (by omega)).mono ?_;rintro e w_4 ⟨x3,y3,e3,rfl,t_,j_⟩;have yJ:=hown.out.kept j_ (fun k hk e=>by have:=(hown.out.lt _ e).1;have:=Option.some.inj hk;omega);replace st:=st.call t_ j_;have Ob:=j_.size;replace R:=R.aR j_ nR;replace C:=C.aR j_ nC;clear t_ j_;clear c0 c1;have AN:=st.le
  go_wp2_with (at_builtin;refine Rw.mh ni H [(x3,y3,e3)] l _ ⟨_,0,none⟩ 1 1 (by rfl) (by rfl) (.tmp 30) (.tmp 34) (by rfl) (by rfl) (by rfl) (ks x3 y3 e3 (by simp)) (yJ.alloc _) (by simp;omega) (by have:=hN.out;simp;omega) ?_;intro v6 w6 hown6 zL E7)
  have hnb:=fun k hk=>(yJ.lt k hk).1
  go_roundw
  case rel=>
   refine ⟨l ++ [(x3,y3,e3)],wH hown6,wH (by rw [List.length_append];simp),by rw [List.length_append,←hN.out];show N+1≤21;omega,?_,(R.alloc _).fI zL ?_,(C.alloc _).fI zL ?_,by have:=zL.size;rw [wI] at this;omega⟩
   ·rw [List.length_append,←hN.out]
    exact ((st.alloc _).pushed zL (fun k hk=>by have:=hnb k hk;omega)).up (by show _≤K+10*(N+1);omega)
   all_goals exact fun k hk=>by have:=hnb k hk;omega
  case measure=>
  have:=hown6.seen;obtain ⟨Aq,cq,rfl,-,-,-⟩:=this;simp only [List.length_append,List.length_cons,List.length_nil];have:=hN.out;omega
 go_wp2_with fail
 refine (gv _ w.heap.size _ n _ 24 _ st.cur (by omega) (by omega) (by omega)).mono ?_;rintro e w_5 ⟨o5,rfl,t_,j_⟩;have yJ:=hown.out.kept j_ (fun k hk e=>by have:=(hown.out.lt _ e).1;have:=Option.some.inj hk;omega);replace st:=st.call t_ j_;have Oc:=j_.size;replace R:=R.aR j_ nR;replace C:=C.aR j_ nC;clear t_ j_;clear c0 c1;have ⟨c0,c1,_,_,_⟩:=C.box;have hb:=st.nd zw;have ⟨zS,zT,wM,wN,zU⟩:=R.box
 have nG:w.heap.size<G:=by omega
 have hp:=yJ.seen.Jm;have hpl:=yJ.lt
 have hp:=((iH.fI hp (Gr.set (World.grownBy.refl _ _) 0 (.int .i64 a)) (r:=some w.heap.size) (fun k hk e=>by cases hk;have:=(hpl w.heap.size (by rw [e];rfl)).1;omega)).fI (Gr.set (World.grownBy.refl _ _) 1 (.int .i64 b)) (r:=some w.heap.size) (fun k hk e=>by cases hk;have:=(hpl w.heap.size (by rw [e];rfl)).1;omega))
 replace hp:jQ _ _:=⟨_,hp,by have:=hN.out;omega⟩
 clear hpl yJ hown st;cases o5
 case true=>
  clear hp;go_wp2;exact bodyPost_ret (v:=.tuple #[.agg #[.int .i64 a,.int .i64 b],.slice none 0 0]) (by simp [results,Tryz.results49,go_sem, *]) rfl (⟨a,b,.slice none 0 0,rfl,⟨[],⟨none,0,rfl,Or.inl rfl⟩,Nat.zero_le _⟩,(wJ (wJ hb (by dsimp only;omega) _) (by dsimp only;omega) _)⟩)
 case false=>
 go_wp2;exact bodyPost_ret (v:=.tuple #[.agg #[.int .i64 a,.int .i64 b],.slice Av N cv]) (by simp [results,Tryz.results49,go_sem, *]) rfl (⟨a,b,.slice Av N cv,rfl,hp,(wJ (wJ hb (by dsimp only;omega) _) (by dsimp only;omega) _)⟩)
end
end Go.Proofs.YtggekfbfechonaaGreat
